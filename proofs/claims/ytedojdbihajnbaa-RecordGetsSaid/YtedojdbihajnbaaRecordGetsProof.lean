/- RecordGets: from whatever bytes just the mutation, and the row, is got that they are, or the error that is named; rows share no points. -/
import Derived.Test.YtedojdbihajnbaaRows
import Derived.Test.YtedojdbihajnbaaPost
import Derived.WalkKit
import Derived.ProofKit
import Derived.OpenShut
import Derived.ShutString
import Derived.ChangeOld
import Derived.Below
import Derived.Test.YtedojdbihajnbaaRdr
import Derived.Test.YtedojdbihajnbaaRecJ
import Derived.Test.YtedojdbihajnbaaVarS
namespace Go.Proofs.Ytedojdbihajnbaa
open Go.RowKit Go.Shelf VB
open Go.Lib (hid)
set_option linter.unusedVariables false
set_option linter.unusedSimpArgs false
theorem getM_len {bs : List Nat} {z : Int} (hb : ∀ x ∈ bs, x < 256) : (getM bs z).1.pts.length ≤ 16 := by
  unfold getM
  by_cases h : 0 ≤ z ∧ z ≤ bs.length
  · rw [if_pos h]
    cases hm : mutS bs z.toNat with
    | error x => exact Nat.zero_le _
    | ok r =>
      obtain ⟨m, p⟩ := r
      exact (mutS_sound hb hm).1.len16
  · rw [if_neg h]
    exact Nat.zero_le _
theorem rowsL_right {bs : List Nat} (hb : ∀ x ∈ bs, x < 256) : ∀ (k z : Nat) (acc l : List Mu) (p : Nat), (∀ m ∈ acc, Right m) → rowsL bs k z acc = .ok (l, p) → ∀ m ∈ l, Right m
  | 0, z, acc, l, p, ha, h => by
    unfold rowsL at h
    injection h with h
    injection h with h _
    rw [← h]
    exact ha
  | k + 1, z, acc, l, p, ha, h => by
    unfold rowsL at h
    cases hm : mutS bs z with
    | error x => rw [hm] at h; cases h
    | ok r =>
      obtain ⟨m, q⟩ := r
      rw [hm] at h
      refine rowsL_right hb k q _ l p ?_ h
      intro y hy
      rcases List.mem_append.1 hy with hy | hy
      · exact ha y hy
      · rw [List.mem_singleton.1 hy]
        exact (mutS_sound hb hm).1
theorem rowsS_right {bs : List Nat} (hb : ∀ x ∈ bs, x < 256) {l : List Mu} (h : rowsS bs = .ok l) : ∀ m ∈ l, Right m := by
  unfold rowsS at h
  split at h
  · unfold endS at h
    split at h
    · cases h
    · rename_i l2 z hr
      split at h
      · injection h with h
        rw [← h]
        exact rowsL_right hb _ _ _ _ _ (fun m hm => absurd hm (by simp)) hr
      · cases h
  · cases h
def okL : Except Int (List Mu) → List Mu
  | .ok l => l
  | .error _ => []
def okE : Except Int (List Mu) → Int
  | .ok _ => 0
  | .error x => x
/-- what record.Rows hands back, in one form -/
def RowsF (r : Except Int (List Mu)) (w : World) (e : Ending) (w' : World) : Prop :=
  ∃ C f ms, ms.map Prod.fst = okL r ∧ e = .returned (.tuple #[.slice C ms.length f, .int .i64 (okE r)]) ∧ Reads w' 24 6 C ms.length (ms.flatMap cellsM) ∧ OwnPts w' w.heap.size ms w'.heap.size ∧ Below w.heap.size w w' ∧ ms.length ≤ maxLen
theorem rows_form {r : Except Int (List Mu)} {w w' : World} {e : Ending} (h : RetRows r w e w') : RowsF r w e w' := by
  cases r with
  | ok l =>
    obtain ⟨C, f, ms, hm, he, hown, hop, hb⟩ := h
    have hl : l.length = ms.length := by rw [← hm, List.length_map]
    rw [hl] at he hown
    obtain ⟨_, _, _, h1, h2⟩ := own_form hown
    exact ⟨C, f, ms, hm, he, Reads.of_own hown, hop, hb, by omega⟩
  | error x =>
    obtain ⟨he, hb⟩ := h
    exact ⟨none, 0, [], rfl, he, Reads.none_, hb.size, hb, Nat.zero_le _⟩
def RowsFD (r : Except Int (List Mu)) (w : World) (e : Ending) (w' : World) : Prop :=
  ∃ C f ms, ms.map Prod.fst = okL r ∧ e = .returned (.tuple #[.slice C ms.length f, .int .i64 (okE r)]) ∧ w'.ownsRow w.heap.size 24 6 (.slice C ms.length f) ms.length (ms.flatMap cellsM) ∧ RowsOwn w' w.heap.size ms ∧ Below w.heap.size w w'
theorem rows_formD {r : Except Int (List Mu)} {w w' : World} {e : Ending} (h : RetRowsD r w e w') : RowsFD r w e w' := by
  cases r with
  | ok l =>
    obtain ⟨C, f, ms, hm, he, hown, hop, hb⟩ := h
    have hl : l.length = ms.length := by rw [← hm, List.length_map]
    rw [hl] at he hown
    exact ⟨C, f, ms, hm, he, hown, hop, hb⟩
  | error x =>
    obtain ⟨he, hb⟩ := h
    exact ⟨none, 0, [], rfl, he, World.ownsRow_nil _ _ _ _, fun q hq => absurd hq (by simp), hb⟩
theorem own_blk {w : World} {b n f : Nat} {A : Option Addr} {xs : List Value} (h : w.ownsRow b 51 2 (.slice A n f) n xs) (hn : 0 < n) : ∃ g cur, A = some ⟨g, 0, none⟩ ∧ b ≤ g ∧ Blk w g 51 cur := by
  rcases h.2 with ⟨h1, h2⟩ | ⟨g, cap, cur, h1, h2, h3, _⟩
  · omega
  · injection h1 with h1 _ _
    exact ⟨g, cur, h1, h2, h3⟩
/-- the blocks of the points, rising -/
theorem own_blocks {w : World} : ∀ {ms : List MuA} {B E : Nat}, OwnPts w B ms E → ∃ G : Nat → Nat, ∀ j, j < ms.length → 0 < (ms.getD j zMuA).1.pts.length →
    (ms.getD j zMuA).2.1 = some ⟨G j, 0, none⟩ ∧ B ≤ G j ∧ (∃ cur, Blk w (G j) 51 cur) ∧ (∀ i, i < j → 0 < (ms.getD i zMuA).1.pts.length → G i < G j)
  | [], B, E, _ => ⟨fun _ => 0, fun j hj => absurd hj (by simp)⟩
  | q :: l, B, E, ⟨B', h1, h2, h3, h4⟩ => by
    obtain ⟨G', hG⟩ := own_blocks h4
    by_cases hq : 0 < q.1.pts.length
    · obtain ⟨g, cur, e1, e2, e3⟩ := own_blk h2 hq
      have hgB : g < B' := h3 g (by rw [e1]; rfl)
      refine ⟨fun j => match j with | 0 => g | j + 1 => G' j, ?_⟩
      intro j hj hp
      cases j with
      | zero => exact ⟨e1, e2, ⟨cur, e3⟩, fun i hi => absurd hi (by omega)⟩
      | succ j =>
        obtain ⟨a1, a2, a3, a4⟩ := hG j (by simpa using hj) hp
        refine ⟨a1, Nat.le_trans h1 a2, a3, ?_⟩
        intro i hi hip
        cases i with
        | zero => exact Nat.lt_of_lt_of_le hgB a2
        | succ i => exact a4 i (by omega) hip
    · refine ⟨fun j => match j with | 0 => 0 | j + 1 => G' j, ?_⟩
      intro j hj hp
      cases j with
      | zero => exact absurd hp hq
      | succ j =>
        obtain ⟨a1, a2, a3, a4⟩ := hG j (by simpa using hj) hp
        refine ⟨a1, Nat.le_trans h1 a2, a3, ?_⟩
        intro i hi hip
        cases i with
        | zero => exact absurd hip hq
        | succ i => exact a4 i (by omega) hip
theorem if_same {p q : Prop} [Decidable p] [Decidable q] (h : p ↔ q) : (if p then (1 : Int) else 0) = (if q then 1 else 0) := by
  by_cases hp : p
  · rw [if_pos hp, if_pos (h.1 hp)]
  · rw [if_neg hp, if_neg (fun x => hp (h.2 x))]
/-- the points, some of them told later by one -/
def St (W : World) (ms : List MuA) (G : Nat → Nat) (i k : Nat) : Prop := ∀ j, j < ms.length → 0 < (ms.getD j zMuA).1.pts.length → ∃ cur, Blk W (G j) 51 cur ∧
  ∀ x, x < (ms.getD j zMuA).1.pts.length → cur[x * 2]? = some (.int .i64 (((ms.getD j zMuA).1.pts.getD x (0, 0)).1 + (if j < i ∨ (j = i ∧ x < k) then 1 else 0)))
theorem St.store {W : World} {ms : List MuA} {G : Nat → Nat} {i k : Nat} (h : St W ms G i k) (hi : i < ms.length) (hk : k < (ms.getD i zMuA).1.pts.length) (hd : ∀ j, j < ms.length → 0 < (ms.getD j zMuA).1.pts.length → j ≠ i → G j ≠ G i) (T : Int) (hT : T = ((ms.getD i zMuA).1.pts.getD k (0, 0)).1) :
    St (W.setCell ⟨G i, k * 2, none⟩ (.int .i64 (T + 1))) ms G i (k + 1) := by
  intro j hj hp
  obtain ⟨cur, hb, hc⟩ := h j hj hp
  by_cases hji : j = i
  · subst hji
    refine ⟨_, hb.set_ (k * 2) _, ?_⟩
    intro x hx
    by_cases hxk : x = k
    · subst hxk
      have h1 := hc x hx
      rw [Array.getElem?_setIfInBounds_self, if_pos (Array.getElem?_eq_some_iff.1 h1).1, if_pos (.inr ⟨rfl, by omega⟩), hT]
    · rw [Array.getElem?_setIfInBounds_ne (by omega), hc x hx]
      rw [if_same (show (j < j ∨ (j = j ∧ x < k)) ↔ (j < j ∨ (j = j ∧ x < k + 1)) by omega)]
  · refine ⟨cur, hb.far (p := ⟨G i, k * 2, none⟩) (hd j hj hp hji) _, ?_⟩
    intro x hx
    rw [hc x hx]
    rw [if_same (show (j < i ∨ (j = i ∧ x < k)) ↔ (j < i ∨ (j = i ∧ x < k + 1)) by omega)]
theorem St.next {W : World} {ms : List MuA} {G : Nat → Nat} {i k : Nat} (h : St W ms G i k) (hk : (ms.getD i zMuA).1.pts.length ≤ k) : St W ms G (i + 1) 0 := by
  intro j hj hp
  obtain ⟨cur, hb, hc⟩ := h j hj hp
  refine ⟨cur, hb, fun x hx => ?_⟩
  rw [hc x hx]
  have : (j < i ∨ (j = i ∧ x < k)) ↔ (j < i + 1 ∨ (j = i + 1 ∧ x < 0)) := by
    constructor
    · intro h; omega
    · intro h
      rcases h with h | h
      · by_cases hji : j = i
        · subst hji; exact .inr ⟨rfl, by omega⟩
        · exact .inl (by omega)
      · omega
  rw [if_same this]
/-- what the loop that tells the points later leaves -/
structure Fr (w W : World) (L H : Nat) : Prop where
  os : W.os = w.os
  tape : W.tape = w.tape
  output : W.output = w.output
  size : W.heap.size = w.heap.size
  block : ∀ b, b < L ∨ H ≤ b → W.heap[b]? = w.heap[b]?
theorem Fr.refl (w : World) (L H : Nat) : Fr w w L H := ⟨rfl, rfl, rfl, rfl, fun _ _ => rfl⟩
theorem Fr.set {w W : World} {L H : Nat} (h : Fr w W L H) {g : Nat} (h1 : L ≤ g) (h2 : g < H) (i : Nat) (v : Value) : Fr w (W.setCell ⟨g, i, none⟩ v) L H :=
  ⟨h.os, h.tape, h.output, by simp; exact h.size, fun b hb => (Below.heap_setCell W ⟨g, i, none⟩ v b (by simp; omega)).trans (h.block b hb)⟩
theorem Fr.drewN {w W : World} {L H : Nat} (h : Fr w W L H) (q : Nat) : Fr w (W.drewN q) L H := ⟨h.os, h.tape, h.output, h.size, h.block⟩
theorem Fr.below {w W : World} {L H : Nat} (h : Fr w W L H) : Below L w W := ⟨h.os, h.tape, h.output, by rw [h.size]; exact Nat.le_refl _, fun b hb => h.block b (.inl hb)⟩
theorem own_fr {w W : World} {L H n z : Nat} {e : TypeId} {v : Value} {xs : List Value} (h : w.ownsRow H e z v n xs) (hf : Fr w W L H) : W.ownsRow H e z v n xs := by
  obtain ⟨h1, h2⟩ := h
  refine ⟨h1, h2.imp id ?_⟩
  rintro ⟨b, cap, cs, hv, hb, hh, hr⟩
  exact ⟨b, cap, cs, hv, hb, (hf.block b (.inr hb)).trans hh, hr⟩
/- CORE -/
theorem rowsL_len {bs : List Nat} : ∀ (k z : Nat) (acc l : List Mu) (p : Nat), rowsL bs k z acc = .ok (l, p) → l.length + z ≤ acc.length + p
  | 0, z, acc, l, p, h => by
    unfold rowsL at h
    injection h with h
    injection h with h1 h2
    rw [← h1, ← h2]
    exact Nat.le_refl _
  | k + 1, z, acc, l, p, h => by
    unfold rowsL at h
    cases hm : mutS bs z with
    | error x => rw [hm] at h; cases h
    | ok r =>
      obtain ⟨m, q⟩ := r
      rw [hm] at h
      have h1 := rowsL_len k q _ l p h
      have h2 := mutS_lt hm
      rw [List.length_append] at h1
      simp only [List.length_singleton] at h1
      omega
theorem okL_len {bs : List Nat} : (okL (rowsS bs)).length ≤ bs.length := by
  unfold rowsS
  split
  · unfold endS
    split
    · exact Nat.zero_le _
    · rename_i l z hr
      split
      · rename_i hz
        have h1 := rowsL_len _ _ _ _ _ hr
        show l.length ≤ bs.length
        simp only [List.length_nil] at h1
        omega
      · exact Nat.zero_le _
  · exact Nat.zero_le _
theorem okL_right {bs : List Nat} (hb : ∀ x ∈ bs, x < 256) : ∀ m ∈ okL (rowsS bs), Right m := by
  cases h : rowsS bs with
  | error x => exact fun m hm => absurd hm (by simp [okL])
  | ok l => exact rowsS_right hb h
theorem add0 (g n : Nat) : (⟨g, 0, none⟩ : Addr).add n = ⟨g, n, none⟩ := by
  cases n with
  | zero => rfl
  | succ n => simp [Addr.add]
theorem getD_memF {ms : List MuA} {i : Nat} (h : i < ms.length) : ms.getD i zMuA ∈ ms := by
  rw [List.getD_eq_getElem?_getD, List.getElem?_eq_getElem h]; exact List.getElem_mem h
theorem getD_fstF {ms ns : List MuA} (h : ms.map Prod.fst = ns.map Prod.fst) (i : Nat) : (ms.getD i zMuA).1 = (ns.getD i zMuA).1 := by
  have e : ∀ l : List MuA, (l.getD i zMuA).1 = (l.map Prod.fst).getD i zMuA.1 := by
    intro l
    rw [List.getD_eq_getElem?_getD, List.getD_eq_getElem?_getD, List.getElem?_map]
    cases l[i]? <;> rfl
  rw [e, e, h]
theorem OwnPts.allF {w : World} : ∀ {ms : List MuA} {B E : Nat}, OwnPts w B ms E → ∀ q ∈ ms, Reads w 51 2 q.2.1 q.1.pts.length (q.1.pts.flatMap cellsP)
  | [], _, _, _, q, hq => absurd hq (by simp)
  | x :: l, _, _, ⟨B', _, h2, _, h4⟩, q, hq => by
    rcases List.mem_cons.1 hq with rfl | hq
    · exact Reads.of_own h2
    · exact OwnPts.allF h4 q hq
theorem st_start {w6 w8 : World} {B E : Nat} {ms : List MuA} {G : Nat → Nat} (ho : OwnPts w6 B ms E) (hG : ∀ j, j < ms.length → 0 < (ms.getD j zMuA).1.pts.length → (ms.getD j zMuA).2.1 = some ⟨G j, 0, none⟩ ∧ B ≤ G j ∧ (∃ cur, Blk w6 (G j) 51 cur) ∧ (∀ i, i < j → 0 < (ms.getD i zMuA).1.pts.length → G i < G j)) (hb : Below w6.heap.size w6 w8) : St w8 ms G 0 0 := by
  intro j hj hp
  obtain ⟨h1, _, ⟨cur, h3⟩, _⟩ := hG j hj hp
  refine ⟨cur, h3.under hb, fun x hx => ?_⟩
  obtain ⟨ad, e1, e2, _⟩ := pts_at (ho.allF _ (getD_memF hj)) hx
  rw [h1] at e1
  injection e1 with e1
  subst e1
  rw [add0, h3.cell] at e2
  rw [e2, if_neg (by omega), Int.add_zero]
/-- a point's time, where the loop stands -/
theorem St.at_ {W : World} {ms : List MuA} {G : Nat → Nat} {i k j x : Nat} {T : Int} {d : Int} (h : St W ms G i k) (hj : j < ms.length) (hx : x < (ms.getD j zMuA).1.pts.length) (hT : T = ((ms.getD j zMuA).1.pts.getD x (0, 0)).1) (hd : d = (if j < i ∨ (j = i ∧ x < k) then 1 else 0)) :
    W.cell? ⟨G j, x * 2, none⟩ = some (.int .i64 (T + d)) ∧ W.frozen? ⟨G j, x * 2, none⟩ = false ∧ G j < W.heap.size ∧ Typed W (G j) 51 := by
  obtain ⟨cur, hb, hc⟩ := h j hj (by omega)
  refine ⟨?_, hb.frozen _, hb.lt, hb.typed⟩
  rw [hb.cell, hc x hx, hT, hd]
set_option maxRecDepth 100000 in
set_option maxHeartbeats 8000000 in
theorem gets_core {e1 : TypeId} (A : Option Addr) (n c : Nat) (bs : List Nat) (z0 : Int) (w : World) (hb : Reads w e1 1 A n (bsV bs)) (hc : n ≤ c) (hcm : c ≤ maxLen) (hbs : ∀ x ∈ bs, x < 256) :
    Calls Try.prog 5 #[.slice A n c, .int .i64 z0] w (RetTrue w) := by
  have HH := hid (fun w' (h : Below w.heap.size w w') => head_r A n (min n 600) c bs w' (hb.below h) hc hcm rfl)
  obtain ⟨hs, hhs⟩ : ∃ hs, hs = bs.take (min n 600) := ⟨_, rfl⟩
  rw [← hhs] at HH
  have HS := hid (show hs.length ≤ 600 ∧ ∀ x ∈ hs, x < 256 by rw [hhs]; exact ⟨by rw [List.length_take]; omega, fun x hx => hbs x (List.mem_of_mem_take hx)⟩)
  obtain ⟨mg, pg, eg, hg⟩ : ∃ a b c, getM hs z0 = (a, b, c) := ⟨_, _, _, rfl⟩
  have hml := getM_len (bs := hs) (z := z0) HS.out.2
  have HGC := hid (fun W D f (h : Src W D hs.length f hs) => get_c z0 h)
  have HGD := hid (fun W D f (h : Src W D hs.length f hs) => Get_d z0 h)
  rw [hg] at HGC HGD hml
  have HML := hid hml
  clear hb hc hcm hbs hhs hg hml
  go_enter Try.func5, Try.ntmps5
  go_wp2_with fail
  refine (wakes_r _).mono ?_
  rintro e w1 ⟨rfl, hb1⟩
  have HB := hid hb1
  clear hb1
  go_wp2_with fail
  refine (HH.out _ HB.out).mono ?_
  rintro e w2 ⟨D2, f2, rfl, hown2, hb2⟩
  replace HB := hid (HB.out.trans (hb2.mono HB.out.size))
  obtain ⟨_, _, hv, hf1, hf2⟩ := own_form hown2
  injection hv with hv1 hv2 hv3
  have HSRC := hid (show Src w2 D2 hs.length f2 hs from ⟨Reads.of_own hown2, by have := HS.out.1; omega, by omega, by omega, HS.out.2⟩)
  clear hown2 hb2 hv1 hv2 hv3 hf1 hf2
  go_wp2_with fail
  refine (HGC.out _ _ _ HSRC.out).mono ?_
  rintro e w3 ⟨A3, f3, rfl, hown3, hb3⟩
  have hbx := (Below.refl w3.heap.size w3).alloc (Nat.le_refl _) (.cells (aM mg.kind mg.name mg.eps mg.floor mg.scale (.slice A3 mg.pts.length f3)) 24)
  have hbb := hb3.trans (hbx.mono hb3.size)
  have KM := hid (Blk.new w3 24 (aM mg.kind mg.name mg.eps mg.floor mg.scale (.slice A3 mg.pts.length f3)))
  have HPM := hid ((Reads.of_own hown3).below hbx)
  replace HB := hid (HB.out.trans (hbb.mono HB.out.size))
  replace HSRC := hid (HSRC.out.below hbb)
  clear hown3 hb3 hbx hbb HGC
  go_upto_region 5 with fail
  obtain ⟨gm, hgm⟩ : ∃ g, g = w3.heap.size := ⟨_, rfl⟩
  rw [← hgm] at KM ⊢
  generalize w3.alloc (.cells (aM mg.kind mg.name mg.eps mg.floor mg.scale (.slice A3 mg.pts.length f3)) 24) = w3b at *
  clear hgm
  go_wp2_with fail
  refine (HGD.out _ _ _ HSRC.out).mono ?_
  rintro e w4 ⟨A4, f4, rfl, hown4, hb4⟩
  have hbx := (Below.refl w4.heap.size w4).alloc (Nat.le_refl _) (.cells (aM mg.kind mg.name mg.eps mg.floor mg.scale (.slice A4 mg.pts.length f4)) 24)
  have hbb := hb4.trans (hbx.mono hb4.size)
  have KN := hid (Blk.new w4 24 (aM mg.kind mg.name mg.eps mg.floor mg.scale (.slice A4 mg.pts.length f4)))
  have HPN := hid ((Reads.of_own hown4).below hbx)
  replace KM := hid (KM.out.under hbb)
  replace HPM := hid (HPM.out.below hbb)
  replace HB := hid (HB.out.trans (hbb.mono HB.out.size))
  replace HSRC := hid (HSRC.out.below hbb)
  clear hown4 hb4 hbx hbb HGD
  go_upto_region 6 with fail
  obtain ⟨gn, hgn⟩ : ∃ g, g = w4.heap.size := ⟨_, rfl⟩
  rw [← hgn] at KN ⊢
  generalize w4.alloc (.cells (aM mg.kind mg.name mg.eps mg.floor mg.scale (.slice A4 mg.pts.length f4)) 24) = w4b at *
  clear hgn
  have HSM := hid (Same_d mg mg A3 A4 f3 f4 w4b HPM.out HPN.out (by have := HML.out; omega))
  rw [decide_eq_true rfl] at HSM
  obtain ⟨c0, c1, c2, c3, c4, c5⟩ := KM.out.sixc
  obtain ⟨d0, d1, d2, d3, d4, d5⟩ := KN.out.sixc
  go_wp2_with fail
  refine HSM.out.mono ?_
  rintro e w5 ⟨rfl, hb5⟩
  replace HB := hid (HB.out.trans (hb5.mono HB.out.size))
  replace HSRC := hid (HSRC.out.below hb5)
  clear hb5 c0 c1 c2 c3 c4 c5 d0 d1 d2 d3 d4 d5 KM KN HPM HPN HSM HML
  have HW5 := hid HB.out.size
  have HRC := hid (rows_c HSRC.out)
  obtain ⟨rr, hrr⟩ : ∃ r, r = rowsS hs := ⟨_, rfl⟩
  rw [← hrr] at HRC
  have HRR := hid (show (∀ m ∈ okL rr, Right m) ∧ (okL rr).length ≤ 600 by rw [hrr]; exact ⟨okL_right HS.out.2, by have := okL_len (bs := hs); have := HS.out.1; omega⟩)
  have HRD := hid (fun W D f (h : Src W D hs.length f hs) => Rows_d h)
  rw [← hrr] at HRD
  clear hrr
  go_wp2_with fail
  refine HRC.out.mono ?_
  intro e w6 h6
  obtain ⟨C, fC, ms, hms, rfl, hrC, hop, hb6, _⟩ := rows_form h6
  replace HB := hid (HB.out.trans (hb6.mono HB.out.size))
  have hsrc6 := HSRC.out.below hb6
  have HL5 := hid (And.intro hb6.size (show D2 = D2 from rfl))
  have HRd2 := hid (show Below w5.heap.size w5 w6 from hb6)
  have HOP := hid hop
  have HCR := hid hrC
  have HMS := hid hms
  clear h6 hms hrC hop hb6 HRC
  go_wp2_with fail
  refine (HRD.out _ _ _ hsrc6).mono ?_
  intro e w7 h7
  obtain ⟨E, fE, ns, hns, rfl, hoE, hro, hb7⟩ := rows_formD h7
  have hlen : ms.length ≤ 600 := by have := HRR.out.2; rw [← HMS.out, List.length_map] at this; exact this
  have hnl : ns.length = ms.length := by have := congrArg List.length (hns.trans HMS.out.symm); rw [List.length_map, List.length_map] at this; exact this
  have hr16 : ∀ q ∈ ms, Right q.1 := fun q hq => HRR.out.1 q.1 (by rw [← HMS.out]; exact List.mem_map_of_mem hq)
  have hfe : ∀ i, (ns.getD i zMuA).1 = (ms.getD i zMuA).1 := fun i => getD_fstF (hns.trans HMS.out.symm) i
  have HSR := hid (SameRow_d C E ms.length ns.length fC fE ms ns w7 (HCR.out.below hb7) (Reads.of_own hoE)
    (fun i hi => ⟨_, (HOP.out.allF _ (getD_memF hi)).below hb7, by have := (hr16 _ (getD_memF hi)).len16; omega⟩)
    (fun i hi => ⟨_, Reads.of_own (hro _ (getD_memF hi)), by rw [hfe]; have := (hr16 _ (getD_memF (show i < ms.length by omega))).len16; omega⟩) (by omega) (by omega))
  rw [decide_eq_true (HMS.out.trans hns.symm)] at HSR
  rw [hnl] at hoE HSR ⊢
  have HO7 := hid (And.intro hoE hro)
  have HF := hid (And.intro hr16 (And.intro hfe (And.intro hlen hnl)))
  replace HB := hid (HB.out.trans (hb7.mono HB.out.size))
  have HB67 := hid hb7
  clear h7 hns hoE hro hb7 hsrc6 HRD hr16 hfe hnl
  go_wp2_with fail
  refine HSR.out.mono ?_
  rintro e w8 ⟨rfl, hb8⟩
  obtain ⟨G, hG⟩ := own_blocks HOP.out
  have HG := hid hG
  have HST := hid (st_start HOP.out hG (HB67.out.trans (hb8.mono HB67.out.size)))
  have HB68 := hid (HB67.out.trans (hb8.mono HB67.out.size))
  replace HB := hid (HB.out.trans (hb8.mono HB.out.size))
  have HC8 := hid ((HCR.out.below HB67.out).below hb8)
  have HE8 := hid (own_below HO7.out.1 hb8)
  have HN8 := hid (show RowsOwn w8 w6.heap.size ns from fun q hq => own_below (HO7.out.2 q hq) hb8)
  have hGL : ∀ j, j < ms.length → 0 < (ms.getD j zMuA).1.pts.length → w5.heap.size ≤ G j ∧ G j < w6.heap.size := fun j hj hp => by
    obtain ⟨_, h2, ⟨cur, h3⟩, _⟩ := hG j hj hp
    exact ⟨h2, h3.lt⟩
  have hGd : ∀ i j, i < ms.length → j < ms.length → 0 < (ms.getD i zMuA).1.pts.length → 0 < (ms.getD j zMuA).1.pts.length → j ≠ i → G j ≠ G i := fun i j hi hj hpi hpj hne => by
    rcases Nat.lt_or_gt_of_ne hne with h | h
    · have := (hG i hi hpi).2.2.2 j h hpj; omega
    · have := (hG j hj hpj).2.2.2 i h hpi; omega
  have HGL := hid hGL
  have HGD2 := hid hGd
  have HSRC5 := hid (show Src w5 D2 hs.length f2 hs from HSRC.out)
  clear hb8 HSR hG hGL hGd HOP HO7 HCR HSRC HB67
  go_wp2_with fail
  go_loopw [71] (fun u71 wr => ∃ i : Nat, i ≤ ms.length ∧ u71 = .int .i64 (i : Nat) ∧ Hid (St wr ms G i 0 ∧ Fr w8 wr w5.heap.size w6.heap.size ∧ Reads wr 24 6 C ms.length (ms.flatMap cellsM))) (fun u71 _ => ms.length - (intOf u71).toNat)
  case atStart => exact ⟨0, Nat.zero_le _, rfl, hid ⟨HST.out, Fr.refl _ _ _, HC8.out⟩⟩
  case round =>
    obtain ⟨i, hi, rfl, HW⟩ := hrel
    by_cases hlt : i < ms.length
    · obtain ⟨q, hqe⟩ : ∃ q, q = ms.getD i zMuA := ⟨_, rfl⟩
      have hq16 := (HF.out.1 _ (getD_memF hlt)).len16
      have hqp := (HF.out.1 _ (getD_memF hlt)).pts
      rw [← hqe] at hq16 hqp
      obtain ⟨m, Q, cQ⟩ := q
      obtain ⟨ad, rfl, c0, c1, c2, c3, c4, c5⟩ := mu_at HW.out.2.2 hlt (k := m.kind) (nm := m.name) (ep := m.eps) (fl := m.floor) (sc := m.scale) (pv := .slice Q m.pts.length cQ) (by rw [← hqe]; rfl)
      have HQE := hid hqe
      have HQ := hid (And.intro hq16 hqp)
      have hltI : (i : Int) < (ms.length : Int) := by omega
      have hi0 : (0 : Int) ≤ (i : Int) := by omega
      obtain ⟨nq, hnq⟩ : ∃ nq, nq = m.pts.length := ⟨_, rfl⟩
      rw [← hnq] at c5
      have HNQ := hid hnq
      have hn16 : nq ≤ 16 := by have h1 : m.pts.length ≤ 16 := HQ.out.1; have := HNQ.out; omega
      clear hqe hq16 hqp hnq hi
      obtain ⟨w9, rfl⟩ : ∃ w9, w9 = wr := ⟨_, rfl⟩
      go_wp2_with fail
      go_loopw [80] (fun u80 wr => ∃ k : Nat, k ≤ nq ∧ u80 = .int .i64 (k : Nat) ∧ Hid (St wr ms G i k ∧ Fr w8 wr w5.heap.size w6.heap.size ∧ Reads wr 24 6 (some ad) ms.length (ms.flatMap cellsM))) (fun u80 _ => nq - (intOf u80).toNat)
      case atStart => exact ⟨0, Nat.zero_le _, rfl, HW⟩
      case round =>
        clear c0 c1 c2 c3 c4 c5
        obtain ⟨k, hk, rfl, HV⟩ := hrel
        by_cases hkt : k < nq
        · have hkp : k < (ms.getD i zMuA).1.pts.length := by rw [← HQE.out]; show k < m.pts.length; have := HNQ.out; omega
          obtain ⟨T, hT⟩ : ∃ T, T = ((ms.getD i zMuA).1.pts.getD k (0, 0)).1 := ⟨_, rfl⟩
          obtain ⟨x0, x1, x2, x3⟩ := HV.out.1.at_ hlt hkp hT (d := 0) (by rw [if_neg (by omega)])
          rw [Int.add_zero] at x0
          have hAq : Q = some ⟨G i, 0, none⟩ := by have := (HG.out i hlt (by omega)).1; rw [← HQE.out] at this; exact this
          obtain ⟨a, ha⟩ : ∃ a : Addr, a = ⟨G i, 0, none⟩ := ⟨_, rfl⟩
          have hadd : a.add (k * 2) = ⟨G i, k * 2, none⟩ := by rw [ha, add0]
          rw [← hadd] at x0 x1
          have x2' : (a.add (k * 2)).block < wr.heap.size := by rw [hadd]; exact x2
          have hQa : Q = some a := by rw [ha]; exact hAq
          subst hQa
          obtain ⟨ad', e1, c0, c1, c2, c3, c4, c5⟩ := mu_at HV.out.2.2 hlt (k := m.kind) (nm := m.name) (ep := m.eps) (fl := m.floor) (sc := m.scale) (pv := .slice (some a) nq cQ) (by rw [← HQE.out]; have := HNQ.out; simp only [cellsM, this])
          cases e1
          have hTb : 0 ≤ T ∧ T ≤ 281474976710656 := by
            have h1 := all_pt HQ.out.2 (i := k) (by show k < m.pts.length; have := HNQ.out; omega)
            obtain ⟨T', V', hTV⟩ : ∃ T V, ((m, some a, cQ) : MuA).1.pts.getD k (0, 0) = (T, V) := ⟨_, _, rfl⟩
            rw [hTV] at h1
            have h2 := pt_bounds h1
            rw [hT, ← HQE.out, hTV]
            omega
          have hwT : wrap64 (T + 1) = T + 1 := by unfold wrap64; omega
          have hkI : (k : Int) < (nq : Int) := by omega
          have hkc : k < cQ ∨ True := .inr trivial
          have HNX := hid (show St (wr.setCell (a.add (k * 2)) (.int .i64 (T + 1))) ms G i (k + 1) ∧ Fr w8 (wr.setCell (a.add (k * 2)) (.int .i64 (T + 1))) w5.heap.size w6.heap.size ∧ Reads (wr.setCell (a.add (k * 2)) (.int .i64 (T + 1))) 24 6 (some ad) ms.length (ms.flatMap cellsM) by
            have hgl := HGL.out i hlt (by omega)
            rw [hadd]
            exact ⟨HV.out.1.store hlt hkp (fun j hj hp hne => HGD2.out i j hlt hj (by omega) hp hne) T hT, HV.out.2.1.set hgl.1 hgl.2 _ _, HV.out.2.2.setCell (p := ⟨G i, k * 2, none⟩) x3 (by decide) _⟩)
          clear x2 x3 hadd ha hAq hkp hT HV
          go_wp2_with fail
          go_roundw
          case rel => exact ⟨k + 1, by omega, by go_num, HNX⟩
          case measure => simp [intOf]; omega
        · obtain rfl : k = nq := by omega
          have HNX := hid (And.intro (HV.out.1.next (by rw [← HQE.out]; show m.pts.length ≤ k; have := HNQ.out; omega)) HV.out.2)
          clear hkt hk HV
          go_wp2_with fail
          go_roundw
          case rel => exact ⟨i + 1, by omega, by go_num, HNX⟩
          case measure => simp [intOf]; omega
    · obtain rfl : i = ms.length := by omega
      obtain ⟨w9, rfl⟩ : ∃ w9, w9 = wr := ⟨_, rfl⟩
      have HFR := hid HW.out.2.1
      have HS9 := hid HW.out.1
      have HC9 := hid HW.out.2.2
      have HE9 := hid (Reads.of_own (own_fr HE8.out HFR.out))
      have HN9 := hid (show RowsOwn w9 w6.heap.size ns from fun q hq => own_fr (HN8.out q hq) HFR.out)
      have hb69 := (HRd2.out.trans (HB68.out.mono HRd2.out.size)).trans HFR.out.below
      have HSR9 := hid (HSRC5.out.below hb69)
      replace HB := hid (HB.out.trans (HFR.out.below.mono HW5.out))
      clear HW HST hb69 HE8 HN8 HC8 hi hlt HFR HSRC5
      go_wp2_with fail
      go_loopw [99] (fun u99 wr => ∃ i : Nat, i ≤ ms.length ∧ u99 = .int .i64 (i : Nat) ∧ ∃ q, wr = w9.drewN q) (fun u99 _ => ms.length - (intOf u99).toNat)
      case atStart => exact ⟨0, Nat.zero_le _, rfl, 0, rfl⟩
      case round =>
        obtain ⟨i, hi, rfl, q0, rfl⟩ := hrel
        by_cases hlt : i < ms.length
        · obtain ⟨q, hqe⟩ : ∃ q, q = ms.getD i zMuA := ⟨_, rfl⟩
          have hq16 := (HF.out.1 _ (getD_memF hlt)).len16
          have hqp := (HF.out.1 _ (getD_memF hlt)).pts
          obtain ⟨q', hqe'⟩ : ∃ q, q = ns.getD i zMuA := ⟨_, rfl⟩
          have hfe := HF.out.2.1 i
          have hown' := HN9.out _ (getD_memF (show i < ns.length by have := HF.out.2.2.2; omega))
          rw [← hqe] at hq16 hqp hfe
          rw [← hqe'] at hfe hown'
          obtain ⟨m, Q, cQ⟩ := q
          obtain ⟨m', Q', cQ'⟩ := q'
          obtain rfl : m' = m := hfe
          obtain ⟨ad, rfl, c0, c1, c2, c3, c4, c5⟩ := mu_at (HC9.out.drewN q0) hlt (k := m'.kind) (nm := m'.name) (ep := m'.eps) (fl := m'.floor) (sc := m'.scale) (pv := .slice Q m'.pts.length cQ) (by rw [← hqe]; rfl)
          have HQE := hid hqe
          have HQE2 := hid hqe'
          have HO2 := hid (Reads.of_own hown')
          have HQ := hid (And.intro (show m'.pts.length ≤ 16 from hq16) (show m'.pts.all ptB = true from hqp))
          have hltI : (i : Int) < (ms.length : Int) := by omega
          have hi0 : (0 : Int) ≤ (i : Int) := by omega
          obtain ⟨nq, hnq⟩ : ∃ nq, nq = m'.pts.length := ⟨_, rfl⟩
          rw [← hnq] at c5
          have HNQ := hid hnq
          have hn16 : nq ≤ 16 := by have h1 := HQ.out.1; have := HNQ.out; omega
          clear hqe hqe' hq16 hqp hnq hi hown'
          go_wp2_with fail
          clear c0 c1 c2 c3 c4 c5
          go_loopw [108] (fun u108 wr => ∃ k : Nat, k ≤ nq ∧ u108 = .int .i64 (k : Nat) ∧ ∃ q, wr = w9.drewN q) (fun u108 _ => nq - (intOf u108).toNat)
          case atStart => exact ⟨0, Nat.zero_le _, rfl, _, rfl⟩
          case round =>
            obtain ⟨k, hk, rfl, q1, rfl⟩ := hrel
            by_cases hkt : k < nq
            · have hkp : k < (ms.getD i zMuA).1.pts.length := by rw [← HQE.out]; show k < m'.pts.length; have := HNQ.out; omega
              obtain ⟨T, hT⟩ : ∃ T, T = ((ms.getD i zMuA).1.pts.getD k (0, 0)).1 := ⟨_, rfl⟩
              have hT' : T = (m'.pts.getD k (0, 0)).1 := by rw [hT, ← HQE.out]
              obtain ⟨x0, _, _, _⟩ := HS9.out.at_ hlt hkp hT (d := 1) (by rw [if_pos (.inl hlt)])
              have hAq : Q = some ⟨G i, 0, none⟩ := by have := (HG.out i hlt (by omega)).1; rw [← HQE.out] at this; exact this
              obtain ⟨a, ha⟩ : ∃ a : Addr, a = ⟨G i, 0, none⟩ := ⟨_, rfl⟩
              have hadd : a.add (k * 2) = ⟨G i, k * 2, none⟩ := by rw [ha, add0]
              rw [← hadd] at x0
              have x1 : (w9.drewN q1).cell? (a.add (k * 2)) = some (.int .i64 (T + 1)) := x0
              have hQa : Q = some a := by rw [ha]; exact hAq
              subst hQa
              obtain ⟨b, hbq, y0, _⟩ := pts_at (HO2.out.drewN q1) (show k < m'.pts.length by have := HNQ.out; omega)
              have hbq : Q' = some b := hbq
              subst hbq
              have y1 : (w9.drewN q1).cell? (b.add (k * 2)) = some (.int .i64 T) := by rw [hT']; exact y0
              obtain ⟨ad', e1, _, _, _, _, _, c5⟩ := mu_at (HC9.out.drewN q1) hlt (k := m'.kind) (nm := m'.name) (ep := m'.eps) (fl := m'.floor) (sc := m'.scale) (pv := .slice (some a) nq cQ) (by rw [← HQE.out]; have := HNQ.out; simp only [cellsM, this])
              cases e1
              obtain ⟨bd, rfl, _, _, _, _, _, d5⟩ := mu_at (HE9.out.drewN q1) hlt (k := m'.kind) (nm := m'.name) (ep := m'.eps) (fl := m'.floor) (sc := m'.scale) (pv := .slice (some b) nq cQ') (by rw [← HQE2.out]; have := HNQ.out; simp only [cellsM, this])
              have hTb : 0 ≤ T ∧ T ≤ 281474976710656 := by
                have h1 := all_pt HQ.out.2 (i := k) (by have := HNQ.out; omega)
                obtain ⟨T', V', hTV⟩ : ∃ T V, m'.pts.getD k (0, 0) = (T, V) := ⟨_, _, rfl⟩
                rw [hTV] at h1
                have h2 := pt_bounds h1
                rw [hT', hTV]
                omega
              have hwT : IntKind.i64.wrap (T + 1) = T + 1 := by rw [IntKind.wrap_i64]; omega
              have hkI : (k : Int) < (nq : Int) := by omega
              have hk0 : (0 : Int) ≤ (k : Int) := by omega
              clear x0 y0 hadd ha hAq hkp hT hT' hTb
              go_wp2_with fail
              go_region_held3 (fun w' => w'.cell? ⟨(ad.add (i * 6)).block, (ad.add (i * 6)).off + 5, none⟩ = some (.slice (some a) nq cQ) ∧ w'.cell? (a.add (k * 2)) = some (.int .i64 (T + 1)) ∧ w'.cell? ⟨(bd.add (i * 6)).block, (bd.add (i * 6)).off + 5, none⟩ = some (.slice (some b) nq cQ') ∧ w'.cell? (b.add (k * 2)) = some (.int .i64 T))
                (exact ⟨c5, x1, d5, y1⟩)
                (fail)
              go_wp2_with fail
              go_roundw
              case rel => exact ⟨k + 1, by omega, by go_num, _, rfl⟩
              case measure => simp [intOf]; omega
            · obtain rfl : k = nq := by omega
              clear hkt hk
              go_wp2_with fail
              go_roundw
              case rel => exact ⟨i + 1, by omega, by go_num, _, rfl⟩
              case measure => simp [intOf]; omega
        · obtain rfl : i = ms.length := by omega
          have HBQ := hid (below_dn HB.out q0)
          have HSQ := hid (HSR9.out.reads.drewN q0)
          clear hi hlt HB
          generalize w9.drewN q0 = w10 at *
          go_wp2_with fail
          refine (HH.out _ HBQ.out).mono ?_
          rintro e w11 ⟨D9, g9, rfl, hown9, hb9⟩
          have HEQ := hid (equal_bs D2 D9 hs.length hs.length f2 g9 hs hs w11 (HSQ.out.below hb9) (Reads.of_own hown9) (by have := HS.out.1; omega))
          rw [decide_eq_true rfl] at HEQ
          have HB11 := hid (HBQ.out.trans (hb9.mono HBQ.out.size))
          clear hown9 hb9 HBQ
          go_wp2_with fail
          refine HEQ.out.mono ?_
          rintro e w12 ⟨rfl, q9, rfl⟩
          have HFF := hid (show RetTrue w (.returned (.bool true)) (w11.drewN q9) from ⟨rfl, below_dn HB11.out q9⟩)
          clear HEQ
          go_wp2_with fail
          go_ret
          exact HFF.out
theorem gets_in (a0 : Option Addr) (len0 cap0 : Nat) (z0 : List Int) (a1 : Int) (w : World) (w0 : RowIn .u8 w a0 len0 cap0 z0) (w1 : (Lit.int .i64 a1).wf = true) :
    Calls Try.prog 5 #[.slice a0 len0 cap0, .int .i64 a1] w fun e w' => e = .returned (.bool true) ∧ Below w.heap.size w w' := by
  obtain ⟨_, h2, e, h3⟩ := bytes_in w0
  exact gets_core a0 len0 cap0 (bytesOf z0 len0) a1 w h3 w0.len.1 w0.len.2.2 h2
end Go.Proofs.Ytedojdbihajnbaa
namespace Go.Proofs.Ytedojdbihajnbaa.recordGets
open Go.ChangeShapes Go.WideShapes Go.ChangeAt Go.RowKit
open Go.ChangeMaps (open_string shut_string)
set_option linter.unusedVariables false

theorem own : ownKnob Try.prog.godebug = none := by kernel_rfl
theorem laidOut : laidOutB Try.prog = true := by kernel_rfl

def IsRow (k : IntKind) (w : World) (a : Option Addr) (len cap : Nat) (zs : List Int) : Prop :=
  (a = none ∧ len = 0 ∧ cap = 0 ∧ zs = []) ∨
  ∃ x, a = some x ∧ len ≤ cap ∧ cap ≤ maxLen ∧ zs.length = cap ∧ (∀ i, i < zs.length → w.cell? (x.add i) = some (.int k (zs.getD i 0))) ∧ ∀ n ∈ zs, (Lit.int k n).wf = true

/-! the walk: my core theorem -/
theorem walk (a0 : Option Addr) (len0 cap0 : Nat) (z0 : List Int) (a1 : Int) (w : World) (w0 : IsRow .u8 w a0 len0 cap0 z0) (w1 : (Lit.int .i64 a1).wf = true) :
    Calls Try.prog 5 #[.slice a0 len0 cap0, .int .i64 a1] w fun e w' => e = .returned (.bool true) ∧ Below w.heap.size w w' := gets_in a0 len0 cap0 z0 a1 w w0 w1

set_option maxRecDepth 100000 in
theorem lifted (os : Os) (started : os.Started) (H : Type) (enc : TypeId × Value → H) :
    ReturnsInHanded {} Try.checked os 5 .any (Rows.recordGetsSpec.pre6 enc Try.prog Try.f5 Rows.recordGetsRow.domain false) (Rows.recordGetsSpec.post enc Try.prog Try.f5 false true false false) := by
  refine returnsInHanded_of_change (C := Try.checked) own started (by kernel_rfl) Try.func5
    (ChangeSpec.witness6 (enc := enc) (C := Try.checked) false ⟨#[], #[.slice none 0 0, .int .i64 0], []⟩ 8 (by kernel_rfl) (by kernel_rfl) (by kernel_rfl) (by kernel_rfl)) ?_
  intro W base args ds gs before hval0 hW hcnd _
  have hval : ∀ (j : Nat) t v, Try.f5.params[j]? = some t → args[j]? = some v → Value.okWide Try.prog W .any base t v := hval0
  have hW' := hW
  obtain ⟨p, q, hA0, hV, rfl, hfz, hnd⟩ := hW
  have hA : DataW.TrodAll enc Try.prog W 0 (fun _ => true) true Try.f5.params.toList args.toList ds p := hA0
  rw [Try.params5] at hA hval
  obtain ⟨v0, vs0, d0, ds0, p0, q0, hargs, rfl, rfl, h0, r0⟩ := trodAll_cons hA
  obtain ⟨v1, vs1, d1, ds1, p1, q1, rfl, rfl, rfl, h1, r1⟩ := trodAll_cons r0
  obtain ⟨rfl, rfl, rfl⟩ := trodAll_nil r1
  obtain rfl : args = #[v0, v1] := by cases args; simp_all
  obtain ⟨rfl, rfl⟩ := trodVars_none hV
  obtain ⟨a0, len0, cap0, rfl⟩ := okWide_slice Try.underlying32 (hval 0 32 v0 rfl rfl)
  have k0 := h0
  have lt0 : ∀ x ∈ p0, x.block < W.heap.size := by obtain ⟨m, hm⟩ := k0; exact DataW.trod_lt m _ _ _ hm
  obtain ⟨z0, w0⟩ : ∃ zs, IsRow .u8 W a0 len0 cap0 zs := by
    obtain ⟨fuel, hf⟩ := h0
    rcases open_ints Try.underlying32 Try.underlying5 (by kernel_rfl) hf with ⟨hcs, _⟩ | ⟨x, l, c, zs, hcs, _, hl, hm, hz, _, hcell, hwz⟩
    · simp [Value.cells] at hcs
      obtain ⟨rfl, rfl, rfl⟩ := hcs
      exact ⟨[], .inl ⟨rfl, rfl, rfl, rfl⟩⟩
    · simp [Value.cells] at hcs
      obtain ⟨rfl, rfl, rfl⟩ := hcs
      exact ⟨zs, .inr ⟨_, rfl, hl, hm, by simpa using hz, hcell, hwz⟩⟩
  obtain ⟨a1, rfl, rfl, rfl, w1⟩ := open_int Try.underlying3 (hval 1 3 v1 rfl rfl) h1
  clear hA0 hval0
  refine (walk a0 len0 cap0 z0 a1 W w0 w1).mono fun e W' ⟨he, bel⟩ => ?_
  subst he
  exact ⟨_, rfl, _, _, _, [], _, [], hW', trodAll_mk1 (shut_bool Try.underlying4 _), (trodAll_cons_mk (Below.trod laidOut (by kernel_rfl) (of_decide_eq_true (by kernel_rfl)) k0 bel lt0) (trodAll_cons_mk (shut_int Try.underlying3 w1) trodAll_mk0)), rfl, bel.frame _, fun h => by cases h⟩

theorem over : Rows.recordGetsRow.holds Try.pinned (OpenSpec.ofChange Rows.recordGetsSpec) :=
  OpenClaim.holds_of_wide 5 Try.f5 rfl rfl rfl rfl rfl rfl rfl ⟨rfl, rfl, rfl, rfl, rfl⟩ rfl rfl rfl rfl rfl (by kernel_rfl) Try.func5 (by kernel_rfl)
    (of_decide_eq_true (by kernel_rfl)) (by unfold Func.isWrapper; first | (rw [if_pos (by decide +kernel)]; kernel_rfl) | (rw [if_neg (by decide +kernel)]; exact ⟨rfl, rfl⟩))
    (fun os started H enc _ => lifted os started H enc)

theorem proved : Rows.RecordGetsSaid := over
#print axioms proved
end Go.Proofs.Ytedojdbihajnbaa.recordGets
