/- ManifestGets: plain: a manifest that was decoded, with its numbers turned in place. ManifestGets: plain: one number turned in place. ManifestGets: plain: what there is while the decoded manifest is turned in place. ManifestGets: plain: what is read of the turned manifest and of the wanted one. ManifestGets: the walk. -/
import Derived.Test.YtgdnpmjmkcccoaaZTill
import Derived.Test.YtgdnpmjmkcccoaaZRefY
namespace Go.Proofs.Ytgdnpmjmkcccoaa
open Go.RowKit Go.Shelf VB
open Go.Lib (hid)
set_option linter.unusedVariables false
set_option linter.unusedSimpArgs false
theorem own_addr {w : World} {base n f z : Nat} {e : TypeId} {ad : Addr} {xs : List Value} (h : w.ownsRow base e z (.slice (some ad) n f) n xs) : ad = ⟨ad.block, 0, none⟩ ∧ base ≤ ad.block ∧ Typed w ad.block e := by
  rcases h.2 with ⟨h3, _⟩ | ⟨g, cap, cur, h3, hb, hh, _⟩
  · cases h3
  · injection h3 with h3 _ _
    injection h3 with h3
    subst h3
    exact ⟨rfl, hb, ⟨_, _, hh⟩⟩
theorem add_at (b j : Nat) : (⟨b, 0, none⟩ : Addr).add j = ⟨b, j, none⟩ := by
  cases j with
  | zero => rfl
  | succ j => simp [Addr.add]
theorem own_store {w : World} {base n f z j : Nat} {e : TypeId} {b : Nat} {xs : List Value} (h : w.ownsRow base e z (.slice (some ⟨b, 0, none⟩) n f) n xs) (u : Value) :
    (w.setCell ⟨b, j, none⟩ u).ownsRow base e z (.slice (some ⟨b, 0, none⟩) n f) n (xs.set j u) := by
  obtain ⟨h1, h2⟩ := h
  refine ⟨by rw [List.length_set]; exact h1, ?_⟩
  rcases h2 with ⟨h3, _⟩ | ⟨g, cap, cur, h3, hb, hh, hn, hm, hc, ht⟩
  · cases h3
  · refine .inr ⟨g, cap, cur.setIfInBounds j u, h3, hb, ?_, hn, hm, by simpa using hc, ?_⟩
    · injection h3 with h3 _ _
      injection h3 with h3
      injection h3 with h3
      subst h3
      exact Blk.set_ (cs := cur) hh j u
    · rw [Array.toList_setIfInBounds, List.take_set, ht]
/-- the first i turned by f -/
def mapTo {α : Type} (f : α → α) (l : List α) (i : Nat) : List α := (l.take i).map f ++ l.drop i
theorem mapTo_zero {α : Type} (f : α → α) (l : List α) : mapTo f l 0 = l := by simp [mapTo]
theorem mapTo_all {α : Type} (f : α → α) (l : List α) {i : Nat} (h : l.length ≤ i) : mapTo f l i = l.map f := by simp [mapTo, List.take_of_length_le h, List.drop_of_length_le h]
theorem mapTo_len {α : Type} (f : α → α) (l : List α) (i : Nat) : (mapTo f l i).length = l.length := by simp [mapTo]; omega
theorem mapTo_at {α : Type} (f : α → α) (l : List α) (i : Nat) : (mapTo f l i)[i]? = l[i]? := by
  by_cases hi : i < l.length
  · have hl : ((l.take i).map f).length = i := by rw [List.length_map, List.length_take]; omega
    unfold mapTo
    rw [List.getElem?_append_right (by omega), hl, Nat.sub_self, List.getElem?_drop]
    simp
  · rw [List.getElem?_eq_none (by rw [mapTo_len]; omega), List.getElem?_eq_none (by omega)]
theorem mapTo_step {α : Type} (f : α → α) {l : List α} {i : Nat} {x : α} (h : l[i]? = some x) : (mapTo f l i).set i (f x) = mapTo f l (i + 1) := by
  obtain ⟨hi, hx⟩ := List.getElem?_eq_some_iff.1 h
  have hl : ((l.take i).map f).length = i := by rw [List.length_map, List.length_take]; omega
  unfold mapTo
  rw [List.set_append_right _ _ (by omega), hl, Nat.sub_self, List.drop_eq_getElem_cons hi, List.set_cons_zero, List.take_succ_eq_append_getElem hi, List.map_append, hx, List.append_assoc]
  rfl
theorem flatMap_set {α : Type} {cf : α → List Value} {sz : Nat} (hs : ∀ x, (cf x).length = sz) {x' : α} {r : Nat} {u : Value} (hr : r < sz) : ∀ (l : List α) (k : Nat) (x : α), l[k]? = some x → cf x' = (cf x).set r u → (l.flatMap cf).set (k * sz + r) u = (l.set k x').flatMap cf
  | [], k, x, h, _ => by simp at h
  | y :: l, 0, x, h, hc => by
    simp only [List.getElem?_cons_zero, Option.some.injEq] at h
    subst h
    rw [List.flatMap_cons, List.set_cons_zero, List.flatMap_cons, Nat.zero_mul, Nat.zero_add, List.set_append_left _ _ (by rw [hs]; exact hr), hc]
  | y :: l, k + 1, x, h, hc => by
    rw [List.getElem?_cons_succ] at h
    rw [List.flatMap_cons, List.set_cons_succ, List.flatMap_cons, ← flatMap_set hs hr l k x h hc, List.set_append_right _ _ (by rw [hs, Nat.succ_mul]; omega), hs]
    congr 2
    rw [Nat.succ_mul]; omega
theorem flatMap_same {α β : Type} {cf : α → List β} {x' : α} : ∀ (l : List α) (k : Nat) (x : α), l[k]? = some x → cf x' = cf x → (l.set k x').flatMap cf = l.flatMap cf
  | [], k, x, h, _ => by simp at h
  | y :: l, 0, x, h, hc => by
    simp only [List.getElem?_cons_zero, Option.some.injEq] at h
    subst h
    rw [List.set_cons_zero, List.flatMap_cons, List.flatMap_cons, hc]
  | y :: l, k + 1, x, h, hc => by
    rw [List.getElem?_cons_succ] at h
    rw [List.set_cons_succ, List.flatMap_cons, List.flatMap_cons, flatMap_same l k x h hc]
theorem Apart.set {α : Type} {blks : α → List Nat} {l : List α} (h : Apart blks l) {k : Nat} {x x' : α} (hx : l[k]? = some x) (hb : blks x' = blks x) : Apart blks (l.set k x') := by
  have e : (l.set k x').map blks = l.map blks := by
    rw [List.map_set, hb]
    obtain ⟨hi, hx⟩ := List.getElem?_eq_some_iff.1 hx
    apply List.ext_getElem?
    intro j
    rw [List.getElem?_set]
    split
    · rename_i hj
      subst hj
      rw [List.getElem?_map, List.getElem?_eq_getElem hi, hx]
      simp [hi]
    · rfl
  unfold Apart at h ⊢
  rw [← List.pairwise_map (f := blks) (R := fun p q => ∀ a ∈ p, ∀ b ∈ q, a < b)] at h ⊢
  rw [e]
  exact h
theorem Apart.ne {α : Type} {blks : α → List Nat} {l : List α} (h : Apart blks l) {i j : Nat} {x y : α} (hx : l[i]? = some x) (hy : l[j]? = some y) (hij : i ≠ j) {a b : Nat} (ha : a ∈ blks x) (hb : b ∈ blks y) : a ≠ b := by
  obtain ⟨hi, hx⟩ := List.getElem?_eq_some_iff.1 hx
  obtain ⟨hj, hy⟩ := List.getElem?_eq_some_iff.1 hy
  unfold Apart at h
  rw [List.pairwise_iff_getElem] at h
  rcases Nat.lt_or_gt_of_ne hij with hl | hl
  · have := h i j hi hj hl a (by rw [hx]; exact ha) b (by rw [hy]; exact hb)
    omega
  · have := h j i hj hi hl b (by rw [hy]; exact hb) a (by rw [hx]; exact ha)
    omega
theorem mem_set_at {α : Type} {l : List α} {k : Nat} {x' y : α} (h : y ∈ l.set k x') : (y = x' ∧ k < l.length) ∨ ∃ j, j ≠ k ∧ l[j]? = some y := by
  obtain ⟨j, hj, hy⟩ := List.getElem_of_mem h
  rw [List.length_set] at hj
  rw [List.getElem_set] at hy
  split at hy
  · rename_i hkj
    exact .inl ⟨hy.symm, by omega⟩
  · rename_i hkj
    exact .inr ⟨j, fun e => hkj e.symm, by rw [List.getElem?_eq_getElem hj, hy]⟩
end Go.Proofs.Ytgdnpmjmkcccoaa
namespace Go.Proofs.Ytgdnpmjmkcccoaa
open Go.RowKit Go.Shelf VB
open Go.Lib (hid)
set_option linter.unusedVariables false
set_option linter.unusedSimpArgs false
theorem own_off {w : World} {base n z b : Nat} {e t : TypeId} {v : Value} {xs : List Value} (h : w.ownsRow base e z v n xs) (ht : Typed w b t) (hne : e ≠ t) (j : Nat) (u : Value) : (w.setCell ⟨b, j, none⟩ u).ownsRow base e z v n xs :=
  own_but h ((But.refl b w).setg j u) ht hne
theorem blks_in {A : Option Addr} {n c b : Nat} (h : A = some ⟨b, 0, none⟩) : b ∈ (Value.slice A n c).ownBlock.toList := by
  subst h
  simp [Value.ownBlock]
theorem enOwn_typed {W : World} {e : EnA} (h : EnOwn W e) {b : Nat} (ha : e.2.1 = some ⟨b, 0, none⟩) : Typed W b 3 := by
  have h1 := h.1
  rw [ha] at h1
  exact (own_addr h1).2.2
theorem RoOwn.page {W : World} {x : RoA} (h : RoOwn W x) {k : Nat} {e : EnA} (he : x.en[k]? = some e) {b : Nat} (ha : e.2.1 = some ⟨b, 0, none⟩) (n : Nat) (q : Int) :
    RoOwn (W.setCell ⟨b, n, none⟩ (.int .i64 q)) { x with en := x.en.set k (({ e.1 with ps := e.1.ps.set n q } : En), e.2) } := by
  have hm := h.ens e (List.mem_of_getElem? he)
  have ht := enOwn_typed hm ha
  have hblk : blksE (({ e.1 with ps := e.1.ps.set n q } : En), e.2) = blksE e := by unfold blksE; simp only [List.length_set]
  refine ⟨?_, ?_, own_off h.op ht (by decide) _ _, by simp only [List.length_set]; exact h.henl, h.hopl, h.hnm, h.ap.set he hblk⟩
  · simp only [List.length_set]
    rw [flatMap_same x.en k e he (by unfold cellsN; simp only [List.length_set])]
    exact own_off h.en ht (by decide) _ _
  · intro y hy
    rcases mem_set_at hy with ⟨rfl, _⟩ | ⟨j, hj, hje⟩
    · refine ⟨?_, by simp only [List.length_set]; exact hm.2.1, hm.2.2⟩
      simp only [List.length_set]
      rw [List.map_set, ha]
      have h1 := hm.1
      rw [ha] at h1
      exact own_store h1 _
    · exact (h.ens y (List.mem_of_getElem? hje)).same fun b' hb' => Below.heap_setCell _ _ _ _ (h.ap.ne hje he hj hb' (by unfold blksE; exact blks_in ha))
theorem RoOwn.first {W : World} {x : RoA} (h : RoOwn W x) {k : Nat} {e : EnA} (he : x.en[k]? = some e) {b : Nat} (ha : x.ea = some ⟨b, 0, none⟩) (q : Int) (hq : q ≤ 9223372036854775807) :
    RoOwn (W.setCell ⟨b, k * 5, none⟩ (.int .i64 q)) { x with en := x.en.set k (({ e.1 with fs := q } : En), e.2) } := by
  have h0 := h.en
  rw [ha] at h0
  have ht := (own_addr h0).2.2
  have hblk : blksE (({ e.1 with fs := q } : En), e.2) = blksE e := rfl
  refine ⟨?_, ?_, own_off h.op ht (by decide) _ _, by simp only [List.length_set]; exact h.henl, h.hopl, h.hnm, h.ap.set he hblk⟩
  · simp only [List.length_set]
    rw [ha, ← flatMap_set (cf := cellsN) (sz := 5) cellsN_len (x' := (({ e.1 with fs := q } : En), e.2)) (r := 0) (u := .int .i64 q) (by decide) x.en k e he rfl, Nat.add_zero]
    exact own_store h0 _
  · intro y hy
    rcases mem_set_at hy with ⟨rfl, _⟩ | ⟨j, hj, hje⟩
    · have hm := h.ens e (List.mem_of_getElem? he)
      exact ⟨own_off hm.1 ht (by decide) _ _, hm.2.1, hq⟩
    · have hm := h.ens y (List.mem_of_getElem? hje)
      exact ⟨own_off hm.1 ht (by decide) _ _, hm.2.1, hm.2.2⟩
theorem RoOwn.time {W : World} {x : RoA} (h : RoOwn W x) {k : Nat} {p : Int × Int} (hp : x.op[k]? = some p) {b : Nat} (ha : x.oa = some ⟨b, 0, none⟩) (q : Int) :
    RoOwn (W.setCell ⟨b, k * 2, none⟩ (.int .i64 q)) { x with op := x.op.set k (q, p.2) } := by
  have h0 := h.op
  rw [ha] at h0
  have ht := (own_addr h0).2.2
  refine ⟨own_off h.en ht (by decide) _ _, fun y hy => ?_, ?_, h.henl, by simp only [List.length_set]; exact h.hopl, h.hnm, h.ap⟩
  · have hm := h.ens y hy
    exact ⟨own_off hm.1 ht (by decide) _ _, hm.2.1, hm.2.2⟩
  · simp only [List.length_set]
    rw [ha, ← flatMap_set (cf := cellsP) (sz := 2) (fun x => rfl) (x' := (q, p.2)) (r := 0) (u := .int .i64 q) (by decide) x.op k p hp rfl, Nat.add_zero]
    exact own_store h0 _
theorem Made.turn {lo : Nat} {xs : List RoA} {C : Option Addr} {f : Nat} {W : World} (h : MadeR lo xs C f W) {i : Nat} {x x' : RoA} (hx : xs[i]? = some x) {b : Nat} (hb : b ∈ blksR x) {t : TypeId} (ht : Typed W b t) (hne : 42 ≠ t) (j : Nat) (u : Value)
    (hr : RoOwn (W.setCell ⟨b, j, none⟩ u) x') (h1 : blksR x' = blksR x) (h2 : cellsR x' = cellsR x) : MadeR lo (xs.set i x') C f (W.setCell ⟨b, j, none⟩ u) := by
  refine ⟨?_, ?_, ?_, h.apart.set hx h1⟩
  · simp only [List.length_set]
    rw [flatMap_same xs i x hx h2]
    exact own_off h.own ht hne _ _
  · intro y hy
    rcases mem_set_at hy with ⟨rfl, _⟩ | ⟨j', hj, hje⟩
    · exact hr
    · exact (h.good y (List.mem_of_getElem? hje)).same fun b' hb' => Below.heap_setCell _ _ _ _ (h.apart.ne hje hx hj hb' hb)
  · have hs : (W.setCell ⟨b, j, none⟩ u).heap.size = W.heap.size := by simp
    intro y hy b' hb'
    simp only [List.length_set, hs]
    rcases mem_set_at hy with ⟨rfl, _⟩ | ⟨j', hj, hje⟩
    · rw [h1] at hb'
      exact h.fresh x (List.mem_of_getElem? hx) b' hb'
    · exact h.fresh y (List.mem_of_getElem? hje) b' hb'
end Go.Proofs.Ytgdnpmjmkcccoaa
namespace Go.Proofs.Ytgdnpmjmkcccoaa
open Go.RowKit Go.Shelf VB
open Go.Lib (hid)
set_option linter.unusedVariables false
set_option linter.unusedSimpArgs false
def up (v : Int) : Int := wrap64 (v + 1000)
theorem up_le (v : Int) : up v ≤ 9223372036854775807 := by unfold up wrap64; omega
def upE (e : EnA) : EnA := ({ e.1 with fs := up e.1.fs, ps := e.1.ps.map up }, e.2)
def upP (p : Int × Int) : Int × Int := (up p.1, p.2)
def upR (x : RoA) : RoA := { x with en := x.en.map upE, op := x.op.map upP }
theorem RoL.above {lo : Nat} {W W' : World} {x : RoA} (h : RoL lo W x) (hk : ∀ b, lo ≤ b → W'.heap[b]? = W.heap[b]?) : RoL lo W' x :=
  ⟨⟨h.fr.en.keepA fun ad e _ => hk _ (h.en ad e), fun y hy => (h.fr.ens y hy).keepA fun ad e _ => hk _ (h.ps y hy ad e), h.fr.op.keepA fun ad e _ => hk _ (h.op ad e), h.fr.pgl, h.fr.henl, h.fr.hopl, h.fr.hnm, h.fr.hfs, h.fr.pgc⟩, h.en, h.ps, h.op⟩
/-- the decoded manifest ys (its box gm), the wanted one ws (gw), the bytes -/
structure GS (w : World) (lo lo2 gm gw : Nat) (C : Option Addr) (f : Nat) (CW : Option Addr) (kW fW : Nat) (ws : List RoA) (B : Option Addr) (n c : Nat) (bs : List Nat) (NR : Nat) (W : World) (ys : List RoA) : Prop where
  md : MadeR lo ys C f W
  len : ys.length = NR
  n8 : NR ≤ 8
  km : Blk W gm 24 #[.slice C NR f]
  kw : Blk W gw 24 #[.slice CW kW fW]
  wr : Reads W 42 7 CW kW (ws.flatMap cellsR)
  wl : ∀ y ∈ ws, RoL lo2 W y
  sb : Src W B n c bs
  fr : Below w.heap.size w W
  up : ∀ y ∈ ys, ∀ b ∈ blksR y, b < lo2
  hlo : w.heap.size ≤ lo
section
variable {w : World} {lo lo2 gm gw : Nat} {C : Option Addr} {f : Nat} {CW : Option Addr} {kW fW : Nat} {ws : List RoA} {B : Option Addr} {n c : Nat} {bs : List Nat} {NR : Nat} {W W' : World} {ys : List RoA}
theorem GS.below (h : GS w lo lo2 gm gw C f CW kW fW ws B n c bs NR W ys) (hb : Below W.heap.size W W') : GS w lo lo2 gm gw C f CW kW fW ws B n c bs NR W' ys :=
  ⟨h.md.below hb, h.len, h.n8, h.km.under hb, h.kw.under hb, h.wr.below hb, fun y hy => (h.wl y hy).below hb, h.sb.below hb, h.fr.trans (hb.mono h.fr.size), h.up, h.hlo⟩
theorem GS.turn (h : GS w lo lo2 gm gw C f CW kW fW ws B n c bs NR W ys) {i : Nat} {x x' : RoA} (hx : ys[i]? = some x) {b : Nat} (hb : b ∈ blksR x) {t : TypeId} (ht : Typed W b t) (hne : 42 ≠ t ∧ 24 ≠ t ∧ t ≠ 5) (j : Nat) (u : Value)
    (hr : RoOwn (W.setCell ⟨b, j, none⟩ u) x') (h1 : blksR x' = blksR x) (h2 : cellsR x' = cellsR x) : GS w lo lo2 gm gw C f CW kW fW ws B n c bs NR (W.setCell ⟨b, j, none⟩ u) (ys.set i x') := by
  have hm := List.mem_of_getElem? hx
  have hlt := h.up x hm b hb
  have hge := (h.md.fresh x hm b hb).1
  refine ⟨h.md.turn hx hb ht hne.1 j u hr h1 h2, by rw [List.length_set]; exact h.len, h.n8, h.km.far (by simpa using typed_ne h.km.typed ht hne.2.1) _, h.kw.far (by simpa using typed_ne h.kw.typed ht hne.2.1) _, h.wr.setCell (p := ⟨b, j, none⟩) ht hne.1.symm _, ?_, ⟨h.sb.reads.setCell (p := ⟨b, j, none⟩) ht hne.2.2 _, h.sb.hn, h.sb.hc, h.sb.hcm, h.sb.hbs⟩, h.fr.setCell (p := ⟨b, j, none⟩) (Nat.le_trans h.hlo hge) _, ?_, h.hlo⟩
  · intro y hy
    exact (h.wl y hy).above fun b' hb' => Below.heap_setCell _ _ _ _ (by simp; omega)
  · intro y hy b' hb'
    rcases mem_set_at hy with ⟨rfl, _⟩ | ⟨j', hj, hje⟩
    · rw [h1] at hb'
      exact h.up x hm b' hb'
    · exact h.up y (List.mem_of_getElem? hje) b' hb'
/-- a page turned -/
theorem GS.page (h : GS w lo lo2 gm gw C f CW kW fW ws B n c bs NR W ys) {i k : Nat} {x : RoA} (hx : ys[i]? = some x) {e : EnA} (he : x.en[k]? = some e) {ad : Addr} (ha : e.2.1 = some ad) (j : Nat) (q : Int) :
    GS w lo lo2 gm gw C f CW kW fW ws B n c bs NR (W.setCell (ad.add j) (.int .i64 q)) (ys.set i { x with en := x.en.set k (({ e.1 with ps := e.1.ps.set j q } : En), e.2) }) := by
  have hr := h.md.good x (List.mem_of_getElem? hx)
  have hm := hr.ens e (List.mem_of_getElem? he)
  have h0 := hm.1
  rw [ha] at h0
  obtain ⟨e1, _, ht⟩ := own_addr h0
  obtain ⟨b, hb⟩ : ∃ b, b = ad.block := ⟨_, rfl⟩
  rw [← hb] at e1 ht
  subst e1
  rw [add_at]
  refine h.turn hx (b := b) ?_ ht (by decide) j _ (hr.page he ha j q) ?_ ?_
  · unfold blksR
    simp only [List.mem_append, List.mem_flatMap]
    exact .inr (.inl ⟨e, List.mem_of_getElem? he, by unfold blksE; exact blks_in ha⟩)
  · unfold blksR
    simp only [List.length_set]
    rw [flatMap_same x.en k e he (by unfold blksE; simp only [List.length_set])]
  · unfold cellsR
    simp only [List.length_set]
theorem GS.first (h : GS w lo lo2 gm gw C f CW kW fW ws B n c bs NR W ys) {i k : Nat} {x : RoA} (hx : ys[i]? = some x) {e : EnA} (he : x.en[k]? = some e) {ad : Addr} (ha : x.ea = some ad) (q : Int) (hq : q ≤ 9223372036854775807) :
    GS w lo lo2 gm gw C f CW kW fW ws B n c bs NR (W.setCell (ad.add (k * 5)) (.int .i64 q)) (ys.set i { x with en := x.en.set k (({ e.1 with fs := q } : En), e.2) }) := by
  have hr := h.md.good x (List.mem_of_getElem? hx)
  have h0 := hr.en
  rw [ha] at h0
  obtain ⟨e1, _, ht⟩ := own_addr h0
  obtain ⟨b, hb⟩ : ∃ b, b = ad.block := ⟨_, rfl⟩
  rw [← hb] at e1 ht
  subst e1
  rw [add_at]
  refine h.turn hx (b := b) ?_ ht (by decide) _ _ (hr.first he ha q hq) ?_ ?_
  · unfold blksR
    simp only [List.mem_append]
    exact .inl (blks_in ha)
  · unfold blksR
    simp only [List.length_set]
    rw [flatMap_same (cf := blksE) (x' := (({ e.1 with fs := q } : En), e.2)) x.en k e he rfl]
  · unfold cellsR
    simp only [List.length_set]
theorem GS.time (h : GS w lo lo2 gm gw C f CW kW fW ws B n c bs NR W ys) {i k : Nat} {x : RoA} (hx : ys[i]? = some x) {p : Int × Int} (hp : x.op[k]? = some p) {ad : Addr} (ha : x.oa = some ad) (q : Int) :
    GS w lo lo2 gm gw C f CW kW fW ws B n c bs NR (W.setCell (ad.add (k * 2)) (.int .i64 q)) (ys.set i { x with op := x.op.set k (q, p.2) }) := by
  have hr := h.md.good x (List.mem_of_getElem? hx)
  have h0 := hr.op
  rw [ha] at h0
  obtain ⟨e1, _, ht⟩ := own_addr h0
  obtain ⟨b, hb⟩ : ∃ b, b = ad.block := ⟨_, rfl⟩
  rw [← hb] at e1 ht
  subst e1
  rw [add_at]
  refine h.turn hx (b := b) ?_ ht (by decide) _ _ (hr.time hp ha q) ?_ ?_
  · unfold blksR
    simp only [List.mem_append]
    exact .inr (.inr (blks_in ha))
  · unfold blksR
    simp only [List.length_set]
  · unfold cellsR
    simp only [List.length_set]
theorem own_fz {w : World} {base n f z : Nat} {e : TypeId} {b : Nat} {xs : List Value} (h : w.ownsRow base e z (.slice (some ⟨b, 0, none⟩) n f) n xs) (j : Nat) : w.frozen? ⟨b, j, none⟩ = false ∧ b < w.heap.size := by
  rcases h.2 with ⟨h3, _⟩ | ⟨g, cap, cur, h3, hb, hh, _⟩
  · cases h3
  · injection h3 with h3 _ _
    injection h3 with h3
    injection h3 with h3
    subst h3
    exact ⟨Blk.frozen (cs := cur) hh j, Blk.lt (cs := cur) hh⟩
theorem GS.cells (h : GS w lo lo2 gm gw C f CW kW fW ws B n c bs NR W ys) {i : Nat} {y : RoA} (hy : ys[i]? = some y) : ∃ ad, C = some ad ∧ i < NR ∧ W.cell? ⟨gm, 0, none⟩ = some (.slice C NR f) ∧
    W.cell? ⟨(ad.add (i * 7)).block, (ad.add (i * 7)).off + 5, none⟩ = some (.slice y.ea y.en.length y.ec) ∧ W.cell? ⟨(ad.add (i * 7)).block, (ad.add (i * 7)).off + 6, none⟩ = some (.slice y.oa y.op.length y.oc) := by
  have hi : i < ys.length := (List.getElem?_eq_some_iff.1 hy).1
  obtain ⟨ad, x, hC, hx, hxl, c0, c1, c2, c3, c4, c5, c6⟩ := row_at (Reads.of_own h.md.own) hi
  rw [hy] at hx
  injection hx with hx
  subst hx
  exact ⟨ad, hC, by rw [← h.len]; exact hi, h.km.cell 0, c5, c6⟩
theorem GS.ent (h : GS w lo lo2 gm gw C f CW kW fW ws B n c bs NR W ys) {i k : Nat} {y : RoA} (hy : ys[i]? = some y) {e : EnA} (he : y.en[k]? = some e) : ∃ ad, y.ea = some ad ∧ k < y.en.length ∧ W.cell? (ad.add (k * 5)) = some (.int .i64 e.1.fs) ∧
    W.cell? ⟨(ad.add (k * 5)).block, (ad.add (k * 5)).off + 3, none⟩ = some (.slice e.2.1 e.1.ps.length e.2.2) ∧ W.frozen? (ad.add (k * 5)) = false ∧ (ad.add (k * 5)).block < W.heap.size := by
  have hr := h.md.good y (List.mem_of_getElem? hy)
  have hk : k < y.en.length := (List.getElem?_eq_some_iff.1 he).1
  obtain ⟨ad, x, hA, hx, hxl, c0, c1, c2, c3, c4⟩ := en_at (Reads.of_own hr.en) hk
  rw [he] at hx
  injection hx with hx
  subst hx
  have h0 := hr.en
  rw [hA] at h0
  obtain ⟨e1, _, _⟩ := own_addr h0
  have h2 : W.frozen? (ad.add (k * 5)) = false ∧ (ad.add (k * 5)).block < W.heap.size := by
    obtain ⟨b, hb⟩ : ∃ b, b = ad.block := ⟨_, rfl⟩
    rw [← hb] at e1
    subst e1
    rw [add_at]
    exact own_fz h0 _
  exact ⟨ad, hA, hk, c0, c3, h2.1, h2.2⟩
theorem GS.pg (h : GS w lo lo2 gm gw C f CW kW fW ws B n c bs NR W ys) {i k j : Nat} {y : RoA} (hy : ys[i]? = some y) {e : EnA} (he : y.en[k]? = some e) {p : Int} (hp : e.1.ps[j]? = some p) : ∃ ad, e.2.1 = some ad ∧ j < e.1.ps.length ∧ W.cell? (ad.add j) = some (.int .i64 p) ∧
    W.frozen? (ad.add j) = false ∧ (ad.add j).block < W.heap.size := by
  have hr := h.md.good y (List.mem_of_getElem? hy)
  have hm := hr.ens e (List.mem_of_getElem? he)
  have hj : j < e.1.ps.length := (List.getElem?_eq_some_iff.1 hp).1
  obtain ⟨ad, hA, hc⟩ := ints_at (Reads.of_own hm.1) hj
  rw [List.getD_eq_getElem?_getD, hp] at hc
  have h0 := hm.1
  rw [hA] at h0
  obtain ⟨e1, _, _⟩ := own_addr h0
  have h2 : W.frozen? (ad.add j) = false ∧ (ad.add j).block < W.heap.size := by
    obtain ⟨b, hb⟩ : ∃ b, b = ad.block := ⟨_, rfl⟩
    rw [← hb] at e1
    subst e1
    rw [add_at]
    exact own_fz h0 _
  exact ⟨ad, hA, hj, hc, h2.1, h2.2⟩
theorem GS.pt (h : GS w lo lo2 gm gw C f CW kW fW ws B n c bs NR W ys) {i j : Nat} {y : RoA} (hy : ys[i]? = some y) {p : Int × Int} (hp : y.op[j]? = some p) : ∃ ad, y.oa = some ad ∧ j < y.op.length ∧ W.cell? (ad.add (j * 2)) = some (.int .i64 p.1) ∧
    W.frozen? (ad.add (j * 2)) = false ∧ (ad.add (j * 2)).block < W.heap.size := by
  have hr := h.md.good y (List.mem_of_getElem? hy)
  have hj : j < y.op.length := (List.getElem?_eq_some_iff.1 hp).1
  obtain ⟨ad, hA, hc, _⟩ := pts_at (Reads.of_own hr.op) hj
  rw [List.getD_eq_getElem?_getD, hp] at hc
  have h0 := hr.op
  rw [hA] at h0
  obtain ⟨e1, _, _⟩ := own_addr h0
  have h2 : W.frozen? (ad.add (j * 2)) = false ∧ (ad.add (j * 2)).block < W.heap.size := by
    obtain ⟨b, hb⟩ : ∃ b, b = ad.block := ⟨_, rfl⟩
    rw [← hb] at e1
    subst e1
    rw [add_at]
    exact own_fz h0 _
  exact ⟨ad, hA, hj, hc, h2.1, h2.2⟩
end
theorem set_self {α : Type} {l : List α} {i : Nat} {x : α} (h : l[i]? = some x) : l.set i x = l := by
  obtain ⟨hi, hx⟩ := List.getElem?_eq_some_iff.1 h
  rw [← hx, List.set_getElem_self]
theorem set_at {α : Type} {l : List α} {i : Nat} {x y : α} (h : l[i]? = some x) : (l.set i y)[i]? = some y := by
  obtain ⟨hi, _⟩ := List.getElem?_eq_some_iff.1 h
  rw [List.getElem?_set_self hi]
/-- the rows while they are turned -/
def ysA (xs : List RoA) (i : Nat) : List RoA := mapTo upR xs i
def rwB (x : RoA) (k : Nat) : RoA := { x with en := mapTo upE x.en k }
def enC (e : EnA) (n : Nat) : EnA := ({ e.1 with ps := mapTo up e.1.ps n }, e.2)
def rwC (x : RoA) (k : Nat) (e : EnA) (n : Nat) : RoA := { x with en := (mapTo upE x.en k).set k (enC e n) }
def rwD (x : RoA) (k : Nat) : RoA := { x with en := x.en.map upE, op := mapTo upP x.op k }
theorem rwB_zero (x : RoA) : rwB x 0 = x := by unfold rwB; rw [mapTo_zero]
theorem enC_zero (e : EnA) : enC e 0 = e := by unfold enC; rw [mapTo_zero]
theorem rwC_zero {x : RoA} {k : Nat} {e : EnA} (he : x.en[k]? = some e) : rwC x k e 0 = rwB x k := by
  unfold rwC rwB
  rw [enC_zero, set_self (by rw [mapTo_at]; exact he)]
theorem rwC_at {x : RoA} {k : Nat} {e : EnA} (he : x.en[k]? = some e) (n : Nat) : (rwC x k e n).en[k]? = some (enC e n) := set_at (x := e) (by rw [mapTo_at]; exact he)
theorem rwC_step {x : RoA} {k n : Nat} {e : EnA} {p : Int} (hp : e.1.ps[n]? = some p) : ({ rwC x k e n with en := (rwC x k e n).en.set k (({ (enC e n).1 with ps := (enC e n).1.ps.set n (up p) } : En), (enC e n).2) } : RoA) = rwC x k e (n + 1) := by
  unfold rwC enC
  simp only [List.set_set]
  rw [mapTo_step up hp]
theorem rwC_end {x : RoA} {k : Nat} {e : EnA} (he : x.en[k]? = some e) : ({ rwC x k e e.1.ps.length with en := (rwC x k e e.1.ps.length).en.set k (({ (enC e e.1.ps.length).1 with fs := up e.1.fs } : En), (enC e e.1.ps.length).2) } : RoA) = rwB x (k + 1) := by
  unfold rwC enC rwB
  simp only [List.set_set]
  rw [mapTo_all up e.1.ps (Nat.le_refl _)]
  have := mapTo_step upE he
  rw [← this]
  rfl
theorem rwB_end (x : RoA) {k : Nat} (h : x.en.length ≤ k) : rwB x k = rwD x 0 := by
  unfold rwB rwD
  rw [mapTo_all upE x.en h, mapTo_zero]
theorem rwD_step {x : RoA} {k : Nat} {p : Int × Int} (hp : x.op[k]? = some p) : ({ rwD x k with op := (rwD x k).op.set k (up p.1, p.2) } : RoA) = rwD x (k + 1) := by
  unfold rwD
  simp only
  rw [show (up p.1, p.2) = upP p from rfl, mapTo_step upP hp]
theorem rwD_end (x : RoA) {k : Nat} (h : x.op.length ≤ k) : rwD x k = upR x := by
  unfold rwD upR
  rw [mapTo_all upP x.op h]
/-- what Decode hands back, whether it is an error or not -/
def decL (bs : List Nat) : List Ro := match decM bs with | .ok l => l | .error _ => []
def decX (bs : List Nat) : Int := match decM bs with | .ok _ => 0 | .error x => x
theorem dec_one {B : Option Addr} {n c : Nat} {bs : List Nat} {w : World} (hs : Src w B n c bs) :
    Calls Try.prog 20 #[.slice B n c] w fun d w' => ∃ (xs : List RoA) (k : Nat) (C : Option Addr) (f : Nat), d = .returned (.tuple #[.agg #[.slice C k f], .int .i64 (decX bs)]) ∧ k = xs.length ∧ k ≤ 8 ∧ xs.map RoA.d = decL bs ∧ MadeR w.heap.size xs C f w' ∧ Below w.heap.size w w' :=
  (Decode_c hs).mono fun d w' h => by
    unfold RetDec at h
    unfold decL decX
    cases hd : decM bs with
    | error x =>
      rw [hd] at h
      exact ⟨[], 0, none, 0, h.1, rfl, by decide, rfl, ⟨⟨by simp, .inl ⟨rfl, rfl⟩⟩, fun x hx => absurd hx (by simp), fun x hx => absurd hx (by simp), List.Pairwise.nil⟩, h.2⟩
    | ok l =>
      rw [hd] at h
      obtain ⟨xs, C, f, h1, h2, h3, h4, h5⟩ := h
      exact ⟨xs, xs.length, C, f, h1, rfl, h4, h3, h5, h2⟩
theorem dec_two {B : Option Addr} {n c : Nat} {bs : List Nat} {w : World} (hs : Src w B n c bs) :
    Calls Try.prog 21 #[.slice B n c] w fun d w' => ∃ (ws : List RoA) (k : Nat) (C : Option Addr) (f : Nat), d = .returned (.tuple #[.agg #[.slice C k f], .int .i64 (decX bs)]) ∧ ws.map RoA.d = decL bs ∧ MH w' C k ws ∧ (∀ y ∈ ws, RoL w.heap.size w' y) ∧ Below w.heap.size w w' :=
  (Decode22_d hs).mono fun d w' h => by
    unfold decL decX
    rcases h with ⟨x, h1, h2, h3⟩ | ⟨xs, k, C, f, h1, h2, h3, h4, h5, _⟩
    · rw [h1]
      exact ⟨[], 0, none, 0, h2, rfl, ⟨Reads.none_, fun x hx => absurd hx (by simp), by decide⟩, fun x hx => absurd hx (by simp), h3⟩
    · rw [h1]
      exact ⟨xs, k, C, f, h2, rfl, h4, h5, h3⟩
end Go.Proofs.Ytgdnpmjmkcccoaa
namespace Go.Proofs.Ytgdnpmjmkcccoaa
open Go.RowKit Go.Shelf VB
open Go.Lib (hid)
set_option linter.unusedVariables false
set_option linter.unusedSimpArgs false
theorem up_wrap (v : Int) : up v = IntKind.i64.wrap (v + 1000) := by unfold up wrap64; rw [IntKind.wrap_i64]
section
variable {w : World} {lo lo2 gm gw : Nat} {C : Option Addr} {f : Nat} {CW : Option Addr} {kW fW : Nat} {ws xs : List RoA} {B : Option Addr} {n c : Nat} {bs : List Nat} {NR : Nat} {W : World} {ys : List RoA}
theorem GS.row (h : GS w lo lo2 gm gw C f CW kW fW ws B n c bs NR W ys) {i : Nat} {y : RoA} (hy : ys[i]? = some y) : ∃ ad, C = some ad ∧ i < NR ∧ W.cell? (ad.add (i * 7)) = some (.string y.nm) ∧ W.cell? ⟨(ad.add (i * 7)).block, (ad.add (i * 7)).off + 1, none⟩ = some (.int .i64 y.ep) ∧ W.cell? ⟨(ad.add (i * 7)).block, (ad.add (i * 7)).off + 2, none⟩ = some (.int .i64 y.fl) ∧
    W.cell? ⟨(ad.add (i * 7)).block, (ad.add (i * 7)).off + 3, none⟩ = some (.int .i64 y.la) ∧ W.cell? ⟨(ad.add (i * 7)).block, (ad.add (i * 7)).off + 4, none⟩ = some (.int .i64 y.sc) ∧
    W.cell? ⟨(ad.add (i * 7)).block, (ad.add (i * 7)).off + 5, none⟩ = some (.slice y.ea y.en.length y.ec) ∧ W.cell? ⟨(ad.add (i * 7)).block, (ad.add (i * 7)).off + 6, none⟩ = some (.slice y.oa y.op.length y.oc) := by
  have hi : i < ys.length := (List.getElem?_eq_some_iff.1 hy).1
  obtain ⟨ad, x, hC, hx, hxl, c0, c1, c2, c3, c4, c5, c6⟩ := row_at (Reads.of_own h.md.own) hi
  rw [hy] at hx
  injection hx with hx
  subst hx
  exact ⟨ad, hC, by rw [← h.len]; exact hi, c0, c1, c2, c3, c4, c5, c6⟩
theorem GS.entw (h : GS w lo lo2 gm gw C f CW kW fW ws B n c bs NR W ys) {i k : Nat} {y : RoA} (hy : ys[i]? = some y) {e : EnA} (he : y.en[k]? = some e) : ∃ ad, y.ea = some ad ∧ k < y.en.length ∧ W.cell? (ad.add (k * 5)) = some (.int .i64 e.1.fs) ∧ W.cell? ⟨(ad.add (k * 5)).block, (ad.add (k * 5)).off + 1, none⟩ = some (.int .i64 e.1.ls) ∧
    W.cell? ⟨(ad.add (k * 5)).block, (ad.add (k * 5)).off + 2, none⟩ = some (.int .i64 e.1.ct) ∧ W.cell? ⟨(ad.add (k * 5)).block, (ad.add (k * 5)).off + 3, none⟩ = some (.slice e.2.1 e.1.ps.length e.2.2) ∧ W.cell? ⟨(ad.add (k * 5)).block, (ad.add (k * 5)).off + 4, none⟩ = some (.int .i64 e.1.by_) := by
  have hr := h.md.good y (List.mem_of_getElem? hy)
  have hk : k < y.en.length := (List.getElem?_eq_some_iff.1 he).1
  obtain ⟨ad, x, hA, hx, hxl, c0, c1, c2, c3, c4⟩ := en_at (Reads.of_own hr.en) hk
  rw [he] at hx
  injection hx with hx
  subst hx
  exact ⟨ad, hA, hk, c0, c1, c2, c3, c4⟩
theorem GS.ptw (h : GS w lo lo2 gm gw C f CW kW fW ws B n c bs NR W ys) {i j : Nat} {y : RoA} (hy : ys[i]? = some y) {p : Int × Int} (hp : y.op[j]? = some p) : ∃ ad, y.oa = some ad ∧ j < y.op.length ∧ W.cell? (ad.add (j * 2)) = some (.int .i64 p.1) ∧ W.cell? ⟨(ad.add (j * 2)).block, (ad.add (j * 2)).off + 1, none⟩ = some (.int .i64 p.2) := by
  have hr := h.md.good y (List.mem_of_getElem? hy)
  have hj : j < y.op.length := (List.getElem?_eq_some_iff.1 hp).1
  obtain ⟨ad, hA, hc, hd⟩ := pts_at (Reads.of_own hr.op) hj
  rw [List.getD_eq_getElem?_getD, hp] at hc hd
  exact ⟨ad, hA, hj, hc, hd⟩
theorem GS.want (h : GS w lo lo2 gm gw C f CW kW fW ws B n c bs NR W ys) (hd : ws.map RoA.d = xs.map RoA.d) {i : Nat} {x : RoA} (hx : xs[i]? = some x) : ∃ ad z, CW = some ad ∧ i < kW ∧ RoL lo2 W z ∧ z.d = x.d ∧ W.cell? ⟨gw, 0, none⟩ = some (.slice CW kW fW) ∧
    W.cell? ⟨(ad.add (i * 7)).block, (ad.add (i * 7)).off + 5, none⟩ = some (.slice z.ea z.en.length z.ec) ∧ W.cell? ⟨(ad.add (i * 7)).block, (ad.add (i * 7)).off + 6, none⟩ = some (.slice z.oa z.op.length z.oc) := by
  have h1 : (ws.map RoA.d)[i]? = some x.d := by rw [hd, List.getElem?_map, hx]; rfl
  have hi : i < ws.length := by
    have := (List.getElem?_eq_some_iff.1 h1).1
    rw [List.length_map] at this
    exact this
  have hk : ws.length = kW := by
    have := h.wr.1
    rw [recs_len cellsR_len] at this
    omega
  obtain ⟨ad, z, hC, hz, hxl, c0, c1, c2, c3, c4, c5, c6⟩ := row_at h.wr (by omega : i < kW)
  rw [List.getElem?_map, hz] at h1
  injection h1 with h1
  exact ⟨ad, z, hC, by omega, h.wl z (List.mem_of_getElem? hz), h1, h.kw.cell 0, c5, c6⟩
end
theorem want_en {lo2 : Nat} {W : World} {z x : RoA} (hl : RoL lo2 W z) (hd : z.d = x.d) {q : Nat} {e : EnA} (he : x.en[q]? = some e) : z.en.length = x.en.length ∧ ∃ (ao : Addr) (oa : Option Addr) (oc : Nat), z.ea = some ao ∧ W.cell? (ao.add (q * 5)) = some (.int .i64 e.1.fs) ∧ W.cell? ⟨(ao.add (q * 5)).block, (ao.add (q * 5)).off + 1, none⟩ = some (.int .i64 e.1.ls) ∧
    W.cell? ⟨(ao.add (q * 5)).block, (ao.add (q * 5)).off + 2, none⟩ = some (.int .i64 e.1.ct) ∧ W.cell? ⟨(ao.add (q * 5)).block, (ao.add (q * 5)).off + 3, none⟩ = some (.slice oa e.1.ps.length oc) ∧ W.cell? ⟨(ao.add (q * 5)).block, (ao.add (q * 5)).off + 4, none⟩ = some (.int .i64 e.1.by_) ∧
    (Reads W 3 1 oa e.1.ps.length (e.1.ps.map (Value.int .i64)) ∧ ∀ ad, oa = some ad → lo2 ≤ ad.block) := by
  have h1 : z.en.map Prod.fst = x.en.map Prod.fst := by
    have := congrArg Ro.en hd
    exact this
  have hlen : z.en.length = x.en.length := by
    have := congrArg List.length h1
    rw [List.length_map, List.length_map] at this
    exact this
  have hq : q < z.en.length := by rw [hlen]; exact (List.getElem?_eq_some_iff.1 he).1
  obtain ⟨ao, o, hA, ho, _, c0, c1, c2, c3, c4⟩ := en_at hl.fr.en hq
  have h2 : (z.en.map Prod.fst)[q]? = some e.1 := by rw [h1, List.getElem?_map, he]; rfl
  rw [List.getElem?_map, ho] at h2
  injection h2 with h2
  have hm := hl.fr.ens o (List.mem_of_getElem? ho)
  rw [h2] at c0 c1 c2 c3 c4 hm
  exact ⟨hlen, ao, o.2.1, o.2.2, hA, c0, c1, c2, c3, c4, hm, fun ad h => hl.ps o (List.mem_of_getElem? ho) ad h⟩
theorem want_pt {lo2 : Nat} {W : World} {z x : RoA} (hl : RoL lo2 W z) (hd : z.d = x.d) {q : Nat} {p : Int × Int} (hp : x.op[q]? = some p) : z.op.length = x.op.length ∧ ∃ ao, z.oa = some ao ∧ W.cell? (ao.add (q * 2)) = some (.int .i64 p.1) := by
  have h1 : z.op = x.op := by
    have := congrArg Ro.op hd
    exact this
  have hq : q < z.op.length := by rw [h1]; exact (List.getElem?_eq_some_iff.1 hp).1
  obtain ⟨ao, hA, hc, _⟩ := pts_at hl.fr.op hq
  rw [List.getD_eq_getElem?_getD, h1, hp] at hc
  exact ⟨by rw [h1], ao, hA, hc⟩
end Go.Proofs.Ytgdnpmjmkcccoaa
namespace Go.Proofs.Ytgdnpmjmkcccoaa
open Go.RowKit Go.Shelf VB
open Go.Lib (hid)
set_option linter.unusedVariables false
set_option linter.unusedSimpArgs false
set_option maxRecDepth 100000 in
set_option maxHeartbeats 16000000 in
theorem mgets_core {e1 : TypeId} (A : Option Addr) (n c : Nat) (bs : List Nat) (w : World) (hb : Reads w e1 1 A n (bsV bs)) (hc : n ≤ c) (hcm : c ≤ maxLen) (hbs : ∀ x ∈ bs, x < 256) :
    Calls Try.prog 4 #[.slice A n c] w fun e w' => e = .returned (.bool true) ∧ Below w.heap.size w w' := by
  obtain ⟨hn, hhn⟩ : ∃ hn, hn = min n 3000 := ⟨_, rfl⟩
  have hbl : bs.length = n := by have := hb.1; rw [bsV_len] at this; omega
  have HH := hid (fun w' (h : Below w.heap.size w w') => few_22 A n hn c bs w' (hb.below h) hc hcm hhn)
  obtain ⟨hs, hhs⟩ : ∃ hs, hs = bs.take hn := ⟨_, rfl⟩
  rw [← hhs] at HH
  have HS := hid (show hs.length ≤ 3000 ∧ ∀ x ∈ hs, x < 256 by rw [hhs]; exact ⟨by rw [List.length_take]; omega, fun x hx => hbs x (List.mem_of_mem_take hx)⟩)
  have HB0 := hid (Below.refl w.heap.size w)
  clear hb hc hcm hbs hhn hbl hhs
  go_enter Try.func4, Try.ntmps4
  go_wp2_with fail
  refine (wakes_22 _).mono ?_
  rintro e w1 ⟨rfl, hb1⟩
  have HB := hid hb1
  clear hb1 HB0
  go_wp2_with fail
  refine (HH.out _ HB.out).mono ?_
  rintro e w2 ⟨C2, f2, rfl, hown2, hb2⟩
  replace HB := hid (HB.out.trans (hb2.mono HB.out.size))
  obtain ⟨_, _, hv, hf1, hf2⟩ := own_form hown2
  injection hv with hv1 hv2 hv3
  have hsrc : Src w2 C2 hs.length f2 hs := ⟨Reads.of_own hown2, by have := HS.out.1; omega, by omega, by omega, HS.out.2⟩
  have HSRC := hid hsrc
  have HG := hid (dec_one hsrc)
  have HG2 := hid (fun (W : World) (h : Src W C2 hs.length f2 hs) => dec_two h)
  obtain ⟨ex, hex⟩ : ∃ ex, ex = decX hs := ⟨_, rfl⟩
  obtain ⟨l, hl⟩ : ∃ l, l = decL hs := ⟨_, rfl⟩
  rw [← hex, ← hl] at HG HG2
  clear hb2 hown2 hv1 hv2 hv3 hf1 hf2 hsrc hex hl
  go_wp2_with fail
  refine HG.out.mono ?_
  rintro e w3 ⟨xs, k, C3, f3, rfl, hk, hk8, hxs, hmd, hb3⟩
  have hb3' := hb3.alloc hb3.size (.cells #[.slice C3 k f3] 24)
  have hbb := (Below.refl w3.heap.size w3).alloc (Nat.le_refl _) (.cells #[.slice C3 k f3] 24)
  obtain ⟨lo, hlo⟩ : ∃ lo, lo = w2.heap.size := ⟨_, rfl⟩
  obtain ⟨gm, hgm⟩ : ∃ gm, gm = w3.heap.size := ⟨_, rfl⟩
  obtain ⟨wb3, hwb3⟩ : ∃ x, x = w3.alloc (.cells #[.slice C3 k f3] 24) := ⟨_, rfl⟩
  have KM := hid (show Blk wb3 gm 24 #[.slice C3 k f3] by rw [hwb3, hgm]; exact Blk.new _ _ _)
  have HLO := hid (show w.heap.size ≤ lo by rw [hlo]; exact HB.out.size)
  have HXS := hid (And.intro hxs (And.intro hk hk8))
  have HUP := hid (show ∀ y ∈ xs, ∀ b ∈ blksR y, b < wb3.heap.size from fun y hy b h => by
    have := (hmd.fresh y hy b h).2.1
    rw [hwb3]; simp; omega)
  rw [← hwb3] at hb3' hbb
  rw [← hlo] at hmd
  have HMD := hid (hmd.below hbb)
  replace HB := hid (HB.out.trans (hb3'.mono HB.out.size))
  replace HSRC := hid (HSRC.out.below hb3')
  have HGX := hid (HG2.out _ HSRC.out)
  rw [hwb3] at HGX
  clear hb3 hb3' hbb hxs hk hmd HG HG2 hlo
  go_wp2_with fail
  rw [← hwb3] at HGX ⊢
  try rw [← hgm]
  clear hwb3 hgm
  refine HGX.out.mono ?_
  rintro e w4 ⟨ws, kW, CW, fW, rfl, hws, hmh, hwl, hb4⟩
  obtain ⟨gw, hgw⟩ : ∃ gw, gw = w4.heap.size := ⟨_, rfl⟩
  obtain ⟨w5, hw5⟩ : ∃ x, x = w4.alloc (.cells #[.slice CW kW fW] 24) := ⟨_, rfl⟩
  have hb5 : Below w4.heap.size w4 w5 := by rw [hw5]; exact (Below.refl _ _).alloc (Nat.le_refl _) _
  have hb45 := hb4.trans (hb5.mono hb4.size)
  obtain ⟨lo2, hlo2⟩ : ∃ lo2, lo2 = wb3.heap.size := ⟨_, rfl⟩
  rw [← hlo2] at HUP hwl
  have HGS := hid (show GS w lo lo2 gm gw C3 f3 CW kW fW ws C2 hs.length f2 hs k (w5) (xs) from
    ⟨HMD.out.below hb45, HXS.out.2.1.symm, HXS.out.2.2, KM.out.under hb45, by rw [hw5, hgw]; exact Blk.new _ _ _, hmh.rd.below hb5, fun y hy => (hwl y hy).below hb5, HSRC.out.below hb45, HB.out.trans (hb45.mono HB.out.size), HUP.out, HLO.out⟩)
  have HWS := hid hws
  have HMI := hid (show ManIn w5 C3 k f3 xs by have h := (HMD.out.below hb45).man (by have := HXS.out.2.2; have := HXS.out.2.1; omega); rw [← HXS.out.2.1] at h; exact h)
  have HSM := hid (sameMan_c C3 CW k kW f3 fW xs ws w5 HMI.out ((hmh.below hb5).man fW))
  rw [HXS.out.1, hws, decide_eq_true rfl] at HSM
  have k0 : w5.cell? ⟨gm, 0, none⟩ = some (.slice C3 k f3) := HGS.out.km.cell 0
  have k1 : w5.cell? ⟨gw, 0, none⟩ = some (.slice CW kW fW) := HGS.out.kw.cell 0
  rw [hw5] at k0 k1
  clear hb4 hb5 hb45 hws hmh hwl HMD KM HUP hlo2 HGX HSRC HB HMI
  go_upto_region 6 with fail
  rw [← hw5] at k0 k1 ⊢
  try rw [← hgw]
  clear hw5 hgw
  have hne : (ex != ex) = false := by simp
  go_wp2_with fail
  refine HSM.out.mono ?_
  rintro e w6 ⟨rfl, hb6⟩
  replace HGS := hid (HGS.out.below hb6)
  clear hb6 k0 k1 HSM hne
  have k0 : w6.cell? ⟨gm, 0, none⟩ = some (.slice C3 k f3) := HGS.out.km.cell 0
  go_wp2_with fail
  clear k0
  go_loopw [46] (fun u46 wr => ∃ i : Nat, i ≤ k ∧ u46 = .int .i64 (i : Nat) ∧ Hid (GS w lo lo2 gm gw C3 f3 CW kW fW ws C2 hs.length f2 hs k (wr) (ysA xs i))) (fun u46 _ => k - (intOf u46).toNat)
  case atStart => exact ⟨0, Nat.zero_le _, rfl, hid (by unfold ysA; rw [mapTo_zero]; exact HGS.out)⟩
  case round =>
    obtain ⟨i, hi, rfl, hst⟩ := hrel
    obtain ⟨wo1, rfl⟩ : ∃ wo1 : World, wo1 = wr := ⟨_, rfl⟩
    clear HGS
    by_cases hlt : i < k
    · obtain ⟨x, hx⟩ : ∃ x, xs[i]? = some x := ⟨_, List.getElem?_eq_getElem (by rw [← HXS.out.2.1]; exact hlt)⟩
      have hA : (ysA xs i)[i]? = some x := by unfold ysA; rw [mapTo_at]; exact hx
      obtain ⟨ad, rfl, _, k0, c5, c6⟩ := hst.out.cells hA
      have HST := hid (show GS w lo lo2 gm gw (some ad) f3 CW kW fW ws C2 hs.length f2 hs k (wo1) ((ysA xs i).set i (rwB x 0)) by rw [rwB_zero, set_self hA]; exact hst.out)
      have HA := hid (And.intro hA hx)
      have hltI : (i : Int) < (k : Int) := by omega
      have h0I : (0 : Int) ≤ (i : Int) := by omega
      have hst0 := hst.out.md
      clear hx hA hst
      obtain ⟨ne, hne⟩ : ∃ ne, ne = x.en.length := ⟨_, rfl⟩
      obtain ⟨no, hno⟩ : ∃ no, no = x.op.length := ⟨_, rfl⟩
      rw [← hne] at c5
      have hbx := hst0.good x (List.mem_of_getElem? HA.out.1)
      have hne8 : ne ≤ 256 := by rw [hne]; exact hbx.henl
      have hno8 : no ≤ 256 := by rw [hno]; exact hbx.hopl
      have HNE := hid (And.intro hne hno)
      clear hst0 hbx
      clear hne hno c6
      go_wp2_with fail
      clear k0 c5
      go_loopw [56] (fun u56 wr => ∃ q : Nat, q ≤ ne ∧ u56 = .int .i64 (q : Nat) ∧ Hid (GS w lo lo2 gm gw (some ad) f3 CW kW fW ws C2 hs.length f2 hs k (wr) ((ysA xs i).set i (rwB x q)))) (fun u56 _ => ne - (intOf u56).toNat)
      case atStart => exact ⟨0, Nat.zero_le _, rfl, HST⟩
      case round =>
        obtain ⟨q, hq, rfl, hst⟩ := hrel
        obtain ⟨wo2, rfl⟩ : ∃ wo2 : World, wo2 = wr := ⟨_, rfl⟩
        clear HST
        have hB : ((ysA xs i).set i (rwB x q))[i]? = some (rwB x q) := set_at HA.out.1
        by_cases hlq : q < ne
        · obtain ⟨e, he⟩ : ∃ e, x.en[q]? = some e := ⟨_, List.getElem?_eq_getElem (by rw [← HNE.out.1]; exact hlq)⟩
          have heB : (rwB x q).en[q]? = some e := by unfold rwB; simp only; rw [mapTo_at]; exact he
          obtain ⟨ad', ha', _, k0, c5, _⟩ := hst.out.cells hB
          injection ha' with ha'
          subst ha'
          obtain ⟨ae, hae, _, _, d3, _, _⟩ := hst.out.ent hB heB
          replace hae : x.ea = some ae := hae
          replace c5 : wo2.cell? ⟨(ad.add (i * 7)).block, (ad.add (i * 7)).off + 5, none⟩ = some (.slice (some ae) ne x.ec) := by
            rw [c5]
            show some (Value.slice x.ea (mapTo upE x.en q).length x.ec) = _
            rw [mapTo_len, hae, HNE.out.1]
          obtain ⟨np, hnp⟩ : ∃ np, np = e.1.ps.length := ⟨_, rfl⟩
          rw [← hnp] at d3
          have hnp8 : np ≤ 256 := by rw [hnp]; exact ((hst.out.md.good _ (List.mem_of_getElem? hB)).ens e (List.mem_of_getElem? heB)).2.1
          have HE := hid (And.intro he (And.intro hae hnp))
          have HST := hid (show GS w lo lo2 gm gw (some ad) f3 CW kW fW ws C2 hs.length f2 hs k (wo2) ((ysA xs i).set i (rwC x q e 0)) by rw [rwC_zero he]; exact hst.out)
          have hqI : (q : Int) < (ne : Int) := by omega
          have hq0 : (0 : Int) ≤ (q : Int) := by omega
          clear he heB hae hnp hst hB
          go_wp2_with fail
          clear k0 c5 d3
          go_loopw [70] (fun u70 wr => ∃ m : Nat, m ≤ np ∧ u70 = .int .i64 (m : Nat) ∧ Hid (GS w lo lo2 gm gw (some ad) f3 CW kW fW ws C2 hs.length f2 hs k (wr) ((ysA xs i).set i (rwC x q e m)))) (fun u70 _ => np - (intOf u70).toNat)
          case atStart => exact ⟨0, Nat.zero_le _, rfl, HST⟩
          case round =>
            obtain ⟨m, hm, rfl, hst⟩ := hrel
            clear HST
            have hC : ((ysA xs i).set i (rwC x q e m))[i]? = some (rwC x q e m) := set_at HA.out.1
            have heC := rwC_at HE.out.1 m
            obtain ⟨ad', ha', _, k0, c5, _⟩ := hst.out.cells hC
            injection ha' with ha'
            subst ha'
            obtain ⟨ae', hae', _, d0, d3, df, dl⟩ := hst.out.ent hC heC
            replace hae' : x.ea = some ae' := hae'
            rw [HE.out.2.1] at hae'
            injection hae' with hae'
            subst hae'
            replace c5 : wr.cell? ⟨(ad.add (i * 7)).block, (ad.add (i * 7)).off + 5, none⟩ = some (.slice (some ae) ne x.ec) := by
              rw [c5]
              show some (Value.slice x.ea ((mapTo upE x.en q).set q (enC e m)).length x.ec) = _
              rw [List.length_set, mapTo_len, HE.out.2.1, HNE.out.1]
            by_cases hlm : m < np
            · obtain ⟨p, hp⟩ : ∃ p, e.1.ps[m]? = some p := ⟨_, List.getElem?_eq_getElem (by rw [← HE.out.2.2]; exact hlm)⟩
              have hpC : (enC e m).1.ps[m]? = some p := by unfold enC; simp only; rw [mapTo_at]; exact hp
              obtain ⟨ap, hap, _, p0, pf, pl⟩ := hst.out.pg hC heC hpC
              replace d3 : wr.cell? ⟨(ae.add (q * 5)).block, (ae.add (q * 5)).off + 3, none⟩ = some (.slice (some ap) np e.2.2) := by
                rw [d3]
                show some (Value.slice e.2.1 (mapTo up e.1.ps m).length e.2.2) = _
                rw [mapTo_len, show e.2.1 = some ap from hap, HE.out.2.2]
              have HN := hid (show GS w lo lo2 gm gw (some ad) f3 CW kW fW ws C2 hs.length f2 hs k (wr.setCell (ap.add m) (.int .i64 (wrap64 (p + 1000)))) ((ysA xs i).set i (rwC x q e (m + 1))) by
                have h := hst.out.page hC heC hap m (up p)
                rw [List.set_set, rwC_step hp] at h
                exact h)
              have hmI : (m : Int) < (np : Int) := by omega
              have hm0 : (0 : Int) ≤ (m : Int) := by omega
              clear hp hpC hap hC heC hst d0 df dl
              go_wp2_with fail
              go_roundw
              case rel => exact ⟨m + 1, by omega, by go_num, HN⟩
              case measure => simp [intOf]; omega
            · obtain rfl : m = np := by omega
              replace d0 : wr.cell? (ae.add (q * 5)) = some (.int .i64 e.1.fs) := d0
              have HN := hid (show GS w lo lo2 gm gw (some ad) f3 CW kW fW ws C2 hs.length f2 hs k (wr.setCell (ae.add (q * 5)) (.int .i64 (wrap64 (e.1.fs + 1000)))) ((ysA xs i).set i (rwB x (q + 1))) by
                have h := hst.out.first hC heC (ad := ae) HE.out.2.1 (up e.1.fs) (up_le _)
                rw [HE.out.2.2, List.set_set, rwC_end HE.out.1] at h
                exact h)
              clear hC heC hst d3
              go_wp2_with fail
              go_roundw
              case rel => exact ⟨q + 1, by omega, by go_num, HN⟩
              case measure => simp [intOf]; omega
        · obtain rfl : q = ne := by omega
          obtain ⟨ad', ha', _, k0, _, c6⟩ := hst.out.cells hB
          injection ha' with ha'
          subst ha'
          replace c6 : wo2.cell? ⟨(ad.add (i * 7)).block, (ad.add (i * 7)).off + 6, none⟩ = some (.slice x.oa no x.oc) := by
            rw [c6, HNE.out.2]; rfl
          have HST := hid (show GS w lo lo2 gm gw (some ad) f3 CW kW fW ws C2 hs.length f2 hs k (wo2) ((ysA xs i).set i (rwD x 0)) by rw [← rwB_end x (k := q) (Nat.le_of_eq HNE.out.1.symm)]; exact hst.out)
          clear hst hB
          go_wp2_with fail
          clear k0 c6
          go_loopw [110] (fun u110 wr => ∃ m : Nat, m ≤ no ∧ u110 = .int .i64 (m : Nat) ∧ Hid (GS w lo lo2 gm gw (some ad) f3 CW kW fW ws C2 hs.length f2 hs k (wr) ((ysA xs i).set i (rwD x m)))) (fun u110 _ => no - (intOf u110).toNat)
          case atStart => exact ⟨0, Nat.zero_le _, rfl, HST⟩
          case round =>
            obtain ⟨m, hm, rfl, hst⟩ := hrel
            clear HST
            have hD : ((ysA xs i).set i (rwD x m))[i]? = some (rwD x m) := set_at HA.out.1
            by_cases hlm : m < no
            · obtain ⟨p, hp⟩ : ∃ p, x.op[m]? = some p := ⟨_, List.getElem?_eq_getElem (by rw [← HNE.out.2]; exact hlm)⟩
              have hpD : (rwD x m).op[m]? = some p := by unfold rwD; simp only; rw [mapTo_at]; exact hp
              obtain ⟨ad', ha', _, k0, _, c6⟩ := hst.out.cells hD
              injection ha' with ha'
              subst ha'
              obtain ⟨ap, hap, _, p0, pf, pl⟩ := hst.out.pt hD hpD
              replace c6 : wr.cell? ⟨(ad.add (i * 7)).block, (ad.add (i * 7)).off + 6, none⟩ = some (.slice (some ap) no x.oc) := by
                rw [c6]
                show some (Value.slice x.oa (mapTo upP x.op m).length x.oc) = _
                rw [mapTo_len, show x.oa = some ap from hap, HNE.out.2]
              have HN := hid (show GS w lo lo2 gm gw (some ad) f3 CW kW fW ws C2 hs.length f2 hs k (wr.setCell (ap.add (m * 2)) (.int .i64 (wrap64 (p.1 + 1000)))) ((ysA xs i).set i (rwD x (m + 1))) by
                have h := hst.out.time hD hpD hap (up p.1)
                rw [List.set_set, rwD_step hp] at h
                exact h)
              have hmI : (m : Int) < (no : Int) := by omega
              have hm0 : (0 : Int) ≤ (m : Int) := by omega
              clear hp hpD hap hD hst
              go_wp2_with fail
              go_roundw
              case rel => exact ⟨m + 1, by omega, by go_num, HN⟩
              case measure => simp [intOf]; omega
            · obtain rfl : m = no := by omega
              have HN := hid (show GS w lo lo2 gm gw (some ad) f3 CW kW fW ws C2 hs.length f2 hs k (wr) (ysA xs (i + 1)) by
                have h := hst.out
                rw [rwD_end x (Nat.le_of_eq HNE.out.2.symm)] at h
                have h2 : (ysA xs i).set i (upR x) = ysA xs (i + 1) := mapTo_step upR HA.out.2
                rw [h2] at h
                exact h)
              clear hst hD
              go_wp2_with fail
              go_roundw
              case rel => exact ⟨i + 1, by omega, by go_num, HN⟩
              case measure => simp [intOf]; omega
    · obtain rfl : k = i := by omega
      have HGS := hid (show GS w lo lo2 gm gw C3 f3 CW kW fW ws C2 hs.length f2 hs k (wo1) (xs.map upR) by
        have h := hst.out
        unfold ysA at h
        rw [mapTo_all upR xs (by rw [← HXS.out.2.1]; exact Nat.le_refl _)] at h
        exact h)
      clear hst
      have k0 : wo1.cell? ⟨gm, 0, none⟩ = some (.slice C3 k f3) := HGS.out.km.cell 0
      go_wp2_with fail
      clear k0
      have HD := hid (show ws.map RoA.d = xs.map RoA.d by rw [HWS.out, HXS.out.1])
      go_loopw [131] (fun u131 wr => ∃ i : Nat, i ≤ k ∧ u131 = .int .i64 (i : Nat) ∧ Hid (GS w lo lo2 gm gw C3 f3 CW kW fW ws C2 hs.length f2 hs k (wr) (xs.map upR))) (fun u131 _ => k - (intOf u131).toNat)
      case atStart => exact ⟨0, Nat.zero_le _, rfl, HGS⟩
      case round =>
        obtain ⟨i, hi, rfl, hst⟩ := hrel
        obtain ⟨wo1, rfl⟩ : ∃ wo1 : World, wo1 = wr := ⟨_, rfl⟩
        clear HGS
        by_cases hlt : i < k
        · obtain ⟨x, hx⟩ : ∃ x, xs[i]? = some x := ⟨_, List.getElem?_eq_getElem (by rw [← HXS.out.2.1]; exact hlt)⟩
          have hA : (xs.map upR)[i]? = some (upR x) := by rw [List.getElem?_map, hx]; rfl
          obtain ⟨ad, rfl, _, c0, c1, c2, c3, c4, c5, c6⟩ := hst.out.row hA
          obtain ⟨ne, hne⟩ : ∃ ne, ne = x.en.length := ⟨_, rfl⟩
          obtain ⟨no, hno⟩ : ∃ no, no = x.op.length := ⟨_, rfl⟩
          have hbx := hst.out.md.good (upR x) (List.mem_of_getElem? hA)
          have hel : (upR x).en.length = ne := by rw [hne]; show (x.en.map upE).length = _; rw [List.length_map]
          have hol : (upR x).op.length = no := by rw [hno]; show (x.op.map upP).length = _; rw [List.length_map]
          have hne8 : ne ≤ 256 := by rw [← hel]; exact hbx.henl
          have hno8 : no ≤ 256 := by rw [← hol]; exact hbx.hopl
          rw [hel] at c5
          rw [hol] at c6
          have HX := hid (And.intro hx (And.intro hA (And.intro hne hno)))
          obtain ⟨g13, hg13⟩ : ∃ g13, g13 = wo1.heap.size := ⟨_, rfl⟩
          obtain ⟨w7, hw7⟩ : ∃ w7, w7 = wo1.alloc (.cells (aR x.nm x.ep x.fl x.la x.sc (.slice x.ea ne x.ec) (.slice x.oa no x.oc)) 42) := ⟨_, rfl⟩
          have hb7 : Below wo1.heap.size wo1 w7 := by rw [hw7]; exact (Below.refl _ _).alloc (Nat.le_refl _) _
          have HST := hid (show GS w lo lo2 gm gw (some ad) f3 CW kW fW ws C2 hs.length f2 hs k (w7) (xs.map upR) ∧ Blk w7 g13 42 (aR x.nm x.ep x.fl x.la x.sc (.slice x.ea ne x.ec) (.slice x.oa no x.oc)) from ⟨hst.out.below hb7, by rw [hw7, hg13]; exact Blk.new _ _ _⟩)
          have hltI : (i : Int) < (k : Int) := by omega
          have h0I : (0 : Int) ≤ (i : Int) := by omega
          replace c0 : wo1.cell? (ad.add (i * 7)) = some (.string x.nm) := c0
          replace c1 : wo1.cell? ⟨(ad.add (i * 7)).block, (ad.add (i * 7)).off + 1, none⟩ = some (.int .i64 x.ep) := c1
          replace c2 : wo1.cell? ⟨(ad.add (i * 7)).block, (ad.add (i * 7)).off + 2, none⟩ = some (.int .i64 x.fl) := c2
          replace c3 : wo1.cell? ⟨(ad.add (i * 7)).block, (ad.add (i * 7)).off + 3, none⟩ = some (.int .i64 x.la) := c3
          replace c4 : wo1.cell? ⟨(ad.add (i * 7)).block, (ad.add (i * 7)).off + 4, none⟩ = some (.int .i64 x.sc) := c4
          replace c5 : wo1.cell? ⟨(ad.add (i * 7)).block, (ad.add (i * 7)).off + 5, none⟩ = some (.slice x.ea ne x.ec) := c5
          replace c6 : wo1.cell? ⟨(ad.add (i * 7)).block, (ad.add (i * 7)).off + 6, none⟩ = some (.slice x.oa no x.oc) := c6
          clear hx hA hst hbx hel hol hne hno hb7
          go_upto_region 30 with fail
          rw [← hw7]
          try rw [← hg13]
          clear c0 c1 c2 c3 c4 c5 c6 hw7 hg13 hltI h0I
          have b5 : w7.cell? ⟨g13, 5, none⟩ = some (.slice x.ea ne x.ec) := HST.out.2.cell 5
          go_wp2_with fail
          clear b5
          go_loopw [139] (fun u139 wr => ∃ q : Nat, q ≤ ne ∧ u139 = .int .i64 (q : Nat) ∧ Hid (GS w lo lo2 gm gw (some ad) f3 CW kW fW ws C2 hs.length f2 hs k (wr) (xs.map upR) ∧ Blk wr g13 42 (aR x.nm x.ep x.fl x.la x.sc (.slice x.ea ne x.ec) (.slice x.oa no x.oc)))) (fun u139 _ => ne - (intOf u139).toNat)
          case atStart => exact ⟨0, Nat.zero_le _, rfl, HST⟩
          case round =>
            obtain ⟨q, hq, rfl, hst⟩ := hrel
            obtain ⟨wo2, rfl⟩ : ∃ wo2 : World, wo2 = wr := ⟨_, rfl⟩
            clear HST
            by_cases hlq : q < ne
            · obtain ⟨e, he⟩ : ∃ e, x.en[q]? = some e := ⟨_, List.getElem?_eq_getElem (by rw [← HX.out.2.2.1]; exact hlq)⟩
              have heB : (upR x).en[q]? = some (upE e) := by show (x.en.map upE)[q]? = _; rw [List.getElem?_map, he]; rfl
              obtain ⟨ae, hae, _, d0, d1, d2, d3, d4⟩ := hst.out.1.entw HX.out.2.1 heB
              have hae : x.ea = some ae := hae
              obtain ⟨np, hnp⟩ : ∃ np, np = e.1.ps.length := ⟨_, rfl⟩
              have hnp8 : np ≤ 256 := by
                have h := ((hst.out.1.md.good _ (List.mem_of_getElem? HX.out.2.1)).ens _ (List.mem_of_getElem? heB)).2.1
                rw [hnp]
                have h2 : (e.1.ps.map up).length ≤ 256 := h
                rw [List.length_map] at h2
                exact h2
              have hpl : (upE e).1.ps.length = np := by rw [hnp]; show (e.1.ps.map up).length = _; rw [List.length_map]
              rw [hpl] at d3
              have b5 : wo2.cell? ⟨g13, 5, none⟩ = some (.slice (some ae) ne x.ec) := by rw [← hae]; exact hst.out.2.cell 5
              obtain ⟨g15, hg15⟩ : ∃ g15, g15 = wo2.heap.size := ⟨_, rfl⟩
              obtain ⟨w8, hw8⟩ : ∃ w8, w8 = wo2.alloc (.cells (aE (wrap64 (e.1.fs + 1000)) e.1.ls e.1.ct (.slice e.2.1 np e.2.2) e.1.by_) 45) := ⟨_, rfl⟩
              have hb8 : Below wo2.heap.size wo2 w8 := by rw [hw8]; exact (Below.refl _ _).alloc (Nat.le_refl _) _
              have HST8 := hid (show GS w lo lo2 gm gw (some ad) f3 CW kW fW ws C2 hs.length f2 hs k (w8) (xs.map upR) ∧ Blk w8 g13 42 (aR x.nm x.ep x.fl x.la x.sc (.slice x.ea ne x.ec) (.slice x.oa no x.oc)) ∧ Blk w8 g15 45 (aE (wrap64 (e.1.fs + 1000)) e.1.ls e.1.ct (.slice e.2.1 np e.2.2) e.1.by_) from ⟨hst.out.1.below hb8, hst.out.2.under hb8, by rw [hw8, hg15]; exact Blk.new _ _ _⟩)
              have HE := hid (And.intro he (And.intro heB hnp))
              have hqI : (q : Int) < (ne : Int) := by omega
              have hq0 : (0 : Int) ≤ (q : Int) := by omega
              replace d0 : wo2.cell? (ae.add (q * 5)) = some (.int .i64 (wrap64 (e.1.fs + 1000))) := d0
              replace d1 : wo2.cell? ⟨(ae.add (q * 5)).block, (ae.add (q * 5)).off + 1, none⟩ = some (.int .i64 e.1.ls) := d1
              replace d2 : wo2.cell? ⟨(ae.add (q * 5)).block, (ae.add (q * 5)).off + 2, none⟩ = some (.int .i64 e.1.ct) := d2
              replace d3 : wo2.cell? ⟨(ae.add (q * 5)).block, (ae.add (q * 5)).off + 3, none⟩ = some (.slice e.2.1 np e.2.2) := d3
              replace d4 : wo2.cell? ⟨(ae.add (q * 5)).block, (ae.add (q * 5)).off + 4, none⟩ = some (.int .i64 e.1.by_) := d4
              have HAE := hid hae
              clear he heB hnp hpl hst hb8
              go_upto_region 33 with fail
              rw [← hw8]
              try rw [← hg15]
              clear d0 d1 d2 d3 d4 b5 hw8 hg15 hae hqI
              obtain ⟨adw, z, hCW, hikW, hzl, hzd, k1, e5, _⟩ := HST8.out.1.want HD.out HX.out.1
              obtain ⟨hzn, ao, oa, oc, hzea, o0, o1, o2, o3, o4, hop, _⟩ := want_en hzl hzd HE.out.1
              rw [hCW] at k1
              rw [hzea, hzn, ← HX.out.2.2.1] at e5
              rw [← HE.out.2.2] at o3 hop
              obtain ⟨g16, hg16⟩ : ∃ g16, g16 = w8.heap.size := ⟨_, rfl⟩
              obtain ⟨w9, hw9⟩ : ∃ w9, w9 = w8.alloc (.cells (aE e.1.fs e.1.ls e.1.ct (.slice oa np oc) e.1.by_) 45) := ⟨_, rfl⟩
              have hb9 : Below w8.heap.size w8 w9 := by rw [hw9]; exact (Below.refl _ _).alloc (Nat.le_refl _) _
              have HST9 := hid (show GS w lo lo2 gm gw (some ad) f3 CW kW fW ws C2 hs.length f2 hs k (w9) (xs.map upR) ∧ Blk w9 g13 42 (aR x.nm x.ep x.fl x.la x.sc (.slice x.ea ne x.ec) (.slice x.oa no x.oc)) ∧ Blk w9 g15 45 (aE (wrap64 (e.1.fs + 1000)) e.1.ls e.1.ct (.slice e.2.1 np e.2.2) e.1.by_) ∧ Blk w9 g16 45 (aE e.1.fs e.1.ls e.1.ct (.slice oa np oc) e.1.by_) ∧ Reads w9 3 1 oa np (e.1.ps.map (Value.int .i64)) from ⟨HST8.out.1.below hb9, HST8.out.2.1.under hb9, HST8.out.2.2.under hb9, by rw [hw9, hg16]; exact Blk.new _ _ _, hop.below hb9⟩)
              have hqI : (q : Int) < (ne : Int) := by omega
              have hiW : (i : Int) < (kW : Int) := by omega
              have hi0 : (0 : Int) ≤ (i : Int) := by omega
              clear hCW hzl hzd hzn hzea hop hb9 hikW HST8
              go_upto_region 34 with fail
              rw [← hw9]
              try rw [← hg16]
              clear k1 e5 o0 o1 o2 o3 o4 hw9 hg16 hqI hiW hi0
              have b0 : w9.cell? ⟨g15, 0, none⟩ = some (.int .i64 (wrap64 (e.1.fs + 1000))) := HST9.out.2.2.1.cell 0
              have b3 : w9.cell? ⟨g15, 3, none⟩ = some (.slice e.2.1 np e.2.2) := HST9.out.2.2.1.cell 3
              have b0' : w9.cell? ⟨g16, 0, none⟩ = some (.int .i64 e.1.fs) := HST9.out.2.2.2.1.cell 0
              go_wp2_with fail
              clear b0 b3 b0'
              go_loopw [162] (fun u162 wr => ∃ m : Nat, m ≤ np ∧ u162 = .int .i64 (m : Nat) ∧ Hid (GS w lo lo2 gm gw (some ad) f3 CW kW fW ws C2 hs.length f2 hs k (wr) (xs.map upR) ∧ Blk wr g13 42 (aR x.nm x.ep x.fl x.la x.sc (.slice x.ea ne x.ec) (.slice x.oa no x.oc)) ∧ Blk wr g15 45 (aE (wrap64 (e.1.fs + 1000)) e.1.ls e.1.ct (.slice e.2.1 np e.2.2) e.1.by_) ∧ Blk wr g16 45 (aE e.1.fs e.1.ls e.1.ct (.slice oa np oc) e.1.by_) ∧ Reads wr 3 1 oa np (e.1.ps.map (Value.int .i64)))) (fun u162 _ => np - (intOf u162).toNat)
              case atStart => exact ⟨0, Nat.zero_le _, rfl, HST9⟩
              case round =>
                obtain ⟨m, hm, rfl, hst⟩ := hrel
                clear HST9
                by_cases hlm : m < np
                · obtain ⟨p, hp⟩ : ∃ p, e.1.ps[m]? = some p := ⟨_, List.getElem?_eq_getElem (by rw [← HE.out.2.2]; exact hlm)⟩
                  have hpB : (upE e).1.ps[m]? = some (up p) := by show (e.1.ps.map up)[m]? = _; rw [List.getElem?_map, hp]; rfl
                  obtain ⟨ap, hap, _, p0, _, _⟩ := hst.out.1.pg HX.out.2.1 HE.out.2.1 hpB
                  obtain ⟨ap2, hap2, p2⟩ := ints_at hst.out.2.2.2.2 hlm
                  rw [List.getD_eq_getElem?_getD, hp] at p2
                  replace p2 : wr.cell? (ap2.add m) = some (.int .i64 p) := p2
                  rw [up_wrap] at p0
                  have b3 : wr.cell? ⟨g15, 3, none⟩ = some (.slice (some ap) np e.2.2) := by rw [show some ap = e.2.1 from hap.symm]; exact hst.out.2.2.1.cell 3
                  have b3' : wr.cell? ⟨g16, 3, none⟩ = some (.slice (some ap2) np oc) := by rw [← hap2]; exact hst.out.2.2.2.1.cell 3
                  have HST2 := hid (show GS w lo lo2 gm gw (some ad) f3 CW kW fW ws C2 hs.length f2 hs k (wr.drew) (xs.map upR) ∧ Blk wr.drew g13 42 (aR x.nm x.ep x.fl x.la x.sc (.slice x.ea ne x.ec) (.slice x.oa no x.oc)) ∧ Blk wr.drew g15 45 (aE (wrap64 (e.1.fs + 1000)) e.1.ls e.1.ct (.slice e.2.1 np e.2.2) e.1.by_) ∧ Blk wr.drew g16 45 (aE e.1.fs e.1.ls e.1.ct (.slice oa np oc) e.1.by_) ∧ Reads wr.drew 3 1 oa np (e.1.ps.map (Value.int .i64)) from ⟨hst.out.1.below ((Below.refl _ _).drew), hst.out.2.1.drew, hst.out.2.2.1.drew, hst.out.2.2.2.1.drew, hst.out.2.2.2.2.drew⟩)
                  have hmI : (m : Int) < (np : Int) := by omega
                  have hm0 : (0 : Int) ≤ (m : Int) := by omega
                  clear hp hpB hap hap2 hst
                  go_upto_region 39 with fail
                  go_region_held3 (fun W => W.cell? ⟨g15, 3, none⟩ = some (.slice (some ap) np e.2.2) ∧ W.cell? (ap.add m) = some (.int .i64 (IntKind.i64.wrap (p + 1000))) ∧ W.cell? ⟨g16, 3, none⟩ = some (.slice (some ap2) np oc) ∧ W.cell? (ap2.add m) = some (.int .i64 p))
                    (exact ⟨b3, p0, b3', p2⟩)
                    (fail)
                  clear b3 p0 b3' p2
                  go_wp2_with fail
                  go_roundw
                  case rel => exact ⟨m + 1, by omega, by go_num, HST2⟩
                  case measure => simp [intOf]; omega
                · obtain rfl : m = np := by omega
                  have HN := hid (And.intro hst.out.1 hst.out.2.1)
                  clear hst
                  go_wp2_with fail
                  go_roundw
                  case rel => exact ⟨q + 1, by omega, by go_num, HN⟩
                  case measure => simp [intOf]; omega
            · obtain rfl : q = ne := by omega
              have b6 : wo2.cell? ⟨g13, 6, none⟩ = some (.slice x.oa no x.oc) := hst.out.2.cell 6
              have HST3 := hid hst.out
              clear hst
              go_wp2_with fail
              clear b6
              go_loopw [182] (fun u182 wr => ∃ m : Nat, m ≤ no ∧ u182 = .int .i64 (m : Nat) ∧ Hid (GS w lo lo2 gm gw (some ad) f3 CW kW fW ws C2 hs.length f2 hs k (wr) (xs.map upR) ∧ Blk wr g13 42 (aR x.nm x.ep x.fl x.la x.sc (.slice x.ea q x.ec) (.slice x.oa no x.oc)))) (fun u182 _ => no - (intOf u182).toNat)
              case atStart => exact ⟨0, Nat.zero_le _, rfl, HST3⟩
              case round =>
                obtain ⟨m, hm, rfl, hst⟩ := hrel
                clear HST3
                by_cases hlm : m < no
                · obtain ⟨p, hp⟩ : ∃ p, x.op[m]? = some p := ⟨_, List.getElem?_eq_getElem (by rw [← HX.out.2.2.2]; exact hlm)⟩
                  have hpB : (upR x).op[m]? = some (upP p) := by show (x.op.map upP)[m]? = _; rw [List.getElem?_map, hp]; rfl
                  obtain ⟨ap, hap, _, p0, p1⟩ := hst.out.1.ptw HX.out.2.1 hpB
                  have hap : x.oa = some ap := hap
                  replace p0 : wr.cell? (ap.add (m * 2)) = some (.int .i64 (wrap64 (p.1 + 1000))) := p0
                  replace p1 : wr.cell? ⟨(ap.add (m * 2)).block, (ap.add (m * 2)).off + 1, none⟩ = some (.int .i64 p.2) := p1
                  obtain ⟨g19, hg19⟩ : ∃ g19, g19 = wr.heap.size := ⟨_, rfl⟩
                  obtain ⟨w8, hw8⟩ : ∃ w8, w8 = wr.alloc (.cells #[.int .i64 (wrap64 (p.1 + 1000)), .int .i64 p.2] 47) := ⟨_, rfl⟩
                  have hb8 : Below wr.heap.size wr w8 := by rw [hw8]; exact (Below.refl _ _).alloc (Nat.le_refl _) _
                  have HST8 := hid (show (GS w lo lo2 gm gw (some ad) f3 CW kW fW ws C2 hs.length f2 hs k (w8) (xs.map upR) ∧ Blk w8 g13 42 (aR x.nm x.ep x.fl x.la x.sc (.slice x.ea q x.ec) (.slice x.oa no x.oc))) ∧ Blk w8 g19 47 #[.int .i64 (wrap64 (p.1 + 1000)), .int .i64 p.2] from ⟨⟨hst.out.1.below hb8, hst.out.2.under hb8⟩, by rw [hw8, hg19]; exact Blk.new _ _ _⟩)
                  have hmI : (m : Int) < (no : Int) := by omega
                  have hm0 : (0 : Int) ≤ (m : Int) := by omega
                  have HP := hid hp
                  clear hp hpB hst hb8
                  go_upto_region 46 with fail
                  rw [← hw8]
                  try rw [← hg19]
                  clear p0 p1 hw8 hg19 hap
                  obtain ⟨adw, z, hCW, hikW, hzl, hzd, k1, _, e6⟩ := HST8.out.1.1.want HD.out HX.out.1
                  obtain ⟨hzn, ao, hzoa, o0⟩ := want_pt hzl hzd HP.out
                  rw [hCW] at k1
                  rw [hzoa, hzn, ← HX.out.2.2.2] at e6
                  have n0 : w8.cell? ⟨g19, 0, none⟩ = some (.int .i64 (wrap64 (p.1 + 1000))) := HST8.out.2.cell 0
                  rw [show wrap64 (p.1 + 1000) = IntKind.i64.wrap (p.1 + 1000) from up_wrap p.1] at n0
                  have hiW : (i : Int) < (kW : Int) := by omega
                  have hi0 : (0 : Int) ≤ (i : Int) := by omega
                  have HST9 := hid (show GS w lo lo2 gm gw (some ad) f3 CW kW fW ws C2 hs.length f2 hs k (w8.drew) (xs.map upR) ∧ Blk w8.drew g13 42 (aR x.nm x.ep x.fl x.la x.sc (.slice x.ea q x.ec) (.slice x.oa no x.oc)) from ⟨HST8.out.1.1.below ((Below.refl _ _).drew), HST8.out.1.2.drew⟩)
                  clear hCW hzl hzd hzn hzoa hikW HST8
                  go_region_held3 (fun W => W.cell? ⟨g19, 0, none⟩ = some (.int .i64 (IntKind.i64.wrap (p.1 + 1000))) ∧ W.cell? ⟨gw, 0, none⟩ = some (.slice (some adw) kW fW) ∧ W.cell? ⟨(adw.add (i * 7)).block, (adw.add (i * 7)).off + 6, none⟩ = some (.slice (some ao) no z.oc) ∧ W.cell? (ao.add (m * 2)) = some (.int .i64 p.1))
                    (exact ⟨n0, k1, e6, o0⟩)
                    (fail)
                  clear n0 k1 e6 o0
                  go_wp2_with fail
                  go_roundw
                  case rel => exact ⟨m + 1, by omega, by go_num, HST9⟩
                  case measure => simp [intOf]; omega
                · obtain rfl : m = no := by omega
                  have HN := hid hst.out.1
                  clear hst
                  go_wp2_with fail
                  go_roundw
                  case rel => exact ⟨i + 1, by omega, by go_num, HN⟩
                  case measure => simp [intOf]; omega
        · obtain rfl : k = i := by omega
          have HFW := hid (HH.out wo1 hst.out.fr)
          have HEQ := hid (fun (W : World) (C9 : Option Addr) (f9 : Nat) (h : Below wo1.heap.size wo1 W) (hr : Reads W 5 1 C9 hs.length (bsV hs)) => equal_bs C2 C9 hs.length hs.length f2 f9 hs hs W (hst.out.sb.below h).reads hr (by have := HS.out.1; omega))
          rw [decide_eq_true rfl] at HEQ
          have HB := hid hst.out.fr
          clear hst
          go_wp2_with fail
          refine HFW.out.mono ?_
          rintro e w9 ⟨C9, f9, rfl, hown9, hb9⟩
          have HEQ2 := hid (HEQ.out w9 C9 f9 hb9 (Reads.of_own hown9))
          have HB9 := hid (HB.out.trans (hb9.mono HB.out.size))
          clear hown9 hb9 HEQ HFW
          go_wp2_with fail
          refine HEQ2.out.mono ?_
          rintro e w10 ⟨rfl, q, rfl⟩
          have HF := hid (below_dn HB9.out q)
          clear HB9 HEQ2
          go_wp2_with fail
          go_ret
          exact ⟨rfl, HF.out⟩
theorem mgets_in (a0 : Option Addr) (len0 cap0 : Nat) (z0 : List Int) (w : World) (w0 : RowIn .u8 w a0 len0 cap0 z0) :
    Calls Try.prog 4 #[.slice a0 len0 cap0] w fun e w' => e = .returned (.bool true) ∧ Below w.heap.size w w' := by
  obtain ⟨_, h2, e, h3⟩ := bytes_in w0
  exact mgets_core a0 len0 cap0 (bytesOf z0 len0) w h3 w0.len.1 w0.len.2.2 h2
end Go.Proofs.Ytgdnpmjmkcccoaa
