/- Manifest: plain: the document's Right of a manifest is what Check asks. The document's bytes of a manifest: a number. The document's bytes of a manifest (printed by gen_reft.py). -/
import Derived.Test.YtgdnpmjmkcccoaaZRefQ
import Derived.Lib.ConvBytes
namespace Go.Proofs.Ytgdnpmjmkcccoaa
open Go.RowKit Go.Shelf VB
open Go.Lib (hid)
set_option linter.unusedVariables false
set_option linter.unusedSimpArgs false
theorem fresh_iff : ∀ (ps L : List Int), freshB ps L = true ↔ ps.Nodup ∧ ∀ p ∈ ps, p ∉ L
  | [], L => by simp [freshB]
  | x :: ps, L => by
    unfold freshB
    simp only [Bool.and_eq_true, decide_eq_true_eq, fresh_iff ps (x :: L), List.nodup_cons, List.mem_cons, not_or]
    constructor
    · rintro ⟨h1, h2, h3⟩
      refine ⟨⟨fun hx => (h3 x hx).1 rfl, h2⟩, ?_⟩
      rintro p (rfl | hp)
      · exact h1
      · exact (h3 p hp).2
    · rintro ⟨⟨h1, h2⟩, h3⟩
      exact ⟨h3 x (.inl rfl), h2, fun p hp => ⟨fun e => h1 (e ▸ hp), h3 p (.inr hp)⟩⟩
theorem pages_iff : ∀ (ps L : List Int), pagesB ps L = true ↔ (∀ p ∈ ps, 18 ≤ p ∧ p ≤ 255) ∧ ps.Nodup ∧ ∀ p ∈ ps, p ∉ L
  | [], L => by simp [pagesB]
  | x :: ps, L => by
    unfold pagesB
    simp only [Bool.and_eq_true, markB_iff, pages_iff ps (x :: L), List.nodup_cons, List.mem_cons, not_or]
    constructor
    · rintro ⟨⟨h0, h1⟩, hb, h2, h3⟩
      refine ⟨?_, ⟨fun hx => (h3 x hx).1 rfl, h2⟩, ?_⟩
      · rintro p (rfl | hp)
        · omega
        · exact hb p hp
      · rintro p (rfl | hp)
        · exact h1
        · exact (h3 p hp).2
    · rintro ⟨hb, ⟨h1, h2⟩, h3⟩
      have := hb x (.inl rfl)
      exact ⟨⟨by omega, h3 x (.inl rfl)⟩, fun p hp => hb p (.inr hp), h2, fun p hp => ⟨fun e => h1 (e ▸ hp), h3 p (.inr hp)⟩⟩
theorem en_iff {x : En} {L : List Int} (h0 : 0 ≤ x.ls) (h1 : x.fs ≤ 9223372036854775807) : enB x L = true ↔ enR x ∧ ∀ p ∈ x.ps, p ∉ L := by
  constructor
  · intro h
    have k := enOk_of h h0 h1
    have hp : pagesB x.ps L = true := by unfold enB isB at h; simp only [Bool.and_eq_true] at h; exact h.2.2
    obtain ⟨p1, p2, p3⟩ := (pages_iff _ _).1 hp
    have a1 := k.fs0; have a2 := k.le; have a3 := k.ls1; have a4 := k.ct0; have a5 := k.ct1; have a6 := k.ct2; have a7 := k.one; have a8 := k.n0; have a9 := k.n1; have b1 := k.by0; have b2 := k.by1
    exact ⟨⟨⟨by omega, by omega, by omega, by omega, by omega⟩, ⟨by omega, by omega, by omega, ⟨fun h => a7.1 h.symm, fun h => (a7.2 h).symm⟩⟩, ⟨by omega, by omega, by omega, by omega, by omega⟩, p1, p2⟩, p3⟩
  · rintro ⟨⟨⟨a1, a2, a3, a4, a5⟩, ⟨b1, b2, b3, b4⟩, ⟨c1, c2, c3, c4, c5⟩, d1, d2⟩, h2⟩
    unfold enB isB
    have hw : IntKind.i64.wrap (x.ls - x.fs) = x.ls - x.fs := by rw [IntKind.wrap_i64]; omega
    rw [hw]
    simp only [Bool.and_eq_true, decide_eq_true_eq]
    refine ⟨?_, ?_, (pages_iff _ _).2 ⟨d1, d2, h2⟩⟩
    · unfold wrongT
      rintro (h | h | h | h | h | h | h)
      · omega
      · omega
      · omega
      · omega
      · omega
      · omega
      · exact h ⟨fun e => b4.1 (by omega), fun e => by have := b4.2 e; omega⟩
    · unfold wrongP
      rintro (h | h | h | h) <;> omega
def ixF (pre l : List En) : Prop := ∀ i x, l[i]? = some x → StepR (pre ++ l.take i) x
theorem ixF_cons {pre l : List En} {x : En} : ixF pre (x :: l) ↔ StepR pre x ∧ ixF (pre ++ [x]) l := by
  constructor
  · intro h
    refine ⟨?_, fun i y hy => ?_⟩
    · have := h 0 x rfl
      simpa using this
    · have := h (i + 1) y (by simpa using hy)
      rw [List.take_succ_cons] at this
      simpa using this
  · rintro ⟨h1, h2⟩ i y hy
    cases i with
    | zero =>
      simp only [List.getElem?_cons_zero, Option.some.injEq] at hy
      subst hy
      simpa using h1
    | succ i =>
      have := h2 i y (by simpa using hy)
      rw [List.take_succ_cons]
      simpa using this
theorem may_iff : ∀ (l : List En) (L : List Int) (pre : List En), (∀ p, p ∈ L ↔ ∃ y ∈ pre, p ∈ y.ps) → (∀ x ∈ l, 0 ≤ x.ls) → (∀ x ∈ l, x.fs ≤ 9223372036854775807) → (mayB l L (pre.getLast?.map En.ls) = true ↔ ixF pre l)
  | [], L, pre, _, _, _ => by simp [mayB, ixF]
  | x :: l, L, pre, hL, h0, h1 => by
    have ih := may_iff l (x.ps.reverse ++ L) (pre ++ [x]) (by
      intro p
      simp only [List.mem_append, List.mem_reverse, hL p, List.mem_singleton]
      constructor
      · rintro (h | ⟨y, hy, hp⟩)
        · exact ⟨x, .inr rfl, h⟩
        · exact ⟨y, .inl hy, hp⟩
      · rintro ⟨y, hy | rfl, hp⟩
        · exact .inr ⟨y, hy, hp⟩
        · exact .inl hp) (fun y hy => h0 y (List.mem_cons_of_mem _ hy)) (fun y hy => h1 y (List.mem_cons_of_mem _ hy))
    rw [ixF_cons, ← ih]
    rw [show mayB (x :: l) L (pre.getLast?.map En.ls) = (enB x L && (behindB (pre.getLast?.map En.ls) x.fs && mayB l (x.ps.reverse ++ L) (some x.ls))) from rfl]
    simp only [Bool.and_eq_true, en_iff (h0 x List.mem_cons_self) (h1 x List.mem_cons_self)]
    have hls : (pre ++ [x]).getLast?.map En.ls = some x.ls := by simp
    rw [hls]
    have hbe : behindB (pre.getLast?.map En.ls) x.fs = true ↔ ∀ y, pre.getLast? = some y → y.ls < x.fs := by
      cases hp : pre.getLast? with
      | none => simp [behindB]
      | some y => simp [behindB]
    have hpg : (∀ p ∈ x.ps, p ∉ L) ↔ ∀ y ∈ pre, ∀ p ∈ x.ps, p ∉ y.ps := by
      constructor
      · intro h y hy p hp hq; exact h p hp ((hL p).2 ⟨y, hy, hq⟩)
      · intro h p hp hq
        obtain ⟨y, hy, hq⟩ := (hL p).1 hq
        exact h y hy p hp hq
    rw [hbe, hpg]
    constructor
    · rintro ⟨⟨a, b⟩, c, d⟩; exact ⟨⟨a, c, b⟩, d⟩
    · rintro ⟨⟨a, c, b⟩, d⟩; exact ⟨⟨a, b⟩, c, d⟩
theorem ix_iff {l : List En} (h0 : ∀ x ∈ l, 0 ≤ x.ls) (h1 : ∀ x ∈ l, x.fs ≤ 9223372036854775807) : mayB l [] none = true ↔ ixR l := by
  have := may_iff l [] [] (by simp) h0 h1
  simpa [ixF, ixR] using this
theorem row_iff {x : Ro} (hfs : ∀ e ∈ x.en, e.fs ≤ 9223372036854775807) : rowOk x = true ↔ rowR x := by
  unfold rowOk tailB openB floorB rowR rowTl timeB
  simp only [Bool.and_eq_true, decide_eq_true_eq, betB_iff, List.all_eq_true, openL_iff, Bool.or_eq_true]
  constructor
  · rintro ⟨h1, h2, h3, h4, h5, h6, h7, ⟨h8, h9⟩, h10⟩
    exact ⟨h1, h2, h3.1, h3.2, h4, h5.1, h5.2, (ix_iff (fun e he => by have := h7 e he; omega) hfs).1 h6, by omega, h7, h9, h10.imp id Eq.symm⟩
  · rintro ⟨h1, h2, h3, h3', h4, h5, h5', h6, h8, h7, h9, h10⟩
    exact ⟨h1, h2, ⟨h3, h3'⟩, h4, ⟨h5, h5'⟩, (ix_iff (fun e he => by have := h7 e he; omega) hfs).2 h6, h7, ⟨by omega, h9⟩, h10.imp id Eq.symm⟩
def riF (pre l : List Ro) : Prop := ∀ i x, l[i]? = some x → rowR x ∧ ∀ y, (pre ++ l.take i).getLast? = some y → nmLt y.nm x.nm = true
theorem riF_cons {pre l : List Ro} {x : Ro} : riF pre (x :: l) ↔ (rowR x ∧ ∀ y, pre.getLast? = some y → nmLt y.nm x.nm = true) ∧ riF (pre ++ [x]) l := by
  constructor
  · intro h
    refine ⟨?_, fun i y hy => ?_⟩
    · have := h 0 x rfl
      simpa using this
    · have := h (i + 1) y (by simpa using hy)
      rw [List.take_succ_cons] at this
      rw [List.append_assoc, List.singleton_append]
      exact this
  · rintro ⟨h1, h2⟩ i y hy
    cases i with
    | zero =>
      simp only [List.getElem?_cons_zero, Option.some.injEq] at hy
      subst hy
      simpa using h1
    | succ i =>
      have := h2 i y (by simpa using hy)
      rw [List.take_succ_cons]
      rw [List.append_assoc, List.singleton_append] at this
      exact this
theorem rises_iff : ∀ (l pre : List Ro), (∀ x ∈ l, ∀ e ∈ x.en, e.fs ≤ 9223372036854775807) → (risesB (pre.getLast?.map Ro.nm) l = true ↔ riF pre l)
  | [], pre, _ => by simp [risesB, riF]
  | x :: l, pre, h => by
    have ih := rises_iff l (pre ++ [x]) (fun y hy => h y (List.mem_cons_of_mem _ hy))
    rw [riF_cons, ← ih]
    rw [show risesB (pre.getLast?.map Ro.nm) (x :: l) = (rowOk x && (behN (pre.getLast?.map Ro.nm) x.nm && risesB (some x.nm) l)) from rfl]
    have hls : (pre ++ [x]).getLast?.map Ro.nm = some x.nm := by simp
    have hbe : behN (pre.getLast?.map Ro.nm) x.nm = true ↔ ∀ y, pre.getLast? = some y → nmLt y.nm x.nm = true := by
      cases hp : pre.getLast? with
      | none => simp [behN]
      | some y => simp [behN]
    rw [hls]
    simp only [Bool.and_eq_true, row_iff (h x List.mem_cons_self), hbe, and_assoc]
/-- the document's Right of a manifest is what Check asks -/
theorem right_iff {l : List Ro} (h : ∀ x ∈ l, ∀ e ∈ x.en, e.fs ≤ 9223372036854775807) : rightR l ↔ manOk l = true := by
  have h1 := rises_iff l [] h
  have h2 : riF [] l ↔ ∀ i x, l[i]? = some x → StepRw l i x := by
    constructor
    · intro k i x hx
      obtain ⟨k1, k2⟩ := k i x hx
      refine ⟨k1, fun y h0 hy => k2 y ?_⟩
      rw [List.nil_append, last_take (by have := (List.getElem?_eq_some_iff.1 hx).1; omega) h0]
      exact hy
    · intro k i x hx
      obtain ⟨k1, k2⟩ := k i x hx
      refine ⟨k1, fun y hy => ?_⟩
      by_cases h0 : 0 < i
      · rw [List.nil_append, last_take (by have := (List.getElem?_eq_some_iff.1 hx).1; omega) h0] at hy
        exact k2 y h0 hy
      · have : i = 0 := by omega
        subst this
        simp at hy
  unfold rightR manOk
  simp only [Bool.and_eq_true, decide_eq_true_eq, fresh_iff]
  have h3 : risesB none l = true ↔ ∀ i x, l[i]? = some x → StepRw l i x := by rw [← h2, ← h1]; simp
  rw [h3]
  simp only [List.not_mem_nil, not_false_eq_true, implies_true, and_true]
  constructor
  · rintro ⟨a, b, c⟩; exact ⟨c, a, b⟩
  · rintro ⟨c, a, b⟩; exact ⟨a, b, c⟩
end Go.Proofs.Ytgdnpmjmkcccoaa
namespace Go.Proofs.Ytgdnpmjmkcccoaa
open Go.RowKit Go.Shelf VB
open Go.Lib (hid)
set_option linter.unusedVariables false
set_option linter.unusedSimpArgs false
set_option maxRecDepth 100000 in
set_option maxHeartbeats 1000000 in
theorem plain22_d (z : Int) (h0 : 0 ≤ z) (h1 : z ≤ 9223372036854775807) (w : World) :
    Calls Try.prog 48 #[.int .i64 z] w (RetB (vbI z) w) := by
  show Calls _ _ _ _ (RetB (vb z.toNat) w)
  have u5 : IntKind.u64.wrap z = ((z.toNat : Nat) : Int) := by rw [IntKind.wrap_u64]; omega
  have HB := hid (bytes_ref z.toNat (by omega) w)
  generalize z.toNat = m at *
  go_enter Try.func48, Try.ntmps48
  go_wp2_with fail
  refine HB.out.mono ?_
  rintro e w2 ⟨D, g, rfl, hown, hb⟩
  have HX := hid (show RetB (vb m) w (.returned (.slice D (vb m).length g)) w2 from ⟨D, g, rfl, hown, hb⟩)
  clear hown hb HB
  go_wp2_with fail
  go_ret
  exact HX.out
end Go.Proofs.Ytgdnpmjmkcccoaa
namespace Go.Proofs.Ytgdnpmjmkcccoaa
open Go.RowKit Go.Shelf VB
open Go.Lib (hid)
set_option linter.unusedVariables false
set_option linter.unusedSimpArgs false
theorem conv_below (W : World) (e : TypeId) (s : ByteArray) : Below W.heap.size W (Lib.bytesWorld W e s) :=
  ⟨rfl, rfl, rfl, by rw [Lib.bytesWorld_size]; omega, fun b hb => Lib.bytesWorld_at_old W e s b hb⟩
theorem conv_reads (W : World) (s : ByteArray) : Reads (Lib.bytesWorld W 5 s) 5 1 (some ⟨W.heap.size, 0, none⟩) s.size (bsV (nmL s)) := by
  refine ⟨by rw [bsV_len, nmL_len, Nat.mul_one], fun _ => ⟨_, rfl, ⟨_, _, Lib.bytesWorld_at_new W 5 s⟩, ?_⟩⟩
  intro j u hu
  have hj : j < s.size := by
    have := (List.getElem?_eq_some_iff.1 hu).1
    rw [bsV_len, nmL_len] at this
    exact this
  have h := Lib.bytesWorld_cell W 5 s j hj
  have e1 : (⟨W.heap.size, 0, none⟩ : Addr).add j = ⟨W.heap.size, j, none⟩ := by
    cases j with
    | zero => rfl
    | succ j => simp [Addr.add]
  rw [e1, h]
  unfold bsV nmL at hu
  rw [List.map_map, List.getElem?_map] at hu
  rw [List.getD_eq_getElem?_getD]
  cases hs : s.data.toList[j]? with
  | none => rw [hs] at hu; cases hu
  | some b => rw [hs] at hu; simpa using hu
theorem own_not {w : World} {b n z g : Nat} {e t : TypeId} {v : Value} {xs : List Value} {cs : Array Value} (h : w.ownsRow b e z v n xs) (k : Blk w g t cs) (hne : t ≠ e) : some g ≠ v.ownBlock := by
  obtain ⟨_, h2⟩ := h
  rcases h2 with ⟨rfl, _⟩ | ⟨q, cap, cur, rfl, _, hh, _⟩
  · intro h; cases h
  · intro h
    injection h with h
    subst h
    unfold Blk at k
    rw [k] at hh
    injection hh with hh
    injection hh with _ h3
    exact hne h3
theorem Reads.grownA {w w' : World} {e : TypeId} {sz n g : Nat} {cs : List Value} {row : Option Nat} (h : Reads w e sz (some ⟨g, 0, none⟩) n cs) (hg : w.grownBy w' row) (hne : some g ≠ row) : Reads w' e sz (some ⟨g, 0, none⟩) n cs :=
  ⟨h.1, fun hn => by
    obtain ⟨ad, e1, ht, hc⟩ := h.2 hn
    have hb : w'.heap[ad.block]? = w.heap[ad.block]? := hg.block _ ht.lt (by injection e1 with e1; rw [← e1]; exact hne)
    refine ⟨ad, e1, by unfold Typed; rw [hb]; exact ht, fun j u hu => (World.cell?_of_block (w := w) ?_).trans (hc j u hu)⟩
    rw [block_of_add]; exact hb⟩
/-- the time from which the i-th entry's bytes are reckoned -/
def ahE (l : List En) (i : Nat) : Int := if i = 0 then 0 else ((l[i - 1]?).map En.ls).getD 0
set_option maxRecDepth 100000 in
set_option maxHeartbeats 8000000 in
theorem Bytes22_d (A : Option Addr) (n c : Nat) (rows : List RoA) (w : World) (h : ManIn w A n c rows) (hok : ManOk (rows.map RoA.d)) :
    Calls Try.prog 18 #[.agg #[.slice A n c]] w (RetB (manBy (rows.map RoA.d)) w) := by
  obtain ⟨es, hes⟩ : ∃ es, es = rows.map RoA.d := ⟨_, rfl⟩
  obtain ⟨tot, htot⟩ : ∃ tot, tot = manBy es := ⟨_, rfl⟩
  rw [← hes] at hok ⊢
  rw [← htot]
  obtain ⟨i0, hi0, hz0, hz1, hz2⟩ := info_parts3 byte_info
  have HI := hid (And.intro hi0 (And.intro hz0 (And.intro hz1 hz2)))
  have hn := h.hn
  have HES := hid (And.intro hes h.len)
  have HOK := hid hok
  have HTL := hid (show tot.length ≤ 30000 by rw [htot]; exact hok.bytes)
  have HT0 := hid (show tot = vbI ((n : Nat) : Int) ++ (es.drop 0).flatMap rowBy by rw [htot]; unfold manBy; rw [hes, List.length_map, h.len]; simp)
  obtain ⟨w1, hw1⟩ : ∃ w1, w1 = w.alloc (.cells #[.slice A n c] 24) := ⟨_, rfl⟩
  have hb1 : Below w.heap.size w w1 := by rw [hw1]; exact (Below.refl _ _).alloc (Nat.le_refl _) _
  have K := hid (show Blk w1 w.heap.size 24 #[.slice A n c] by rw [hw1]; exact Blk.new _ _ _)
  have HM := hid h
  have HB := hid hb1
  have k0 : w1.cell? ⟨w.heap.size, 0, none⟩ = some (.slice A n c) := K.out.cell 0
  clear hi0 hz0 hz1 hz2 h hb1 hes hok htot
  rw [hw1] at k0
  go_enter Try.func18, Try.ntmps18
  go_upto_region 1 with fail
  rw [← hw1]
  clear hw1 k0
  have k0 : w1.cell? ⟨w.heap.size, 0, none⟩ = some (.slice A n c) := K.out.cell 0
  have HPL := hid (plain22_d ((n : Nat) : Int) (by omega) (by omega) w1)
  go_upto_region 2 with (go_at_call 48; refine HPL.out.mono ?_; rintro e w2 ⟨C2, f2, rfl, hown2, hb2⟩)
  have k2 : w2.cell? ⟨w.heap.size, 0, none⟩ = some (.slice A n c) := below_cell hb2 k0
  have HST := hid (show OwnY w.heap.size w2 C2 f2 (vbI ((n : Nat) : Int)) ∧ Below w.heap.size w w2 from ⟨OwnY.low hown2 HB.out.size, HB.out.trans (hb2.mono HB.out.size)⟩)
  clear k0 hown2 hb2 HPL K HB
  show _
  generalize vbI ((n : Nat) : Int) = acc0 at *
  go_wp2_with fail
  clear k2
  go_loopw [3, 21] (fun u3 u21 wr => ∃ (k : Nat) (C : Option Addr) (f : Nat) (acc : List Nat), k ≤ n ∧ u21 = .int .i64 (k : Nat) ∧ u3 = .slice C acc.length f ∧ Hid (OwnY w.heap.size wr C f acc ∧ Below w.heap.size w wr) ∧ Hid (tot = acc ++ (es.drop k).flatMap rowBy)) (fun _ u21 _ => n - (intOf u21).toNat)
  case atStart => exact ⟨0, C2, f2, acc0, Nat.zero_le _, rfl, rfl, HST, HT0⟩
  case round =>
    obtain ⟨k, C, f, acc, hk, rfl, rfl, hst, hrl⟩ := hrel
    obtain ⟨wo, rfl⟩ : ∃ wo : World, wo = wr := ⟨_, rfl⟩
    by_cases hlt : k < n
    · obtain ⟨er, hrw⟩ := (HM.out.below hst.out.2).rows
      obtain ⟨ad, x, rfl, hx, hxl, c0, c1, c2, c3, c4, c5, c6⟩ := row_at hrw hlt
      have hxe : es[k]? = some x.d := by rw [HES.out.1, List.getElem?_map, hx]; rfl
      have hdr : es.drop k = x.d :: es.drop (k + 1) := by
        rw [List.drop_eq_getElem_cons (List.getElem?_eq_some_iff.1 hxe).1, (List.getElem?_eq_some_iff.1 hxe).2]
      have hxi := HM.out.each x (List.mem_of_getElem? hx)
      have hfit := (HOK.out.rows x.d (List.mem_of_getElem? hxe)).fit
      have hrl2 := hrl.out
      rw [hdr, List.flatMap_cons, ← List.append_assoc] at hrl2
      obtain ⟨nm, ep, fl, la, sc, en, ea, ec, op, oa, oc⟩ := x
      obtain ⟨fnm, fep, fsc, ffl, fla, fen, fop⟩ := hfit
      simp only [RoA.d] at fnm fep fsc ffl fla fen fop
      simp only at c0 c1 c2 c3 c4 c5 c6
      obtain ⟨ne, hne⟩ : ∃ ne, ne = en.length := ⟨_, rfl⟩
      obtain ⟨no, hno⟩ : ∃ no, no = op.length := ⟨_, rfl⟩
      obtain ⟨ee, hee⟩ : ∃ ee, ee = en.map Prod.fst := ⟨_, rfl⟩
      have HR := hid (show tot = (acc ++ ((nm.size :: nmL nm) ++ ([ep].flatMap vbI ++ (vb (fold64 sc) ++ ([fl, la + 1, ((ne : Nat) : Int)].flatMap vbI ++ (ensB 0 ee ++ ([((no : Nat) : Int)].flatMap vbI ++ ptsB2 (0, 0) op))))))) ++ (es.drop (k + 1)).flatMap rowBy by
        rw [hrl2, hne, hno, hee]; unfold rowBy RoA.d; simp only [List.length_map])
      rw [← hee] at fen
      rw [← hne] at c5
      rw [← hno] at c6
      have hxi2 := hxi.below hst.out.2
      have HXI := hid (And.intro hxi (And.intro hne (And.intro hno hee)))
      have HFE := hid fen
      have HFP := hid fop
      obtain ⟨g, hg⟩ : ∃ g, g = wo.heap.size := ⟨_, rfl⟩
      obtain ⟨w3, hw3⟩ : ∃ w3, w3 = wo.alloc (.cells (aR nm ep fl la sc (.slice ea ne ec) (.slice oa no oc)) 42) := ⟨_, rfl⟩
      have hk3 : Blk w3 g 42 (aR nm ep fl la sc (.slice ea ne ec) (.slice oa no oc)) := by rw [hw3, hg]; exact Blk.new _ _ _
      have ho3 : OwnY w.heap.size w3 C f acc := by rw [hw3]; exact hst.out.1.alloc _
      have hb3 : Below w.heap.size w w3 := by rw [hw3]; exact hst.out.2.alloc hst.out.2.size _
      have HX := hid (And.intro ho3 (And.intro hk3 hb3))
      have hltI : (k : Int) < (n : Int) := by omega
      have h0I : (0 : Int) ≤ (k : Int) := by omega
      have u5 : IntKind.u8.wrap ((nm.size : Nat) : Int) = ((nm.size : Nat) : Int) := by rw [IntKind.wrap_u8]; omega
      have hnm : nm.size ≤ 12 := fnm
      have hgw : w.heap.size ≤ g := by rw [hg]; exact hst.out.2.size
      clear hrw hx hxl hxe hdr hrl2 hst hrl hxi hxi2 hne hno hee fen fop ho3 hk3 hb3 HT0 HST
      rw [hw3] at HX
      go_upto_region 5 with fail
      rw [← hw3] at HX ⊢
      try rw [← hg]
      clear c0 c1 c2 c3 c4 c5 c6 hw3 hg hltI h0I
      go_cut [3, 21] from 21 to 144 (fun u3 u21 wx => ∃ (C : Option Addr) (f : Nat) (l1 : List Nat), u3 = .slice C l1.length f ∧ u21 = .int .i64 (k : Nat) ∧ Hid (l1 = acc ++ (nm.size :: nmL nm)) ∧ Hid (OwnY w.heap.size wx C f l1 ∧ Blk wx g 42 (aR nm ep fl la sc (.slice ea ne ec) (.slice oa no oc)) ∧ Below w.heap.size w wx))
      case first =>
        refine wp_region_noPanic ?_
        refine wp_region_held_drew (S := (fun W => Blk W g 42 (aR nm ep fl la sc (.slice ea ne ec) (.slice oa no oc)))) (by kernel_rfl) HX.out.2.1.drew (fun hHeld => ?_)
        have hown := HX.out.1.drew
        have kt := HX.out.2.1.drew
        have hb := HX.out.2.2.drew
        have hal : acc.length ≤ 30000 := by have := HTL.out; rw [HR.out, List.length_append, List.length_append] at this; omega
        clear HX
        generalize w3.drew = wa at *
        refine wpAnyH_take (i := 0) (v := ?_) rfl (by kernel_rfl) (by kernel_rfl) (by kernel_rfl) (fun _ _ _ h => h) (Or.inl ⟨by rfl, ?_⟩) (by assumption) ?_
        rotate_left
        · intro W hW
          go_simp
          try rfl
        simp only [List.getElem_toArray, List.getElem_cons_zero, Act.put, List.setIfInBounds_toArray, List.set_cons_zero, List.set_cons_succ]
        refine wpAnyH_take (i := 1) (v := ?_) rfl (by kernel_rfl) (by kernel_rfl) (by kernel_rfl) (fun _ _ _ h => h) (Or.inl ⟨by rfl, ?_⟩) (by assumption) ?_
        rotate_left
        · intro W hW
          go_simp
          try rfl
        simp only [List.getElem_toArray, List.getElem_cons_succ, List.getElem_cons_zero, Act.put, List.setIfInBounds_toArray, List.set_cons_zero, List.set_cons_succ]
        refine wpAnyH_take (i := 2) (v := ?_) rfl (by kernel_rfl) (by kernel_rfl) (by kernel_rfl) (fun _ _ _ h => h) (Or.inl ⟨by rfl, ?_⟩) (by assumption) ?_
        rotate_left
        · intro W hW
          obtain ⟨x0, x1, x2, x3, x4, x5, x6⟩ := hW.seven
          go_simp
          try rfl
        simp only [List.getElem_toArray, List.getElem_cons_succ, List.getElem_cons_zero, Act.put, List.setIfInBounds_toArray, List.set_cons_zero, List.set_cons_succ]
        refine wpAnyH_take (i := 3) (v := ?_) rfl (by kernel_rfl) (by kernel_rfl) (by kernel_rfl) (fun _ _ _ h => h) (Or.inl ⟨by rfl, ?_⟩) (by assumption) ?_
        rotate_left
        · intro W hW
          go_simp
          try rfl
        simp only [List.getElem_toArray, List.getElem_cons_succ, List.getElem_cons_zero, Act.put, List.setIfInBounds_toArray, List.set_cons_zero, List.set_cons_succ]
        refine wpAnyH_take (i := 4) (v := ?_) rfl (by kernel_rfl) (by kernel_rfl) (by kernel_rfl) (fun _ _ _ h => h) (Or.inl ⟨by rfl, ?_⟩) (by assumption) ?_
        rotate_left
        · intro W hW
          go_simp
          try rfl
        simp only [List.getElem_toArray, List.getElem_cons_succ, List.getElem_cons_zero, Act.put, List.setIfInBounds_toArray, List.set_cons_zero, List.set_cons_succ]
        refine wpAnyH_take (i := 7) (v := ?_) rfl (by kernel_rfl) (by kernel_rfl) (by kernel_rfl) (fun _ _ _ h => h) (Or.inl ⟨by rfl, ?_⟩) (by assumption) ?_
        rotate_left
        · intro W hW
          go_simp
          try rfl
        simp only [List.getElem_toArray, List.getElem_cons_succ, List.getElem_cons_zero, Act.put, List.setIfInBounds_toArray, List.set_cons_zero, List.set_cons_succ]
        refine wpAnyH_take (i := 8) (v := ?_) rfl (by kernel_rfl) (by kernel_rfl) (by kernel_rfl) (fun _ _ _ h => h) (Or.inl ⟨by rfl, ?_⟩) (by assumption) ?_
        rotate_left
        · intro W hW
          obtain ⟨x0, x1, x2, x3, x4, x5, x6⟩ := hW.seven
          go_simp
          try rfl
        simp only [List.getElem_toArray, List.getElem_cons_succ, List.getElem_cons_zero, Act.put, List.setIfInBounds_toArray, List.set_cons_zero, List.set_cons_succ]
        have hconv := Lib.run_convert_string_bytes (P := Try.prog) wa 9 31 5 nm Try.underlying9 Try.underlying31 Try.underlying5
        refine wpAnyH_ready (rs := [5, 9]) (by kernel_rfl) (by simp) ?_
        refine AllReadyH.cons rfl (fun K hK => ?_) (AllReadyH.cons rfl (fun K hK => ?_) AllReadyH.nil)
        · go_simp
          refine hK.out _ _ (kt.alloc _) (fun hHeld => ?_)
          clear hK K
          have hr5 := one_reads wa 5 (.int .u8 (nm.size : Nat))
          replace hown := hown.alloc (.cells #[.int .u8 (nm.size : Nat)] 5)
          replace kt := kt.alloc (.cells #[.int .u8 (nm.size : Nat)] 5)
          replace hb := hb.alloc hb.size (.cells #[.int .u8 (nm.size : Nat)] 5)
          clear hconv
          generalize wa.alloc (.cells #[.int .u8 (nm.size : Nat)] 5) = wq1 at *
          generalize wa.heap.size = g5 at *
          try simp only [List.getElem_toArray, List.getElem_cons_succ, List.getElem_cons_zero, Act.put, List.setIfInBounds_toArray, List.set_cons_zero, List.set_cons_succ]
          have hconv := Lib.run_convert_string_bytes (P := Try.prog) wq1 9 31 5 nm Try.underlying9 Try.underlying31 Try.underlying5
          refine wpAnyH_ready (rs := [6, 9]) (by kernel_rfl) (by simp) ?_
          refine AllReadyH.cons rfl (fun K hK => ?_) (AllReadyH.cons rfl (fun K hK => ?_) AllReadyH.nil)
          · try rw [if_pos (by rfl)]
            refine wp_append_any _ (.tmp 25) (.tmp 30) 31 rfl w.heap.size 5 i0 (.int .u8 0) 1 1 Try.underlying31 HI.out.1 HI.out.2.1 HI.out.2.2.1 HI.out.2.2.2 rfl (by decide) _ acc.length (bsV acc) rfl hown (some ⟨g5, 0, none⟩) 1 1 [.int .u8 (nm.size : Nat)] rfl hr5 (by simp [Value.oneCell']) (by simp only [maxLen]; omega) (by omega) hb.size ?_
            intro v' wq2 hown' hg' hv'
            obtain ⟨C1, f1, rfl, _, _⟩ := own_form hown'
            replace kt := kt.grown hg' (own_not hown kt (by decide))
            replace hb := hb.grown hg' hb.size (fun k hk => (hown.lt k hk).1)
            obtain ⟨l0, hl0⟩ : ∃ l0, l0 = acc ++ [nm.size] := ⟨_, rfl⟩
            have hl1 : acc.length + 1 = l0.length := by rw [hl0]; simp
            rw [show bsV acc ++ [Value.int .u8 (nm.size : Nat)] = bsV (acc ++ [nm.size]) by simp [bsV], ← hl0, hl1] at hown'
            rw [hl1]
            have HL0 := hid (And.intro hl0 hl1)
            replace hown := hown'
            clear hg' hv' hown' hr5 hHeld hl0 hl1
            clear hconv
            refine hK.out _ _ kt (fun hHeld => ?_)
            clear hK K
            try simp only [List.getElem_toArray, List.getElem_cons_succ, List.getElem_cons_zero, Act.put, List.setIfInBounds_toArray, List.set_cons_zero, List.set_cons_succ]
            have hconv := Lib.run_convert_string_bytes (P := Try.prog) wq2 9 31 5 nm Try.underlying9 Try.underlying31 Try.underlying5
            refine wpAnyH_ready (rs := [9]) (by kernel_rfl) (by simp) ?_
            refine AllReadyH.cons rfl (fun K hK => ?_) AllReadyH.nil
            go_simp
            have hcb := conv_below wq2 5 nm
            refine hK.out _ _ (kt.under hcb) (fun hHeld => ?_)
            clear hK K
            have hr9 := conv_reads wq2 nm
            have hn9 : ∀ q, some q = some wq2.heap.size → some q ≠ (Value.slice C1 l0.length f1).ownBlock := fun q hq h => by injection hq with hq; have := (hown.lt q h.symm).2; omega
            replace hown := own_below hown hcb
            replace kt := kt.under hcb
            replace hb := hb.trans (hcb.mono hb.size)
            clear hconv hcb
            generalize Lib.bytesWorld wq2 5 nm = wq3 at *
            generalize grownCap wq2 nm.size 0 5 = G at *
            generalize wq2.heap.size = g9 at *
            try simp only [List.getElem_toArray, List.getElem_cons_succ, List.getElem_cons_zero, Act.put, List.setIfInBounds_toArray, List.set_cons_zero, List.set_cons_succ]
            refine wpAnyH_ready (rs := [10]) (by kernel_rfl) (by simp) ?_
            refine AllReadyH.cons rfl (fun K hK => ?_) AllReadyH.nil
            try rw [if_pos (by rfl)]
            refine wp_append_any _ (.tmp 31) (.tmp 34) 31 rfl w.heap.size 5 i0 (.int .u8 0) 1 1 Try.underlying31 HI.out.1 HI.out.2.1 HI.out.2.2.1 HI.out.2.2.2 rfl (by decide) _ l0.length (bsV l0) rfl hown (some ⟨g9, 0, none⟩) nm.size G (bsV (nmL nm)) rfl hr9 (bsV_one _) (by have := HL0.out.2; simp only [maxLen]; omega) (by have := HL0.out.2; omega) hb.size ?_
            intro v' wq4 hown' hg' hv'
            obtain ⟨C2, f2, rfl, _, _⟩ := own_form hown'
            replace kt := kt.grown hg' (own_not hown kt (by decide))
            replace hb := hb.grown hg' hb.size (fun k hk => (hown.lt k hk).1)
            obtain ⟨l1, hl⟩ : ∃ l1, l1 = l0 ++ nmL nm := ⟨_, rfl⟩
            have hl2 : l0.length + nm.size = l1.length := by rw [hl, List.length_append, nmL_len]
            rw [← bsV_app, ← hl, hl2] at hown'
            rw [hl2]
            have HRL := hid (show l1 = acc ++ (nm.size :: nmL nm) by rw [hl, HL0.out.1, List.append_assoc]; rfl)
            clear hl hl2
            replace hown := hown'
            clear hg' hv' hown' hr9 hHeld
            try clear hn9
            refine hK.out _ _ kt (fun hHeld => ?_)
            clear hK K
            try simp only [List.getElem_toArray, List.getElem_cons_succ, List.getElem_cons_zero, Act.put, List.setIfInBounds_toArray, List.set_cons_zero, List.set_cons_succ]
            refine wpAnyH_take (i := 11) (v := ?_) rfl (by kernel_rfl) (by kernel_rfl) (by kernel_rfl) (fun _ _ _ h => h) (Or.inl ⟨by rfl, ?_⟩) (by assumption) ?_
            rotate_left
            · intro W hW
              go_simp
              try rfl
            simp only [List.getElem_toArray, List.getElem_cons_succ, List.getElem_cons_zero, Act.put, List.setIfInBounds_toArray, List.set_cons_zero, List.set_cons_succ]
            refine wpAnyH_done (by kernel_rfl) ?_ _
            refine NoPanic.normal ?_
            have HY := hid (And.intro hown (And.intro kt hb))
            clear hown kt hb hHeld
            go_wp2_with fail
            go_meet
            exact ⟨_, _, l1, rfl, rfl, HRL, HY⟩
          · go_simp
            have hcb := conv_below wq1 5 nm
            refine hK.out _ _ (kt.under hcb) (fun hHeld => ?_)
            clear hK K
            have hr9 := conv_reads wq1 nm
            have hn9 : ∀ q, some q = some wq1.heap.size → some q ≠ (Value.slice C acc.length f).ownBlock := fun q hq h => by injection hq with hq; have := (hown.lt q h.symm).2; omega
            replace hown := own_below hown hcb
            replace kt := kt.under hcb
            replace hb := hb.trans (hcb.mono hb.size)
            replace hr5 := hr5.below hcb
            clear hconv hcb
            generalize Lib.bytesWorld wq1 5 nm = wq5 at *
            generalize grownCap wq1 nm.size 0 5 = G at *
            generalize wq1.heap.size = g9 at *
            try simp only [List.getElem_toArray, List.getElem_cons_succ, List.getElem_cons_zero, Act.put, List.setIfInBounds_toArray, List.set_cons_zero, List.set_cons_succ]
            refine wpAnyH_ready (rs := [6]) (by kernel_rfl) (by simp) ?_
            refine AllReadyH.cons rfl (fun K hK => ?_) AllReadyH.nil
            try rw [if_pos (by rfl)]
            refine wp_append_any _ (.tmp 25) (.tmp 30) 31 rfl w.heap.size 5 i0 (.int .u8 0) 1 1 Try.underlying31 HI.out.1 HI.out.2.1 HI.out.2.2.1 HI.out.2.2.2 rfl (by decide) _ acc.length (bsV acc) rfl hown (some ⟨g5, 0, none⟩) 1 1 [.int .u8 (nm.size : Nat)] rfl hr5 (by simp [Value.oneCell']) (by simp only [maxLen]; omega) (by omega) hb.size ?_
            intro v' wq6 hown' hg' hv'
            obtain ⟨C1, f1, rfl, _, _⟩ := own_form hown'
            replace kt := kt.grown hg' (own_not hown kt (by decide))
            replace hr9 := hr9.grownA hg' (hn9 _ rfl)
            replace hb := hb.grown hg' hb.size (fun k hk => (hown.lt k hk).1)
            obtain ⟨l0, hl0⟩ : ∃ l0, l0 = acc ++ [nm.size] := ⟨_, rfl⟩
            have hl1 : acc.length + 1 = l0.length := by rw [hl0]; simp
            rw [show bsV acc ++ [Value.int .u8 (nm.size : Nat)] = bsV (acc ++ [nm.size]) by simp [bsV], ← hl0, hl1] at hown'
            rw [hl1]
            have HL0 := hid (And.intro hl0 hl1)
            replace hown := hown'
            clear hg' hv' hown' hr5 hHeld hl0 hl1
            clear hn9
            refine hK.out _ _ kt (fun hHeld => ?_)
            clear hK K
            try simp only [List.getElem_toArray, List.getElem_cons_succ, List.getElem_cons_zero, Act.put, List.setIfInBounds_toArray, List.set_cons_zero, List.set_cons_succ]
            refine wpAnyH_ready (rs := [10]) (by kernel_rfl) (by simp) ?_
            refine AllReadyH.cons rfl (fun K hK => ?_) AllReadyH.nil
            try rw [if_pos (by rfl)]
            refine wp_append_any _ (.tmp 31) (.tmp 34) 31 rfl w.heap.size 5 i0 (.int .u8 0) 1 1 Try.underlying31 HI.out.1 HI.out.2.1 HI.out.2.2.1 HI.out.2.2.2 rfl (by decide) _ l0.length (bsV l0) rfl hown (some ⟨g9, 0, none⟩) nm.size G (bsV (nmL nm)) rfl hr9 (bsV_one _) (by have := HL0.out.2; simp only [maxLen]; omega) (by have := HL0.out.2; omega) hb.size ?_
            intro v' wq7 hown' hg' hv'
            obtain ⟨C2, f2, rfl, _, _⟩ := own_form hown'
            replace kt := kt.grown hg' (own_not hown kt (by decide))
            replace hb := hb.grown hg' hb.size (fun k hk => (hown.lt k hk).1)
            obtain ⟨l1, hl⟩ : ∃ l1, l1 = l0 ++ nmL nm := ⟨_, rfl⟩
            have hl2 : l0.length + nm.size = l1.length := by rw [hl, List.length_append, nmL_len]
            rw [← bsV_app, ← hl, hl2] at hown'
            rw [hl2]
            have HRL := hid (show l1 = acc ++ (nm.size :: nmL nm) by rw [hl, HL0.out.1, List.append_assoc]; rfl)
            clear hl hl2
            replace hown := hown'
            clear hg' hv' hown' hr9 hHeld
            try clear hn9
            refine hK.out _ _ kt (fun hHeld => ?_)
            clear hK K
            try simp only [List.getElem_toArray, List.getElem_cons_succ, List.getElem_cons_zero, Act.put, List.setIfInBounds_toArray, List.set_cons_zero, List.set_cons_succ]
            refine wpAnyH_take (i := 11) (v := ?_) rfl (by kernel_rfl) (by kernel_rfl) (by kernel_rfl) (fun _ _ _ h => h) (Or.inl ⟨by rfl, ?_⟩) (by assumption) ?_
            rotate_left
            · intro W hW
              go_simp
              try rfl
            simp only [List.getElem_toArray, List.getElem_cons_succ, List.getElem_cons_zero, Act.put, List.setIfInBounds_toArray, List.set_cons_zero, List.set_cons_succ]
            refine wpAnyH_done (by kernel_rfl) ?_ _
            refine NoPanic.normal ?_
            have HY := hid (And.intro hown (And.intro kt hb))
            clear hown kt hb hHeld
            go_wp2_with fail
            go_meet
            exact ⟨_, _, l1, rfl, rfl, HRL, HY⟩
        · go_simp
          have hcb := conv_below wa 5 nm
          refine hK.out _ _ (kt.under hcb) (fun hHeld => ?_)
          clear hK K
          have hr9 := conv_reads wa nm
          have hn9 : ∀ q, some q = some wa.heap.size → some q ≠ (Value.slice C acc.length f).ownBlock := fun q hq h => by injection hq with hq; have := (hown.lt q h.symm).2; omega
          replace hown := own_below hown hcb
          replace kt := kt.under hcb
          replace hb := hb.trans (hcb.mono hb.size)
          clear hconv hcb
          generalize Lib.bytesWorld wa 5 nm = wq8 at *
          generalize grownCap wa nm.size 0 5 = G at *
          generalize wa.heap.size = g9 at *
          try simp only [List.getElem_toArray, List.getElem_cons_succ, List.getElem_cons_zero, Act.put, List.setIfInBounds_toArray, List.set_cons_zero, List.set_cons_succ]
          refine wpAnyH_ready (rs := [5]) (by kernel_rfl) (by simp) ?_
          refine AllReadyH.cons rfl (fun K hK => ?_) AllReadyH.nil
          go_simp
          refine hK.out _ _ (kt.alloc _) (fun hHeld => ?_)
          clear hK K
          have hr5 := one_reads wq8 5 (.int .u8 (nm.size : Nat))
          replace hown := hown.alloc (.cells #[.int .u8 (nm.size : Nat)] 5)
          replace kt := kt.alloc (.cells #[.int .u8 (nm.size : Nat)] 5)
          replace hb := hb.alloc hb.size (.cells #[.int .u8 (nm.size : Nat)] 5)
          replace hr9 := hr9.alloc (.cells #[.int .u8 (nm.size : Nat)] 5)
          generalize wq8.alloc (.cells #[.int .u8 (nm.size : Nat)] 5) = wq9 at *
          generalize wq8.heap.size = g5 at *
          try simp only [List.getElem_toArray, List.getElem_cons_succ, List.getElem_cons_zero, Act.put, List.setIfInBounds_toArray, List.set_cons_zero, List.set_cons_succ]
          refine wpAnyH_ready (rs := [6]) (by kernel_rfl) (by simp) ?_
          refine AllReadyH.cons rfl (fun K hK => ?_) AllReadyH.nil
          try rw [if_pos (by rfl)]
          refine wp_append_any _ (.tmp 25) (.tmp 30) 31 rfl w.heap.size 5 i0 (.int .u8 0) 1 1 Try.underlying31 HI.out.1 HI.out.2.1 HI.out.2.2.1 HI.out.2.2.2 rfl (by decide) _ acc.length (bsV acc) rfl hown (some ⟨g5, 0, none⟩) 1 1 [.int .u8 (nm.size : Nat)] rfl hr5 (by simp [Value.oneCell']) (by simp only [maxLen]; omega) (by omega) hb.size ?_
          intro v' wq10 hown' hg' hv'
          obtain ⟨C1, f1, rfl, _, _⟩ := own_form hown'
          replace kt := kt.grown hg' (own_not hown kt (by decide))
          replace hr9 := hr9.grownA hg' (hn9 _ rfl)
          replace hb := hb.grown hg' hb.size (fun k hk => (hown.lt k hk).1)
          obtain ⟨l0, hl0⟩ : ∃ l0, l0 = acc ++ [nm.size] := ⟨_, rfl⟩
          have hl1 : acc.length + 1 = l0.length := by rw [hl0]; simp
          rw [show bsV acc ++ [Value.int .u8 (nm.size : Nat)] = bsV (acc ++ [nm.size]) by simp [bsV], ← hl0, hl1] at hown'
          rw [hl1]
          have HL0 := hid (And.intro hl0 hl1)
          replace hown := hown'
          clear hg' hv' hown' hr5 hHeld hl0 hl1
          clear hn9
          refine hK.out _ _ kt (fun hHeld => ?_)
          clear hK K
          try simp only [List.getElem_toArray, List.getElem_cons_succ, List.getElem_cons_zero, Act.put, List.setIfInBounds_toArray, List.set_cons_zero, List.set_cons_succ]
          refine wpAnyH_ready (rs := [10]) (by kernel_rfl) (by simp) ?_
          refine AllReadyH.cons rfl (fun K hK => ?_) AllReadyH.nil
          try rw [if_pos (by rfl)]
          refine wp_append_any _ (.tmp 31) (.tmp 34) 31 rfl w.heap.size 5 i0 (.int .u8 0) 1 1 Try.underlying31 HI.out.1 HI.out.2.1 HI.out.2.2.1 HI.out.2.2.2 rfl (by decide) _ l0.length (bsV l0) rfl hown (some ⟨g9, 0, none⟩) nm.size G (bsV (nmL nm)) rfl hr9 (bsV_one _) (by have := HL0.out.2; simp only [maxLen]; omega) (by have := HL0.out.2; omega) hb.size ?_
          intro v' wq11 hown' hg' hv'
          obtain ⟨C2, f2, rfl, _, _⟩ := own_form hown'
          replace kt := kt.grown hg' (own_not hown kt (by decide))
          replace hb := hb.grown hg' hb.size (fun k hk => (hown.lt k hk).1)
          obtain ⟨l1, hl⟩ : ∃ l1, l1 = l0 ++ nmL nm := ⟨_, rfl⟩
          have hl2 : l0.length + nm.size = l1.length := by rw [hl, List.length_append, nmL_len]
          rw [← bsV_app, ← hl, hl2] at hown'
          rw [hl2]
          have HRL := hid (show l1 = acc ++ (nm.size :: nmL nm) by rw [hl, HL0.out.1, List.append_assoc]; rfl)
          clear hl hl2
          replace hown := hown'
          clear hg' hv' hown' hr9 hHeld
          try clear hn9
          refine hK.out _ _ kt (fun hHeld => ?_)
          clear hK K
          try simp only [List.getElem_toArray, List.getElem_cons_succ, List.getElem_cons_zero, Act.put, List.setIfInBounds_toArray, List.set_cons_zero, List.set_cons_succ]
          refine wpAnyH_take (i := 11) (v := ?_) rfl (by kernel_rfl) (by kernel_rfl) (by kernel_rfl) (fun _ _ _ h => h) (Or.inl ⟨by rfl, ?_⟩) (by assumption) ?_
          rotate_left
          · intro W hW
            go_simp
            try rfl
          simp only [List.getElem_toArray, List.getElem_cons_succ, List.getElem_cons_zero, Act.put, List.setIfInBounds_toArray, List.set_cons_zero, List.set_cons_succ]
          refine wpAnyH_done (by kernel_rfl) ?_ _
          refine NoPanic.normal ?_
          have HY := hid (And.intro hown (And.intro kt hb))
          clear hown kt hb hHeld
          go_wp2_with fail
          go_meet
          exact ⟨_, _, l1, rfl, rfl, HRL, HY⟩
      case rest =>
        obtain ⟨C3, f3, l1, rfl, rfl, hl1, hy1⟩ := hcut
        have HT1 := hid (show tot = l1 ++ ([ep].flatMap vbI ++ (vb (fold64 sc) ++ ([fl, la + 1, ((ne : Nat) : Int)].flatMap vbI ++ (ensB 0 ee ++ ([((no : Nat) : Int)].flatMap vbI ++ (ptsB2 (0, 0) op ++ (es.drop (k + 1)).flatMap rowBy)))))) by
          rw [HR.out, hl1.out]; simp only [List.append_assoc, List.cons_append])
        clear HX HR hl1
        go_upto_region 6 with fail
        refine wp_region_noPanic ?_
        refine wp_region_held_drew (S := (fun W => Blk W g 42 (aR nm ep fl la sc (.slice ea ne ec) (.slice oa no oc)))) (by kernel_rfl) ((hy1.out.2.1).drew) (fun hHeld => ?_)
        have hown := hy1.out.1.drew
        have kt : Blk wc.drew g 42 (aR nm ep fl la sc (.slice ea ne ec) (.slice oa no oc)) := (hy1.out.2.1).drew
        have hb := hy1.out.2.2.drew
        have hal : l1.length ≤ 30000 := by have := HTL.out; rw [HT1.out, List.length_append] at this; omega
        have v1 := vbI_len fep.2
        have v2 := vb_len10 (fold64_lt fsc.1 fsc.2)
        clear hy1
        generalize wc.drew = wd6 at *
        refine wpAnyH_take (i := 0) (v := ?_) rfl (by kernel_rfl) (by kernel_rfl) (by kernel_rfl) (fun _ _ _ h => h) (Or.inl ⟨by rfl, ?_⟩) (by assumption) ?_
        rotate_left
        · intro W hW
          go_simp
          try rfl
        simp only [List.getElem_toArray, List.getElem_cons_zero, Act.put, List.setIfInBounds_toArray, List.set_cons_zero, List.set_cons_succ]
        refine wpAnyH_take (i := 1) (v := ?_) rfl (by kernel_rfl) (by kernel_rfl) (by kernel_rfl) (fun _ _ _ h => h) (Or.inl ⟨by rfl, ?_⟩) (by assumption) ?_
        rotate_left
        · intro W hW
          go_simp
          try rfl
        simp only [List.getElem_toArray, List.getElem_cons_succ, List.getElem_cons_zero, Act.put, List.setIfInBounds_toArray, List.set_cons_zero, List.set_cons_succ]
        refine wpAnyH_take (i := 2) (v := ?_) rfl (by kernel_rfl) (by kernel_rfl) (by kernel_rfl) (fun _ _ _ h => h) (Or.inl ⟨by rfl, ?_⟩) (by assumption) ?_
        rotate_left
        · intro W hW
          obtain ⟨x0, x1, x2, x3, x4, x5, x6⟩ := hW.seven
          go_simp
          try rfl
        simp only [List.getElem_toArray, List.getElem_cons_succ, List.getElem_cons_zero, Act.put, List.setIfInBounds_toArray, List.set_cons_zero, List.set_cons_succ]
        refine wpAnyH_take (i := 5) (v := ?_) rfl (by kernel_rfl) (by kernel_rfl) (by kernel_rfl) (fun _ _ _ h => h) (Or.inl ⟨by rfl, ?_⟩) (by assumption) ?_
        rotate_left
        · intro W hW
          go_simp
          try rfl
        simp only [List.getElem_toArray, List.getElem_cons_succ, List.getElem_cons_zero, Act.put, List.setIfInBounds_toArray, List.set_cons_zero, List.set_cons_succ]
        refine wpAnyH_take (i := 6) (v := ?_) rfl (by kernel_rfl) (by kernel_rfl) (by kernel_rfl) (fun _ _ _ h => h) (Or.inl ⟨by rfl, ?_⟩) (by assumption) ?_
        rotate_left
        · intro W hW
          obtain ⟨x0, x1, x2, x3, x4, x5, x6⟩ := hW.seven
          go_simp
          try rfl
        simp only [List.getElem_toArray, List.getElem_cons_succ, List.getElem_cons_zero, Act.put, List.setIfInBounds_toArray, List.set_cons_zero, List.set_cons_succ]
        refine wpAnyH_ready (rs := [3]) (by kernel_rfl) (by simp) ?_
        refine AllReadyH.cons rfl (fun K hK => ?_) AllReadyH.nil
        go_simp
        refine (plain22_d ep fep.1 fep.2 _).mono ?_
        rintro e we6 ⟨D1, g1, rfl, hown1, hb1⟩
        replace kt := (kt).under hb1
        replace hown := own_below hown hb1
        replace hb := hb.trans (hb1.mono hb.size)
        have hr1 := Reads.of_own hown1
        clear hHeld hb1 hown1
        refine hK.out _ _ kt (fun hHeld => ?_)
        clear hK K
        try simp only [List.getElem_toArray, List.getElem_cons_succ, List.getElem_cons_zero, Act.put, List.setIfInBounds_toArray, List.set_cons_zero, List.set_cons_succ]
        refine wpAnyH_ready (rs := [4]) (by kernel_rfl) (by simp) ?_
        refine AllReadyH.cons rfl (fun K hK => ?_) AllReadyH.nil
        try rw [if_pos (by rfl)]
        refine wp_append_any _ (.tmp 36) (.tmp 39) 31 rfl w.heap.size 5 i0 (.int .u8 0) 1 1 Try.underlying31 HI.out.1 HI.out.2.1 HI.out.2.2.1 HI.out.2.2.2 rfl (by decide) _ l1.length (bsV l1) rfl hown D1 (vbI ep).length g1 (bsV (vbI ep)) rfl hr1 (bsV_one _) (by simp only [maxLen]; omega) (by omega) hb.size ?_
        intro v' wf6 hown' hg' hv'
        obtain ⟨D2, f2, rfl, _, _⟩ := own_form hown'
        replace kt := (kt).grown hg' (own_not hown kt (by decide))
        replace hb := hb.grown hg' hb.size (fun k hk => (hown.lt k hk).1)
        obtain ⟨m6, hm6⟩ : ∃ a, a = l1 ++ vbI ep := ⟨_, rfl⟩
        have ea : l1.length + (vbI ep).length = m6.length := by rw [hm6, List.length_append]
        rw [← bsV_app, ← hm6, ea] at hown'
        rw [ea]
        have Hm6 := hid hm6
        have Lm6 : m6.length ≤ l1.length + 10 := by omega
        replace hown := hown'
        clear hg' hv' hown' hr1 hHeld hm6 ea
        refine hK.out _ _ kt (fun hHeld => ?_)
        clear hK K
        try simp only [List.getElem_toArray, List.getElem_cons_succ, List.getElem_cons_zero, Act.put, List.setIfInBounds_toArray, List.set_cons_zero, List.set_cons_succ]
        refine wpAnyH_ready (rs := [7]) (by kernel_rfl) (by simp) ?_
        refine AllReadyH.cons rfl (fun K hK => ?_) AllReadyH.nil
        go_simp
        refine (signed_c sc fsc.1 fsc.2 _).mono ?_
        rintro e wg6 ⟨D3, g3, rfl, hown1, hb1⟩
        replace kt := (kt).under hb1
        replace hown := own_below hown hb1
        replace hb := hb.trans (hb1.mono hb.size)
        have hr1 := Reads.of_own hown1
        clear hHeld hb1 hown1
        refine hK.out _ _ kt (fun hHeld => ?_)
        clear hK K
        try simp only [List.getElem_toArray, List.getElem_cons_succ, List.getElem_cons_zero, Act.put, List.setIfInBounds_toArray, List.set_cons_zero, List.set_cons_succ]
        refine wpAnyH_ready (rs := [8]) (by kernel_rfl) (by simp) ?_
        refine AllReadyH.cons rfl (fun K hK => ?_) AllReadyH.nil
        try rw [if_pos (by rfl)]
        refine wp_append_any _ (.tmp 40) (.tmp 43) 31 rfl w.heap.size 5 i0 (.int .u8 0) 1 1 Try.underlying31 HI.out.1 HI.out.2.1 HI.out.2.2.1 HI.out.2.2.2 rfl (by decide) _ m6.length (bsV m6) rfl hown D3 (vb (fold64 sc)).length g3 (bsV (vb (fold64 sc))) rfl hr1 (bsV_one _) (by simp only [maxLen]; omega) (by omega) hb.size ?_
        intro v' wh6 hown' hg' hv'
        obtain ⟨Q6, q6, rfl, _, _⟩ := own_form hown'
        replace kt := (kt).grown hg' (own_not hown kt (by decide))
        replace hb := hb.grown hg' hb.size (fun k hk => (hown.lt k hk).1)
        obtain ⟨l2, hl2⟩ : ∃ a, a = m6 ++ vb (fold64 sc) := ⟨_, rfl⟩
        have ea : m6.length + (vb (fold64 sc)).length = l2.length := by rw [hl2, List.length_append]
        rw [← bsV_app, ← hl2, ea] at hown'
        rw [ea]
        have Hl2 := hid hl2
        have Ll2 : l2.length ≤ m6.length + 10 := by omega
        replace hown := hown'
        clear hg' hv' hown' hr1 hHeld hl2 ea
        refine hK.out _ _ kt (fun hHeld => ?_)
        clear hK K
        try simp only [List.getElem_toArray, List.getElem_cons_succ, List.getElem_cons_zero, Act.put, List.setIfInBounds_toArray, List.set_cons_zero, List.set_cons_succ]
        refine wpAnyH_take (i := 9) (v := ?_) rfl (by kernel_rfl) (by kernel_rfl) (by kernel_rfl) (fun _ _ _ h => h) (Or.inl ⟨by rfl, ?_⟩) (by assumption) ?_
        rotate_left
        · intro W hW
          go_simp
          try rfl
        simp only [List.getElem_toArray, List.getElem_cons_succ, List.getElem_cons_zero, Act.put, List.setIfInBounds_toArray, List.set_cons_zero, List.set_cons_succ]
        refine wpAnyH_done (by kernel_rfl) ?_ _
        refine NoPanic.normal ?_
        have HT2 := hid (show tot = l2 ++ ([fl, la + 1, ((ne : Nat) : Int)].flatMap vbI ++ (ensB 0 ee ++ ([((no : Nat) : Int)].flatMap vbI ++ (ptsB2 (0, 0) op ++ (es.drop (k + 1)).flatMap rowBy)))) by rw [HT1.out, Hl2.out, Hm6.out]; simp only [List.flatMap_cons, List.flatMap_nil, List.append_nil, List.append_assoc])
        have HZ6 := hid (And.intro hown (And.intro kt hb))
        clear hown kt hb hHeld hal v1 v2 Lm6 Ll2 HT1
        have ula : IntKind.i64.wrap (la + 1) = la + 1 := by have := fla; rw [IntKind.wrap_i64]; omega
        go_upto_region 7 with fail
        refine wp_region_noPanic ?_
        refine wp_region_held_drew (S := (fun W => Blk W g 42 (aR nm ep fl la sc (.slice ea ne ec) (.slice oa no oc)))) (by kernel_rfl) ((HZ6.out.2.1).drew) (fun hHeld => ?_)
        have hown := HZ6.out.1.drew
        have kt : Blk wh6.drew g 42 (aR nm ep fl la sc (.slice ea ne ec) (.slice oa no oc)) := (HZ6.out.2.1).drew
        have hb := HZ6.out.2.2.drew
        have hal : l2.length ≤ 30000 := by have := HTL.out; rw [HT2.out, List.length_append] at this; omega
        have v1 := vbI_len ffl.2
        have v2 := vbI_len fla.2
        clear HZ6
        generalize wh6.drew = wd7 at *
        refine wpAnyH_take (i := 0) (v := ?_) rfl (by kernel_rfl) (by kernel_rfl) (by kernel_rfl) (fun _ _ _ h => h) (Or.inl ⟨by rfl, ?_⟩) (by assumption) ?_
        rotate_left
        · intro W hW
          go_simp
          try rfl
        simp only [List.getElem_toArray, List.getElem_cons_zero, Act.put, List.setIfInBounds_toArray, List.set_cons_zero, List.set_cons_succ]
        refine wpAnyH_take (i := 1) (v := ?_) rfl (by kernel_rfl) (by kernel_rfl) (by kernel_rfl) (fun _ _ _ h => h) (Or.inl ⟨by rfl, ?_⟩) (by assumption) ?_
        rotate_left
        · intro W hW
          go_simp
          try rfl
        simp only [List.getElem_toArray, List.getElem_cons_succ, List.getElem_cons_zero, Act.put, List.setIfInBounds_toArray, List.set_cons_zero, List.set_cons_succ]
        refine wpAnyH_take (i := 2) (v := ?_) rfl (by kernel_rfl) (by kernel_rfl) (by kernel_rfl) (fun _ _ _ h => h) (Or.inl ⟨by rfl, ?_⟩) (by assumption) ?_
        rotate_left
        · intro W hW
          obtain ⟨x0, x1, x2, x3, x4, x5, x6⟩ := hW.seven
          go_simp
          try rfl
        simp only [List.getElem_toArray, List.getElem_cons_succ, List.getElem_cons_zero, Act.put, List.setIfInBounds_toArray, List.set_cons_zero, List.set_cons_succ]
        refine wpAnyH_take (i := 5) (v := ?_) rfl (by kernel_rfl) (by kernel_rfl) (by kernel_rfl) (fun _ _ _ h => h) (Or.inl ⟨by rfl, ?_⟩) (by assumption) ?_
        rotate_left
        · intro W hW
          go_simp
          try rfl
        simp only [List.getElem_toArray, List.getElem_cons_succ, List.getElem_cons_zero, Act.put, List.setIfInBounds_toArray, List.set_cons_zero, List.set_cons_succ]
        refine wpAnyH_take (i := 6) (v := ?_) rfl (by kernel_rfl) (by kernel_rfl) (by kernel_rfl) (fun _ _ _ h => h) (Or.inl ⟨by rfl, ?_⟩) (by assumption) ?_
        rotate_left
        · intro W hW
          obtain ⟨x0, x1, x2, x3, x4, x5, x6⟩ := hW.seven
          go_simp
          try rfl
        simp only [List.getElem_toArray, List.getElem_cons_succ, List.getElem_cons_zero, Act.put, List.setIfInBounds_toArray, List.set_cons_zero, List.set_cons_succ]
        refine wpAnyH_take (i := 7) (v := ?_) rfl (by kernel_rfl) (by kernel_rfl) (by kernel_rfl) (fun _ _ _ h => h) (Or.inl ⟨by rfl, ?_⟩) (by assumption) ?_
        rotate_left
        · intro W hW
          go_simp
          try rfl
        simp only [List.getElem_toArray, List.getElem_cons_succ, List.getElem_cons_zero, Act.put, List.setIfInBounds_toArray, List.set_cons_zero, List.set_cons_succ]
        refine wpAnyH_ready (rs := [3]) (by kernel_rfl) (by simp) ?_
        refine AllReadyH.cons rfl (fun K hK => ?_) AllReadyH.nil
        go_simp
        refine (plain22_d fl ffl.1 ffl.2 _).mono ?_
        rintro e we7 ⟨D1, g1, rfl, hown1, hb1⟩
        replace kt := (kt).under hb1
        replace hown := own_below hown hb1
        replace hb := hb.trans (hb1.mono hb.size)
        have hr1 := Reads.of_own hown1
        clear hHeld hb1 hown1
        refine hK.out _ _ kt (fun hHeld => ?_)
        clear hK K
        try simp only [List.getElem_toArray, List.getElem_cons_succ, List.getElem_cons_zero, Act.put, List.setIfInBounds_toArray, List.set_cons_zero, List.set_cons_succ]
        refine wpAnyH_ready (rs := [4]) (by kernel_rfl) (by simp) ?_
        refine AllReadyH.cons rfl (fun K hK => ?_) AllReadyH.nil
        try rw [if_pos (by rfl)]
        refine wp_append_any _ (.tmp 45) (.tmp 48) 31 rfl w.heap.size 5 i0 (.int .u8 0) 1 1 Try.underlying31 HI.out.1 HI.out.2.1 HI.out.2.2.1 HI.out.2.2.2 rfl (by decide) _ l2.length (bsV l2) rfl hown D1 (vbI fl).length g1 (bsV (vbI fl)) rfl hr1 (bsV_one _) (by simp only [maxLen]; omega) (by omega) hb.size ?_
        intro v' wf7 hown' hg' hv'
        obtain ⟨D2, f2, rfl, _, _⟩ := own_form hown'
        replace kt := (kt).grown hg' (own_not hown kt (by decide))
        replace hb := hb.grown hg' hb.size (fun k hk => (hown.lt k hk).1)
        obtain ⟨m7, hm7⟩ : ∃ a, a = l2 ++ vbI fl := ⟨_, rfl⟩
        have ea : l2.length + (vbI fl).length = m7.length := by rw [hm7, List.length_append]
        rw [← bsV_app, ← hm7, ea] at hown'
        rw [ea]
        have Hm7 := hid hm7
        have Lm7 : m7.length ≤ l2.length + 10 := by omega
        replace hown := hown'
        clear hg' hv' hown' hr1 hHeld hm7 ea
        refine hK.out _ _ kt (fun hHeld => ?_)
        clear hK K
        try simp only [List.getElem_toArray, List.getElem_cons_succ, List.getElem_cons_zero, Act.put, List.setIfInBounds_toArray, List.set_cons_zero, List.set_cons_succ]
        refine wpAnyH_ready (rs := [8]) (by kernel_rfl) (by simp) ?_
        refine AllReadyH.cons rfl (fun K hK => ?_) AllReadyH.nil
        go_simp
        refine (plain22_d (la + 1) fla.1 fla.2 _).mono ?_
        rintro e wg7 ⟨D3, g3, rfl, hown1, hb1⟩
        replace kt := (kt).under hb1
        replace hown := own_below hown hb1
        replace hb := hb.trans (hb1.mono hb.size)
        have hr1 := Reads.of_own hown1
        clear hHeld hb1 hown1
        refine hK.out _ _ kt (fun hHeld => ?_)
        clear hK K
        try simp only [List.getElem_toArray, List.getElem_cons_succ, List.getElem_cons_zero, Act.put, List.setIfInBounds_toArray, List.set_cons_zero, List.set_cons_succ]
        refine wpAnyH_ready (rs := [9]) (by kernel_rfl) (by simp) ?_
        refine AllReadyH.cons rfl (fun K hK => ?_) AllReadyH.nil
        try rw [if_pos (by rfl)]
        refine wp_append_any _ (.tmp 49) (.tmp 53) 31 rfl w.heap.size 5 i0 (.int .u8 0) 1 1 Try.underlying31 HI.out.1 HI.out.2.1 HI.out.2.2.1 HI.out.2.2.2 rfl (by decide) _ m7.length (bsV m7) rfl hown D3 (vbI (la + 1)).length g3 (bsV (vbI (la + 1))) rfl hr1 (bsV_one _) (by simp only [maxLen]; omega) (by omega) hb.size ?_
        intro v' wh7 hown' hg' hv'
        obtain ⟨Q7, q7, rfl, _, _⟩ := own_form hown'
        replace kt := (kt).grown hg' (own_not hown kt (by decide))
        replace hb := hb.grown hg' hb.size (fun k hk => (hown.lt k hk).1)
        obtain ⟨l3, hl3⟩ : ∃ a, a = m7 ++ vbI (la + 1) := ⟨_, rfl⟩
        have ea : m7.length + (vbI (la + 1)).length = l3.length := by rw [hl3, List.length_append]
        rw [← bsV_app, ← hl3, ea] at hown'
        rw [ea]
        have Hl3 := hid hl3
        have Ll3 : l3.length ≤ m7.length + 10 := by omega
        replace hown := hown'
        clear hg' hv' hown' hr1 hHeld hl3 ea
        refine hK.out _ _ kt (fun hHeld => ?_)
        clear hK K
        try simp only [List.getElem_toArray, List.getElem_cons_succ, List.getElem_cons_zero, Act.put, List.setIfInBounds_toArray, List.set_cons_zero, List.set_cons_succ]
        refine wpAnyH_take (i := 10) (v := ?_) rfl (by kernel_rfl) (by kernel_rfl) (by kernel_rfl) (fun _ _ _ h => h) (Or.inl ⟨by rfl, ?_⟩) (by assumption) ?_
        rotate_left
        · intro W hW
          go_simp
          try rfl
        simp only [List.getElem_toArray, List.getElem_cons_succ, List.getElem_cons_zero, Act.put, List.setIfInBounds_toArray, List.set_cons_zero, List.set_cons_succ]
        refine wpAnyH_done (by kernel_rfl) ?_ _
        refine NoPanic.normal ?_
        have HT3 := hid (show tot = l3 ++ ([((ne : Nat) : Int)].flatMap vbI ++ (ensB 0 ee ++ ([((no : Nat) : Int)].flatMap vbI ++ (ptsB2 (0, 0) op ++ (es.drop (k + 1)).flatMap rowBy)))) by rw [HT2.out, Hl3.out, Hm7.out]; simp only [List.flatMap_cons, List.flatMap_nil, List.append_nil, List.append_assoc])
        have HZ7 := hid (And.intro hown (And.intro kt hb))
        clear hown kt hb hHeld hal v1 v2 Lm7 Ll3 HT2
        obtain ⟨x0, x1, x2, x3, x4, x5, x6⟩ := HZ7.out.2.1.seven
        have hnl : ne ≤ 100000 := by have t : en.length ≤ 50000 := HXI.out.1.henl; rw [HXI.out.2.1]; omega
        have HPN := hid (plain22_d ((ne : Nat) : Int) (by omega) (by omega) wh7)
        go_wp2_with fail
        refine HPN.out.mono ?_
        rintro e w8 ⟨D1, g1, rfl, hown1, hb1⟩
        have hown := own_below HZ7.out.1 hb1
        have kt := HZ7.out.2.1.under hb1
        have hb := HZ7.out.2.2.trans (hb1.mono HZ7.out.2.2.size)
        have hr1 := Reads.of_own hown1
        have v1 := vbI_len (z := ((ne : Nat) : Int)) (by omega)
        have hal : l3.length ≤ 30000 := by have := HTL.out; rw [HT3.out, List.length_append] at this; omega
        clear hown1 hb1 HPN HZ7 x0 x1 x2 x3 x4 x5 x6
        obtain ⟨b1, hb1⟩ : ∃ b, b = vbI ((ne : Nat) : Int) := ⟨_, rfl⟩
        rw [← hb1] at hr1 v1 ⊢
        have HB1 := hid hb1
        clear hb1
        go_upto_region 9 with (at_builtin; refine wpList_append_any _ rfl (.tmp 55) (.tmp 59) 31 rfl w.heap.size 5 i0 (.int .u8 0) 1 1 Try.underlying31 HI.out.1 HI.out.2.1 HI.out.2.2.1 HI.out.2.2.2 rfl (by decide) _ l3.length (bsV l3) rfl hown D1 b1.length g1 (bsV b1) rfl hr1 (bsV_one _) (by simp only [maxLen]; omega) (by omega) hb.size ?_; intro v' w9 hown' hg' hv')
        obtain ⟨Q8, q8, rfl, _, _⟩ := own_form hown'
        replace kt := kt.grown hg' (own_not hown kt (by decide))
        replace hb := hb.grown hg' hb.size (fun k hk => (hown.lt k hk).1)
        obtain ⟨l4, hl4⟩ : ∃ a, a = l3 ++ b1 := ⟨_, rfl⟩
        have ea : l3.length + b1.length = l4.length := by rw [hl4, List.length_append]
        rw [← bsV_app, ← hl4, ea] at hown'
        rw [ea]
        have HT4 := hid (show tot = l4 ++ (ensB 0 ee ++ ([((no : Nat) : Int)].flatMap vbI ++ (ptsB2 (0, 0) op ++ (es.drop (k + 1)).flatMap rowBy))) by rw [HT3.out, hl4, HB1.out]; simp only [List.flatMap_cons, List.flatMap_nil, List.append_nil, List.append_assoc])
        have HZ8 := hid (And.intro hown' (And.intro kt hb))
        obtain ⟨x0, x1, x2, x3, x4, x5, x6⟩ := kt.seven
        clear hown hown' hg' hv' kt hb hr1 v1 hal ea hl4 HT3 HB1 x0 x1 x2 x3 x4 x6
        go_wp2_with fail
        clear x5
        obtain ⟨rs, hrs⟩ : ∃ rs, rs = [((no : Nat) : Int)].flatMap vbI ++ (ptsB2 (0, 0) op ++ (es.drop (k + 1)).flatMap rowBy) := ⟨_, rfl⟩
        have HRS := hid hrs
        rw [← hrs] at HT4
        clear hrs
        go_loopw [3, 64] (fun u3 u64 wr => ∃ (i : Nat) (C : Option Addr) (f : Nat) (l : List Nat), i ≤ ne ∧ u64 = .int .i64 (i : Nat) ∧ u3 = .slice C l.length f ∧ Hid (OwnY w.heap.size wr C f l ∧ Blk wr g 42 (aR nm ep fl la sc (.slice ea ne ec) (.slice oa no oc)) ∧ Below w.heap.size w wr) ∧ Hid (tot = l ++ (ensB (ahE ee i) (ee.drop i) ++ rs) ∧ FitE (ahE ee i) (ee.drop i))) (fun _ u64 _ => ne - (intOf u64).toNat)
        case atStart => exact ⟨0, Q8, q8, l4, Nat.zero_le _, rfl, rfl, HZ8, hid ⟨HT4.out, HFE.out⟩⟩
        case round =>
          obtain ⟨i, C, f, l, hi, rfl, rfl, hst, hrl⟩ := hrel
          obtain ⟨wo, rfl⟩ : ∃ wo : World, wo = wr := ⟨_, rfl⟩
          by_cases hlt : i < ne
          · obtain ⟨er, hrw⟩ := HXI.out.1.en
            obtain ⟨ae, x, rfl, hx, hxl, c0, c1, c2, c3, c4⟩ := en_at (hrw.below hst.out.2.2) (by rw [← HXI.out.2.1]; exact hlt)
            have hxin := HXI.out.1.ens x (List.mem_of_getElem? hx)
            obtain ⟨⟨xfs, xls, xct, xby, xps⟩, xa, xc⟩ := x
            simp only at c0 c1 c2 c3 c4
            have hxe : ee[i]? = some ⟨xfs, xls, xct, xby, xps⟩ := by rw [HXI.out.2.2.2, List.getElem?_map, hx]; rfl
            have hdr : ee.drop i = ⟨xfs, xls, xct, xby, xps⟩ :: ee.drop (i + 1) := by
              rw [List.drop_eq_getElem_cons (List.getElem?_eq_some_iff.1 hxe).1, (List.getElem?_eq_some_iff.1 hxe).2]
            have HAH := hid (show ahE ee (i + 1) = xls by unfold ahE; rw [if_neg (by omega), Nat.add_sub_cancel, hxe]; rfl)
            obtain ⟨ah, hah⟩ : ∃ ah, ah = ahE ee i := ⟨_, rfl⟩
            have hrl2 := hrl.out
            rw [hdr, ← hah] at hrl2
            obtain ⟨ht, ⟨f1, f2, f3, f4, f5⟩, hfe⟩ := hrl2
            simp only at f1 f2 f3 f4 f5
            have HTE0 := hid (show tot = l ++ (vbI (xfs - ah) ++ (vbI (xls - xfs) ++ ([xct, xby].flatMap vbI ++ (xps.flatMap vbI ++ (ensB xls (ee.drop (i + 1)) ++ rs))))) by
              rw [ht]
              show l ++ ((entB ah ⟨xfs, xls, xct, xby, xps⟩ ++ ensB xls (ee.drop (i + 1))) ++ rs) = _
              unfold entB
              simp only [List.flatMap_cons, List.flatMap_nil, List.append_nil, List.append_assoc])
            have hw1 : IntKind.i64.wrap (xfs - ah) = xfs - ah := by have := f1.1; have := f1.2; rw [IntKind.wrap_i64]; omega
            have hw2 : IntKind.i64.wrap (xls - xfs) = xls - xfs := by have := f2.1; have := f2.2; rw [IntKind.wrap_i64]; omega
            have HG := hid (And.intro f1 (And.intro f2 (And.intro f3 (And.intro f4 f5))))
            have HFE1 := hid hfe
            have HXIN := hid hxin
            obtain ⟨ge, hge⟩ : ∃ ge, ge = wo.heap.size := ⟨_, rfl⟩
            obtain ⟨w5, hw5⟩ : ∃ w5, w5 = wo.alloc (.cells (aE xfs xls xct (.slice xa xps.length xc) xby) 45) := ⟨_, rfl⟩
            have kE : Blk w5 ge 45 (aE xfs xls xct (.slice xa xps.length xc) xby) := by rw [hw5, hge]; exact Blk.new _ _ _
            have kR : Blk w5 g 42 (aR nm ep fl la sc (.slice (some ae) ne ec) (.slice oa no oc)) := by rw [hw5]; exact hst.out.2.1.alloc _
            have ho5 : OwnY w.heap.size w5 C f l := by rw [hw5]; exact hst.out.1.alloc _
            have hb5 : Below w.heap.size w w5 := by rw [hw5]; exact hst.out.2.2.alloc hst.out.2.2.size _
            have HPRE := hid (show 0 < i → ∃ z, w5.cell? ⟨(ae.add ((i - 1) * 5)).block, (ae.add ((i - 1) * 5)).off + 1, none⟩ = some (.int .i64 z) ∧ z = ah from fun h0 => by
              obtain ⟨ae', x', he, hx', _, _, d1, _⟩ := en_at (hrw.below hb5) (show i - 1 < en.length by rw [← HXI.out.2.1]; omega)
              injection he with he
              subst he
              refine ⟨_, d1, ?_⟩
              rw [hah, HXI.out.2.2.2]; unfold ahE; rw [if_neg (by omega), List.getElem?_map, hx']; rfl)
            have HAZ := hid (show i = 0 → ah = 0 from fun h => by rw [hah, h]; rfl)
            have HE0 := hid (And.intro ho5 (And.intro (And.intro kE kR) hb5))
            have hltI : (i : Int) < (ne : Int) := by omega
            have h0I : (0 : Int) ≤ (i : Int) := by omega
            clear hrw hx hxl hxin hxe hdr hah ht f1 f2 f3 f4 f5 hfe kE kR ho5 hb5 hst hrl HT4 HZ8
            go_upto_region 13 with fail
            rw [← hw5]
            try rw [← hge]
            clear c0 c1 c2 c3 c4 hw5 hge hltI h0I
            go_upto_if 70 with fail
            go_cut [3, 8, 64] from 64 to 113 (fun u3 u8 u64 wx => u3 = .slice C l.length f ∧ u8 = .int .i64 ah ∧ u64 = .int .i64 (i : Nat) ∧ wx = w5)
            case first =>
              obtain ⟨x0, x1, x2, x3, x4, x5, x6⟩ := HE0.out.2.1.2.seven
              clear x0 x1 x2 x3 x4 x6
              by_cases h0 : 0 < i
              · obtain ⟨z, hz1, rfl⟩ := HPRE.out h0
                obtain ⟨i', hi'⟩ : ∃ i', i' = i - 1 := ⟨_, rfl⟩
                have hz2 := hz1
                rw [← hi'] at hz1
                have hsub : wrap64 ((i : Int) - 1) = ((i' : Nat) : Int) := by unfold wrap64; omega
                have hlt2 : ((i' : Nat) : Int) < (ne : Int) := by omega
                have hi0' : (0 : Int) ≤ (i' : Int) := by omega
                have h0' : (0 : Int) < (i : Int) := by omega
                clear hi'
                go_wp2_with fail
                go_meet
                exact ⟨rfl, rfl, rfl, rfl⟩
              · have hz := HAZ.out (by omega)
                have h0' : (i : Int) ≤ 0 := by omega
                go_wp2_with fail
                go_meet
                exact ⟨rfl, by rw [hz], rfl, rfl⟩
            obtain ⟨rfl, rfl, rfl, rfl⟩ := hcut
            obtain ⟨w5, rfl⟩ : ∃ x : World, x = wc := ⟨_, rfl⟩
            clear HPRE HAZ
            go_upto_region 15 with fail
            refine wp_region_noPanic ?_
            refine wp_region_held_drew (S := (fun W => Blk W ge 45 (aE xfs xls xct (.slice xa xps.length xc) xby) ∧ Blk W g 42 (aR nm ep fl la sc (.slice (some ae) ne ec) (.slice oa no oc)))) (by kernel_rfl) (And.intro ((HE0.out.2.1.1).drew) ((HE0.out.2.1.2).drew)) (fun hHeld => ?_)
            have hown := HE0.out.1.drew
            have kt : Blk w5.drew ge 45 (aE xfs xls xct (.slice xa xps.length xc) xby) ∧ Blk w5.drew g 42 (aR nm ep fl la sc (.slice (some ae) ne ec) (.slice oa no oc)) := And.intro ((HE0.out.2.1.1).drew) ((HE0.out.2.1.2).drew)
            have hb := HE0.out.2.2.drew
            have hal : l.length ≤ 30000 := by have := HTL.out; rw [HTE0.out, List.length_append] at this; omega
            have v1 := vbI_len HG.out.1.2
            have v2 := vbI_len HG.out.2.1.2
            clear HE0
            generalize w5.drew = wd15 at *
            refine wpAnyH_take (i := 0) (v := ?_) rfl (by kernel_rfl) (by kernel_rfl) (by kernel_rfl) (fun _ _ _ h => h) (Or.inl ⟨by rfl, ?_⟩) (by assumption) ?_
            rotate_left
            · intro W hW
              go_simp
              try rfl
            simp only [List.getElem_toArray, List.getElem_cons_zero, Act.put, List.setIfInBounds_toArray, List.set_cons_zero, List.set_cons_succ]
            refine wpAnyH_take (i := 1) (v := ?_) rfl (by kernel_rfl) (by kernel_rfl) (by kernel_rfl) (fun _ _ _ h => h) (Or.inl ⟨by rfl, ?_⟩) (by assumption) ?_
            rotate_left
            · intro W hW
              go_simp
              try rfl
            simp only [List.getElem_toArray, List.getElem_cons_succ, List.getElem_cons_zero, Act.put, List.setIfInBounds_toArray, List.set_cons_zero, List.set_cons_succ]
            refine wpAnyH_take (i := 2) (v := ?_) rfl (by kernel_rfl) (by kernel_rfl) (by kernel_rfl) (fun _ _ _ h => h) (Or.inl ⟨by rfl, ?_⟩) (by assumption) ?_
            rotate_left
            · intro W hW
              obtain ⟨x0, x1, x2, x3, x4⟩ := hW.1.fivec
              go_simp
              try rfl
            simp only [List.getElem_toArray, List.getElem_cons_succ, List.getElem_cons_zero, Act.put, List.setIfInBounds_toArray, List.set_cons_zero, List.set_cons_succ]
            refine wpAnyH_take (i := 3) (v := ?_) rfl (by kernel_rfl) (by kernel_rfl) (by kernel_rfl) (fun _ _ _ h => h) (Or.inl ⟨by rfl, ?_⟩) (by assumption) ?_
            rotate_left
            · intro W hW
              go_simp
              try rfl
            simp only [List.getElem_toArray, List.getElem_cons_succ, List.getElem_cons_zero, Act.put, List.setIfInBounds_toArray, List.set_cons_zero, List.set_cons_succ]
            refine wpAnyH_take (i := 4) (v := ?_) rfl (by kernel_rfl) (by kernel_rfl) (by kernel_rfl) (fun _ _ _ h => h) (Or.inl ⟨by rfl, ?_⟩) (by assumption) ?_
            rotate_left
            · intro W hW
              go_simp
              try rfl
            simp only [List.getElem_toArray, List.getElem_cons_succ, List.getElem_cons_zero, Act.put, List.setIfInBounds_toArray, List.set_cons_zero, List.set_cons_succ]
            refine wpAnyH_take (i := 7) (v := ?_) rfl (by kernel_rfl) (by kernel_rfl) (by kernel_rfl) (fun _ _ _ h => h) (Or.inl ⟨by rfl, ?_⟩) (by assumption) ?_
            rotate_left
            · intro W hW
              go_simp
              try rfl
            simp only [List.getElem_toArray, List.getElem_cons_succ, List.getElem_cons_zero, Act.put, List.setIfInBounds_toArray, List.set_cons_zero, List.set_cons_succ]
            refine wpAnyH_take (i := 8) (v := ?_) rfl (by kernel_rfl) (by kernel_rfl) (by kernel_rfl) (fun _ _ _ h => h) (Or.inl ⟨by rfl, ?_⟩) (by assumption) ?_
            rotate_left
            · intro W hW
              obtain ⟨x0, x1, x2, x3, x4⟩ := hW.1.fivec
              go_simp
              try rfl
            simp only [List.getElem_toArray, List.getElem_cons_succ, List.getElem_cons_zero, Act.put, List.setIfInBounds_toArray, List.set_cons_zero, List.set_cons_succ]
            refine wpAnyH_take (i := 9) (v := ?_) rfl (by kernel_rfl) (by kernel_rfl) (by kernel_rfl) (fun _ _ _ h => h) (Or.inl ⟨by rfl, ?_⟩) (by assumption) ?_
            rotate_left
            · intro W hW
              go_simp
              try rfl
            simp only [List.getElem_toArray, List.getElem_cons_succ, List.getElem_cons_zero, Act.put, List.setIfInBounds_toArray, List.set_cons_zero, List.set_cons_succ]
            refine wpAnyH_take (i := 10) (v := ?_) rfl (by kernel_rfl) (by kernel_rfl) (by kernel_rfl) (fun _ _ _ h => h) (Or.inl ⟨by rfl, ?_⟩) (by assumption) ?_
            rotate_left
            · intro W hW
              obtain ⟨x0, x1, x2, x3, x4⟩ := hW.1.fivec
              go_simp
              try rfl
            simp only [List.getElem_toArray, List.getElem_cons_succ, List.getElem_cons_zero, Act.put, List.setIfInBounds_toArray, List.set_cons_zero, List.set_cons_succ]
            refine wpAnyH_take (i := 11) (v := ?_) rfl (by kernel_rfl) (by kernel_rfl) (by kernel_rfl) (fun _ _ _ h => h) (Or.inl ⟨by rfl, ?_⟩) (by assumption) ?_
            rotate_left
            · intro W hW
              go_simp
              try rfl
            simp only [List.getElem_toArray, List.getElem_cons_succ, List.getElem_cons_zero, Act.put, List.setIfInBounds_toArray, List.set_cons_zero, List.set_cons_succ]
            refine wpAnyH_ready (rs := [5]) (by kernel_rfl) (by simp) ?_
            refine AllReadyH.cons rfl (fun K hK => ?_) AllReadyH.nil
            go_simp
            refine (plain22_d (xfs - ah) HG.out.1.1 HG.out.1.2 _).mono ?_
            rintro e we15 ⟨D1, g1, rfl, hown1, hb1⟩
            replace kt := And.intro ((kt.1).under hb1) ((kt.2).under hb1)
            replace hown := own_below hown hb1
            replace hb := hb.trans (hb1.mono hb.size)
            have hr1 := Reads.of_own hown1
            clear hHeld hb1 hown1
            refine hK.out _ _ kt (fun hHeld => ?_)
            clear hK K
            try simp only [List.getElem_toArray, List.getElem_cons_succ, List.getElem_cons_zero, Act.put, List.setIfInBounds_toArray, List.set_cons_zero, List.set_cons_succ]
            refine wpAnyH_ready (rs := [6]) (by kernel_rfl) (by simp) ?_
            refine AllReadyH.cons rfl (fun K hK => ?_) AllReadyH.nil
            try rw [if_pos (by rfl)]
            refine wp_append_any _ (.tmp 78) (.tmp 83) 31 rfl w.heap.size 5 i0 (.int .u8 0) 1 1 Try.underlying31 HI.out.1 HI.out.2.1 HI.out.2.2.1 HI.out.2.2.2 rfl (by decide) _ l.length (bsV l) rfl hown D1 (vbI (xfs - ah)).length g1 (bsV (vbI (xfs - ah))) rfl hr1 (bsV_one _) (by simp only [maxLen]; omega) (by omega) hb.size ?_
            intro v' wf15 hown' hg' hv'
            obtain ⟨D2, f2, rfl, _, _⟩ := own_form hown'
            replace kt := And.intro ((kt.1).grown hg' (own_not hown kt.1 (by decide))) ((kt.2).grown hg' (own_not hown kt.2 (by decide)))
            replace hb := hb.grown hg' hb.size (fun k hk => (hown.lt k hk).1)
            obtain ⟨m15, hm15⟩ : ∃ a, a = l ++ vbI (xfs - ah) := ⟨_, rfl⟩
            have ea : l.length + (vbI (xfs - ah)).length = m15.length := by rw [hm15, List.length_append]
            rw [← bsV_app, ← hm15, ea] at hown'
            rw [ea]
            have Hm15 := hid hm15
            have Lm15 : m15.length ≤ l.length + 10 := by omega
            replace hown := hown'
            clear hg' hv' hown' hr1 hHeld hm15 ea
            refine hK.out _ _ kt (fun hHeld => ?_)
            clear hK K
            try simp only [List.getElem_toArray, List.getElem_cons_succ, List.getElem_cons_zero, Act.put, List.setIfInBounds_toArray, List.set_cons_zero, List.set_cons_succ]
            refine wpAnyH_ready (rs := [12]) (by kernel_rfl) (by simp) ?_
            refine AllReadyH.cons rfl (fun K hK => ?_) AllReadyH.nil
            go_simp
            refine (plain22_d (xls - xfs) HG.out.2.1.1 HG.out.2.1.2 _).mono ?_
            rintro e wg15 ⟨D3, g3, rfl, hown1, hb1⟩
            replace kt := And.intro ((kt.1).under hb1) ((kt.2).under hb1)
            replace hown := own_below hown hb1
            replace hb := hb.trans (hb1.mono hb.size)
            have hr1 := Reads.of_own hown1
            clear hHeld hb1 hown1
            refine hK.out _ _ kt (fun hHeld => ?_)
            clear hK K
            try simp only [List.getElem_toArray, List.getElem_cons_succ, List.getElem_cons_zero, Act.put, List.setIfInBounds_toArray, List.set_cons_zero, List.set_cons_succ]
            refine wpAnyH_ready (rs := [13]) (by kernel_rfl) (by simp) ?_
            refine AllReadyH.cons rfl (fun K hK => ?_) AllReadyH.nil
            try rw [if_pos (by rfl)]
            refine wp_append_any _ (.tmp 84) (.tmp 90) 31 rfl w.heap.size 5 i0 (.int .u8 0) 1 1 Try.underlying31 HI.out.1 HI.out.2.1 HI.out.2.2.1 HI.out.2.2.2 rfl (by decide) _ m15.length (bsV m15) rfl hown D3 (vbI (xls - xfs)).length g3 (bsV (vbI (xls - xfs))) rfl hr1 (bsV_one _) (by simp only [maxLen]; omega) (by omega) hb.size ?_
            intro v' wh15 hown' hg' hv'
            obtain ⟨Q15, q15, rfl, _, _⟩ := own_form hown'
            replace kt := And.intro ((kt.1).grown hg' (own_not hown kt.1 (by decide))) ((kt.2).grown hg' (own_not hown kt.2 (by decide)))
            replace hb := hb.grown hg' hb.size (fun k hk => (hown.lt k hk).1)
            obtain ⟨l5, hl5⟩ : ∃ a, a = m15 ++ vbI (xls - xfs) := ⟨_, rfl⟩
            have ea : m15.length + (vbI (xls - xfs)).length = l5.length := by rw [hl5, List.length_append]
            rw [← bsV_app, ← hl5, ea] at hown'
            rw [ea]
            have Hl5 := hid hl5
            have Ll5 : l5.length ≤ m15.length + 10 := by omega
            replace hown := hown'
            clear hg' hv' hown' hr1 hHeld hl5 ea
            refine hK.out _ _ kt (fun hHeld => ?_)
            clear hK K
            try simp only [List.getElem_toArray, List.getElem_cons_succ, List.getElem_cons_zero, Act.put, List.setIfInBounds_toArray, List.set_cons_zero, List.set_cons_succ]
            refine wpAnyH_take (i := 14) (v := ?_) rfl (by kernel_rfl) (by kernel_rfl) (by kernel_rfl) (fun _ _ _ h => h) (Or.inl ⟨by rfl, ?_⟩) (by assumption) ?_
            rotate_left
            · intro W hW
              go_simp
              try rfl
            simp only [List.getElem_toArray, List.getElem_cons_succ, List.getElem_cons_zero, Act.put, List.setIfInBounds_toArray, List.set_cons_zero, List.set_cons_succ]
            refine wpAnyH_done (by kernel_rfl) ?_ _
            refine NoPanic.normal ?_
            have HTE1 := hid (show tot = l5 ++ ([xct, xby].flatMap vbI ++ (xps.flatMap vbI ++ (ensB xls (ee.drop (i + 1)) ++ rs))) by rw [HTE0.out, Hl5.out, Hm15.out]; simp only [List.flatMap_cons, List.flatMap_nil, List.append_nil, List.append_assoc])
            have HZ15 := hid (And.intro hown (And.intro kt hb))
            clear hown kt hb hHeld hal v1 v2 Lm15 Ll5 HTE0
            go_upto_region 16 with fail
            refine wp_region_noPanic ?_
            refine wp_region_held_drew (S := (fun W => Blk W ge 45 (aE xfs xls xct (.slice xa xps.length xc) xby) ∧ Blk W g 42 (aR nm ep fl la sc (.slice (some ae) ne ec) (.slice oa no oc)))) (by kernel_rfl) (And.intro ((HZ15.out.2.1.1).drew) ((HZ15.out.2.1.2).drew)) (fun hHeld => ?_)
            have hown := HZ15.out.1.drew
            have kt : Blk wh15.drew ge 45 (aE xfs xls xct (.slice xa xps.length xc) xby) ∧ Blk wh15.drew g 42 (aR nm ep fl la sc (.slice (some ae) ne ec) (.slice oa no oc)) := And.intro ((HZ15.out.2.1.1).drew) ((HZ15.out.2.1.2).drew)
            have hb := HZ15.out.2.2.drew
            have hal : l5.length ≤ 30000 := by have := HTL.out; rw [HTE1.out, List.length_append] at this; omega
            have v1 := vbI_len HG.out.2.2.1.2
            have v2 := vbI_len HG.out.2.2.2.1.2
            clear HZ15
            generalize wh15.drew = wd16 at *
            refine wpAnyH_take (i := 0) (v := ?_) rfl (by kernel_rfl) (by kernel_rfl) (by kernel_rfl) (fun _ _ _ h => h) (Or.inl ⟨by rfl, ?_⟩) (by assumption) ?_
            rotate_left
            · intro W hW
              go_simp
              try rfl
            simp only [List.getElem_toArray, List.getElem_cons_zero, Act.put, List.setIfInBounds_toArray, List.set_cons_zero, List.set_cons_succ]
            refine wpAnyH_take (i := 1) (v := ?_) rfl (by kernel_rfl) (by kernel_rfl) (by kernel_rfl) (fun _ _ _ h => h) (Or.inl ⟨by rfl, ?_⟩) (by assumption) ?_
            rotate_left
            · intro W hW
              go_simp
              try rfl
            simp only [List.getElem_toArray, List.getElem_cons_succ, List.getElem_cons_zero, Act.put, List.setIfInBounds_toArray, List.set_cons_zero, List.set_cons_succ]
            refine wpAnyH_take (i := 2) (v := ?_) rfl (by kernel_rfl) (by kernel_rfl) (by kernel_rfl) (fun _ _ _ h => h) (Or.inl ⟨by rfl, ?_⟩) (by assumption) ?_
            rotate_left
            · intro W hW
              obtain ⟨x0, x1, x2, x3, x4⟩ := hW.1.fivec
              go_simp
              try rfl
            simp only [List.getElem_toArray, List.getElem_cons_succ, List.getElem_cons_zero, Act.put, List.setIfInBounds_toArray, List.set_cons_zero, List.set_cons_succ]
            refine wpAnyH_take (i := 5) (v := ?_) rfl (by kernel_rfl) (by kernel_rfl) (by kernel_rfl) (fun _ _ _ h => h) (Or.inl ⟨by rfl, ?_⟩) (by assumption) ?_
            rotate_left
            · intro W hW
              go_simp
              try rfl
            simp only [List.getElem_toArray, List.getElem_cons_succ, List.getElem_cons_zero, Act.put, List.setIfInBounds_toArray, List.set_cons_zero, List.set_cons_succ]
            refine wpAnyH_take (i := 6) (v := ?_) rfl (by kernel_rfl) (by kernel_rfl) (by kernel_rfl) (fun _ _ _ h => h) (Or.inl ⟨by rfl, ?_⟩) (by assumption) ?_
            rotate_left
            · intro W hW
              obtain ⟨x0, x1, x2, x3, x4⟩ := hW.1.fivec
              go_simp
              try rfl
            simp only [List.getElem_toArray, List.getElem_cons_succ, List.getElem_cons_zero, Act.put, List.setIfInBounds_toArray, List.set_cons_zero, List.set_cons_succ]
            refine wpAnyH_ready (rs := [3]) (by kernel_rfl) (by simp) ?_
            refine AllReadyH.cons rfl (fun K hK => ?_) AllReadyH.nil
            go_simp
            refine (plain22_d xct HG.out.2.2.1.1 HG.out.2.2.1.2 _).mono ?_
            rintro e we16 ⟨D1, g1, rfl, hown1, hb1⟩
            replace kt := And.intro ((kt.1).under hb1) ((kt.2).under hb1)
            replace hown := own_below hown hb1
            replace hb := hb.trans (hb1.mono hb.size)
            have hr1 := Reads.of_own hown1
            clear hHeld hb1 hown1
            refine hK.out _ _ kt (fun hHeld => ?_)
            clear hK K
            try simp only [List.getElem_toArray, List.getElem_cons_succ, List.getElem_cons_zero, Act.put, List.setIfInBounds_toArray, List.set_cons_zero, List.set_cons_succ]
            refine wpAnyH_ready (rs := [4]) (by kernel_rfl) (by simp) ?_
            refine AllReadyH.cons rfl (fun K hK => ?_) AllReadyH.nil
            try rw [if_pos (by rfl)]
            refine wp_append_any _ (.tmp 92) (.tmp 95) 31 rfl w.heap.size 5 i0 (.int .u8 0) 1 1 Try.underlying31 HI.out.1 HI.out.2.1 HI.out.2.2.1 HI.out.2.2.2 rfl (by decide) _ l5.length (bsV l5) rfl hown D1 (vbI xct).length g1 (bsV (vbI xct)) rfl hr1 (bsV_one _) (by simp only [maxLen]; omega) (by omega) hb.size ?_
            intro v' wf16 hown' hg' hv'
            obtain ⟨D2, f2, rfl, _, _⟩ := own_form hown'
            replace kt := And.intro ((kt.1).grown hg' (own_not hown kt.1 (by decide))) ((kt.2).grown hg' (own_not hown kt.2 (by decide)))
            replace hb := hb.grown hg' hb.size (fun k hk => (hown.lt k hk).1)
            obtain ⟨m16, hm16⟩ : ∃ a, a = l5 ++ vbI xct := ⟨_, rfl⟩
            have ea : l5.length + (vbI xct).length = m16.length := by rw [hm16, List.length_append]
            rw [← bsV_app, ← hm16, ea] at hown'
            rw [ea]
            have Hm16 := hid hm16
            have Lm16 : m16.length ≤ l5.length + 10 := by omega
            replace hown := hown'
            clear hg' hv' hown' hr1 hHeld hm16 ea
            refine hK.out _ _ kt (fun hHeld => ?_)
            clear hK K
            try simp only [List.getElem_toArray, List.getElem_cons_succ, List.getElem_cons_zero, Act.put, List.setIfInBounds_toArray, List.set_cons_zero, List.set_cons_succ]
            refine wpAnyH_ready (rs := [7]) (by kernel_rfl) (by simp) ?_
            refine AllReadyH.cons rfl (fun K hK => ?_) AllReadyH.nil
            go_simp
            refine (plain22_d xby HG.out.2.2.2.1.1 HG.out.2.2.2.1.2 _).mono ?_
            rintro e wg16 ⟨D3, g3, rfl, hown1, hb1⟩
            replace kt := And.intro ((kt.1).under hb1) ((kt.2).under hb1)
            replace hown := own_below hown hb1
            replace hb := hb.trans (hb1.mono hb.size)
            have hr1 := Reads.of_own hown1
            clear hHeld hb1 hown1
            refine hK.out _ _ kt (fun hHeld => ?_)
            clear hK K
            try simp only [List.getElem_toArray, List.getElem_cons_succ, List.getElem_cons_zero, Act.put, List.setIfInBounds_toArray, List.set_cons_zero, List.set_cons_succ]
            refine wpAnyH_ready (rs := [8]) (by kernel_rfl) (by simp) ?_
            refine AllReadyH.cons rfl (fun K hK => ?_) AllReadyH.nil
            try rw [if_pos (by rfl)]
            refine wp_append_any _ (.tmp 96) (.tmp 99) 31 rfl w.heap.size 5 i0 (.int .u8 0) 1 1 Try.underlying31 HI.out.1 HI.out.2.1 HI.out.2.2.1 HI.out.2.2.2 rfl (by decide) _ m16.length (bsV m16) rfl hown D3 (vbI xby).length g3 (bsV (vbI xby)) rfl hr1 (bsV_one _) (by simp only [maxLen]; omega) (by omega) hb.size ?_
            intro v' wh16 hown' hg' hv'
            obtain ⟨Q16, q16, rfl, _, _⟩ := own_form hown'
            replace kt := And.intro ((kt.1).grown hg' (own_not hown kt.1 (by decide))) ((kt.2).grown hg' (own_not hown kt.2 (by decide)))
            replace hb := hb.grown hg' hb.size (fun k hk => (hown.lt k hk).1)
            obtain ⟨l6, hl6⟩ : ∃ a, a = m16 ++ vbI xby := ⟨_, rfl⟩
            have ea : m16.length + (vbI xby).length = l6.length := by rw [hl6, List.length_append]
            rw [← bsV_app, ← hl6, ea] at hown'
            rw [ea]
            have Hl6 := hid hl6
            have Ll6 : l6.length ≤ m16.length + 10 := by omega
            replace hown := hown'
            clear hg' hv' hown' hr1 hHeld hl6 ea
            refine hK.out _ _ kt (fun hHeld => ?_)
            clear hK K
            try simp only [List.getElem_toArray, List.getElem_cons_succ, List.getElem_cons_zero, Act.put, List.setIfInBounds_toArray, List.set_cons_zero, List.set_cons_succ]
            refine wpAnyH_take (i := 9) (v := ?_) rfl (by kernel_rfl) (by kernel_rfl) (by kernel_rfl) (fun _ _ _ h => h) (Or.inl ⟨by rfl, ?_⟩) (by assumption) ?_
            rotate_left
            · intro W hW
              go_simp
              try rfl
            simp only [List.getElem_toArray, List.getElem_cons_succ, List.getElem_cons_zero, Act.put, List.setIfInBounds_toArray, List.set_cons_zero, List.set_cons_succ]
            refine wpAnyH_done (by kernel_rfl) ?_ _
            refine NoPanic.normal ?_
            have HTE2 := hid (show tot = l6 ++ (xps.flatMap vbI ++ (ensB xls (ee.drop (i + 1)) ++ rs)) by rw [HTE1.out, Hl6.out, Hm16.out]; simp only [List.flatMap_cons, List.flatMap_nil, List.append_nil, List.append_assoc])
            have HZ16 := hid (And.intro hown (And.intro kt hb))
            clear hown kt hb hHeld hal v1 v2 Lm16 Ll6 HTE1
            obtain ⟨y0, y1, y2, y3, y4⟩ := HZ16.out.2.1.1.fivec
            clear y0 y1 y2 y4
            go_wp2_with fail
            clear y3
            go_loopw [3, 104] (fun u3 u104 wr => ∃ (j : Nat) (C : Option Addr) (f : Nat) (l : List Nat), j ≤ xps.length ∧ u104 = .int .i64 (j : Nat) ∧ u3 = .slice C l.length f ∧ Hid (OwnY w.heap.size wr C f l ∧ Blk wr g 42 (aR nm ep fl la sc (.slice (some ae) ne ec) (.slice oa no oc)) ∧ Below w.heap.size w wr) ∧ Hid (tot = l ++ ((xps.drop j).flatMap vbI ++ (ensB xls (ee.drop (i + 1)) ++ rs)))) (fun _ u104 _ => xps.length - (intOf u104).toNat)
            case atStart => exact ⟨0, Q16, q16, l6, Nat.zero_le _, rfl, rfl, hid ⟨HZ16.out.1, HZ16.out.2.1.2, HZ16.out.2.2⟩, HTE2⟩
            case round =>
              obtain ⟨j, C, f, l, hj, rfl, rfl, hst, hrl⟩ := hrel
              clear HZ16 HTE2
              by_cases hjq : j < xps.length
              · obtain ⟨⟨e5, hpr⟩, _⟩ := HXIN.out
                obtain ⟨pd, rfl, cp⟩ := ints_at (hpr.below hst.out.2.2) hjq
                obtain ⟨p, hp⟩ : ∃ p, p = xps.getD j 0 := ⟨_, rfl⟩
                simp only at cp
                rw [← hp] at cp
                have hpe : xps[j]? = some p := by rw [hp, List.getD_eq_getElem?_getD, List.getElem?_eq_getElem hjq]; rfl
                have hpi := HG.out.2.2.2.2 p (List.mem_of_getElem? hpe)
                have hdr : xps.drop j = p :: xps.drop (j + 1) := by
                  rw [List.drop_eq_getElem_cons hjq, (List.getElem?_eq_some_iff.1 hpe).2]
                have HT6 := hid (show tot = l ++ (vbI p ++ ((xps.drop (j + 1)).flatMap vbI ++ (ensB xls (ee.drop (i + 1)) ++ rs))) by rw [hrl.out, hdr]; simp only [List.flatMap_cons, List.append_assoc])
                have HPN := hid (plain22_d p hpi.1 hpi.2 wr)
                have HY := hid hst.out
                have v1 := vbI_len hpi.2
                have hal : l.length ≤ 30000 := by have := HTL.out; rw [HT6.out, List.length_append] at this; omega
                have hji : (j : Int) < (xps.length : Int) := by omega
                have hj0 : (0 : Int) ≤ (j : Int) := by omega
                clear hpr hp hpe hpi hdr hst hrl
                go_wp2_with fail
                refine HPN.out.mono ?_
                rintro e w8 ⟨D1, g1, rfl, hown1, hb1⟩
                have hown := own_below HY.out.1 hb1
                have kt := HY.out.2.1.under hb1
                have hb := HY.out.2.2.trans (hb1.mono HY.out.2.2.size)
                have hr1 := Reads.of_own hown1
                clear hown1 hb1 HPN HY cp
                obtain ⟨b1, hb1⟩ : ∃ b, b = vbI (p) := ⟨_, rfl⟩
                rw [← hb1] at hr1 v1 ⊢
                have HB1 := hid hb1
                clear hb1
                go_upto_region 21 with (at_builtin; refine wpList_append_any _ rfl (.tmp 108) (.tmp 110) 31 rfl w.heap.size 5 i0 (.int .u8 0) 1 1 Try.underlying31 HI.out.1 HI.out.2.1 HI.out.2.2.1 HI.out.2.2.2 rfl (by decide) _ l.length (bsV l) rfl hown D1 b1.length g1 (bsV b1) rfl hr1 (bsV_one _) (by simp only [maxLen]; omega) (by omega) hb.size ?_; intro v' w9 hown' hg' hv')
                obtain ⟨Q9, q9, rfl, _, _⟩ := own_form hown'
                replace kt := kt.grown hg' (own_not hown kt (by decide))
                replace hb := hb.grown hg' hb.size (fun k hk => (hown.lt k hk).1)
                obtain ⟨l7, hl7⟩ : ∃ a, a = l ++ b1 := ⟨_, rfl⟩
                have eaL : l.length + b1.length = l7.length := by rw [hl7, List.length_append]
                rw [← bsV_app, ← hl7, eaL] at hown'
                rw [eaL]
                have HT7 := hid (show tot = l7 ++ ((xps.drop (j + 1)).flatMap vbI ++ (ensB xls (ee.drop (i + 1)) ++ rs)) by rw [HT6.out, hl7, HB1.out]; simp only [List.append_assoc])
                have HX := hid (And.intro hown' (And.intro kt hb))
                clear hown hown' hg' hv' kt hb hr1 v1 hal eaL hl7 HT6 HB1 hji hj0
                go_wp2_with fail
                go_roundw
                case rel => exact ⟨j + 1, Q9, q9, l7, by omega, by go_num, rfl, HX, HT7⟩
                case measure => simp [intOf]; omega
              · have hjl : j = xps.length := by omega
                have ht := hrl.out
                rw [hjl, List.drop_length, List.flatMap_nil, List.nil_append] at ht
                have HT6 := hid (show tot = l ++ (ensB (ahE ee (i + 1)) (ee.drop (i + 1)) ++ rs) ∧ FitE (ahE ee (i + 1)) (ee.drop (i + 1)) from ⟨by rw [HAH.out]; exact ht, by rw [HAH.out]; exact HFE1.out⟩)
                have HST3 := hid hst.out
                clear hst hrl ht hjl
                go_wp2_with fail
                go_roundw
                case rel => first | exact ⟨i + 1, C, f, l, by omega, by go_num, rfl, HST3, HT6⟩ | ((repeat apply Exists.intro); exact ⟨⟨i + 1, C, f, l, by omega, by go_num, rfl, HST3, HT6⟩, rfl⟩)
                case measure => simp [intOf]; omega
          · obtain rfl : i = ne := by omega
            have hel : ee.length ≤ i := by rw [HXI.out.2.2.2, List.length_map, ← HXI.out.2.1]; exact Nat.le_refl _
            have ht : tot = l ++ rs := by have h := hrl.out.1; rw [List.drop_of_length_le hel] at h; rw [h]; rfl
            obtain ⟨rr, hrr⟩ : ∃ rr, rr = (es.drop (k + 1)).flatMap rowBy := ⟨_, rfl⟩
            have HTP := hid (show tot = l ++ ([((no : Nat) : Int)].flatMap vbI ++ (ptsB2 (0, 0) op ++ rr)) by rw [ht, HRS.out, hrr])
            have HRR := hid hrr
            obtain ⟨x0, x1, x2, x3, x4, x5, x6⟩ := hst.out.2.1.seven
            have hnl2 : no ≤ 100000 := by have t : op.length ≤ 50000 := HXI.out.1.hopl; rw [HXI.out.2.2.1]; omega
            have HPN := hid (plain22_d ((no : Nat) : Int) (by omega) (by omega) wo)
            have HY := hid hst.out
            have v1 := vbI_len (z := ((no : Nat) : Int)) (by omega)
            have hal : l.length ≤ 30000 := by have := HTL.out; rw [HTP.out, List.length_append] at this; omega
            clear hel ht hst hrl hrr x0 x1 x2 x3 x4 x5 HT4 HZ8
            go_wp2_with fail
            refine HPN.out.mono ?_
            rintro e w8 ⟨D1, g1, rfl, hown1, hb1⟩
            have hown := own_below HY.out.1 hb1
            have kt := HY.out.2.1.under hb1
            have hb := HY.out.2.2.trans (hb1.mono HY.out.2.2.size)
            have hr1 := Reads.of_own hown1
            clear hown1 hb1 HPN HY x6
            obtain ⟨b1, hb1⟩ : ∃ b, b = vbI (((no : Nat) : Int)) := ⟨_, rfl⟩
            rw [← hb1] at hr1 v1 ⊢
            have HB1 := hid hb1
            clear hb1
            go_upto_region 24 with (at_builtin; refine wpList_append_any _ rfl (.tmp 114) (.tmp 118) 31 rfl w.heap.size 5 i0 (.int .u8 0) 1 1 Try.underlying31 HI.out.1 HI.out.2.1 HI.out.2.2.1 HI.out.2.2.2 rfl (by decide) _ l.length (bsV l) rfl hown D1 b1.length g1 (bsV b1) rfl hr1 (bsV_one _) (by simp only [maxLen]; omega) (by omega) hb.size ?_; intro v' w9 hown' hg' hv')
            obtain ⟨Q9, q9, rfl, _, _⟩ := own_form hown'
            replace kt := kt.grown hg' (own_not hown kt (by decide))
            replace hb := hb.grown hg' hb.size (fun k hk => (hown.lt k hk).1)
            obtain ⟨l7, hl7⟩ : ∃ a, a = l ++ b1 := ⟨_, rfl⟩
            have eaL : l.length + b1.length = l7.length := by rw [hl7, List.length_append]
            rw [← bsV_app, ← hl7, eaL] at hown'
            rw [eaL]
            have HTQ := hid (show tot = l7 ++ (ptsB2 (0, 0) (op.drop 0) ++ rr) by rw [HTP.out, hl7, HB1.out]; simp only [List.flatMap_cons, List.flatMap_nil, List.append_nil, List.append_assoc, List.drop_zero])
            obtain ⟨gw, hgw9⟩ : ∃ gw, gw = w9.heap.size := ⟨_, rfl⟩
            obtain ⟨w10, hw10⟩ : ∃ x, x = w9.alloc (.cells #[.int .i64 0, .int .i64 0] 47) := ⟨_, rfl⟩
            have HP9 := hid (show OwnY w.heap.size w10 Q9 q9 l7 ∧ Blk w10 gw 47 #[.int .i64 0, .int .i64 0] ∧ Below w.heap.size w w10 from
              ⟨by rw [hw10]; exact World.ownsRow.alloc hown' _, by rw [hw10, hgw9]; exact Blk.new _ _ _, by rw [hw10]; exact hb.alloc hb.size _⟩)
            have hwgw : w.heap.size ≤ gw := by rw [hgw9]; exact hb.size
            obtain ⟨x0, x1, x2, x3, x4, x5, x6⟩ := kt.seven
            have hgl9 : g < w9.heap.size := kt.lt
            clear x0 x1 x2 x3 x4 x5 hown hown' hg' hv' kt hb hr1 v1 hal eaL hl7 HTP HB1
            go_wp2_with fail
            rw [← hw10]
            try rw [← hgw9]
            clear x6 hgl9 hw10 hgw9
            go_loopw [3, 123] (fun u3 u123 wr => ∃ (j : Nat) (C : Option Addr) (f : Nat) (l : List Nat) (T V : Int), j ≤ no ∧ u123 = .int .i64 (j : Nat) ∧ u3 = .slice C l.length f ∧ Hid (OwnY w.heap.size wr C f l ∧ Blk wr gw 47 #[.int .i64 T, .int .i64 V] ∧ Below w.heap.size w wr) ∧ Hid (tot = l ++ (ptsB2 (T, V) (op.drop j) ++ rr) ∧ FitP (T, V) (op.drop j))) (fun _ u123 _ => no - (intOf u123).toNat)
            case atStart => exact ⟨0, Q9, q9, l7, 0, 0, Nat.zero_le _, rfl, rfl, HP9, hid ⟨HTQ.out, HFP.out⟩⟩
            case round =>
              obtain ⟨j, C, f, l, T, V, hj, rfl, rfl, hst, hrl⟩ := hrel
              clear HP9 HTQ
              by_cases hjm : j < no
              · obtain ⟨e6, hop⟩ := HXI.out.1.op
                have hjl : j < op.length := by rw [← HXI.out.2.2.1]; exact hjm
                obtain ⟨pd, rfl, d0, d1⟩ := pts_at (hop.below hst.out.2.2) hjl
                replace d1 : wr.cell? ⟨(pd.add (j * 2)).block, (pd.add (j * 2)).off + 1, none⟩ = _ := d1
                have hdr : op.drop j = (op.getD j (0, 0)) :: op.drop (j + 1) := by
                  rw [List.drop_eq_getElem_cons hjl, List.getD_eq_getElem?_getD, List.getElem?_eq_getElem hjl]; rfl
                have hrl2 := hrl.out
                rw [hdr] at hrl2
                generalize op.getD j (0, 0) = q at *
                obtain ⟨T2, V2⟩ := q
                obtain ⟨ht, ⟨f1, f2⟩, hfp⟩ := hrl2
                simp only at d0 d1 f1 f2
                have HTP0 := hid (show tot = l ++ (vbI (T2 - T) ++ (vb (fold64 (V2 - V)) ++ (ptsB2 (T2, V2) (op.drop (j + 1)) ++ rr))) by
                  rw [ht]
                  show l ++ ((ptB2 (T, V) (T2, V2) ++ ptsB2 (T2, V2) (op.drop (j + 1))) ++ rr) = _
                  unfold ptB2
                  simp only [List.flatMap_cons, List.flatMap_nil, List.append_nil, List.append_assoc])
                have hw1 : IntKind.i64.wrap (T2 - T) = T2 - T := by have := f1.1; have := f1.2; rw [IntKind.wrap_i64]; omega
                have hw2 : IntKind.i64.wrap (V2 - V) = V2 - V := by have := f2.1; have := f2.2; rw [IntKind.wrap_i64]; omega
                have HG2 := hid (And.intro f1 f2)
                have HFP8 := hid hfp
                obtain ⟨gp, hgp⟩ : ∃ gp, gp = wr.heap.size := ⟨_, rfl⟩
                obtain ⟨wp, hwp⟩ : ∃ wp, wp = wr.alloc (.cells #[.int .i64 T2, .int .i64 V2] 47) := ⟨_, rfl⟩
                have kP : Blk wp gp 47 #[.int .i64 T2, .int .i64 V2] := by rw [hwp, hgp]; exact Blk.new _ _ _
                have kW : Blk wp gw 47 #[.int .i64 T, .int .i64 V] := by rw [hwp]; exact hst.out.2.1.alloc _
                have hbP : Below w.heap.size w wp := by rw [hwp]; exact hst.out.2.2.alloc hst.out.2.2.size _
                have hoP : OwnY w.heap.size wp C f l := by rw [hwp]; exact hst.out.1.alloc _
                have HP0 := hid (And.intro hoP (And.intro (And.intro kP kW) hbP))
                have hji : (j : Int) < (no : Int) := by omega
                have hj0 : (0 : Int) ≤ (j : Int) := by omega
                clear hop hjl hdr ht f1 f2 hfp kP kW hbP hoP hst hrl
                go_upto_region 28 with fail
                rw [← hwp]
                try rw [← hgp]
                clear hwp hgp d0 d1 hji hj0
                refine wp_region_noPanic ?_
                refine wp_region_held_drew (S := (fun W => Blk W gp 47 #[.int .i64 T2, .int .i64 V2] ∧ Blk W gw 47 #[.int .i64 T, .int .i64 V])) (by kernel_rfl) (And.intro ((HP0.out.2.1.1).drew) ((HP0.out.2.1.2).drew)) (fun hHeld => ?_)
                have hown := HP0.out.1.drew
                have kt : Blk wp.drew gp 47 #[.int .i64 T2, .int .i64 V2] ∧ Blk wp.drew gw 47 #[.int .i64 T, .int .i64 V] := And.intro ((HP0.out.2.1.1).drew) ((HP0.out.2.1.2).drew)
                have hb := HP0.out.2.2.drew
                have hal : l.length ≤ 30000 := by have := HTL.out; rw [HTP0.out, List.length_append] at this; omega
                have v1 := vbI_len HG2.out.1.2
                have v2 := vb_len10 (fold64_lt HG2.out.2.1 HG2.out.2.2)
                clear HP0
                generalize wp.drew = wd28 at *
                refine wpAnyH_take (i := 0) (v := ?_) rfl (by kernel_rfl) (by kernel_rfl) (by kernel_rfl) (fun _ _ _ h => h) (Or.inl ⟨by rfl, ?_⟩) (by assumption) ?_
                rotate_left
                · intro W hW
                  go_simp
                  try rfl
                simp only [List.getElem_toArray, List.getElem_cons_zero, Act.put, List.setIfInBounds_toArray, List.set_cons_zero, List.set_cons_succ]
                refine wpAnyH_take (i := 1) (v := ?_) rfl (by kernel_rfl) (by kernel_rfl) (by kernel_rfl) (fun _ _ _ h => h) (Or.inl ⟨by rfl, ?_⟩) (by assumption) ?_
                rotate_left
                · intro W hW
                  go_simp
                  try rfl
                simp only [List.getElem_toArray, List.getElem_cons_succ, List.getElem_cons_zero, Act.put, List.setIfInBounds_toArray, List.set_cons_zero, List.set_cons_succ]
                refine wpAnyH_take (i := 2) (v := ?_) rfl (by kernel_rfl) (by kernel_rfl) (by kernel_rfl) (fun _ _ _ h => h) (Or.inl ⟨by rfl, ?_⟩) (by assumption) ?_
                rotate_left
                · intro W hW
                  obtain ⟨x0, x1, x2, x3, x4⟩ := hW.1.two
                  go_simp
                  try rfl
                simp only [List.getElem_toArray, List.getElem_cons_succ, List.getElem_cons_zero, Act.put, List.setIfInBounds_toArray, List.set_cons_zero, List.set_cons_succ]
                refine wpAnyH_take (i := 3) (v := ?_) rfl (by kernel_rfl) (by kernel_rfl) (by kernel_rfl) (fun _ _ _ h => h) (Or.inl ⟨by rfl, ?_⟩) (by assumption) ?_
                rotate_left
                · intro W hW
                  go_simp
                  try rfl
                simp only [List.getElem_toArray, List.getElem_cons_succ, List.getElem_cons_zero, Act.put, List.setIfInBounds_toArray, List.set_cons_zero, List.set_cons_succ]
                refine wpAnyH_take (i := 4) (v := ?_) rfl (by kernel_rfl) (by kernel_rfl) (by kernel_rfl) (fun _ _ _ h => h) (Or.inl ⟨by rfl, ?_⟩) (by assumption) ?_
                rotate_left
                · intro W hW
                  obtain ⟨x0, x1, x2, x3, x4⟩ := hW.2.two
                  go_simp
                  try rfl
                simp only [List.getElem_toArray, List.getElem_cons_succ, List.getElem_cons_zero, Act.put, List.setIfInBounds_toArray, List.set_cons_zero, List.set_cons_succ]
                refine wpAnyH_take (i := 5) (v := ?_) rfl (by kernel_rfl) (by kernel_rfl) (by kernel_rfl) (fun _ _ _ h => h) (Or.inl ⟨by rfl, ?_⟩) (by assumption) ?_
                rotate_left
                · intro W hW
                  go_simp
                  try rfl
                simp only [List.getElem_toArray, List.getElem_cons_succ, List.getElem_cons_zero, Act.put, List.setIfInBounds_toArray, List.set_cons_zero, List.set_cons_succ]
                refine wpAnyH_take (i := 8) (v := ?_) rfl (by kernel_rfl) (by kernel_rfl) (by kernel_rfl) (fun _ _ _ h => h) (Or.inl ⟨by rfl, ?_⟩) (by assumption) ?_
                rotate_left
                · intro W hW
                  go_simp
                  try rfl
                simp only [List.getElem_toArray, List.getElem_cons_succ, List.getElem_cons_zero, Act.put, List.setIfInBounds_toArray, List.set_cons_zero, List.set_cons_succ]
                refine wpAnyH_take (i := 9) (v := ?_) rfl (by kernel_rfl) (by kernel_rfl) (by kernel_rfl) (fun _ _ _ h => h) (Or.inl ⟨by rfl, ?_⟩) (by assumption) ?_
                rotate_left
                · intro W hW
                  obtain ⟨x0, x1, x2, x3, x4⟩ := hW.1.two
                  go_simp
                  try rfl
                simp only [List.getElem_toArray, List.getElem_cons_succ, List.getElem_cons_zero, Act.put, List.setIfInBounds_toArray, List.set_cons_zero, List.set_cons_succ]
                refine wpAnyH_take (i := 10) (v := ?_) rfl (by kernel_rfl) (by kernel_rfl) (by kernel_rfl) (fun _ _ _ h => h) (Or.inl ⟨by rfl, ?_⟩) (by assumption) ?_
                rotate_left
                · intro W hW
                  go_simp
                  try rfl
                simp only [List.getElem_toArray, List.getElem_cons_succ, List.getElem_cons_zero, Act.put, List.setIfInBounds_toArray, List.set_cons_zero, List.set_cons_succ]
                refine wpAnyH_take (i := 11) (v := ?_) rfl (by kernel_rfl) (by kernel_rfl) (by kernel_rfl) (fun _ _ _ h => h) (Or.inl ⟨by rfl, ?_⟩) (by assumption) ?_
                rotate_left
                · intro W hW
                  obtain ⟨x0, x1, x2, x3, x4⟩ := hW.2.two
                  go_simp
                  try rfl
                simp only [List.getElem_toArray, List.getElem_cons_succ, List.getElem_cons_zero, Act.put, List.setIfInBounds_toArray, List.set_cons_zero, List.set_cons_succ]
                refine wpAnyH_take (i := 12) (v := ?_) rfl (by kernel_rfl) (by kernel_rfl) (by kernel_rfl) (fun _ _ _ h => h) (Or.inl ⟨by rfl, ?_⟩) (by assumption) ?_
                rotate_left
                · intro W hW
                  go_simp
                  try rfl
                simp only [List.getElem_toArray, List.getElem_cons_succ, List.getElem_cons_zero, Act.put, List.setIfInBounds_toArray, List.set_cons_zero, List.set_cons_succ]
                refine wpAnyH_ready (rs := [6]) (by kernel_rfl) (by simp) ?_
                refine AllReadyH.cons rfl (fun K hK => ?_) AllReadyH.nil
                go_simp
                refine (plain22_d (T2 - T) HG2.out.1.1 HG2.out.1.2 _).mono ?_
                rintro e we28 ⟨D1, g1, rfl, hown1, hb1⟩
                replace kt := And.intro ((kt.1).under hb1) ((kt.2).under hb1)
                replace hown := own_below hown hb1
                replace hb := hb.trans (hb1.mono hb.size)
                have hr1 := Reads.of_own hown1
                clear hHeld hb1 hown1
                refine hK.out _ _ kt (fun hHeld => ?_)
                clear hK K
                try simp only [List.getElem_toArray, List.getElem_cons_succ, List.getElem_cons_zero, Act.put, List.setIfInBounds_toArray, List.set_cons_zero, List.set_cons_succ]
                refine wpAnyH_ready (rs := [7]) (by kernel_rfl) (by simp) ?_
                refine AllReadyH.cons rfl (fun K hK => ?_) AllReadyH.nil
                try rw [if_pos (by rfl)]
                refine wp_append_any _ (.tmp 127) (.tmp 133) 31 rfl w.heap.size 5 i0 (.int .u8 0) 1 1 Try.underlying31 HI.out.1 HI.out.2.1 HI.out.2.2.1 HI.out.2.2.2 rfl (by decide) _ l.length (bsV l) rfl hown D1 (vbI (T2 - T)).length g1 (bsV (vbI (T2 - T))) rfl hr1 (bsV_one _) (by simp only [maxLen]; omega) (by omega) hb.size ?_
                intro v' wf28 hown' hg' hv'
                obtain ⟨D2, f2, rfl, _, _⟩ := own_form hown'
                replace kt := And.intro ((kt.1).grown hg' (own_not hown kt.1 (by decide))) ((kt.2).grown hg' (own_not hown kt.2 (by decide)))
                replace hb := hb.grown hg' hb.size (fun k hk => (hown.lt k hk).1)
                obtain ⟨m28, hm28⟩ : ∃ a, a = l ++ vbI (T2 - T) := ⟨_, rfl⟩
                have ea : l.length + (vbI (T2 - T)).length = m28.length := by rw [hm28, List.length_append]
                rw [← bsV_app, ← hm28, ea] at hown'
                rw [ea]
                have Hm28 := hid hm28
                have Lm28 : m28.length ≤ l.length + 10 := by omega
                replace hown := hown'
                clear hg' hv' hown' hr1 hHeld hm28 ea
                refine hK.out _ _ kt (fun hHeld => ?_)
                clear hK K
                try simp only [List.getElem_toArray, List.getElem_cons_succ, List.getElem_cons_zero, Act.put, List.setIfInBounds_toArray, List.set_cons_zero, List.set_cons_succ]
                refine wpAnyH_ready (rs := [13]) (by kernel_rfl) (by simp) ?_
                refine AllReadyH.cons rfl (fun K hK => ?_) AllReadyH.nil
                go_simp
                refine (signed_c (V2 - V) HG2.out.2.1 HG2.out.2.2 _).mono ?_
                rintro e wg28 ⟨D3, g3, rfl, hown1, hb1⟩
                replace kt := And.intro ((kt.1).under hb1) ((kt.2).under hb1)
                replace hown := own_below hown hb1
                replace hb := hb.trans (hb1.mono hb.size)
                have hr1 := Reads.of_own hown1
                clear hHeld hb1 hown1
                refine hK.out _ _ kt (fun hHeld => ?_)
                clear hK K
                try simp only [List.getElem_toArray, List.getElem_cons_succ, List.getElem_cons_zero, Act.put, List.setIfInBounds_toArray, List.set_cons_zero, List.set_cons_succ]
                refine wpAnyH_ready (rs := [14]) (by kernel_rfl) (by simp) ?_
                refine AllReadyH.cons rfl (fun K hK => ?_) AllReadyH.nil
                try rw [if_pos (by rfl)]
                refine wp_append_any _ (.tmp 134) (.tmp 140) 31 rfl w.heap.size 5 i0 (.int .u8 0) 1 1 Try.underlying31 HI.out.1 HI.out.2.1 HI.out.2.2.1 HI.out.2.2.2 rfl (by decide) _ m28.length (bsV m28) rfl hown D3 (vb (fold64 (V2 - V))).length g3 (bsV (vb (fold64 (V2 - V)))) rfl hr1 (bsV_one _) (by simp only [maxLen]; omega) (by omega) hb.size ?_
                intro v' wh28 hown' hg' hv'
                obtain ⟨Q28, q28, rfl, _, _⟩ := own_form hown'
                replace kt := And.intro ((kt.1).grown hg' (own_not hown kt.1 (by decide))) ((kt.2).grown hg' (own_not hown kt.2 (by decide)))
                replace hb := hb.grown hg' hb.size (fun k hk => (hown.lt k hk).1)
                obtain ⟨l9, hl9⟩ : ∃ a, a = m28 ++ vb (fold64 (V2 - V)) := ⟨_, rfl⟩
                have ea : m28.length + (vb (fold64 (V2 - V))).length = l9.length := by rw [hl9, List.length_append]
                rw [← bsV_app, ← hl9, ea] at hown'
                rw [ea]
                have Hl9 := hid hl9
                have Ll9 : l9.length ≤ m28.length + 10 := by omega
                replace hown := hown'
                clear hg' hv' hown' hr1 hHeld hl9 ea
                refine hK.out _ _ kt (fun hHeld => ?_)
                clear hK K
                try simp only [List.getElem_toArray, List.getElem_cons_succ, List.getElem_cons_zero, Act.put, List.setIfInBounds_toArray, List.set_cons_zero, List.set_cons_succ]
                refine wpAnyH_take (i := 15) (v := ?_) rfl (by kernel_rfl) (by kernel_rfl) (by kernel_rfl) (fun _ _ _ h => h) (Or.inl ⟨by rfl, ?_⟩) (by assumption) ?_
                rotate_left
                · intro W hW
                  go_simp
                  try rfl
                simp only [List.getElem_toArray, List.getElem_cons_succ, List.getElem_cons_zero, Act.put, List.setIfInBounds_toArray, List.set_cons_zero, List.set_cons_succ]
                refine wpAnyH_done (by kernel_rfl) ?_ _
                refine NoPanic.normal ?_
                have HTP1 := hid (show tot = l9 ++ (ptsB2 (T2, V2) (op.drop (j + 1)) ++ rr) by rw [HTP0.out, Hl9.out, Hm28.out]; simp only [List.flatMap_cons, List.flatMap_nil, List.append_nil, List.append_assoc])
                have HZ28 := hid (And.intro hown (And.intro kt hb))
                clear hown kt hb hHeld hal v1 v2 Lm28 Ll9 HTP0
                obtain ⟨x0, x1, x2, x3, x4⟩ := HZ28.out.2.1.1.two
                obtain ⟨y0, y1, y2, y3, y4⟩ := HZ28.out.2.1.2.two
                have HN := hid (show OwnY w.heap.size ((wh28.setCell ⟨gw, 0, none⟩ (.int .i64 T2)).setCell ⟨gw, 1, none⟩ (.int .i64 V2)) Q28 q28 l9 ∧ Blk ((wh28.setCell ⟨gw, 0, none⟩ (.int .i64 T2)).setCell ⟨gw, 1, none⟩ (.int .i64 V2)) gw 47 #[.int .i64 T2, .int .i64 V2] ∧ Below w.heap.size w ((wh28.setCell ⟨gw, 0, none⟩ (.int .i64 T2)).setCell ⟨gw, 1, none⟩ (.int .i64 V2)) from
                  ⟨own_but HZ28.out.1 (((But.refl gw wh28).setg 0 _).setg 1 _) HZ28.out.2.1.2.typed (by decide), HZ28.out.2.1.2.set2 _ _, (HZ28.out.2.2.setCell (p := ⟨gw, 0, none⟩) hwgw _).setCell (p := ⟨gw, 1, none⟩) hwgw _⟩)
                clear HZ28
                go_wp2_with fail
                go_roundw
                case rel => first | exact ⟨j + 1, Q28, q28, l9, T2, V2, by omega, by go_num, rfl, HN, hid ⟨HTP1.out, HFP8.out⟩⟩ | ((repeat apply Exists.intro); exact ⟨⟨j + 1, Q28, q28, l9, T2, V2, by omega, by go_num, rfl, HN, hid ⟨HTP1.out, HFP8.out⟩⟩, rfl⟩)
                case measure => simp [intOf]; omega
              · have hjl : op.length ≤ j := by rw [← HXI.out.2.2.1]; omega
                have HF := hid (show tot = l ++ (es.drop (k + 1)).flatMap rowBy by
                  have ht := hrl.out.1
                  rw [List.drop_of_length_le hjl] at ht
                  rw [ht, ← HRR.out]; rfl)
                have HST4 := hid (And.intro hst.out.1 hst.out.2.2)
                clear hjl hst hrl
                go_wp2_with fail
                go_roundw
                case rel => first | exact ⟨k + 1, C, f, l, by omega, by go_num, rfl, HST4, HF⟩ | exact ⟨_, ⟨k + 1, C, f, l, by omega, by go_num, rfl, HST4, HF⟩, rfl⟩ | ((repeat apply Exists.intro); exact ⟨⟨k + 1, C, f, l, by omega, by go_num, rfl, HST4, HF⟩, rfl⟩)
                case measure => simp [intOf]; omega
    · obtain rfl : k = n := by omega
      have hel : es.length ≤ k := by rw [HES.out.1, List.length_map, HES.out.2]; exact Nat.le_refl _
      have hfe : tot = acc := by have h := hrl.out; rw [List.drop_of_length_le hel] at h; rw [h]; simp
      have HF := hid (show RetB tot w (.returned (.slice C acc.length f)) wo by rw [hfe]; exact ⟨C, f, rfl, hst.out.1, hst.out.2⟩)
      clear hel hrl hfe hst HT0 HST
      go_wp2_with fail
      go_ret
      exact HF.out
end Go.Proofs.Ytgdnpmjmkcccoaa
