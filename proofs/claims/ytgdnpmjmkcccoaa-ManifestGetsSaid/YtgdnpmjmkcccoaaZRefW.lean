/- Manifest: plain: the document's Right of a manifest is what Check asks. The document's bytes of a manifest: a number. Contracts of yearbookref22: the reader: need, one, plain, more (began as XRdr). Contracts of yearbookref22: the reader: what plain, more, one come to, as Res; loops that stop at the first error. Contracts of yearbookref22: the reader's entries. -/
import Derived.Test.YtgdnpmjmkcccoaaZRefQ
import Derived.Test.YtgdnpmjmkcccoaaVarS
import Derived.Test.YtgdnpmjmkcccoaaVarR
import Derived.Test.YtgdnpmjmkcccoaaZTill
namespace Go.Proofs.Ytgdnpmjmkcccoaa
open Go.RowKit Go.Shelf VB
open Go.Lib (hid)
set_option linter.unusedVariables false
set_option linter.unusedSimpArgs false
theorem fresh_iff : ∀ (ps L : List Int), freshB ps L = true ↔ ps.Nodup ∧ ∀ p ∈ ps, p ∉ L
  | [], L => by simp [freshB]
  | x :: ps, L => by
    unfold freshB
    simp only [Bool.and_eq_true, decide_eq_true_eq, fresh_iff ps (x :: L), List.nodup_cons, List.mem_cons, not_or]
    constructor
    · rintro ⟨h1, h2, h3⟩
      refine ⟨⟨fun hx => (h3 x hx).1 rfl, h2⟩, ?_⟩
      rintro p (rfl | hp)
      · exact h1
      · exact (h3 p hp).2
    · rintro ⟨⟨h1, h2⟩, h3⟩
      exact ⟨h3 x (.inl rfl), h2, fun p hp => ⟨fun e => h1 (e ▸ hp), h3 p (.inr hp)⟩⟩
theorem pages_iff : ∀ (ps L : List Int), pagesB ps L = true ↔ (∀ p ∈ ps, 18 ≤ p ∧ p ≤ 255) ∧ ps.Nodup ∧ ∀ p ∈ ps, p ∉ L
  | [], L => by simp [pagesB]
  | x :: ps, L => by
    unfold pagesB
    simp only [Bool.and_eq_true, markB_iff, pages_iff ps (x :: L), List.nodup_cons, List.mem_cons, not_or]
    constructor
    · rintro ⟨⟨h0, h1⟩, hb, h2, h3⟩
      refine ⟨?_, ⟨fun hx => (h3 x hx).1 rfl, h2⟩, ?_⟩
      · rintro p (rfl | hp)
        · omega
        · exact hb p hp
      · rintro p (rfl | hp)
        · exact h1
        · exact (h3 p hp).2
    · rintro ⟨hb, ⟨h1, h2⟩, h3⟩
      have := hb x (.inl rfl)
      exact ⟨⟨by omega, h3 x (.inl rfl)⟩, fun p hp => hb p (.inr hp), h2, fun p hp => ⟨fun e => h1 (e ▸ hp), h3 p (.inr hp)⟩⟩
theorem en_iff {x : En} {L : List Int} (h0 : 0 ≤ x.ls) (h1 : x.fs ≤ 9223372036854775807) : enB x L = true ↔ enR x ∧ ∀ p ∈ x.ps, p ∉ L := by
  constructor
  · intro h
    have k := enOk_of h h0 h1
    have hp : pagesB x.ps L = true := by unfold enB isB at h; simp only [Bool.and_eq_true] at h; exact h.2.2
    obtain ⟨p1, p2, p3⟩ := (pages_iff _ _).1 hp
    have a1 := k.fs0; have a2 := k.le; have a3 := k.ls1; have a4 := k.ct0; have a5 := k.ct1; have a6 := k.ct2; have a7 := k.one; have a8 := k.n0; have a9 := k.n1; have b1 := k.by0; have b2 := k.by1
    exact ⟨⟨⟨by omega, by omega, by omega, by omega, by omega⟩, ⟨by omega, by omega, by omega, ⟨fun h => a7.1 h.symm, fun h => (a7.2 h).symm⟩⟩, ⟨by omega, by omega, by omega, by omega, by omega⟩, p1, p2⟩, p3⟩
  · rintro ⟨⟨⟨a1, a2, a3, a4, a5⟩, ⟨b1, b2, b3, b4⟩, ⟨c1, c2, c3, c4, c5⟩, d1, d2⟩, h2⟩
    unfold enB isB
    have hw : IntKind.i64.wrap (x.ls - x.fs) = x.ls - x.fs := by rw [IntKind.wrap_i64]; omega
    rw [hw]
    simp only [Bool.and_eq_true, decide_eq_true_eq]
    refine ⟨?_, ?_, (pages_iff _ _).2 ⟨d1, d2, h2⟩⟩
    · unfold wrongT
      rintro (h | h | h | h | h | h | h)
      · omega
      · omega
      · omega
      · omega
      · omega
      · omega
      · exact h ⟨fun e => b4.1 (by omega), fun e => by have := b4.2 e; omega⟩
    · unfold wrongP
      rintro (h | h | h | h) <;> omega
def ixF (pre l : List En) : Prop := ∀ i x, l[i]? = some x → StepR (pre ++ l.take i) x
theorem ixF_cons {pre l : List En} {x : En} : ixF pre (x :: l) ↔ StepR pre x ∧ ixF (pre ++ [x]) l := by
  constructor
  · intro h
    refine ⟨?_, fun i y hy => ?_⟩
    · have := h 0 x rfl
      simpa using this
    · have := h (i + 1) y (by simpa using hy)
      rw [List.take_succ_cons] at this
      simpa using this
  · rintro ⟨h1, h2⟩ i y hy
    cases i with
    | zero =>
      simp only [List.getElem?_cons_zero, Option.some.injEq] at hy
      subst hy
      simpa using h1
    | succ i =>
      have := h2 i y (by simpa using hy)
      rw [List.take_succ_cons]
      simpa using this
theorem may_iff : ∀ (l : List En) (L : List Int) (pre : List En), (∀ p, p ∈ L ↔ ∃ y ∈ pre, p ∈ y.ps) → (∀ x ∈ l, 0 ≤ x.ls) → (∀ x ∈ l, x.fs ≤ 9223372036854775807) → (mayB l L (pre.getLast?.map En.ls) = true ↔ ixF pre l)
  | [], L, pre, _, _, _ => by simp [mayB, ixF]
  | x :: l, L, pre, hL, h0, h1 => by
    have ih := may_iff l (x.ps.reverse ++ L) (pre ++ [x]) (by
      intro p
      simp only [List.mem_append, List.mem_reverse, hL p, List.mem_singleton]
      constructor
      · rintro (h | ⟨y, hy, hp⟩)
        · exact ⟨x, .inr rfl, h⟩
        · exact ⟨y, .inl hy, hp⟩
      · rintro ⟨y, hy | rfl, hp⟩
        · exact .inr ⟨y, hy, hp⟩
        · exact .inl hp) (fun y hy => h0 y (List.mem_cons_of_mem _ hy)) (fun y hy => h1 y (List.mem_cons_of_mem _ hy))
    rw [ixF_cons, ← ih]
    rw [show mayB (x :: l) L (pre.getLast?.map En.ls) = (enB x L && (behindB (pre.getLast?.map En.ls) x.fs && mayB l (x.ps.reverse ++ L) (some x.ls))) from rfl]
    simp only [Bool.and_eq_true, en_iff (h0 x List.mem_cons_self) (h1 x List.mem_cons_self)]
    have hls : (pre ++ [x]).getLast?.map En.ls = some x.ls := by simp
    rw [hls]
    have hbe : behindB (pre.getLast?.map En.ls) x.fs = true ↔ ∀ y, pre.getLast? = some y → y.ls < x.fs := by
      cases hp : pre.getLast? with
      | none => simp [behindB]
      | some y => simp [behindB]
    have hpg : (∀ p ∈ x.ps, p ∉ L) ↔ ∀ y ∈ pre, ∀ p ∈ x.ps, p ∉ y.ps := by
      constructor
      · intro h y hy p hp hq; exact h p hp ((hL p).2 ⟨y, hy, hq⟩)
      · intro h p hp hq
        obtain ⟨y, hy, hq⟩ := (hL p).1 hq
        exact h y hy p hp hq
    rw [hbe, hpg]
    constructor
    · rintro ⟨⟨a, b⟩, c, d⟩; exact ⟨⟨a, c, b⟩, d⟩
    · rintro ⟨⟨a, c, b⟩, d⟩; exact ⟨⟨a, b⟩, c, d⟩
theorem ix_iff {l : List En} (h0 : ∀ x ∈ l, 0 ≤ x.ls) (h1 : ∀ x ∈ l, x.fs ≤ 9223372036854775807) : mayB l [] none = true ↔ ixR l := by
  have := may_iff l [] [] (by simp) h0 h1
  simpa [ixF, ixR] using this
theorem row_iff {x : Ro} (hfs : ∀ e ∈ x.en, e.fs ≤ 9223372036854775807) : rowOk x = true ↔ rowR x := by
  unfold rowOk tailB openB floorB rowR rowTl timeB
  simp only [Bool.and_eq_true, decide_eq_true_eq, betB_iff, List.all_eq_true, openL_iff, Bool.or_eq_true]
  constructor
  · rintro ⟨h1, h2, h3, h4, h5, h6, h7, ⟨h8, h9⟩, h10⟩
    exact ⟨h1, h2, h3.1, h3.2, h4, h5.1, h5.2, (ix_iff (fun e he => by have := h7 e he; omega) hfs).1 h6, by omega, h7, h9, h10.imp id Eq.symm⟩
  · rintro ⟨h1, h2, h3, h3', h4, h5, h5', h6, h8, h7, h9, h10⟩
    exact ⟨h1, h2, ⟨h3, h3'⟩, h4, ⟨h5, h5'⟩, (ix_iff (fun e he => by have := h7 e he; omega) hfs).2 h6, h7, ⟨by omega, h9⟩, h10.imp id Eq.symm⟩
def riF (pre l : List Ro) : Prop := ∀ i x, l[i]? = some x → rowR x ∧ ∀ y, (pre ++ l.take i).getLast? = some y → nmLt y.nm x.nm = true
theorem riF_cons {pre l : List Ro} {x : Ro} : riF pre (x :: l) ↔ (rowR x ∧ ∀ y, pre.getLast? = some y → nmLt y.nm x.nm = true) ∧ riF (pre ++ [x]) l := by
  constructor
  · intro h
    refine ⟨?_, fun i y hy => ?_⟩
    · have := h 0 x rfl
      simpa using this
    · have := h (i + 1) y (by simpa using hy)
      rw [List.take_succ_cons] at this
      rw [List.append_assoc, List.singleton_append]
      exact this
  · rintro ⟨h1, h2⟩ i y hy
    cases i with
    | zero =>
      simp only [List.getElem?_cons_zero, Option.some.injEq] at hy
      subst hy
      simpa using h1
    | succ i =>
      have := h2 i y (by simpa using hy)
      rw [List.take_succ_cons]
      rw [List.append_assoc, List.singleton_append] at this
      exact this
theorem rises_iff : ∀ (l pre : List Ro), (∀ x ∈ l, ∀ e ∈ x.en, e.fs ≤ 9223372036854775807) → (risesB (pre.getLast?.map Ro.nm) l = true ↔ riF pre l)
  | [], pre, _ => by simp [risesB, riF]
  | x :: l, pre, h => by
    have ih := rises_iff l (pre ++ [x]) (fun y hy => h y (List.mem_cons_of_mem _ hy))
    rw [riF_cons, ← ih]
    rw [show risesB (pre.getLast?.map Ro.nm) (x :: l) = (rowOk x && (behN (pre.getLast?.map Ro.nm) x.nm && risesB (some x.nm) l)) from rfl]
    have hls : (pre ++ [x]).getLast?.map Ro.nm = some x.nm := by simp
    have hbe : behN (pre.getLast?.map Ro.nm) x.nm = true ↔ ∀ y, pre.getLast? = some y → nmLt y.nm x.nm = true := by
      cases hp : pre.getLast? with
      | none => simp [behN]
      | some y => simp [behN]
    rw [hls]
    simp only [Bool.and_eq_true, row_iff (h x List.mem_cons_self), hbe, and_assoc]
/-- the document's Right of a manifest is what Check asks -/
theorem right_iff {l : List Ro} (h : ∀ x ∈ l, ∀ e ∈ x.en, e.fs ≤ 9223372036854775807) : rightR l ↔ manOk l = true := by
  have h1 := rises_iff l [] h
  have h2 : riF [] l ↔ ∀ i x, l[i]? = some x → StepRw l i x := by
    constructor
    · intro k i x hx
      obtain ⟨k1, k2⟩ := k i x hx
      refine ⟨k1, fun y h0 hy => k2 y ?_⟩
      rw [List.nil_append, last_take (by have := (List.getElem?_eq_some_iff.1 hx).1; omega) h0]
      exact hy
    · intro k i x hx
      obtain ⟨k1, k2⟩ := k i x hx
      refine ⟨k1, fun y hy => ?_⟩
      by_cases h0 : 0 < i
      · rw [List.nil_append, last_take (by have := (List.getElem?_eq_some_iff.1 hx).1; omega) h0] at hy
        exact k2 y h0 hy
      · have : i = 0 := by omega
        subst this
        simp at hy
  unfold rightR manOk
  simp only [Bool.and_eq_true, decide_eq_true_eq, fresh_iff]
  have h3 : risesB none l = true ↔ ∀ i x, l[i]? = some x → StepRw l i x := by rw [← h2, ← h1]; simp
  rw [h3]
  simp only [List.not_mem_nil, not_false_eq_true, implies_true, and_true]
  constructor
  · rintro ⟨a, b, c⟩; exact ⟨c, a, b⟩
  · rintro ⟨c, a, b⟩; exact ⟨a, b, c⟩
end Go.Proofs.Ytgdnpmjmkcccoaa
namespace Go.Proofs.Ytgdnpmjmkcccoaa
open Go.RowKit Go.Shelf VB
open Go.Lib (hid)
set_option linter.unusedVariables false
set_option linter.unusedSimpArgs false
set_option maxRecDepth 100000 in
set_option maxHeartbeats 1000000 in
theorem plain22_d (z : Int) (h0 : 0 ≤ z) (h1 : z ≤ 9223372036854775807) (w : World) :
    Calls Try.prog 48 #[.int .i64 z] w (RetB (vbI z) w) := by
  show Calls _ _ _ _ (RetB (vb z.toNat) w)
  have u5 : IntKind.u64.wrap z = ((z.toNat : Nat) : Int) := by rw [IntKind.wrap_u64]; omega
  have HB := hid (bytes_ref z.toNat (by omega) w)
  generalize z.toNat = m at *
  go_enter Try.func48, Try.ntmps48
  go_wp2_with fail
  refine HB.out.mono ?_
  rintro e w2 ⟨D, g, rfl, hown, hb⟩
  have HX := hid (show RetB (vb m) w (.returned (.slice D (vb m).length g)) w2 from ⟨D, g, rfl, hown, hb⟩)
  clear hown hb HB
  go_wp2_with fail
  go_ret
  exact HX.out
end Go.Proofs.Ytgdnpmjmkcccoaa
namespace Go.Proofs.Ytgdnpmjmkcccoaa
open Go.RowKit Go.Shelf VB
open Go.Lib (hid)
set_option linter.unusedVariables false
set_option linter.unusedSimpArgs false
/-- the reader's cells -/
abbrev rdC (C : Option Addr) (n c : Nat) (z : Nat) (e : Int) : Array Value := #[.slice C n c, .int .i64 (z : Nat), .int .i64 e]
theorem Blk.rd {w : World} {g : Nat} {t : TypeId} {C : Option Addr} {n c z : Nat} {e : Int} (h : Blk w g t (rdC C n c z e)) :
    w.cell? ⟨g, 0, none⟩ = some (.slice C n c) ∧ w.cell? ⟨g, 1, none⟩ = some (.int .i64 (z : Nat)) ∧ w.cell? ⟨g, 2, none⟩ = some (.int .i64 e) ∧ w.frozen? ⟨g, 1, none⟩ = false ∧ w.frozen? ⟨g, 2, none⟩ = false ∧ g < w.heap.size :=
  ⟨h.cell 0, h.cell 1, h.cell 2, h.frozen 1, h.frozen 2, h.lt⟩
def RetS (v : Value) (g : Nat) (cs : Array Value) (w : World) (e : Ending) (w' : World) : Prop := e = .returned v ∧ But g w w' ∧ Blk w' g 92 cs
theorem Src.butS {w w' : World} {B : Option Addr} {n c : Nat} {bs : List Nat} {g : Nat} (h : Src w B n c bs) (hb : But g w w') (ht : Typed w g 92) : Src w' B n c bs := ⟨h.reads.but hb ht (by decide), h.hn, h.hc, h.hcm, h.hbs⟩
theorem rd_set1 {w : World} {g : Nat} {C : Option Addr} {n c z : Nat} {e : Int} (h : Blk w g 92 (rdC C n c z e)) (y : Nat) : Blk (w.setCell ⟨g, 1, none⟩ (.int .i64 (y : Nat))) g 92 (rdC C n c y e) := h.set_ 1 _
theorem rd_set2 {w : World} {g : Nat} {C : Option Addr} {n c z : Nat} {e : Int} (h : Blk w g 92 (rdC C n c z e)) (y : Int) : Blk (w.setCell ⟨g, 2, none⟩ (.int .i64 y)) g 92 (rdC C n c z y) := h.set_ 2 _
section
variable {w : World} {g : Nat} {C : Option Addr} {n c z : Nat} {bs : List Nat} {e : Int}
theorem needd_t (kt : Blk w g 92 (rdC C n c z e)) : Calls Try.prog 57 #[.pointer (some ⟨g, 0, none⟩), .bool true] w fun e w' => e = .returned (.tuple #[]) ∧ w = w' := by
  obtain ⟨c0, c1, c2, f1, f2, hl⟩ := kt.rd
  by_cases h : e = 0
  · have t : (e == 0) = true := by simp [h]
    clear h kt
    go_enter Try.func57, Try.ntmps57
    go_wp2
    go_end0
    exact ⟨rfl, rfl⟩
  · have t : (e == 0) = false := by simp [h]
    clear h kt
    go_enter Try.func57, Try.ntmps57
    go_wp2
    go_end0
    exact ⟨rfl, rfl⟩
theorem needd_e (b : Bool) (he : e ≠ 0) (kt : Blk w g 92 (rdC C n c z e)) : Calls Try.prog 57 #[.pointer (some ⟨g, 0, none⟩), .bool b] w fun e w' => e = .returned (.tuple #[]) ∧ w = w' := by
  obtain ⟨c0, c1, c2, f1, f2, hl⟩ := kt.rd
  have t : (e == 0) = false := by simp [he]
  clear he kt
  go_enter Try.func57, Try.ntmps57
  go_wp2
  go_end0
  exact ⟨rfl, rfl⟩
theorem needd_f (kt : Blk w g 92 (rdC C n c z 0)) : Calls Try.prog 57 #[.pointer (some ⟨g, 0, none⟩), .bool false] w (RetS (.tuple #[]) g (rdC C n c z 7) w) := by
  obtain ⟨c0, c1, c2, f1, f2, hl⟩ := kt.rd
  have HF := hid (show RetS (.tuple #[]) g (rdC C n c z 7) w (.returned (.tuple #[])) (w.setCell ⟨g, 2, none⟩ (.int .i64 7)) from ⟨rfl, (But.refl g w).setg 2 _, rd_set2 kt 7⟩)
  clear kt
  go_enter Try.func57, Try.ntmps57
  go_wp2
  go_end0
  exact HF.out
/-- need, in one -/
theorem needd (b : Bool) (kt : Blk w g 92 (rdC C n c z e)) : Calls Try.prog 57 #[.pointer (some ⟨g, 0, none⟩), .bool b] w (RetS (.tuple #[]) g (rdC C n c z (if e = 0 ∧ b = false then 7 else e)) w) := by
  by_cases he : e = 0
  · subst he
    cases b with
    | true =>
      rw [if_neg (by simp)]
      exact (needd_t kt).mono fun e w' h => ⟨h.1, by rw [← h.2]; exact But.refl _ _, by rw [← h.2]; exact kt⟩
    | false =>
      rw [if_pos ⟨rfl, rfl⟩]
      exact needd_f kt
  · rw [if_neg (by simp [he])]
    exact (needd_e b he kt).mono fun e w' h => ⟨h.1, by rw [← h.2]; exact But.refl _ _, by rw [← h.2]; exact kt⟩
set_option maxHeartbeats 400000 in
theorem oned_ok (kt : Blk w g 92 (rdC C n c z 0)) (hs : Src w C n c bs) (hz : z < n) :
    Calls Try.prog 92 #[.pointer (some ⟨g, 0, none⟩)] w (RetS (.int .u8 (bs.getD z 0 : Nat)) g (rdC C n c (z + 1) 0) w) := by
  have hn := hs.hn
  have K1 := rd_set1 (z := z) (kt.drew) (z + 1)
  have R1 := hs.reads.drew.setCell (p := ⟨g, 1, none⟩) kt.drew.typed (by decide) (.int .i64 ((z + 1 : Nat) : Int))
  obtain ⟨w1, hw1⟩ : ∃ w1, w1 = w.drew.setCell ⟨g, 1, none⟩ (.int .i64 ((z + 1 : Nat) : Int)) := ⟨_, rfl⟩
  rw [← hw1] at K1 R1
  have hw2 : w.drew.setCell ⟨g, 1, none⟩ (.int .i64 ((z : Int) + 1)) = w1 := hw1.symm
  obtain ⟨ad, rfl, hc⟩ := bsV_at R1 hz
  obtain ⟨c0, c1, c2, f1, f2, hl⟩ := kt.rd
  obtain ⟨d0, d1, d2, g1, g2, hl1⟩ := K1.rd
  have d1' : w1.cell? ⟨g, 1, none⟩ = some (.int .i64 ((z : Int) + 1)) := d1
  have HF := hid (show RetS (.int .u8 (bs.getD z 0 : Nat)) g (rdC (some ad) n c (z + 1) 0) w (.returned (.int .u8 (bs.getD z 0 : Nat))) w1.drew from ⟨rfl, by rw [hw1]; exact ((((But.refl g w).drew).setg 1 _).drew), K1.drew⟩)
  have hzi : (z : Int) < n := by omega
  have hz0 : (0 : Int) ≤ z := by omega
  have hzn : decide ((n : Int) ≤ (z : Int)) = false := decide_eq_false (by omega)
  have hzc : z < c := Nat.lt_of_lt_of_le hz hs.hc
  have hzs : IntKind.i64.wrap ((z : Int) + 1 - 1) = (z : Int) := by rw [IntKind.wrap_i64]; omega
  have hzs2 : IntKind.i64.wrap (z : Int) = (z : Int) := by rw [IntKind.wrap_i64]; omega
  have hzp : wrap64 ((z : Int) + 1) = (z : Int) + 1 := by unfold wrap64; omega
  clear hs kt hw1 K1 R1
  go_enter Try.func92, Try.ntmps92
  go_wp2_with fail
  go_region_held3 (fun w' => w'.cell? ⟨g, 0, none⟩ = some (.slice (some ad) n c) ∧ w'.cell? ⟨g, 1, none⟩ = some (.int .i64 (z : Nat)) ∧ w'.cell? ⟨g, 2, none⟩ = some (.int .i64 0))
    (exact ⟨c0, c1, c2⟩)
    (fail)
  go_upto_region 6 with fail
  clear hw2 c0 c1 c2 f1 f2
  go_region_held3 (fun w' => w'.cell? ⟨g, 0, none⟩ = some (.slice (some ad) n c) ∧ w'.cell? ⟨g, 1, none⟩ = some (.int .i64 ((z : Int) + 1)) ∧ w'.cell? (ad.add z) = some (.int .u8 (bs.getD z 0 : Nat)))
    (exact ⟨d0, d1', hc⟩)
    (fail)
  go_wp2_with fail
  go_ret
  exact HF.out
set_option maxHeartbeats 400000 in
theorem oned_no (kt : Blk w g 92 (rdC C n c z 0)) (hn : n ≤ 1000000) (hz : n ≤ z) (hz9 : z ≤ 1000000000) :
    Calls Try.prog 92 #[.pointer (some ⟨g, 0, none⟩)] w (RetS (.int .u8 0) g (rdC C n c z 6) w) := by
  obtain ⟨c0, c1, c2, f1, f2, hl⟩ := kt.rd
  have HF := hid (show ∀ q, RetS (.int .u8 0) g (rdC C n c z 6) w (.returned (.int .u8 0)) ((w.drewN q).setCell ⟨g, 2, none⟩ (.int .i64 6)) from fun q => ⟨rfl, (show But g w (w.drewN q) from ⟨rfl, rfl, rfl, Nat.le_refl _, fun _ _ _ => rfl⟩).setg 2 _, rd_set2 (z := z) (kt.drewN q) 6⟩)
  have hzn : decide ((n : Int) ≤ (z : Int)) = true := decide_eq_true (by omega)
  have hz0 : (n : Int) ≤ z := by omega
  clear kt
  go_enter Try.func92, Try.ntmps92
  go_wp2_with fail
  go_region_held3 (fun w' => w'.cell? ⟨g, 0, none⟩ = some (.slice C n c) ∧ w'.cell? ⟨g, 1, none⟩ = some (.int .i64 (z : Nat)) ∧ w'.cell? ⟨g, 2, none⟩ = some (.int .i64 0))
    (exact ⟨c0, c1, c2⟩)
    (fail)
  go_wp2_with fail
  go_ret
  exact HF.out 1
set_option maxHeartbeats 400000 in
theorem oned_er (he : e ≠ 0) (kt : Blk w g 92 (rdC C n c z e)) :
    Calls Try.prog 92 #[.pointer (some ⟨g, 0, none⟩)] w (RetS (.int .u8 0) g (rdC C n c z e) w) := by
  obtain ⟨c0, c1, c2, f1, f2, hl⟩ := kt.rd
  have HF := hid (show ∀ q, RetS (.int .u8 0) g (rdC C n c z e) w (.returned (.int .u8 0)) (w.drewN q) from fun q => ⟨rfl, ⟨rfl, rfl, rfl, Nat.le_refl _, fun _ _ _ => rfl⟩, kt.drewN q⟩)
  have t : (e == 0) = false := by simp [he]
  have t2 : (e != 0) = true := by simp [he]
  have t3 : decide (e = 0) = false := by simp [he]
  clear kt he
  go_enter Try.func92, Try.ntmps92
  go_wp2_with fail
  refine wp_region_held_drew (S := (fun w' => w'.cell? ⟨g, 0, none⟩ = some (.slice C n c) ∧ w'.cell? ⟨g, 1, none⟩ = some (.int .i64 (z : Nat)) ∧ w'.cell? ⟨g, 2, none⟩ = some (.int .i64 e))) (by kernel_rfl) ⟨c0, c1, c2⟩ (fun hHeld => ?_)
  refine wpAnyH_take (i := 0) (v := ?_) rfl (by kernel_rfl) (by kernel_rfl) (by kernel_rfl) (fun _ _ _ h => h) (Or.inl ⟨by rfl, ?_⟩) (by assumption) ?_
  rotate_left
  · intro W hW
    go_simp
    try rfl
  simp only [List.getElem_toArray, List.getElem_cons_zero, Act.put, List.setIfInBounds_toArray, List.set_cons_zero, List.set_cons_succ]
  refine wpAnyH_take (i := 1) (v := ?_) rfl (by kernel_rfl) (by kernel_rfl) (by kernel_rfl) (fun _ _ _ h => h) (Or.inl ⟨by rfl, ?_⟩) (by assumption) ?_
  rotate_left
  · intro W hW
    go_simp
    try rfl
  simp only [List.getElem_toArray, List.getElem_cons_succ, List.getElem_cons_zero, Act.put, List.setIfInBounds_toArray, List.set_cons_zero, List.set_cons_succ]
  refine wpAnyH_take (i := 2) (v := ?_) rfl (by kernel_rfl) (by kernel_rfl) (by kernel_rfl) (fun _ _ _ h => h) (Or.inl ⟨by rfl, ?_⟩) (by assumption) ?_
  rotate_left
  · intro W hW
    go_simp
    try rfl
  simp only [List.getElem_toArray, List.getElem_cons_succ, List.getElem_cons_zero, Act.put, List.setIfInBounds_toArray, List.set_cons_zero, List.set_cons_succ]
  refine wpAnyH_take (i := 3) (v := ?_) rfl (by kernel_rfl) (by kernel_rfl) (by kernel_rfl) (fun _ _ _ h => h) (Or.inl ⟨by rfl, ?_⟩) (by assumption) ?_
  rotate_left
  · intro W hW
    obtain ⟨y0, y1, y2⟩ := hW
    go_simp
    try rfl
  simp only [List.getElem_toArray, List.getElem_cons_succ, List.getElem_cons_zero, Act.put, List.setIfInBounds_toArray, List.set_cons_zero, List.set_cons_succ]
  refine wpAnyH_take (i := 4) (v := ?_) rfl (by kernel_rfl) (by kernel_rfl) (by kernel_rfl) (fun _ _ _ h => h) (Or.inl ⟨by rfl, ?_⟩) (by assumption) ?_
  rotate_left
  · intro W hW
    go_simp
    try rfl
  simp only [List.getElem_toArray, List.getElem_cons_succ, List.getElem_cons_zero, Act.put, List.setIfInBounds_toArray, List.set_cons_zero, List.set_cons_succ]
  refine wpAnyH_take (i := 5) (v := ?_) rfl (by kernel_rfl) (by kernel_rfl) (by kernel_rfl) (fun _ _ _ h => h) (Or.inl ⟨by rfl, ?_⟩) (by assumption) ?_
  rotate_left
  · intro W hW
    go_simp
    try rfl
  simp only [List.getElem_toArray, List.getElem_cons_succ, List.getElem_cons_zero, Act.put, List.setIfInBounds_toArray, List.set_cons_zero, List.set_cons_succ]
  refine wpAnyH_take (i := 6) (v := undef) rfl (by kernel_rfl) (by kernel_rfl) (by kernel_rfl) (fun _ _ _ h => h) (Or.inr ⟨by rfl, rfl⟩) (by assumption) ?_
  simp only [List.getElem_toArray, List.getElem_cons_succ, List.getElem_cons_zero, Act.put, List.setIfInBounds_toArray, List.set_cons_zero, List.set_cons_succ]
  refine wpAnyH_take (i := 7) (v := undef) rfl (by kernel_rfl) (by kernel_rfl) (by kernel_rfl) (fun _ _ _ h => h) (Or.inr ⟨by rfl, rfl⟩) (by assumption) ?_
  simp only [List.getElem_toArray, List.getElem_cons_succ, List.getElem_cons_zero, Act.put, List.setIfInBounds_toArray, List.set_cons_zero, List.set_cons_succ]
  refine wpAnyH_take (i := 8) (v := undef) rfl (by kernel_rfl) (by kernel_rfl) (by kernel_rfl) (fun _ _ _ h => h) (Or.inr ⟨by rfl, rfl⟩) (by assumption) ?_
  simp only [List.getElem_toArray, List.getElem_cons_succ, List.getElem_cons_zero, Act.put, List.setIfInBounds_toArray, List.set_cons_zero, List.set_cons_succ]
  refine wpAnyH_take (i := 9) (v := undef) rfl (by kernel_rfl) (by kernel_rfl) (by kernel_rfl) (fun _ _ _ h => h) (Or.inr ⟨by rfl, rfl⟩) (by assumption) ?_
  simp only [List.getElem_toArray, List.getElem_cons_succ, List.getElem_cons_zero, Act.put, List.setIfInBounds_toArray, List.set_cons_zero, List.set_cons_succ]
  refine wpAnyH_take (i := 10) (v := undef) rfl (by kernel_rfl) (by kernel_rfl) (by kernel_rfl) (fun _ _ _ h => h) (Or.inr ⟨by rfl, rfl⟩) (by assumption) ?_
  simp only [List.getElem_toArray, List.getElem_cons_succ, List.getElem_cons_zero, Act.put, List.setIfInBounds_toArray, List.set_cons_zero, List.set_cons_succ]
  refine wpAnyH_take (i := 11) (v := undef) rfl (by kernel_rfl) (by kernel_rfl) (by kernel_rfl) (fun _ _ _ h => h) (Or.inr ⟨by rfl, rfl⟩) (by assumption) ?_
  simp only [List.getElem_toArray, List.getElem_cons_succ, List.getElem_cons_zero, Act.put, List.setIfInBounds_toArray, List.set_cons_zero, List.set_cons_succ]
  refine wpAnyH_take (i := 12) (v := undef) rfl (by kernel_rfl) (by kernel_rfl) (by kernel_rfl) (fun _ _ _ h => h) (Or.inr ⟨by rfl, rfl⟩) (by assumption) ?_
  simp only [List.getElem_toArray, List.getElem_cons_succ, List.getElem_cons_zero, Act.put, List.setIfInBounds_toArray, List.set_cons_zero, List.set_cons_succ]
  refine wpAnyH_take (i := 13) (v := undef) rfl (by kernel_rfl) (by kernel_rfl) (by kernel_rfl) (fun _ _ _ h => h) (Or.inr ⟨by rfl, rfl⟩) (by assumption) ?_
  simp only [List.getElem_toArray, List.getElem_cons_succ, List.getElem_cons_zero, Act.put, List.setIfInBounds_toArray, List.set_cons_zero, List.set_cons_succ]
  refine wpAnyH_take (i := 14) (v := undef) rfl (by kernel_rfl) (by kernel_rfl) (by kernel_rfl) (fun _ _ _ h => h) (Or.inr ⟨by rfl, rfl⟩) (by assumption) ?_
  simp only [List.getElem_toArray, List.getElem_cons_succ, List.getElem_cons_zero, Act.put, List.setIfInBounds_toArray, List.set_cons_zero, List.set_cons_succ]
  refine wpAnyH_take (i := 15) (v := undef) rfl (by kernel_rfl) (by kernel_rfl) (by kernel_rfl) (fun _ _ _ h => h) (Or.inr ⟨by rfl, rfl⟩) (by assumption) ?_
  simp only [List.getElem_toArray, List.getElem_cons_succ, List.getElem_cons_zero, Act.put, List.setIfInBounds_toArray, List.set_cons_zero, List.set_cons_succ]
  refine wpAnyH_take (i := 16) (v := ?_) rfl (by kernel_rfl) (by kernel_rfl) (by kernel_rfl) (fun _ _ _ h => h) (Or.inl ⟨by rfl, ?_⟩) (by assumption) ?_
  rotate_left
  · intro W hW
    go_simp
    try rfl
  simp only [List.getElem_toArray, List.getElem_cons_succ, List.getElem_cons_zero, Act.put, List.setIfInBounds_toArray, List.set_cons_zero, List.set_cons_succ]
  refine wpAnyH_done (by kernel_rfl) ?_ _
  go_wp2_with fail
  go_ret
  exact HF.out 1
/-- what one comes to -/
def rdOne (bs : List Nat) (z : Nat) (e : Int) : Nat × Nat × Int := if e = 0 then (if z < bs.length then (bs.getD z 0, z + 1, 0) else (0, z, 6)) else (0, z, e)
theorem oned (kt : Blk w g 92 (rdC C n c z e)) (hs : Src w C n c bs) (hz9 : z ≤ 1000000000) :
    Calls Try.prog 92 #[.pointer (some ⟨g, 0, none⟩)] w (RetS (.int .u8 ((rdOne bs z e).1 : Nat)) g (rdC C n c (rdOne bs z e).2.1 (rdOne bs z e).2.2) w) := by
  unfold rdOne
  have hl := hs.len
  by_cases he : e = 0
  · subst he
    rw [if_pos rfl]
    by_cases hz : z < bs.length
    · rw [if_pos hz]
      exact oned_ok kt hs (by omega)
    · rw [if_neg hz]
      exact oned_no (z := z) kt hs.hn (by omega) hz9
  · rw [if_neg he]
    exact oned_er he kt
/-- what plain comes to -/
def rdPlain (bs : List Nat) (most z : Nat) (e : Int) : Nat × Nat × Int := if e = 0 then (match plainS bs most z with | .ok (v, p) => (v, p, 0) | .error x => (0, z, x)) else (0, z, e)
set_option maxHeartbeats 400000 in
theorem plaind_er {most : Nat} (he : e ≠ 0) (kt : Blk w g 92 (rdC C n c z e)) :
    Calls Try.prog 55 #[.pointer (some ⟨g, 0, none⟩), .int .u64 (most : Nat)] w (RetS (.int .i64 0) g (rdC C n c z e) w) := by
  obtain ⟨c0, c1, c2, f1, f2, hl⟩ := kt.rd
  have HF := hid (show RetS (.int .i64 0) g (rdC C n c z e) w (.returned (.int .i64 0)) w from ⟨rfl, But.refl _ _, kt⟩)
  have t : (e == 0) = false := by simp [he]
  have t2 : (e != 0) = true := by simp [he]
  clear kt he
  go_enter Try.func55, Try.ntmps55
  go_wp2_with fail
  go_ret
  exact HF.out
def RetRd (r : Nat × Nat × Int) (g : Nat) (C : Option Addr) (n c : Nat) (w : World) (e : Ending) (w' : World) : Prop := RetS (.int .i64 (r.1 : Nat)) g (rdC C n c r.2.1 r.2.2) w e w'
set_option maxHeartbeats 1000000 in
theorem plaind_0 {most v m : Nat} {x : Int} (kt : Blk w g 92 (rdC C n c z 0)) (hs : Src w C n c bs) (hm : most ≤ 4611686018427387904) (hrg : rg bs (z : Nat) = (v, m, x)) (r : Nat × Nat × Int) (hr : r = (if x = 0 then (if v ≤ most then (v, z + m, 0) else (0, z, 7)) else (0, z, x))) :
    Calls Try.prog 55 #[.pointer (some ⟨g, 0, none⟩), .int .u64 (most : Nat)] w (RetRd r g C n c w) := by
  have HG := hid (fun W (h : Reads W 5 1 C n (bsV bs)) => refGet_c C n c (z : Nat) bs W h hs.hn hs.hc hs.hcm hs.hbs)
  rw [hrg] at HG
  have hs1 := hs.reads.drew
  have HK1 := hid (show Blk (w.setCell ⟨g, 2, none⟩ (.int .i64 x)).drew g 92 (rdC C n c z x) from (rd_set2 kt x).drew)
  have HB1 := hid (show But g w (w.setCell ⟨g, 2, none⟩ (.int .i64 x)).drew from ((But.refl g w).setg 2 _).drew)
  have hok := rg_ok (bs := bs) (z := (z : Nat))
  rw [hrg] at hok
  have hl := hs.len
  have HN := hid (And.intro hs.hn hl)
  obtain ⟨c0, c1, c2, f1, f2, hlt⟩ := kt.rd
  have HOK := hid hok
  have HRR := hid hr
  clear kt hs hrg hok hl hr
  go_enter Try.func55, Try.ntmps55
  go_wp2_with fail
  go_region_held3 (fun w' => w'.cell? ⟨g, 0, none⟩ = some (.slice C n c) ∧ w'.cell? ⟨g, 1, none⟩ = some (.int .i64 (z : Nat)))
    (exact ⟨c0, c1⟩)
    (first | (go_at_call 91; refine (HG.out _ hs1).mono ?_; rintro e w2 ⟨rfl, rfl⟩))
  go_upto_region 5 with fail
  generalize (w.setCell ⟨g, 2, none⟩ (.int .i64 x)).drew = w1 at *
  obtain ⟨d0, d1, d2, h1, h2, hlt1⟩ := HK1.out.rd
  by_cases hx : x = 0
  · subst hx
    have HO := hid (HOK.out rfl)
    clear HOK c0 c1 c2 f1 f2 hlt
    by_cases hv : v ≤ most
    · have HV := hid (HRR.out.trans (show _ = (v, z + m, (0 : Int)) by rw [if_pos rfl, if_pos hv]))
      have t1 : decide (v ≤ most) = true := decide_eq_true hv
      have HND := hid (needd_t HK1.out)
      have hzm : z + m ≤ 1000000 := by
        have h3 := HO.out.2.2
        rw [Int.toNat_natCast] at h3
        have h4 : z + m ≤ bs.length := h3
        have := HN.out
        omega
      have hw : IntKind.i64.wrap (v : Int) = (v : Int) := by rw [IntKind.wrap_i64]; omega
      have HF := hid (show RetRd r g C n c w (.returned (.int .i64 (v : Nat))) (w1.setCell ⟨g, 1, none⟩ (.int .i64 ((z : Int) + (m : Int)))) by rw [HV.out]; exact ⟨rfl, HB1.out.setg 1 _, rd_set1 HK1.out (z + m)⟩)
      clear hv
      go_wp2_with fail
      refine HND.out.mono ?_
      rintro e w2 ⟨rfl, rfl⟩
      go_wp2_with fail
      go_ret
      exact HF.out
    · have HV := hid (HRR.out.trans (show _ = (0, z, (7 : Int)) by rw [if_pos rfl, if_neg hv]))
      have t1 : decide (v ≤ most) = false := decide_eq_false hv
      have HND := hid (needd_f HK1.out)
      clear hv
      go_wp2_with fail
      refine HND.out.mono ?_
      rintro e w2 ⟨rfl, hb2, kt2⟩
      have HF := hid (show RetRd r g C n c w (.returned (.int .i64 0)) w2 by rw [HV.out]; exact ⟨rfl, HB1.out.trans hb2, kt2⟩)
      obtain ⟨y0, y1, y2, z1, z2, hlt2⟩ := kt2.rd
      clear hb2 kt2 d0 d1 d2 h1 h2 hlt1
      go_wp2_with fail
      go_ret
      exact HF.out
  · have HX := hid (HRR.out.trans (show _ = (0, z, x) by rw [if_neg hx]))
    have t1 : (x != 0) = true := by simp [hx]
    have t2 : (x == 0) = false := by simp [hx]
    have HND := hid (fun b => needd_e b hx HK1.out)
    have HF := hid (show RetRd r g C n c w (.returned (.int .i64 0)) w1 by rw [HX.out]; exact ⟨rfl, HB1.out, HK1.out⟩)
    clear hx c0 c1 c2 f1 f2 hlt
    go_wp2_with fail
    all_goals
      refine (HND.out _).mono ?_
      rintro e w2 ⟨rfl, rfl⟩
      go_wp2_with fail
      go_ret
      exact HF.out
theorem plaind {most : Nat} (kt : Blk w g 92 (rdC C n c z e)) (hs : Src w C n c bs) (hm : most ≤ 4611686018427387904) :
    Calls Try.prog 55 #[.pointer (some ⟨g, 0, none⟩), .int .u64 (most : Nat)] w (RetS (.int .i64 ((rdPlain bs most z e).1 : Nat)) g (rdC C n c (rdPlain bs most z e).2.1 (rdPlain bs most z e).2.2) w) := by
  by_cases he : e = 0
  · subst he
    obtain ⟨v, m, x, hrg⟩ : ∃ v m x, rg bs (z : Nat) = (v, m, x) := ⟨_, _, _, rfl⟩
    obtain ⟨r, hr⟩ : ∃ r, r = (if x = 0 then (if v ≤ most then (v, z + m, (0 : Int)) else (0, z, 7)) else (0, z, x)) := ⟨_, rfl⟩
    refine (plaind_0 kt hs hm hrg r hr).mono ?_
    intro e w' h
    have h2 := rg_got bs (z : Nat)
    rw [hrg] at h2
    have e1 : rdPlain bs most z 0 = r := by
      unfold rdPlain
      rw [if_pos rfl, hr]
      unfold plainS
      rw [h2]
      simp only
      by_cases hx : x = 0
      · rw [if_pos hx, if_pos hx]
        simp only [if_true]
        by_cases hv : v ≤ most
        · rw [if_pos hv, if_pos hv]; rfl
        · rw [if_neg hv, if_neg hv]
      · rw [if_neg hx, if_neg hx]
        simp only
        rw [if_neg hx]
    rw [e1]
    exact h
  · unfold rdPlain
    rw [if_neg he]
    exact plaind_er he kt
/-- what more comes to -/
def rdMore (bs : List Nat) (than least most : Int) (z : Nat) (e : Int) : Int × Nat × Int :=
  if e = 0 then (match signS bs z with | .ok (d, p) => (if least - than ≤ d ∧ d ≤ most - than then (than + d, p, 0) else (0, z, 7)) | .error x => (0, z, x)) else (0, z, e)
def RetMo (r : Int × Nat × Int) (g : Nat) (C : Option Addr) (n c : Nat) (w : World) (e : Ending) (w' : World) : Prop := RetS (.int .i64 r.1) g (rdC C n c r.2.1 r.2.2) w e w'
set_option maxHeartbeats 400000 in
theorem mored_er {than least most : Int} (he : e ≠ 0) (kt : Blk w g 92 (rdC C n c z e)) :
    Calls Try.prog 94 #[.pointer (some ⟨g, 0, none⟩), .int .i64 than, .int .i64 least, .int .i64 most] w (RetS (.int .i64 0) g (rdC C n c z e) w) := by
  obtain ⟨c0, c1, c2, f1, f2, hl⟩ := kt.rd
  have HF := hid (show RetS (.int .i64 0) g (rdC C n c z e) w (.returned (.int .i64 0)) w from ⟨rfl, But.refl _ _, kt⟩)
  have t : (e == 0) = false := by simp [he]
  have t2 : (e != 0) = true := by simp [he]
  clear kt he
  go_enter Try.func94, Try.ntmps94
  go_wp2_with fail
  go_ret
  exact HF.out
set_option maxHeartbeats 1000000 in
theorem mored_0 {than least most d : Int} {p : Nat} {x : Int} (kt : Blk w g 92 (rdC C n c z 0)) (hs : Src w C n c bs) (h1 : -2305843009213693952 ≤ than ∧ than ≤ 2305843009213693952) (h2 : -2305843009213693952 ≤ least ∧ least ≤ 2305843009213693952) (h3 : -2305843009213693952 ≤ most ∧ most ≤ 2305843009213693952)
    (hN : ∀ W, Reads W 5 1 C n (bsV bs) → Calls Try.prog 122 #[.slice C n c, .int .i64 (z : Nat)] W fun e w' => e = .returned (.tuple #[.int .i64 d, .int .i64 (p : Nat), .int .i64 x]) ∧ W = w') (r : Int × Nat × Int) (hr : r = (if x = 0 then (if least - than ≤ d ∧ d ≤ most - than then (than + d, p, 0) else (0, z, 7)) else (0, z, x))) :
    Calls Try.prog 94 #[.pointer (some ⟨g, 0, none⟩), .int .i64 than, .int .i64 least, .int .i64 most] w (RetMo r g C n c w) := by
  have HG := hid hN
  have hs1 := hs.reads.drew
  have HK1 := hid (show Blk (w.setCell ⟨g, 2, none⟩ (.int .i64 x)).drew g 92 (rdC C n c z x) from (rd_set2 kt x).drew)
  have HB1 := hid (show But g w (w.setCell ⟨g, 2, none⟩ (.int .i64 x)).drew from ((But.refl g w).setg 2 _).drew)
  obtain ⟨c0, c1, c2, f1, f2, hlt⟩ := kt.rd
  have HRR := hid hr
  have w1a : wrap64 (least - than) = least - than := by unfold wrap64; omega
  have w2a : wrap64 (most - than) = most - than := by unfold wrap64; omega
  clear kt hs hr hN
  go_enter Try.func94, Try.ntmps94
  go_wp2_with fail
  go_region_held3 (fun w' => w'.cell? ⟨g, 0, none⟩ = some (.slice C n c) ∧ w'.cell? ⟨g, 1, none⟩ = some (.int .i64 (z : Nat)))
    (exact ⟨c0, c1⟩)
    (first | (go_at_call 122; refine (HG.out _ hs1).mono ?_; rintro e w2 ⟨rfl, rfl⟩))
  go_upto_region 5 with fail
  generalize (w.setCell ⟨g, 2, none⟩ (.int .i64 x)).drew = w1 at *
  obtain ⟨d0, d1, d2, g1, g2, hlt1⟩ := HK1.out.rd
  clear c0 c1 c2 f1 f2 hlt
  by_cases hx : x = 0
  · subst hx
    by_cases hA : least - than ≤ d
    · by_cases hB : d ≤ most - than
      · have HV := hid (HRR.out.trans (show _ = (than + d, p, (0 : Int)) by rw [if_pos rfl, if_pos ⟨hA, hB⟩]))
        have HND := hid (needd_t HK1.out)
        have w3 : wrap64 (than + d) = than + d := by unfold wrap64; omega
        have HF := hid (show RetMo r g C n c w (.returned (.int .i64 (than + d))) (w1.setCell ⟨g, 1, none⟩ (.int .i64 (p : Nat))) by rw [HV.out]; exact ⟨rfl, HB1.out.setg 1 _, rd_set1 HK1.out p⟩)
        go_wp2_with fail
        refine HND.out.mono ?_
        rintro e w2 ⟨rfl, rfl⟩
        go_wp2_with fail
        go_ret
        exact HF.out
      · have HV := hid (HRR.out.trans (show _ = (0, z, (7 : Int)) by rw [if_pos rfl, if_neg (fun h => hB h.2)]))
        have HND := hid (needd_f HK1.out)
        go_wp2_with fail
        refine HND.out.mono ?_
        rintro e w2 ⟨rfl, hb2, kt2⟩
        have HF := hid (show RetMo r g C n c w (.returned (.int .i64 0)) w2 by rw [HV.out]; exact ⟨rfl, HB1.out.trans hb2, kt2⟩)
        obtain ⟨y0, y1, y2, z1, z2, hlt2⟩ := kt2.rd
        clear hb2 kt2 d0 d1 d2 g1 g2 hlt1
        go_wp2_with fail
        go_ret
        exact HF.out
    · have HV := hid (HRR.out.trans (show _ = (0, z, (7 : Int)) by rw [if_pos rfl, if_neg (fun h => hA h.1)]))
      have HND := hid (needd_f HK1.out)
      go_wp2_with fail
      refine HND.out.mono ?_
      rintro e w2 ⟨rfl, hb2, kt2⟩
      have HF := hid (show RetMo r g C n c w (.returned (.int .i64 0)) w2 by rw [HV.out]; exact ⟨rfl, HB1.out.trans hb2, kt2⟩)
      obtain ⟨y0, y1, y2, z1, z2, hlt2⟩ := kt2.rd
      clear hb2 kt2 d0 d1 d2 g1 g2 hlt1
      go_wp2_with fail
      go_ret
      exact HF.out
  · have HX := hid (HRR.out.trans (show _ = (0, z, x) by rw [if_neg hx]))
    have t1 : (x != 0) = true := by simp [hx]
    have t2 : (x == 0) = false := by simp [hx]
    have HND := hid (fun b => needd_e b hx HK1.out)
    have HF := hid (show RetMo r g C n c w (.returned (.int .i64 0)) w1 by rw [HX.out]; exact ⟨rfl, HB1.out, HK1.out⟩)
    clear hx
    go_wp2_with fail
    all_goals
      refine (HND.out _).mono ?_
      rintro e w2 ⟨rfl, rfl⟩
      go_wp2_with fail
      go_ret
      exact HF.out
theorem mored {than least most : Int} (kt : Blk w g 92 (rdC C n c z e)) (hs : Src w C n c bs) (h1 : -2305843009213693952 ≤ than ∧ than ≤ 2305843009213693952) (h2 : -2305843009213693952 ≤ least ∧ least ≤ 2305843009213693952) (h3 : -2305843009213693952 ≤ most ∧ most ≤ 2305843009213693952) :
    Calls Try.prog 94 #[.pointer (some ⟨g, 0, none⟩), .int .i64 than, .int .i64 least, .int .i64 most] w (RetMo (rdMore bs than least most z e) g C n c w) := by
  by_cases he : e = 0
  · subst he
    obtain ⟨v, p, x, hg⟩ : ∃ v p x, gotN bs (z : Nat) = (v, p, x) := ⟨_, _, _, rfl⟩
    refine mored_0 (d := unf v) (p := p) (x := x) kt hs h1 h2 h3 (fun W hW => ?_) _ ?_
    · have h := number_c C n c (z : Nat) bs W hW hs.hn hs.hc hs.hcm hs.hbs
      rw [hg] at h
      exact h
    · unfold rdMore signS
      rw [if_pos rfl, hg]
      simp only
      by_cases hx : x = 0
      · rw [if_pos hx, if_pos hx]
      · rw [if_neg hx, if_neg hx]
  · unfold rdMore
    rw [if_neg he]
    exact mored_er he kt
end
end Go.Proofs.Ytgdnpmjmkcccoaa
namespace Go.Proofs.Ytgdnpmjmkcccoaa
open Go.RowKit Go.Shelf VB
open Go.Lib (hid)
set_option linter.unusedVariables false
set_option linter.unusedSimpArgs false
theorem plainS_err {bs : List Nat} {most z : Nat} {x : Int} (h : plainS bs most z = .error x) : x ≠ 0 := by
  unfold plainS at h
  split at h
  · split at h
    · cases h
    · injection h with h; rw [← h]; decide
  · rename_i h0
    injection h with h
    rw [← h]
    exact h0
theorem signS_err {bs : List Nat} {z : Nat} {x : Int} (h : signS bs z = .error x) : x ≠ 0 := by
  unfold signS at h
  split at h
  · cases h
  · rename_i h0
    injection h with h
    rw [← h]
    exact h0
theorem gotN_end {bs : List Nat} {z v p : Nat} (h : gotN bs z = (v, p, 0)) : p ≤ bs.length := by
  have := gotN_ok (bs := bs) (z := (z : Nat)) (by rw [h])
  rw [h] at this
  exact this.2.2
theorem rdPlain_res {bs : List Nat} {most z : Nat} {e : Int} : Res e (plainS bs most z) (fun d => (((rdPlain bs most z e).1 : Nat) : Int) = (d : Nat)) (rdPlain bs most z e).2.1 (rdPlain bs most z e).2.2 ∧ (rdPlain bs most z e).1 ≤ most ∧ ((rdPlain bs most z e).2.2 = 0 → (rdPlain bs most z e).2.1 ≤ bs.length) := by
  unfold rdPlain
  by_cases he : e = 0
  · subst he
    rw [if_pos rfl]
    cases h : plainS bs most z with
    | error x => exact ⟨Res.err rfl (plainS_err h), Nat.zero_le _, fun h0 => absurd h0 (plainS_err h)⟩
    | ok r =>
      obtain ⟨v, p⟩ := r
      have h1 := plainS_ok h
      exact ⟨Res.ok rfl rfl, h1.2, fun _ => gotN_end h1.1⟩
  · rw [if_neg he]
    exact ⟨Res.was he, Nat.zero_le _, fun h => absurd h he⟩
theorem rdOne_res {bs : List Nat} {z : Nat} {e : Int} (hb : ∀ x ∈ bs, x < 256) : Res e (oneS bs z) (fun d => (((rdOne bs z e).1 : Nat) : Int) = (d : Nat)) (rdOne bs z e).2.1 (rdOne bs z e).2.2 ∧ (rdOne bs z e).1 < 256 ∧ ((rdOne bs z e).2.2 = 0 → (rdOne bs z e).2.1 ≤ bs.length) := by
  unfold rdOne oneS
  by_cases he : e = 0
  · subst he
    rw [if_pos rfl]
    by_cases hz : z < bs.length
    · rw [if_pos hz, if_pos hz]
      refine ⟨Res.ok rfl rfl, ?_, fun _ => hz⟩
      simp only
      rw [List.getD_eq_getElem?_getD, List.getElem?_eq_getElem hz]
      exact hb _ (List.getElem_mem hz)
    · rw [if_neg hz, if_neg hz]
      exact ⟨Res.err rfl (show (6 : Int) ≠ 0 by decide), show (0 : Nat) < 256 by decide, fun h => by simp at h⟩
  · rw [if_neg he]
    exact ⟨Res.was he, show (0 : Nat) < 256 by decide, fun h => absurd h he⟩
theorem unf_in {u : Nat} (h : u < 18446744073709551616) : -9223372036854775808 ≤ unf u ∧ unf u ≤ 9223372036854775807 := by
  unfold unf
  split <;> omega
theorem rdMore_res {bs : List Nat} {V lo hi : Int} {z : Nat} {e : Int} : ∃ v2 z2 e2, Res e (signS bs z) (fun d => v2 = d) z2 e2 ∧ (-9223372036854775808 ≤ v2 ∧ v2 ≤ 9223372036854775807) ∧ (e2 = 0 → z2 ≤ bs.length) ∧
    (rdMore bs V lo hi z e).2.2 = (if e2 = 0 ∧ decide (lo - V ≤ v2 ∧ v2 ≤ hi - V) = false then 7 else e2) ∧ ((rdMore bs V lo hi z e).2.2 = 0 → (rdMore bs V lo hi z e).1 = V + v2 ∧ (rdMore bs V lo hi z e).2.1 = z2) ∧ ((rdMore bs V lo hi z e).2.2 ≠ 0 → (rdMore bs V lo hi z e).1 = 0) := by
  unfold rdMore
  by_cases he : e = 0
  · subst he
    rw [if_pos rfl]
    cases h : signS bs z with
    | error x =>
      have hx := signS_err h
      exact ⟨0, z, x, Res.err rfl hx, by decide, fun h => absurd h hx, by simp only; rw [if_neg (fun h => hx h.1)], fun h => absurd h hx, fun _ => rfl⟩
    | ok r =>
      obtain ⟨d, p⟩ := r
      obtain ⟨u, h1, h2⟩ := signS_ok h
      refine ⟨d, p, 0, Res.ok rfl rfl, by rw [h2]; have := gotN_small bs (z : Nat); rw [h1] at this; exact unf_in this, fun _ => gotN_end h1, ?_⟩
      simp only
      by_cases hin : lo - V ≤ d ∧ d ≤ hi - V
      · rw [if_pos hin, decide_eq_true hin, if_neg (by simp)]
        exact ⟨rfl, fun _ => ⟨rfl, rfl⟩, fun h => absurd rfl h⟩
      · rw [if_neg hin, decide_eq_false hin]
        exact ⟨by simp, fun h => by simp at h, fun _ => by simp⟩
  · rw [if_neg he]
    exact ⟨0, z, e, Res.was he, by decide, fun h => absurd h he, by simp only; rw [if_neg (fun h => he h.1)], fun h => absurd h he, fun _ => rfl⟩
theorem Res.any {α : Type} {S : Except Int (α × Nat)} {R R' : α → Prop} {z z' : Nat} {e e1 : Int} (h : Res e S R z e1) (hz : e1 = 0 → z' = z ∧ ∀ d, R d → R' d) : Res e S R' z' e1 := by
  rcases h with ⟨h0, h1, d, h2, h3⟩ | ⟨h1, h2, h3⟩
  · obtain ⟨h4, h5⟩ := hz h1
    exact .inl ⟨h0, h1, d, by rw [h2, h4], h5 d h3⟩
  · exact .inr ⟨h1, h2, h3⟩
/-- a loop that reads so many things and stops at the first error -/
structure SevI {D σ : Type} (f : σ → Nat → Except Int ((D × σ) × Nat)) (L m : Nat) (s0 : σ) (z0 : Nat) (e0 : Int) (i : Nat) (s : σ) (acc : List D) (z : Nat) (e : Int) : Prop where
  ok : e = 0 → e0 = 0 ∧ i ≤ m ∧ sevS f m s0 z0 = joinS acc (sevS f (m - i) s z) ∧ z ≤ L
  er : e ≠ 0 → (e0 = 0 → sevS f m s0 z0 = .error e) ∧ (e0 ≠ 0 → e = e0)
theorem joinS_nil {D σ : Type} (x : Except Int ((List D × σ) × Nat)) : joinS [] x = x := by
  rcases x with x | ⟨⟨l, s⟩, z⟩ <;> rfl
section
variable {D σ : Type} {f : σ → Nat → Except Int ((D × σ) × Nat)} {L m : Nat} {s0 : σ} {z0 : Nat} {e0 : Int} {i : Nat} {s : σ} {acc : List D} {z : Nat} {e : Int}
theorem SevI.start (hz : e0 = 0 → z0 ≤ L) : SevI f L m s0 z0 e0 0 s0 [] z0 e0 :=
  ⟨fun h => ⟨h, Nat.zero_le _, by rw [joinS_nil]; rfl, hz h⟩, fun h => ⟨fun h0 => absurd h0 h, fun _ => rfl⟩⟩
theorem SevI.step (h : SevI f L m s0 z0 e0 i s acc z 0) (hi : i < m) {d : D} {s' : σ} {z' : Nat} {e' : Int} (hr : Res 0 (f s z) (fun q => q = (d, s')) z' e') (hz : e' = 0 → z' ≤ L) : SevI f L m s0 z0 e0 (i + 1) s' (acc ++ [d]) z' e' := by
  obtain ⟨h1, h2, h3, h4⟩ := h.ok rfl
  obtain ⟨k, hk⟩ : ∃ k, m - i = k + 1 := ⟨m - i - 1, by omega⟩
  have hk2 : m - (i + 1) = k := by omega
  rw [hk] at h3
  rcases hr with ⟨_, h5, q, h6, rfl⟩ | ⟨h5, h6, _⟩
  · refine ⟨fun _ => ⟨h1, hi, ?_, hz h5⟩, fun h => absurd h5 h⟩
    rw [h3, hk2, joinS_step h6]
  · refine ⟨fun h => absurd h h5, fun _ => ⟨fun _ => ?_, fun h => absurd h1 h⟩⟩
    rw [h3, joinS_er (h6 rfl)]
theorem SevI.fin (h : SevI f L m s0 z0 e0 i s acc z e) (he : e = 0 → m ≤ i) : Res e0 (sevS f m s0 z0) (fun q => q = (acc, s)) z e := by
  by_cases h0 : e = 0
  · obtain ⟨h1, h2, h3, h4⟩ := h.ok h0
    have h5 := he h0
    have : m - i = 0 := by omega
    rw [this, joinS_end] at h3
    exact .inl ⟨h1, h0, _, h3, rfl⟩
  · obtain ⟨h1, h2⟩ := h.er h0
    exact .inr ⟨h0, h1, h2⟩
end
section
variable {w : World} {g : Nat} {C : Option Addr} {n c z : Nat} {bs : List Nat} {e : Int}
def RetU (P : Nat → Nat → Int → Prop) (k : IntKind) (g : Nat) (C : Option Addr) (n c : Nat) (w : World) (d : Ending) (w' : World) : Prop := ∃ (v z1 : Nat) (e1 : Int), d = .returned (.int k (v : Nat)) ∧ But g w w' ∧ Blk w' g 92 (rdC C n c z1 e1) ∧ P v z1 e1
theorem plainR {most : Nat} (kt : Blk w g 92 (rdC C n c z e)) (hs : Src w C n c bs) (hm : most ≤ 4611686018427387904) :
    Calls Try.prog 55 #[.pointer (some ⟨g, 0, none⟩), .int .u64 (most : Nat)] w (RetU (fun v z1 e1 => Res e (plainS bs most z) (fun d => ((v : Nat) : Int) = (d : Nat)) z1 e1 ∧ v ≤ most ∧ (e1 = 0 → z1 ≤ bs.length)) .i64 g C n c w) :=
  (plaind kt hs hm).mono fun d w' h => ⟨_, _, _, h.1, h.2.1, h.2.2, rdPlain_res⟩
theorem oneR (kt : Blk w g 92 (rdC C n c z e)) (hs : Src w C n c bs) (hz : e = 0 → z ≤ bs.length) :
    Calls Try.prog 92 #[.pointer (some ⟨g, 0, none⟩)] w (RetU (fun v z1 e1 => Res e (oneS bs z) (fun d => ((v : Nat) : Int) = (d : Nat)) z1 e1 ∧ v < 256 ∧ (e1 = 0 → z1 ≤ bs.length)) .u8 g C n c w) := by
  have hl := hs.len
  have hn := hs.hn
  by_cases he : e = 0
  · exact (oned kt hs (by have := hz he; omega)).mono fun d w' h => ⟨_, _, _, h.1, h.2.1, h.2.2, rdOne_res hs.hbs⟩
  · refine (oned_er he kt).mono fun d w' h => ⟨0, z, e, h.1, h.2.1, h.2.2, Res.was he, by decide, fun h => absurd h he⟩
theorem moreR {V lo hi : Int} (kt : Blk w g 92 (rdC C n c z e)) (hs : Src w C n c bs) (h1 : -2305843009213693952 ≤ V ∧ V ≤ 2305843009213693952) (h2 : -2305843009213693952 ≤ lo ∧ lo ≤ 0) (h3 : 0 ≤ hi ∧ hi ≤ 2305843009213693952) :
    Calls Try.prog 94 #[.pointer (some ⟨g, 0, none⟩), .int .i64 V, .int .i64 lo, .int .i64 hi] w fun d w' => ∃ (v : Int) (z1 : Nat) (e1 : Int), d = .returned (.int .i64 v) ∧ But g w w' ∧ Blk w' g 92 (rdC C n c z1 e1) ∧ (lo ≤ v ∧ v ≤ hi) ∧ (e1 = 0 → z1 ≤ bs.length) ∧
      ∃ v2 z2 e2, Res e (signS bs z) (fun d => v2 = d) z2 e2 ∧ (-9223372036854775808 ≤ v2 ∧ v2 ≤ 9223372036854775807) ∧ e1 = (if e2 = 0 ∧ decide (lo - V ≤ v2 ∧ v2 ≤ hi - V) = false then 7 else e2) ∧ (e1 = 0 → v = V + v2 ∧ z1 = z2) := by
  refine (mored kt hs h1 (by omega) (by omega)).mono fun d w' h => ?_
  obtain ⟨r, hr⟩ : ∃ r, r = rdMore bs V lo hi z e := ⟨_, rfl⟩
  obtain ⟨v2, z2, e2, a1, a2, a3, a4, a5, a6⟩ := rdMore_res (bs := bs) (V := V) (lo := lo) (hi := hi) (z := z) (e := e)
  unfold RetMo at h
  rw [← hr] at h a4 a5 a6
  refine ⟨r.1, r.2.1, r.2.2, h.1, h.2.1, h.2.2, ?_, ?_, v2, z2, e2, a1, a2, a4, a5⟩
  · by_cases h0 : r.2.2 = 0
    · rw [(a5 h0).1]
      rw [h0] at a4
      by_cases hin : lo - V ≤ v2 ∧ v2 ≤ hi - V
      · omega
      · rw [decide_eq_false hin] at a4
        split at a4
        · cases a4
        · rename_i h7
          exact absurd ⟨a4.symm, rfl⟩ h7
    · rw [a6 h0]; omega
  · intro h0
    rw [(a5 h0).2]
    apply a3
    rw [h0] at a4
    split at a4
    · cases a4
    · exact a4.symm
end
end Go.Proofs.Ytgdnpmjmkcccoaa
namespace Go.Proofs.Ytgdnpmjmkcccoaa
open Go.RowKit Go.Shelf VB
open Go.Lib (hid)
set_option linter.unusedVariables false
set_option linter.unusedSimpArgs false
theorem Reads.keepA {w w' : World} {e : TypeId} {sz n : Nat} {A : Option Addr} {cs : List Value} (h : Reads w e sz A n cs) (hk : ∀ ad, A = some ad → Typed w ad.block e → w'.heap[ad.block]? = w.heap[ad.block]?) : Reads w' e sz A n cs :=
  ⟨h.1, fun hn => by
    obtain ⟨ad, e1, ht, hc⟩ := h.2 hn
    have hb := hk ad e1 ht
    refine ⟨ad, e1, by unfold Typed; rw [hb]; exact ht, fun j u hu => (World.cell?_of_block (w := w) ?_).trans (hc j u hu)⟩
    rw [block_of_add]; exact hb⟩
/-- an entry's pages, in memory above lo -/
structure PgL (lo : Nat) (W : World) (x : EnA) : Prop where
  rd : Reads W 3 1 x.2.1 x.1.ps.length (x.1.ps.map (Value.int .i64))
  lo : ∀ ad, x.2.1 = some ad → lo ≤ ad.block
  len : x.1.ps.length ≤ 256
  cap : x.1.ps.length ≤ x.2.2
  fs : x.1.fs ≤ 9223372036854775807
theorem PgL.keep {lo : Nat} {W W' : World} {x : EnA} (h : PgL lo W x) (hk : ∀ b, lo ≤ b → Typed W b 3 → W'.heap[b]? = W.heap[b]?) : PgL lo W' x :=
  ⟨h.rd.keepA fun ad h1 h2 => hk _ (h.lo ad h1) h2, h.lo, h.len, h.cap, h.fs⟩
theorem PgL.but {lo g : Nat} {t : TypeId} {W W' : World} {x : EnA} (h : PgL lo W x) (k : But g W W') (ht : Typed W g t) (hne : 3 ≠ t) : PgL lo W' x :=
  h.keep fun b _ hb => k.block b hb.lt (fun e => by
    subst e
    obtain ⟨c1, r1, h1⟩ := hb
    obtain ⟨c2, r2, h2⟩ := ht
    rw [h1] at h2
    injection h2 with h2
    injection h2 with _ h3
    exact hne h3)
theorem PgL.low {lo l2 : Nat} {W : World} {x : EnA} (h : PgL lo W x) (hl : l2 ≤ lo) : PgL l2 W x := ⟨h.rd, fun ad he => Nat.le_trans hl (h.lo ad he), h.len, h.cap, h.fs⟩
theorem own_notE {w : World} {b n z g : Nat} {e : TypeId} {v : Value} {xs : List Value} (h : w.ownsRow b e z v n xs) {t : TypeId} (k : Typed w g t) (hne : t ≠ e) : some g ≠ v.ownBlock := by
  obtain ⟨_, h2⟩ := h
  rcases h2 with ⟨rfl, _⟩ | ⟨q, cap, cur, rfl, _, hh, _⟩
  · intro h; cases h
  · intro h
    injection h with h
    subst h
    obtain ⟨c2, r2, k⟩ := k
    rw [k] at hh
    injection hh with hh
    injection hh with _ h3
    exact hne h3
theorem PgL.grown {lo base n z : Nat} {e : TypeId} {v : Value} {xs : List Value} {W W' : World} {x : EnA} (h : PgL lo W x) (ho : W.ownsRow base e z v n xs) (hg : W.grownBy W' v.ownBlock) (hne : 3 ≠ e) : PgL lo W' x :=
  h.keep fun b _ hb => hg.block b hb.lt (own_notE ho hb hne)
theorem own_lo {w : World} {b n z : Nat} {e : TypeId} {A : Option Addr} {c : Nat} {xs : List Value} (h : w.ownsRow b e z (.slice A n c) n xs) : ∀ ad, A = some ad → b ≤ ad.block := by
  intro ad ha
  subst ha
  obtain ⟨_, h2⟩ := h
  rcases h2 with ⟨h3, _⟩ | ⟨q, cap, cur, h3, hb, _⟩
  · cases h3
  · injection h3 with h3 _ _
    injection h3 with h3
    rw [h3]
    exact hb
/-- entries that were read, in memory above lo -/
structure EsL (lo : Nat) (W : World) (xs : List EnA) (D : Option Addr) (f : Nat) : Prop where
  rd : Reads W 45 5 D xs.length (xs.flatMap cellsN)
  abv : ∀ ad, D = some ad → lo ≤ ad.block
  ps : ∀ x ∈ xs, PgL lo W x
  len : xs.length ≤ 256
  cap : xs.length ≤ f
structure EsI (w W : World) (g : Nat) (C : Option Addr) (n c : Nat) (bs : List Nat) (z : Nat) (e : Int) (D : Option Addr) (f : Nat) (xs : List EnA) : Prop where
  fr : But g w W
  kt : Blk W g 92 (rdC C n c z e)
  hs : Src W C n c bs
  own : W.ownsRow w.heap.size 45 5 (.slice D xs.length f) xs.length (xs.flatMap cellsN)
  ps : ∀ x ∈ xs, PgL w.heap.size W x
structure EnI (wo W : World) (g ge : Nat) (C : Option Addr) (n c : Nat) (bs : List Nat) (z : Nat) (e : Int) (fs ls ct by_ : Int) (P : Value) : Prop where
  fr : But g wo W
  kt : Blk W g 92 (rdC C n c z e)
  hs : Src W C n c bs
  kE : Blk W ge 45 (aE fs ls ct P by_)
section
variable {wo W W' : World} {g ge : Nat} {C : Option Addr} {n c : Nat} {bs : List Nat} {z : Nat} {e : Int} {fs ls ct by_ : Int} {P : Value}
theorem EnI.drew (h : EnI wo W g ge C n c bs z e fs ls ct by_ P) : EnI wo W.drew g ge C n c bs z e fs ls ct by_ P := ⟨h.fr.drew, h.kt, h.hs.drew, h.kE⟩
theorem EnI.rd (h : EnI wo W g ge C n c bs z e fs ls ct by_ P) {z1 : Nat} {e1 : Int} (hb : But g W W') (k : Blk W' g 92 (rdC C n c z1 e1)) (hne : ge ≠ g) : EnI wo W' g ge C n c bs z1 e1 fs ls ct by_ P :=
  ⟨h.fr.trans hb, k, h.hs.butS hb h.kt.typed, h.kE.but hb hne⟩
theorem EnI.st (h : EnI wo W g ge C n c bs z e fs ls ct by_ P) (i : Nat) (u : Value) {fs' ls' ct' by' : Int} {P' : Value} (hu : (aE fs ls ct P by_).setIfInBounds i u = aE fs' ls' ct' P' by') (hR : wo.heap.size ≤ ge) (hne : ge ≠ g) : EnI wo (W.setCell ⟨ge, i, none⟩ u) g ge C n c bs z e fs' ls' ct' by' P' :=
  ⟨h.fr.setn (by simpa using hR) u, h.kt.far (by simpa using Ne.symm hne) u, ⟨h.hs.reads.setCell (p := ⟨ge, i, none⟩) h.kE.typed (by decide) u, h.hs.hn, h.hs.hc, h.hs.hcm, h.hs.hbs⟩, by have := h.kE.set_ i u; rwa [hu] at this⟩
theorem EnI.cs (h : EnI wo W g ge C n c bs z e fs ls ct by_ P) : (W.cell? ⟨ge, 0, none⟩ = some (.int .i64 fs) ∧ W.cell? ⟨ge, 1, none⟩ = some (.int .i64 ls) ∧ W.cell? ⟨ge, 2, none⟩ = some (.int .i64 ct) ∧ W.cell? ⟨ge, 3, none⟩ = some P ∧ W.cell? ⟨ge, 4, none⟩ = some (.int .i64 by_)) ∧ (∀ i, W.frozen? ⟨ge, i, none⟩ = false) ∧ ge < W.heap.size :=
  ⟨h.kE.fivec, fun i => h.kE.frozen i, h.kE.lt⟩
end
theorem But.grow {g : Nat} {a w w' : World} {row : Option Nat} (h : But g a w) (k : w.grownBy w' row) (hr : ∀ j, row = some j → a.heap.size ≤ j) : But g a w' :=
  ⟨k.os.trans h.os, k.tape.trans h.tape, k.output.trans h.output, Nat.le_trans h.size k.size, fun i hi hn => (k.block i (Nat.lt_of_lt_of_le hi h.size) (fun e => by have := hr i e.symm; omega)).trans (h.block i hi hn)⟩
theorem Src.grown {W W' : World} {C : Option Addr} {n c : Nat} {bs : List Nat} {base m z : Nat} {e : TypeId} {v : Value} {xs : List Value} (h : Src W C n c bs) (ho : W.ownsRow base e z v m xs) (hg : W.grownBy W' v.ownBlock) (hne : 5 ≠ e) : Src W' C n c bs :=
  ⟨h.reads.keep fun b hb => hg.block b hb.lt (own_notE ho hb hne), h.hn, h.hc, h.hcm, h.hbs⟩
theorem Blk.grownE {W W' : World} {q : Nat} {t : TypeId} {cs : Array Value} {base m z : Nat} {e : TypeId} {v : Value} {xs : List Value} (h : Blk W q t cs) (ho : W.ownsRow base e z v m xs) (hg : W.grownBy W' v.ownBlock) (hne : t ≠ e) : Blk W' q t cs :=
  h.grown hg (own_notE ho h.typed hne)
theorem PgL.below {lo : Nat} {W W' : World} {x : EnA} (h : PgL lo W x) (hb : Below W.heap.size W W') : PgL lo W' x := h.keep fun b _ k => hb.block b k.lt
theorem pg_res {bs : List Nat} {z z1 : Nat} {e e1 v : Int} (h : Res e (plainS bs 255 z) (fun d => v = (d : Nat)) z1 e1) : Res e (fPg bs () z) (fun q => q = (v, ())) z1 e1 := by
  rcases h with ⟨h0, h1, d, h2, h3⟩ | ⟨h1, h2, h3⟩
  · exact .inl ⟨h0, h1, ((d : Int), ()), by unfold fPg; rw [h2], by rw [h3]⟩
  · exact .inr ⟨h1, fun h0 => by unfold fPg; rw [h2 h0], h3⟩
/-- the length of the slice that lies in a cell -/
def lenAt (W : World) (p : Addr) : Nat := match W.cell? p with | some (.slice _ n _) => n | _ => 0
def RetEs (bs : List Nat) (z : Nat) (e : Int) (g : Nat) (C : Option Addr) (n c : Nat) (w : World) (d : Ending) (w' : World) : Prop :=
  ∃ (xs : List EnA) (D : Option Addr) (f z1 : Nat) (e1 : Int), d = .returned (.slice D xs.length f) ∧ But g w w' ∧ Blk w' g 92 (rdC C n c z1 e1) ∧ Res e (entsM bs z) (fun l => l = xs.map Prod.fst) z1 e1 ∧ (e1 = 0 → z1 ≤ bs.length) ∧ EsL w.heap.size w' xs D f
set_option maxRecDepth 100000 in
set_option maxHeartbeats 8000000 in
theorem entriesR {w : World} {g : Nat} {C : Option Addr} {n c z : Nat} {bs : List Nat} {e : Int} (kt : Blk w g 92 (rdC C n c z e)) (hs : Src w C n c bs) :
    Calls Try.prog 95 #[.pointer (some ⟨g, 0, none⟩)] w (RetEs bs z e g C n c w) := by
  obtain ⟨iE, hi0, hz0, hz1, hz2⟩ := info_parts3 entry_info
  have HIE := hid (And.intro hi0 (And.intro hz0 (And.intro hz1 hz2)))
  clear hi0 hz0 hz1 hz2
  obtain ⟨iI, hi0, hz0, hz1, hz2⟩ := info_parts3 int_info2
  have HII := hid (And.intro hi0 (And.intro hz0 (And.intro hz1 hz2)))
  clear hi0 hz0 hz1 hz2
  have HP := hid (plainR (most := 256) kt hs (by decide))
  have lg := kt.lt
  have HKT := hid (And.intro kt hs)
  clear kt hs
  go_enter Try.func95, Try.ntmps95
  go_wp2_with fail
  refine HP.out.mono ?_
  rintro d w1 ⟨v, z1, e1, rfl, hb1, k1, r1, m1, q1⟩
  have HI0 := hid (show EsI w w1 g C n c bs z1 e1 none 0 [] from ⟨hb1, k1, HKT.out.2.butS hb1 HKT.out.1.typed, ⟨by simp, .inl ⟨rfl, rfl⟩⟩, fun x hx => absurd hx (by simp)⟩)
  have HS0 := hid (SevI.start (f := fEnt bs) (L := bs.length) (m := v) (s0 := (0 : Int)) (z0 := z1) (e0 := e1) q1)
  have HR1 := hid r1
  clear hb1 k1 r1 q1 HP HKT
  go_wp2_with fail
  go_loopw [3, 5, 6] (fun u3 u5 u6 wr => ∃ (i : Nat) (D : Option Addr) (f : Nat) (xs : List EnA) (last : Int) (z2 : Nat) (e2 : Int), i ≤ v ∧ u6 = .int .i64 (i : Nat) ∧ u5 = .int .i64 last ∧ u3 = .slice D i f ∧ i = xs.length ∧ (0 ≤ last ∧ last ≤ (i : Int) * 562949953421312) ∧ Hid (EsI w wr g C n c bs z2 e2 D f xs) ∧ Hid (SevI (fEnt bs) bs.length v (0 : Int) z1 e1 i last (xs.map Prod.fst) z2 e2)) (fun _ _ u6 _ => v - (intOf u6).toNat)
  case atStart => exact ⟨0, none, 0, [], 0, z1, e1, Nat.zero_le _, rfl, rfl, rfl, rfl, ⟨by decide, by decide⟩, HI0, HS0⟩
  case round =>
    obtain ⟨i, D, f, xs, last, z2, e2, hi, rfl, rfl, rfl, hxl, hlast, hst, hsv⟩ := hrel
    obtain ⟨wo, rfl⟩ : ∃ wo : World, wo = wr := ⟨_, rfl⟩
    have c2 : wo.cell? ⟨g, 2, none⟩ = some (.int .i64 e2) := hst.out.kt.cell 2
    have lo := hst.out.kt.lt
    have HXL := hid hxl
    clear HI0 HS0 hxl
    by_cases hlt : i < v
    · by_cases he : e2 = 0
      · subst he
        have HP1 := hid (plainR (most := 281474976710656) hst.out.kt hst.out.hs (by decide))
        have hltI : (i : Int) < (v : Int) := by omega
        go_wp2_with fail
        refine HP1.out.mono ?_
        rintro d w2 ⟨v1, z3, e3, rfl, hb3, k3, r3, m3, q3⟩
        obtain ⟨fs, hfs⟩ : ∃ fs, fs = last + (v1 : Int) := ⟨_, rfl⟩
        have hw : wrap64 (last + (v1 : Int)) = fs := by rw [hfs]; unfold wrap64; omega
        have hfi : IntKind.i64.wrap (last + (v1 : Int)) = fs := by rw [hfs, IntKind.wrap_i64]; omega
        obtain ⟨ge, hge⟩ : ∃ ge, ge = w2.heap.size := ⟨_, rfl⟩
        obtain ⟨w3, hw3⟩ : ∃ w3, w3 = w2.alloc (.cells (aE fs 0 0 (.slice none 0 0) 0) 45) := ⟨_, rfl⟩
        have HE1 := hid (show EnI wo w3 g ge C n c bs z3 e3 fs 0 0 0 (.slice none 0 0) from by
          rw [hw3]
          exact ⟨hb3.trans (But.of_below ((Below.refl _ _).alloc (Nat.le_refl _) _)), k3.alloc _, (hst.out.hs.butS hb3 hst.out.kt.typed).alloc _, by rw [hge]; exact Blk.new _ _ _⟩)
        have hgo : wo.heap.size ≤ ge := by rw [hge]; exact hb3.size
        have hgg : ge ≠ g := by omega
        have HR3 := hid r3
        have HB := hid (And.intro hfi (And.intro hfs q3))
        have hfr : 0 ≤ fs ∧ fs ≤ (i : Int) * 562949953421312 + 281474976710656 := by omega
        have hv256 : v ≤ 256 := m1
        clear hb3 k3 r3 q3 HP1 c2 hltI hfs hfi m3
        go_upto_region 7 with fail
        rw [← hw3]
        try rw [← hge]
        clear hw3 hge hw
        have HA := hid (plainR (most := 281474976710656) HE1.out.drew.kt HE1.out.drew.hs (by decide))
        refine wp_region_noPanic ?_
        refine wp_region_held_drew (S := fun W => W.cell? ⟨ge, 0, none⟩ = some (.int .i64 fs)) (by kernel_rfl) (HE1.out.drew.cs.1.1) (fun hHeld => ?_)
        refine wpAnyH_take (i := 0) (v := ?_) rfl (by kernel_rfl) (by kernel_rfl) (by kernel_rfl) (fun _ _ _ h => h) (Or.inl ⟨by rfl, ?_⟩) (by assumption) ?_
        rotate_left
        · intro W hW
          go_simp
          try rfl
        simp only [List.getElem_toArray, List.getElem_cons_zero, Act.put, List.setIfInBounds_toArray, List.set_cons_zero, List.set_cons_succ]
        refine wpAnyH_take (i := 1) (v := ?_) rfl (by kernel_rfl) (by kernel_rfl) (by kernel_rfl) (fun _ _ _ h => h) (Or.inl ⟨by rfl, ?_⟩) (by assumption) ?_
        rotate_left
        · intro W hW
          go_simp
          try rfl
        simp only [List.getElem_toArray, List.getElem_cons_succ, List.getElem_cons_zero, Act.put, List.setIfInBounds_toArray, List.set_cons_zero, List.set_cons_succ]
        refine wpAnyH_take (i := 2) (v := ?_) rfl (by kernel_rfl) (by kernel_rfl) (by kernel_rfl) (fun _ _ _ h => h) (Or.inl ⟨by rfl, ?_⟩) (by assumption) ?_
        rotate_left
        · intro W hW
          go_simp
          try rfl
        simp only [List.getElem_toArray, List.getElem_cons_succ, List.getElem_cons_zero, Act.put, List.setIfInBounds_toArray, List.set_cons_zero, List.set_cons_succ]
        refine wpAnyH_ready (rs := [3]) (by kernel_rfl) (by simp) ?_
        refine AllReadyH.cons rfl (fun K hK => ?_) AllReadyH.nil
        go_simp
        refine HA.out.mono ?_
        rintro d w4 ⟨v2, z4, e4, rfl, hb4, k4, r4, m4, q4⟩
        refine hK.out _ _ ((HE1.out.drew.rd hb4 k4 hgg).cs.1.1) (fun hHeld => ?_)
        clear hK K
        try simp only [List.getElem_toArray, List.getElem_cons_succ, List.getElem_cons_zero, Act.put, List.setIfInBounds_toArray, List.set_cons_zero, List.set_cons_succ]
        have HE2 := hid (HE1.out.drew.rd hb4 k4 hgg)
        have HR4 := hid r4
        have HQ4 := hid q4
        clear hb4 k4 r4 q4 HA HE1
        obtain ⟨ls, hls⟩ : ∃ ls, ls = fs + (v2 : Int) := ⟨_, rfl⟩
        have hw : IntKind.i64.wrap (fs + (v2 : Int)) = ls := by rw [hls, IntKind.wrap_i64]; omega
        have HLS := hid hls
        clear hls
        refine wpAnyH_take (i := 4) (v := ?_) rfl (by kernel_rfl) (by kernel_rfl) (by kernel_rfl) (fun _ _ _ h => h) (Or.inl ⟨by rfl, ?_⟩) (by assumption) ?_
        rotate_left
        · intro W hW
          go_simp
          try rfl
        simp only [List.getElem_toArray, List.getElem_cons_succ, List.getElem_cons_zero, Act.put, List.setIfInBounds_toArray, List.set_cons_zero, List.set_cons_succ]
        refine wpAnyH_take (i := 5) (v := ?_) rfl (by kernel_rfl) (by kernel_rfl) (by kernel_rfl) (fun _ _ _ h => h) (Or.inl ⟨by rfl, ?_⟩) (by assumption) ?_
        rotate_left
        · intro W hW
          go_simp
          try rfl
        simp only [List.getElem_toArray, List.getElem_cons_succ, List.getElem_cons_zero, Act.put, List.setIfInBounds_toArray, List.set_cons_zero, List.set_cons_succ]
        have HLW := hid hw.symm
        clear hHeld
        have x6 : w4.cell? ⟨ge, 1, none⟩ = some (.int .i64 0) := HE2.out.cs.1.2.1
        have y6 : w4.frozen? ⟨ge, 1, none⟩ = false := HE2.out.cs.2.1 1
        have z6 := HE2.out.cs.2.2
        have HE3 := hid (HE2.out.st 1 (.int .i64 ls) (fs' := fs) (ls' := ls) (ct' := 0) (by' := 0) (P' := .slice none 0 0) rfl hgo hgg)
        refine wpAnyH_ready (rs := [6]) (by kernel_rfl) (by simp) ?_
        refine AllReadyH.cons rfl (fun K hK => ?_) AllReadyH.nil
        go_simp
        refine hK.out _ _ (HE3.out.cs.1.1) (fun hHeld => ?_)
        clear hK K
        try simp only [List.getElem_toArray, List.getElem_cons_succ, List.getElem_cons_zero, Act.put, List.setIfInBounds_toArray, List.set_cons_zero, List.set_cons_succ]
        refine wpAnyH_done (by kernel_rfl) ?_ _
        refine NoPanic.normal ?_
        obtain ⟨w5, hw5⟩ : ∃ w5, w5 = w4.setCell ⟨ge, 1, none⟩ (.int .i64 ls) := ⟨_, rfl⟩
        rw [← hw5] at HE3 ⊢
        clear hw5 x6 y6 z6 HE2 hHeld hw
        have HP3 := hid (plainR (most := 256) HE3.out.kt HE3.out.hs (by decide))
        go_wp2_with fail
        refine HP3.out.mono ?_
        rintro d w6 ⟨v3, z5, e5, rfl, hb5, k5, r5, m5, q5⟩
        have HE4 := hid (HE3.out.rd hb5 k5 hgg)
        have HR5 := hid r5
        have HQ5 := hid q5
        have x6 : w6.cell? ⟨ge, 2, none⟩ = some (.int .i64 0) := HE4.out.cs.1.2.2.1
        have y6 : w6.frozen? ⟨ge, 2, none⟩ = false := HE4.out.cs.2.1 2
        have z6 := HE4.out.cs.2.2
        have HE5 := hid (HE4.out.st 2 (.int .i64 (v3 : Nat)) (fs' := fs) (ls' := ls) (ct' := (v3 : Nat)) (by' := 0) (P' := .slice none 0 0) rfl hgo hgg)
        obtain ⟨w7, hw7⟩ : ∃ w7, w7 = w6.setCell ⟨ge, 2, none⟩ (.int .i64 (v3 : Nat)) := ⟨_, rfl⟩
        have HP4 := hid (fun (W : World) (h : EnI wo W g ge C n c bs z5 e5 fs ls (v3 : Nat) 0 (.slice none 0 0)) => plainR (most := 30720) h.kt h.hs (by decide))
        clear hb5 k5 r5 q5 HP3 HE3 HE4
        go_wp2_with fail
        rw [← hw7] at HE5 ⊢
        clear hw7 x6 y6 z6
        refine (HP4.out _ HE5.out).mono ?_
        rintro d w8 ⟨v4, z6, e6, rfl, hb6, k6, r6, m6, q6⟩
        have HE6 := hid (HE5.out.rd hb6 k6 hgg)
        have HR6 := hid r6
        have HQ6 := hid q6
        have x6 : w8.cell? ⟨ge, 4, none⟩ = some (.int .i64 0) := HE6.out.cs.1.2.2.2.2
        have y6 : w8.frozen? ⟨ge, 4, none⟩ = false := HE6.out.cs.2.1 4
        have z6' := HE6.out.cs.2.2
        have HE7 := hid (HE6.out.st 4 (.int .i64 (v4 : Nat)) (fs' := fs) (ls' := ls) (ct' := (v3 : Nat)) (by' := (v4 : Nat)) (P' := .slice none 0 0) rfl hgo hgg)
        obtain ⟨w9, hw9⟩ : ∃ w9, w9 = w8.setCell ⟨ge, 4, none⟩ (.int .i64 (v4 : Nat)) := ⟨_, rfl⟩
        clear hb6 k6 r6 q6 HP4 HE5 HE6
        go_wp2_with fail
        rw [← hw9] at HE7 ⊢
        clear hw9 x6 y6 z6'
        obtain ⟨K, hK⟩ : ∃ K, K = (v4 + 119) / 120 := ⟨_, rfl⟩
        have hKm : K ≤ 256 := by rw [hK]; omega
        have HSP := hid (SevI.start (f := fPg bs) (L := bs.length) (m := K) (s0 := ()) (z0 := z6) (e0 := e6) HQ6.out)
        have HP0 := hid (show EnI wo w9 g ge C n c bs z6 e6 fs ls (v3 : Nat) (v4 : Nat) (.slice none 0 0) ∧ w9.ownsRow wo.heap.size 3 1 (.slice none 0 0) 0 (([] : List Int).map (Value.int .i64)) from ⟨HE7.out, by simp, .inl ⟨rfl, rfl⟩⟩)
        clear HE7
        go_loopw [] (fun wr => ∃ (j : Nat) (P : Option Addr) (pf : Nat) (ps : List Int) (z7 : Nat) (e7 : Int), j = ps.length ∧ j ≤ K ∧ Hid (EnI wo wr g ge C n c bs z7 e7 fs ls (v3 : Nat) (v4 : Nat) (.slice P j pf) ∧ wr.ownsRow wo.heap.size 3 1 (.slice P j pf) j (ps.map (Value.int .i64))) ∧ Hid (SevI (fPg bs) bs.length K () z6 e6 j () ps z7 e7)) (fun wr => 300 - lenAt wr ⟨ge, 3, none⟩)
        case atStart => exact ⟨0, none, 0, [], z6, e6, rfl, Nat.zero_le _, HP0, HSP⟩
        case round =>
          obtain ⟨j, P, pf, ps, z7, e7, hjl, hjK, hen, hsp⟩ := hrel
          clear HP0 HSP
          have HJL := hid hjl
          clear hjl
          obtain ⟨x0, x1, x2, x3, x4⟩ := hen.out.1.cs.1
          have c2 : wr.cell? ⟨g, 2, none⟩ = some (.int .i64 e7) := hen.out.1.kt.cell 2
          have hm : wrap64 (120 * (j : Int)) = 120 * (j : Int) := by unfold wrap64; omega
          by_cases hlt2 : j < K
          · have hltP : 120 * (j : Int) < (v4 : Nat) := by omega
            by_cases he7 : e7 = 0
            · subst he7
              have HP7 := hid (plainR (most := 255) hen.out.1.kt hen.out.1.hs (by decide))
              go_wp2_with fail
              refine HP7.out.mono ?_
              rintro d w10 ⟨v5, z8, e8, rfl, hb8, k8, r8, m8, q8⟩
              have HE8 := hid (hen.out.1.rd hb8 k8 hgg)
              have HO8 := hid ((own_but hen.out.2 hb8 hen.out.1.kt.typed (by decide)).alloc (.cells #[.int .i64 (v5 : Nat)] 3))
              have HNR := hid (new_reads w10 3 1 [.int .i64 (v5 : Nat)] rfl)
              have HEA := hid (show EnI wo (w10.alloc (.cells #[.int .i64 (v5 : Nat)] 3)) g ge C n c bs z8 e8 fs ls (v3 : Nat) (v4 : Nat) (.slice P j pf) from ⟨HE8.out.fr.step ((Below.refl _ _).alloc (Nat.le_refl _) _), HE8.out.kt.alloc _, HE8.out.hs.alloc _, HE8.out.kE.alloc _⟩)
              have HSP2 := hid (hsp.out.step hlt2 (pg_res r8) q8)
              have hlw : lenAt wr ⟨ge, 3, none⟩ = j := by unfold lenAt; rw [x3]
              have hsz : wo.heap.size ≤ w10.heap.size := HE8.out.fr.size
              obtain ⟨y0, y1, y2, y3, y4⟩ := HE8.out.cs.1
              have hle : ge < w10.heap.size := HE8.out.cs.2.2
              clear hb8 k8 r8 q8 HP7 c2 x0 x1 x2 x3 x4 hm hltP hen hsp y0 y1 y2 y4
              go_wp2_with (at_builtin; refine wpList_append_any _ rfl (.tmp 57) (.tmp 59) 43 rfl wo.heap.size 3 iI (.int .i64 0) 1 8 Try.underlying43 HII.out.1 HII.out.2.1 HII.out.2.2.1 HII.out.2.2.2 rfl (by decide) _ j (ps.map (Value.int .i64)) rfl HO8.out (some ⟨w10.heap.size, 0, none⟩) 1 1 [.int .i64 (v5 : Nat)] rfl HNR.out (by intro u hu; rw [List.mem_singleton] at hu; subst hu; rfl) (by simp only [maxLen]; omega) (by omega) (by simp; omega) ?_; intro v' w11 hown' hgr' hv'; obtain ⟨P2, pf2, hvf, _, _⟩ := own_form hown'; subst hvf; have HE9 := hid (show EnI wo w11 g ge C n c bs z8 e8 fs ls (v3 : Nat) (v4 : Nat) (.slice P j pf) from ⟨HEA.out.fr.grow hgr' (fun q hq => (HO8.out.lt q hq).1), HEA.out.kt.grownE HO8.out hgr' (by decide), HEA.out.hs.grown HO8.out hgr' (by decide), HEA.out.kE.grownE HO8.out hgr' (by decide)⟩); have HO9 := hid hown'; have x6 : w11.cell? ⟨ge, 3, none⟩ = some (.slice P j pf) := HE9.out.cs.1.2.2.2.1; have y6 : w11.frozen? ⟨ge, 3, none⟩ = false := HE9.out.cs.2.1 3; have z9 := HE9.out.cs.2.2; clear hown' hgr' hv')
              have HX1 := hid (HE9.out.st 3 (.slice P2 (j + 1) pf2) (fs' := fs) (ls' := ls) (ct' := (v3 : Nat)) (by' := (v4 : Nat)) (P' := .slice P2 (j + 1) pf2) rfl hgo hgg)
              have hcl : ps.map (Value.int .i64) ++ [.int .i64 (v5 : Nat)] = (ps ++ [((v5 : Nat) : Int)]).map (Value.int .i64) := by simp
              have HX2 := hid (own_but HO9.out ((But.refl ge w11).setg 3 (.slice P2 (j + 1) pf2)) HE9.out.kE.typed (by decide))
              rw [hcl] at HX2
              have hl2 : lenAt (w11.setCell ⟨ge, 3, none⟩ (.slice P2 (j + 1) pf2)) ⟨ge, 3, none⟩ = j + 1 := by unfold lenAt; rw [HX1.out.cs.1.2.2.2.1]
              have HX := hid (And.intro HX1.out HX2.out)
              clear HE9 HO9 HX1 HX2 x6 y6 z9 hcl HE8 HO8 HNR HEA y3 hle hsz
              go_roundw
              case rel => exact ⟨j + 1, P2, pf2, ps ++ [((v5 : Nat) : Int)], z8, e8, by rw [HJL.out]; simp, by omega, HX, HSP2⟩
              case measure => rw [hlw, hl2]; omega
            · have t : (e7 == 0) = false := by simp [he7]
              have hEX : e7 = 0 → K ≤ j := fun h => absurd h he7
              clear he7
              have HENT := hid (ent_res (u := ()) (k := K) (ps := ps) HR3.out HR4.out HR5.out HR6.out (by rw [show ps.map idI = ps from List.map_id' ps]; exact SevI.fin hsp.out hEX) (by rw [Int.toNat_natCast, Nat.min_eq_left (by omega)]; exact hK) HB.out.1.symm HLW.out)
              have HSV2 := hid (hsv.out.step hlt HENT.out (fun h0 => (hsp.out.ok h0).2.2.2))
              obtain ⟨x, hx⟩ : ∃ x : EnA, x = (⟨fs, ls, (v3 : Nat), (v4 : Nat), ps⟩, P, pf) := ⟨_, rfl⟩
              have hcx : cellsN x = [.int .i64 fs, .int .i64 ls, .int .i64 (v3 : Nat), .slice P j pf, .int .i64 (v4 : Nat)] := by rw [hx, HJL.out]; rfl
              have own0 := hst.out.own
              rw [← HXL.out] at own0
              have HOW := hid (own_but own0 hen.out.1.fr hst.out.kt.typed (by decide)).drew
              have HLO := hid (fun q hq => own0.lt q hq)
              have HPX := hid (show PgL w.heap.size wr x from by
                obtain ⟨_, _, hv0, hcp, _⟩ := own_form hen.out.2
                injection hv0 with _ _ hv3
                rw [hx]
                exact ⟨by simp only; rw [← HJL.out]; exact Reads.of_own hen.out.2, fun ad h => Nat.le_trans hst.out.fr.size (own_lo hen.out.2 ad h), by simp only; rw [← HJL.out]; omega, by simp only; rw [← HJL.out]; omega, by simp only; omega⟩)
              have HPS := hid (fun y hy => ((hst.out.ps y hy).but hen.out.1.fr hst.out.kt.typed (by decide)))
              have HWD := hid hen.out.1.drew
              have HFR := hid (hst.out.fr.trans hen.out.1.fr).drew
              have HCX := hid (And.intro hx hcx)
              clear hx hcx own0 HENT hen hsp hst hsv HR3 HR4 HR5 HR6 HLW
              go_upto_region 13 with fail
              refine wp_region_noPanic ?_
              refine wp_region_held_drew (S := fun W => W.cell? ⟨ge, 0, none⟩ = some (.int .i64 fs) ∧ W.cell? ⟨ge, 1, none⟩ = some (.int .i64 ls) ∧ W.cell? ⟨ge, 2, none⟩ = some (.int .i64 (v3 : Nat)) ∧ W.cell? ⟨ge, 3, none⟩ = some (.slice P j pf) ∧ W.cell? ⟨ge, 4, none⟩ = some (.int .i64 (v4 : Nat))) (by kernel_rfl) HWD.out.cs.1 (fun hHeld => ?_)
              clear x0 x1 x2 x3 x4 c2 hm
              refine wpAnyH_take (i := 0) (v := ?_) rfl (by kernel_rfl) (by kernel_rfl) (by kernel_rfl) (fun _ _ _ h => h) (Or.inl ⟨by rfl, ?_⟩) (by assumption) ?_
              rotate_left
              · intro W hW
                go_simp
                try rfl
              simp only [List.getElem_toArray, List.getElem_cons_zero, Act.put, List.setIfInBounds_toArray, List.set_cons_zero, List.set_cons_succ]
              refine wpAnyH_take (i := 1) (v := ?_) rfl (by kernel_rfl) (by kernel_rfl) (by kernel_rfl) (fun _ _ _ h => h) (Or.inl ⟨by rfl, ?_⟩) (by assumption) ?_
              rotate_left
              · intro W hW
                go_simp
                try rfl
              simp only [List.getElem_toArray, List.getElem_cons_succ, List.getElem_cons_zero, Act.put, List.setIfInBounds_toArray, List.set_cons_zero, List.set_cons_succ]
              refine wpAnyH_take (i := 4) (v := ?_) rfl (by kernel_rfl) (by kernel_rfl) (by kernel_rfl) (fun _ _ _ h => h) (Or.inl ⟨by rfl, ?_⟩) (by assumption) ?_
              rotate_left
              · intro W hW
                go_simp
                try rfl
              simp only [List.getElem_toArray, List.getElem_cons_succ, List.getElem_cons_zero, Act.put, List.setIfInBounds_toArray, List.set_cons_zero, List.set_cons_succ]
              refine wpAnyH_take (i := 5) (v := ?_) rfl (by kernel_rfl) (by kernel_rfl) (by kernel_rfl) (fun _ _ _ h => h) (Or.inl ⟨by rfl, ?_⟩) (by assumption) ?_
              rotate_left
              · intro W hW
                go_simp
                try rfl
              simp only [List.getElem_toArray, List.getElem_cons_succ, List.getElem_cons_zero, Act.put, List.setIfInBounds_toArray, List.set_cons_zero, List.set_cons_succ]
              have HNR := hid (new_reads wr.drew 45 5 [.int .i64 fs, .int .i64 ls, .int .i64 (v3 : Nat), .slice P j pf, .int .i64 (v4 : Nat)] rfl)
              have HOA := hid (HOW.out.alloc (.cells #[.int .i64 fs, .int .i64 ls, .int .i64 (v3 : Nat), .slice P j pf, .int .i64 (v4 : Nat)] 45))
              have HWA := hid (show EnI wo (wr.drew.alloc (.cells #[.int .i64 fs, .int .i64 ls, .int .i64 (v3 : Nat), .slice P j pf, .int .i64 (v4 : Nat)] 45)) g ge C n c bs z7 e7 fs ls (v3 : Nat) (v4 : Nat) (.slice P j pf) from ⟨HWD.out.fr.step ((Below.refl _ _).alloc (Nat.le_refl _) _), HWD.out.kt.alloc _, HWD.out.hs.alloc _, HWD.out.kE.alloc _⟩)
              have hsz : w.heap.size ≤ wr.heap.size := HFR.out.size
              refine wpAnyH_ready (rs := [2]) (by kernel_rfl) (by simp) ?_
              refine AllReadyH.cons rfl (fun K hK => ?_) AllReadyH.nil
              go_simp
              refine hK.out _ _ HWA.out.cs.1 (fun hHeld => ?_)
              clear hK K
              try simp only [List.getElem_toArray, List.getElem_cons_succ, List.getElem_cons_zero, Act.put, List.setIfInBounds_toArray, List.set_cons_zero, List.set_cons_succ]
              refine wpAnyH_ready (rs := [3]) (by kernel_rfl) (by simp) ?_
              refine AllReadyH.cons rfl (fun K hK => ?_) AllReadyH.nil
              rw [if_pos (by rfl)]
              refine wp_append_any _ (.tmp 62) (.tmp 64) 39 rfl w.heap.size 45 iE (.agg #[.int .i64 0, .int .i64 0, .int .i64 0, .slice none 0 0, .int .i64 0]) 5 56 Try.underlying39 HIE.out.1 HIE.out.2.1 HIE.out.2.2.1 HIE.out.2.2.2 rfl (by decide) _ i (xs.flatMap cellsN) rfl HOA.out (some ⟨wr.heap.size, 0, none⟩) 1 1 [.int .i64 fs, .int .i64 ls, .int .i64 (v3 : Nat), .slice P j pf, .int .i64 (v4 : Nat)] rfl HNR.out (by rw [← HCX.out.2]; exact cellsN_one x) (by simp only [maxLen]; omega) (by omega) (by simp; omega) ?_
              intro v' w11 hown' hgr' hv'
              obtain ⟨D2, f2, hvf, _, _⟩ := own_form hown'
              subst hvf
              have HK11 := hid (HWA.out.kE.grown hgr' (fun h => by have := (HLO.out ge h.symm).2; omega))
              refine hK.out _ _ HK11.out.fivec (fun hHeld => ?_)
              clear hK K
              try simp only [List.getElem_toArray, List.getElem_cons_succ, List.getElem_cons_zero, Act.put, List.setIfInBounds_toArray, List.set_cons_zero, List.set_cons_succ]
              have hl : (xs ++ [x]).length = i + 1 := by rw [List.length_append, ← HXL.out]; rfl
              have HF11 := hid (show EsI w w11 g C n c bs z7 e7 D2 f2 (xs ++ [x]) from
                ⟨(HFR.out.alloc _).grow hgr' (fun q hq => (HLO.out q hq).1), HWA.out.kt.grownE HOA.out hgr' (by decide), HWA.out.hs.grown HOA.out hgr' (by decide), by
                  rw [hl, List.flatMap_append, List.flatMap_cons, List.flatMap_nil, List.append_nil, HCX.out.2]; exact hown', by
                  intro y hy
                  rcases List.mem_append.1 hy with hy | hy
                  · exact ((HPS.out y hy).below (((Below.refl _ _).drew).alloc (Nat.le_refl _) _)).grown HOA.out hgr' (by decide)
                  · rw [List.mem_singleton] at hy
                    subst hy
                    exact (HPX.out.below (((Below.refl _ _).drew).alloc (Nat.le_refl _) _)).grown HOA.out hgr' (by decide)⟩)
              have HSV3 := hid (show SevI (fEnt bs) bs.length v (0 : Int) z1 e1 (i + 1) ls ((xs ++ [x]).map Prod.fst) z7 e7 by
                rw [List.map_append, show [x].map Prod.fst = [(⟨fs, ls, (v3 : Nat), (v4 : Nat), ps⟩ : En)] by rw [HCX.out.1]; rfl]; exact HSV2.out)
              clear hown' hgr' hv' HSV2 HPX HPS HOA HWA HNR HWD HOW HFR HK11 hsz
              refine wpAnyH_take (i := 6) (v := ?_) rfl (by kernel_rfl) (by kernel_rfl) (by kernel_rfl) (fun _ _ _ h => h) (Or.inl ⟨by rfl, ?_⟩) (by assumption) ?_
              rotate_left
              · intro W hW
                go_simp
                try rfl
              simp only [List.getElem_toArray, List.getElem_cons_succ, List.getElem_cons_zero, Act.put, List.setIfInBounds_toArray, List.set_cons_zero, List.set_cons_succ]
              refine wpAnyH_take (i := 7) (v := ?_) rfl (by kernel_rfl) (by kernel_rfl) (by kernel_rfl) (fun _ _ _ h => h) (Or.inl ⟨by rfl, ?_⟩) (by assumption) ?_
              rotate_left
              · intro W hW
                go_simp
                try rfl
              simp only [List.getElem_toArray, List.getElem_cons_succ, List.getElem_cons_zero, Act.put, List.setIfInBounds_toArray, List.set_cons_zero, List.set_cons_succ]
              refine wpAnyH_done (by kernel_rfl) ?_ _
              refine NoPanic.normal ?_
              have hls2 : 0 ≤ ls ∧ ls ≤ (((i + 1 : Nat)) : Int) * 562949953421312 := by rw [HLS.out]; omega
              clear hHeld HLO HCX
              go_wp2_with fail
              go_roundw
              case rel => exact ⟨i + 1, D2, f2, xs ++ [x], ls, z7, e7, by omega, by go_num, rfl, rfl, hl.symm, hls2, HF11, HSV3⟩
              case measure => simp [intOf]; omega
          · have hltP : (v4 : Nat) ≤ 120 * (j : Int) := by omega
            have hEX : e7 = 0 → K ≤ j := fun _ => by omega
            have HENT := hid (ent_res (u := ()) (k := K) (ps := ps) HR3.out HR4.out HR5.out HR6.out (by rw [show ps.map idI = ps from List.map_id' ps]; exact SevI.fin hsp.out hEX) (by rw [Int.toNat_natCast, Nat.min_eq_left (by omega)]; exact hK) HB.out.1.symm HLW.out)
            have HSV2 := hid (hsv.out.step hlt HENT.out (fun h0 => (hsp.out.ok h0).2.2.2))
            obtain ⟨x, hx⟩ : ∃ x : EnA, x = (⟨fs, ls, (v3 : Nat), (v4 : Nat), ps⟩, P, pf) := ⟨_, rfl⟩
            have hcx : cellsN x = [.int .i64 fs, .int .i64 ls, .int .i64 (v3 : Nat), .slice P j pf, .int .i64 (v4 : Nat)] := by rw [hx, HJL.out]; rfl
            have own0 := hst.out.own
            rw [← HXL.out] at own0
            have HOW := hid (own_but own0 hen.out.1.fr hst.out.kt.typed (by decide)).drew
            have HLO := hid (fun q hq => own0.lt q hq)
            have HPX := hid (show PgL w.heap.size wr x from by
              obtain ⟨_, _, hv0, hcp, _⟩ := own_form hen.out.2
              injection hv0 with _ _ hv3
              rw [hx]
              exact ⟨by simp only; rw [← HJL.out]; exact Reads.of_own hen.out.2, fun ad h => Nat.le_trans hst.out.fr.size (own_lo hen.out.2 ad h), by simp only; rw [← HJL.out]; omega, by simp only; rw [← HJL.out]; omega, by simp only; omega⟩)
            have HPS := hid (fun y hy => ((hst.out.ps y hy).but hen.out.1.fr hst.out.kt.typed (by decide)))
            have HWD := hid hen.out.1.drew
            have HFR := hid (hst.out.fr.trans hen.out.1.fr).drew
            have HCX := hid (And.intro hx hcx)
            clear hx hcx own0 HENT hen hsp hst hsv HR3 HR4 HR5 HR6 HLW
            go_upto_region 13 with fail
            refine wp_region_noPanic ?_
            refine wp_region_held_drew (S := fun W => W.cell? ⟨ge, 0, none⟩ = some (.int .i64 fs) ∧ W.cell? ⟨ge, 1, none⟩ = some (.int .i64 ls) ∧ W.cell? ⟨ge, 2, none⟩ = some (.int .i64 (v3 : Nat)) ∧ W.cell? ⟨ge, 3, none⟩ = some (.slice P j pf) ∧ W.cell? ⟨ge, 4, none⟩ = some (.int .i64 (v4 : Nat))) (by kernel_rfl) HWD.out.cs.1 (fun hHeld => ?_)
            clear x0 x1 x2 x3 x4 c2 hm
            refine wpAnyH_take (i := 0) (v := ?_) rfl (by kernel_rfl) (by kernel_rfl) (by kernel_rfl) (fun _ _ _ h => h) (Or.inl ⟨by rfl, ?_⟩) (by assumption) ?_
            rotate_left
            · intro W hW
              go_simp
              try rfl
            simp only [List.getElem_toArray, List.getElem_cons_zero, Act.put, List.setIfInBounds_toArray, List.set_cons_zero, List.set_cons_succ]
            refine wpAnyH_take (i := 1) (v := ?_) rfl (by kernel_rfl) (by kernel_rfl) (by kernel_rfl) (fun _ _ _ h => h) (Or.inl ⟨by rfl, ?_⟩) (by assumption) ?_
            rotate_left
            · intro W hW
              go_simp
              try rfl
            simp only [List.getElem_toArray, List.getElem_cons_succ, List.getElem_cons_zero, Act.put, List.setIfInBounds_toArray, List.set_cons_zero, List.set_cons_succ]
            refine wpAnyH_take (i := 4) (v := ?_) rfl (by kernel_rfl) (by kernel_rfl) (by kernel_rfl) (fun _ _ _ h => h) (Or.inl ⟨by rfl, ?_⟩) (by assumption) ?_
            rotate_left
            · intro W hW
              go_simp
              try rfl
            simp only [List.getElem_toArray, List.getElem_cons_succ, List.getElem_cons_zero, Act.put, List.setIfInBounds_toArray, List.set_cons_zero, List.set_cons_succ]
            refine wpAnyH_take (i := 5) (v := ?_) rfl (by kernel_rfl) (by kernel_rfl) (by kernel_rfl) (fun _ _ _ h => h) (Or.inl ⟨by rfl, ?_⟩) (by assumption) ?_
            rotate_left
            · intro W hW
              go_simp
              try rfl
            simp only [List.getElem_toArray, List.getElem_cons_succ, List.getElem_cons_zero, Act.put, List.setIfInBounds_toArray, List.set_cons_zero, List.set_cons_succ]
            have HNR := hid (new_reads wr.drew 45 5 [.int .i64 fs, .int .i64 ls, .int .i64 (v3 : Nat), .slice P j pf, .int .i64 (v4 : Nat)] rfl)
            have HOA := hid (HOW.out.alloc (.cells #[.int .i64 fs, .int .i64 ls, .int .i64 (v3 : Nat), .slice P j pf, .int .i64 (v4 : Nat)] 45))
            have HWA := hid (show EnI wo (wr.drew.alloc (.cells #[.int .i64 fs, .int .i64 ls, .int .i64 (v3 : Nat), .slice P j pf, .int .i64 (v4 : Nat)] 45)) g ge C n c bs z7 e7 fs ls (v3 : Nat) (v4 : Nat) (.slice P j pf) from ⟨HWD.out.fr.step ((Below.refl _ _).alloc (Nat.le_refl _) _), HWD.out.kt.alloc _, HWD.out.hs.alloc _, HWD.out.kE.alloc _⟩)
            have hsz : w.heap.size ≤ wr.heap.size := HFR.out.size
            refine wpAnyH_ready (rs := [2]) (by kernel_rfl) (by simp) ?_
            refine AllReadyH.cons rfl (fun K hK => ?_) AllReadyH.nil
            go_simp
            refine hK.out _ _ HWA.out.cs.1 (fun hHeld => ?_)
            clear hK K
            try simp only [List.getElem_toArray, List.getElem_cons_succ, List.getElem_cons_zero, Act.put, List.setIfInBounds_toArray, List.set_cons_zero, List.set_cons_succ]
            refine wpAnyH_ready (rs := [3]) (by kernel_rfl) (by simp) ?_
            refine AllReadyH.cons rfl (fun K hK => ?_) AllReadyH.nil
            rw [if_pos (by rfl)]
            refine wp_append_any _ (.tmp 62) (.tmp 64) 39 rfl w.heap.size 45 iE (.agg #[.int .i64 0, .int .i64 0, .int .i64 0, .slice none 0 0, .int .i64 0]) 5 56 Try.underlying39 HIE.out.1 HIE.out.2.1 HIE.out.2.2.1 HIE.out.2.2.2 rfl (by decide) _ i (xs.flatMap cellsN) rfl HOA.out (some ⟨wr.heap.size, 0, none⟩) 1 1 [.int .i64 fs, .int .i64 ls, .int .i64 (v3 : Nat), .slice P j pf, .int .i64 (v4 : Nat)] rfl HNR.out (by rw [← HCX.out.2]; exact cellsN_one x) (by simp only [maxLen]; omega) (by omega) (by simp; omega) ?_
            intro v' w11 hown' hgr' hv'
            obtain ⟨D2, f2, hvf, _, _⟩ := own_form hown'
            subst hvf
            have HK11 := hid (HWA.out.kE.grown hgr' (fun h => by have := (HLO.out ge h.symm).2; omega))
            refine hK.out _ _ HK11.out.fivec (fun hHeld => ?_)
            clear hK K
            try simp only [List.getElem_toArray, List.getElem_cons_succ, List.getElem_cons_zero, Act.put, List.setIfInBounds_toArray, List.set_cons_zero, List.set_cons_succ]
            have hl : (xs ++ [x]).length = i + 1 := by rw [List.length_append, ← HXL.out]; rfl
            have HF11 := hid (show EsI w w11 g C n c bs z7 e7 D2 f2 (xs ++ [x]) from
              ⟨(HFR.out.alloc _).grow hgr' (fun q hq => (HLO.out q hq).1), HWA.out.kt.grownE HOA.out hgr' (by decide), HWA.out.hs.grown HOA.out hgr' (by decide), by
                rw [hl, List.flatMap_append, List.flatMap_cons, List.flatMap_nil, List.append_nil, HCX.out.2]; exact hown', by
                intro y hy
                rcases List.mem_append.1 hy with hy | hy
                · exact ((HPS.out y hy).below (((Below.refl _ _).drew).alloc (Nat.le_refl _) _)).grown HOA.out hgr' (by decide)
                · rw [List.mem_singleton] at hy
                  subst hy
                  exact (HPX.out.below (((Below.refl _ _).drew).alloc (Nat.le_refl _) _)).grown HOA.out hgr' (by decide)⟩)
            have HSV3 := hid (show SevI (fEnt bs) bs.length v (0 : Int) z1 e1 (i + 1) ls ((xs ++ [x]).map Prod.fst) z7 e7 by
              rw [List.map_append, show [x].map Prod.fst = [(⟨fs, ls, (v3 : Nat), (v4 : Nat), ps⟩ : En)] by rw [HCX.out.1]; rfl]; exact HSV2.out)
            clear hown' hgr' hv' HSV2 HPX HPS HOA HWA HNR HWD HOW HFR HK11 hsz
            refine wpAnyH_take (i := 6) (v := ?_) rfl (by kernel_rfl) (by kernel_rfl) (by kernel_rfl) (fun _ _ _ h => h) (Or.inl ⟨by rfl, ?_⟩) (by assumption) ?_
            rotate_left
            · intro W hW
              go_simp
              try rfl
            simp only [List.getElem_toArray, List.getElem_cons_succ, List.getElem_cons_zero, Act.put, List.setIfInBounds_toArray, List.set_cons_zero, List.set_cons_succ]
            refine wpAnyH_take (i := 7) (v := ?_) rfl (by kernel_rfl) (by kernel_rfl) (by kernel_rfl) (fun _ _ _ h => h) (Or.inl ⟨by rfl, ?_⟩) (by assumption) ?_
            rotate_left
            · intro W hW
              go_simp
              try rfl
            simp only [List.getElem_toArray, List.getElem_cons_succ, List.getElem_cons_zero, Act.put, List.setIfInBounds_toArray, List.set_cons_zero, List.set_cons_succ]
            refine wpAnyH_done (by kernel_rfl) ?_ _
            refine NoPanic.normal ?_
            have hls2 : 0 ≤ ls ∧ ls ≤ (((i + 1 : Nat)) : Int) * 562949953421312 := by rw [HLS.out]; omega
            clear hHeld HLO HCX
            go_wp2_with fail
            go_roundw
            case rel => exact ⟨i + 1, D2, f2, xs ++ [x], ls, z7, e7, by omega, by go_num, rfl, rfl, hl.symm, hls2, HF11, HSV3⟩
            case measure => simp [intOf]; omega
      · have t : (e2 == 0) = false := by simp [he]
        have hltI : (i : Int) < (v : Int) := by omega
        have hEX : e2 = 0 → v ≤ i := fun h => absurd h he
        clear he
        have HF := hid (show RetEs bs z e g C n c w (.returned (.slice D i f)) wo from by
          obtain ⟨_, _, hv0, hcp, _⟩ := own_form hst.out.own
          injection hv0 with _ _ hv3
          refine ⟨xs, D, f, z2, e2, by rw [HXL.out], hst.out.fr, hst.out.kt, made_res (most := 256) (by decide) HR1.out (SevI.fin hsv.out hEX) (by rw [Int.toNat_natCast, Nat.min_eq_left m1]), fun h0 => (hsv.out.ok h0).2.2.2, Reads.of_own hst.out.own, own_lo hst.out.own, hst.out.ps, by have := HXL.out; omega, by rw [hv3]; exact hcp⟩)
        clear hst hsv
        go_wp2_with fail
        go_ret
        exact HF.out
    · have hltI : (v : Int) ≤ (i : Int) := by omega
      have hEX : e2 = 0 → v ≤ i := fun _ => by omega
      have HF := hid (show RetEs bs z e g C n c w (.returned (.slice D i f)) wo from by
        obtain ⟨_, _, hv0, hcp, _⟩ := own_form hst.out.own
        injection hv0 with _ _ hv3
        refine ⟨xs, D, f, z2, e2, by rw [HXL.out], hst.out.fr, hst.out.kt, made_res (most := 256) (by decide) HR1.out (SevI.fin hsv.out hEX) (by rw [Int.toNat_natCast, Nat.min_eq_left m1]), fun h0 => (hsv.out.ok h0).2.2.2, Reads.of_own hst.out.own, own_lo hst.out.own, hst.out.ps, by have := HXL.out; omega, by rw [hv3]; exact hcp⟩)
      clear hst hsv
      go_wp2_with fail
      go_ret
      exact HF.out
end Go.Proofs.Ytgdnpmjmkcccoaa
