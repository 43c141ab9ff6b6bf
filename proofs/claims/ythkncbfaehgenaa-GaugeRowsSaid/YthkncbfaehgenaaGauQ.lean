/- Contract of the gauge: Row. -/
import Derived.Test.YthkncbfaehgenaaGauP
import Derived.Test.YthkncbfaehgenaaMemB
import Derived.WalkMore
namespace Go.Proofs.Ythkncbfaehgenaa
open Go.RowKit NB
set_option linter.unusedVariables false
set_option maxHeartbeats 400000 in
theorem toldRow_c (A : Option Addr) (n c : Nat) (e : Int) (w : World) :
    Calls Try.prog 47 #[.slice A n c, .int .i64 e] w fun d w' => d = .returned (.tuple #[if e = 0 then .slice A n c else .slice none 0 0, .int .i64 e]) ∧ w = w' := by
  by_cases h : e = 0
  · have t : (e != 0) = false := by simp [h]
    have H := Lib.hid h
    clear h
    go_enter Try.func47, Try.ntmps47
    go_wp2
    go_ret2
    exact ⟨by first | rfl | simp [H.out], rfl⟩
  · have t : (e != 0) = true := by simp [h]
    have H := Lib.hid h
    clear h
    go_enter Try.func47, Try.ntmps47
    go_wp2
    go_ret2
    exact ⟨by first | rfl | simp [H.out], rfl⟩
theorem i64_info : (Try.prog.info? 2).map (fun i => (i.zero, i.size, i.bytes)) = some (some (.int .i64 0), 1, 8) := by kernel_rfl
theorem f64_info : (Try.prog.info? 23).map (fun i => (i.zero, i.size, i.bytes)) = some (some (.float .f64 0), 1, 8) := by kernel_rfl
/-- the floats of some bits, as cells -/
def flts (bs : List Nat) : List Value := bs.map (Value.float .f64)
/-- the values of some readings, as cells -/
def fixs (bs : List Nat) (z : Int) : List Value := bs.map fun b => .int .i64 (fixedI b z)
theorem fixs_succ (bs : List Nat) (z : Int) (k : Nat) (h : k < bs.length) : fixs (bs.take (k + 1)) z = fixs (bs.take k) z ++ [.int .i64 (fixedI (bs.getD k 0) z)] := by
  unfold fixs
  rw [List.take_succ_eq_append_getElem h, List.map_append, List.getD_eq_getElem?_getD, List.getElem?_eq_getElem h]
  rfl
theorem flts_at {w : World} {A : Option Addr} {bs : List Nat} (h : Reads w 23 1 A bs.length (flts bs)) {k : Nat} (hk : k < bs.length) : ∃ ad, A = some ad ∧ w.cell? (ad.add k) = some (.float .f64 (bs.getD k 0)) := by
  obtain ⟨ad, u, e, h1, h2⟩ := h.at_ hk
  unfold flts at h1
  rw [List.getElem?_map, List.getElem?_eq_getElem hk] at h1
  cases h1
  exact ⟨ad, e, by rw [h2, List.getD_eq_getElem?_getD, List.getElem?_eq_getElem hk]; rfl⟩
/-- what Row hands back of a row of which all have a value -/
def RetRow (bs : List Nat) (z : Int) (w : World) (e : Ending) (w' : World) : Prop := ∃ C f, e = .returned (.tuple #[.slice C bs.length f, .int .i64 0, .int .i64 0]) ∧ Reads w' 2 1 C bs.length (fixs bs z) ∧ Below w.heap.size w w'
set_option maxHeartbeats 1000000 in
theorem row_all (A : Option Addr) (c : Nat) (z : Int) (bs : List Nat) (w : World) (hn : bs.length ≤ 100) (hb : ∀ j, bs.getD j 0 < 18446744073709551616) (hr : Reads w 23 1 A bs.length (flts bs)) (hz : -40 ≤ z) (hz2 : z ≤ 40)
    (hg : ∀ j, j < bs.length → fixedE (bs.getD j 0) z = 0) :
    Calls Try.prog 25 #[.slice A bs.length c, .int .i64 z] w (RetRow bs z w) := by
  have HR := Lib.hid hr
  have HB := Lib.hid hb
  have HG := Lib.hid hg
  have SC := Lib.hid (scaleIs_c z)
  rw [decide_eq_true ⟨hz, hz2⟩] at SC
  generalize hl : bs.length = n at *
  have HL := Lib.hid hl
  clear hr hb hg hl
  obtain ⟨i0, hi, hz0, hz1, hz2'⟩ := info_parts i64_info
  go_enter Try.func25, Try.ntmps25
  go_wp2_with fail
  go_step3
  go_wp2_with fail
  refine (SC.out _).mono ?_; rintro e w' ⟨rfl, rfl⟩
  go_wp2_with (at_make; refine wpList_make_own _ rfl _ _ 53 rfl w.heap.size 2 i0 (.int .i64 0) 1 Try.underlying53 hi hz0 hz1 _ _ _ n rfl rfl rfl (by rw [hz2']; omega) (by simp only [maxLen]; omega) (Nat.le_refl _) ?_; intro w1 hown0 hgrow)
  go_step3
  go_wp2
  have hb1 := grown_below hgrow (Nat.le_refl _) (fun k hk => by cases hk)
  go_loopw [7, 8, 9, 22] (fun u7 u8 u9 u22 wr => ∃ (k : Nat) (C : Option Addr) (f : Nat), k ≤ n ∧ u22 = .int .i64 k ∧ u8 = .int .i64 0 ∧ u9 = .int .i64 0 ∧ u7 = .slice C k f ∧ wr.ownsRow w.heap.size 2 1 (.slice C k f) k (fixs (bs.take k) z) ∧ Below w.heap.size w wr)
    (fun _ _ _ u22 _ => n - (intOf u22).toNat)
  case atStart => exact ⟨0, _, _, Nat.zero_le _, rfl, rfl, rfl, rfl, by simpa [fixs] using hown0, hb1⟩
  case round =>
    obtain ⟨k, C, f, hk, rfl, rfl, rfl, rfl, hown, hb⟩ := hrel
    by_cases hlt : k < n
    · have hs := fixs_succ bs z k (by rw [HL.out]; exact hlt)
      obtain ⟨ad, rfl, cx⟩ := flts_at (by rw [HL.out]; exact HR.out.below hb) (show k < bs.length by rw [HL.out]; exact hlt)
      have hf := fun w => fixed_c (bs.getD k 0) z w (HB.out k)
      rw [HG.out k hlt] at hf
      have FX := Lib.hid hf
      have HS := Lib.hid hs
      clear hf hs
      generalize bs.getD k 0 = b at *
      generalize fixedI b z = v at *
      go_wp2_with fail
      refine (FX.out _).mono ?_; rintro e w2 ⟨rfl, hb2⟩
      have hown2 := own_below hown hb2
      have hb3 := below_two hb hb2
      go_wp2_with (at_builtin; refine wpList_pushG rfl (.tmp 37) (.tmp 39) 53 rfl w.heap.size 2 (.int .i64 0) 8 Try.underlying53 i64_info rfl C k f _ rfl hown2 rfl rfl ?_ ?_ hb3.size ?_; omega; omega; intro C' f' w' hown' hgr hb')
      exact ⟨⟨k + 1, C', f', by omega, by go_num, rfl, rfl, rfl, by rw [HS.out]; exact hown', hb3.trans hb'⟩, by simp [intOf]; omega⟩
    · obtain rfl : k = n := by omega
      have TL := Lib.hid (toldRow_c C k f 0)
      clear hown0 hlt
      go_wp2_with fail
      refine (TL.out _).mono ?_; rintro e w' ⟨rfl, rfl⟩
      go_wp2
      try rw [Exit.noGoto_ret]
      go_ret3
      refine ⟨C, f, by rw [HL.out]; rfl, ?_, hb⟩
      rw [List.take_of_length_le (by rw [HL.out]; exact Nat.le_refl _)] at hown
      rw [HL.out]
      exact Reads.of_own hown
set_option maxHeartbeats 1000000 in
theorem row_bad (A : Option Addr) (c : Nat) (z : Int) (bs : List Nat) (w : World) (hn : bs.length ≤ 100) (hb : ∀ j, bs.getD j 0 < 18446744073709551616) (hr : Reads w 23 1 A bs.length (flts bs)) (hz : -40 ≤ z) (hz2 : z ≤ 40)
    
    (m : Nat) (hm : m < bs.length) (hg : ∀ j, j < m → fixedE (bs.getD j 0) z = 0) (E : Int) (hE : fixedE (bs.getD m 0) z = E) (hE0 : E ≠ 0) :
    Calls Try.prog 25 #[.slice A bs.length c, .int .i64 z] w fun e w' => e = .returned (.tuple #[.slice none 0 0, .int .i64 m, .int .i64 E]) ∧ Below w.heap.size w w' := by
  have HR := Lib.hid hr
  have HB := Lib.hid hb
  have HG := Lib.hid hg
  have HE := Lib.hid (bne_iff_ne.2 hE0)
  have HQ := Lib.hid hE
  have SC := Lib.hid (scaleIs_c z)
  rw [decide_eq_true ⟨hz, hz2⟩] at SC
  generalize hl : bs.length = n at *
  have HL := Lib.hid hl
  clear hr hb hg hl hE hE0
  obtain ⟨i0, hi, hz0, hz1, hz2'⟩ := info_parts i64_info
  go_enter Try.func25, Try.ntmps25
  go_wp2_with fail
  go_step3
  go_wp2_with fail
  refine (SC.out _).mono ?_; rintro e w' ⟨rfl, rfl⟩
  go_wp2_with (at_make; refine wpList_make_own _ rfl _ _ 53 rfl w.heap.size 2 i0 (.int .i64 0) 1 Try.underlying53 hi hz0 hz1 _ _ _ n rfl rfl rfl (by rw [hz2']; omega) (by simp only [maxLen]; omega) (Nat.le_refl _) ?_; intro w1 hown0 hgrow)
  go_step3
  go_wp2
  have hb1 := grown_below hgrow (Nat.le_refl _) (fun k hk => by cases hk)
  go_loopw [7, 8, 9, 22] (fun u7 u8 u9 u22 wr => ∃ (k : Nat) (C : Option Addr) (f : Nat), k ≤ m ∧ u22 = .int .i64 k ∧ u8 = .int .i64 0 ∧ u9 = .int .i64 0 ∧ u7 = .slice C k f ∧ wr.ownsRow w.heap.size 2 1 (.slice C k f) k (fixs (bs.take k) z) ∧ Below w.heap.size w wr)
    (fun _ _ _ u22 _ => n - (intOf u22).toNat)
  case atStart => exact ⟨0, _, _, Nat.zero_le _, rfl, rfl, rfl, rfl, by simpa [fixs] using hown0, hb1⟩
  case round =>
    obtain ⟨k, C, f, hk, rfl, rfl, rfl, rfl, hown, hb⟩ := hrel
    by_cases hlt : k < m
    · have hs := fixs_succ bs z k (by rw [HL.out]; omega)
      obtain ⟨ad, rfl, cx⟩ := flts_at (by rw [HL.out]; exact HR.out.below hb) (show k < bs.length by rw [HL.out]; omega)
      have hf := fun w => fixed_c (bs.getD k 0) z w (HB.out k)
      rw [HG.out k hlt] at hf
      have FX := Lib.hid hf
      have HS := Lib.hid hs
      clear hf hs
      generalize bs.getD k 0 = b at *
      generalize fixedI b z = v at *
      go_wp2_with fail
      refine (FX.out _).mono ?_; rintro e w2 ⟨rfl, hb2⟩
      have hown2 := own_below hown hb2
      have hb3 := below_two hb hb2
      go_wp2_with (at_builtin; refine wpList_pushG rfl (.tmp 37) (.tmp 39) 53 rfl w.heap.size 2 (.int .i64 0) 8 Try.underlying53 i64_info rfl C k f _ rfl hown2 rfl rfl ?_ ?_ hb3.size ?_; omega; omega; intro C' f' w' hown' hgr hb')
      exact ⟨⟨k + 1, C', f', by omega, by go_num, rfl, rfl, rfl, by rw [HS.out]; exact hown', hb3.trans hb'⟩, by simp [intOf]; omega⟩
    · obtain rfl : k = m := by omega
      obtain ⟨ad, rfl, cx⟩ := flts_at (by rw [HL.out]; exact HR.out.below hb) (show k < bs.length by rw [HL.out]; exact hm)
      have hf := fun w => fixed_c (bs.getD k 0) z w (HB.out k)
      rw [HQ.out] at hf
      have FX := Lib.hid hf
      have t := HE.out
      clear hown0 hlt HE hf
      generalize bs.getD k 0 = b at *
      generalize fixedI b z = v at *
      have te : E ≠ 0 := bne_iff_ne.1 t
      have htl := toldRow_c C k f E
      rw [if_neg te] at htl
      have TL := Lib.hid htl
      clear htl te
      go_wp2_with fail
      refine (FX.out _).mono ?_; rintro e w2 ⟨rfl, hb2⟩
      go_wp2_with fail
      refine (TL.out _).mono ?_; rintro e w' ⟨rfl, rfl⟩
      go_wp2
      try rw [Exit.noGoto_ret]
      go_ret3
      exact ⟨rfl, below_two hb hb2⟩
theorem row_out (A : Option Addr) (n c : Nat) (z : Int) (w : World) (hz : ¬(-40 ≤ z ∧ z ≤ 40)) :
    Calls Try.prog 25 #[.slice A n c, .int .i64 z] w fun e w' => e = .returned (.tuple #[.slice none 0 0, .int .i64 0, .int .i64 2]) ∧ w = w' := by
  have SC := Lib.hid (scaleIs_c z)
  rw [decide_eq_false hz] at SC
  go_enter Try.func25, Try.ntmps25
  go_wp2_with fail
  go_step3
  go_wp2_with fail
  refine (SC.out _).mono ?_; rintro e w' ⟨rfl, rfl⟩
  go_wp2
  try rw [Exit.noGoto_ret]
  go_ret3
  exact ⟨rfl, rfl⟩
end Go.Proofs.Ythkncbfaehgenaa
