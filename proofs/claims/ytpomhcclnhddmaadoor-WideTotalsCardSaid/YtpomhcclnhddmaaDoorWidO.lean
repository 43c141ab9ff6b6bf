/- The layer wide does something. -/
import Derived.Test.YtpomhcclnhddmaaDoorWidN
namespace Go.Proofs.YtpomhcclnhddmaaDoor
open Go.RowKit Go.Shelf Go.Lib TX
set_option linter.unusedVariables false
theorem dec64 : decDigits 18446744073709551616 = [49, 56, 52, 52, 54, 55, 52, 52, 48, 55, 51, 55, 48, 57, 53, 53, 49, 54, 49, 54] := by
  rw [decDigits_eq, nDigits_unique 19 18446744073709551616 (by decide) (by decide)]
  decide +kernel
theorem wk1 (w : World) : Calls Tryd.prog 24 #[.int .i64 (-3), .int .i64 4] w fun e w' => e = .returned (wv (-1) 18446744073709551604) ∧ Below w.heap.size w w' := by
  have h := mul_w (-3) 4 (by decide) (by decide) (by decide) (by decide) w
  unfold wV at h
  rw [show (-3 : Int) * 4 = -12 by decide, show (-12 : Int) / 18446744073709551616 = -1 by decide, show (-12 : Int) % 18446744073709551616 = 18446744073709551604 by decide] at h
  exact h
theorem wk2 (w : World) : Calls Tryd.prog 28 #[wv (-1) 18446744073709551604] w fun e w' => e = .returned (.tuple #[.int .i64 (-12), .int .i64 0]) ∧ Below w.heap.size w w' := by
  have h := int_w (-12) (by decide) w
  unfold wV at h
  rw [show (-12 : Int) / 18446744073709551616 = -1 by decide, show (-12 : Int) % 18446744073709551616 = 18446744073709551604 by decide, if_pos (by decide), if_pos (by decide)] at h
  exact h
theorem wk3 (w : World) : Calls Tryd.prog 23 #[.int .i64 (-7)] w fun e w' => e = .returned (wv (-1) 18446744073709551609) ∧ Below w.heap.size w w' := by
  have h := of_w (-7) (by decide) (by decide) w
  unfold wV at h
  rw [show (-7 : Int) / 18446744073709551616 = -1 by decide, show (-7 : Int) % 18446744073709551616 = 18446744073709551609 by decide] at h
  exact h
theorem wk4 (w : World) : Calls Tryd.prog 30 #[wv (-1) 18446744073709551609, .int .i64 2] w fun e w' => e = .returned (.tuple #[wv (-1) 18446744073709551612, .int .i64 1, .int .i64 0]) ∧ Below w.heap.size w w' := by
  have h := div_w (-7) 2 (by decide) (by decide) (by decide) w
  unfold wV at h
  rw [show (-7 : Int) / 18446744073709551616 = -1 by decide, show (-7 : Int) % 18446744073709551616 = 18446744073709551609 by decide, show (-7 : Int) / 2 = -4 by decide, show (-7 : Int) % 2 = 1 by decide, show (-4 : Int) / 18446744073709551616 = -1 by decide, show (-4 : Int) % 18446744073709551616 = 18446744073709551612 by decide] at h
  exact h
theorem wk5 (w : World) : Calls Tryd.prog 23 #[.int .i64 1] w fun e w' => e = .returned (wv 0 1) ∧ Below w.heap.size w w' := by
  have h := of_w 1 (by decide) (by decide) w
  unfold wV at h
  rw [show (1 : Int) / 18446744073709551616 = 0 by decide, show (1 : Int) % 18446744073709551616 = 1 by decide] at h
  exact h
theorem wk6 (w : World) : Calls Tryd.prog 14 #[wv 9223372036854775807 18446744073709551615, wv 0 1] w fun e w' => e = .returned (.tuple #[wv 0 0, .int .i64 5]) ∧ Below w.heap.size w w' := by
  have h := add_w 170141183460469231731687303715884105727 1 (by decide) (by decide) w
  unfold tW at h
  rw [if_neg (by decide), if_neg (by decide)] at h
  unfold wV at h
  rw [show (170141183460469231731687303715884105727 : Int) / 18446744073709551616 = 9223372036854775807 by decide, show (170141183460469231731687303715884105727 : Int) % 18446744073709551616 = 18446744073709551615 by decide, show (1 : Int) / 18446744073709551616 = 0 by decide, show (1 : Int) % 18446744073709551616 = 1 by decide, show (0 : Int) / 18446744073709551616 = 0 by decide, show (0 : Int) % 18446744073709551616 = 0 by decide] at h
  exact h
theorem wk7 (w : World) (h : Tab w) : Calls Tryd.prog 32 #[wv 1 0] w fun e w' => e = .returned (.string ⟨#[49, 56, 52, 52, 54, 55, 52, 52, 48, 55, 51, 55, 48, 57, 53, 53, 49, 54, 49, 54]⟩) ∧ Below w.heap.size w w' := by
  have h2 := text_c 18446744073709551616 (by decide) w h
  rw [show itoa 18446744073709551616 = decDigits 18446744073709551616 from itoa_nonneg 18446744073709551616, dec64] at h2
  unfold wV at h2
  rw [show (18446744073709551616 : Int) / 18446744073709551616 = 1 by decide, show (18446744073709551616 : Int) % 18446744073709551616 = 0 by decide] at h2
  exact h2
set_option maxRecDepth 100000 in
set_option maxHeartbeats 400000 in
theorem wakes_c (w : World) (htab : Tab w) :
    Calls Tryd.prog 12 #[] w fun e w' => e = .returned (.bool true) ∧ Below w.heap.size w w' := by
  have HT := hid htab
  clear htab
  go_enter Tryd.func12, Tryd.ntmps12
  go_wp2_with fail
  refine (wk1 _).mono ?_; rintro e w1 ⟨rfl, hb1⟩
  go_wp2_with fail
  refine (wk2 _).mono ?_; rintro e w2 ⟨rfl, hb2⟩
  have hw2 := below_two hb1 hb2
  clear hb1 hb2
  go_wp2_with fail
  refine (wk3 _).mono ?_; rintro e w3 ⟨rfl, hb3⟩
  have hw3 := below_two hw2 hb3
  clear hw2 hb3
  go_wp2_with fail
  refine (wk4 _).mono ?_; rintro e w4 ⟨rfl, hb4⟩
  have hw4 := below_alloc (below_two hw3 hb4) (Nat.le_refl _) (oW (-1) 18446744073709551612)
  have k3 := Blk.new w4 24 #[.int .i64 (-1), .int .u64 18446744073709551612]
  clear hw3 hb4
  go_wp2_with fail
  refine (wk5 _).mono ?_; rintro e w5 ⟨rfl, hb5⟩
  have hw5 := below_two hw4 hb5
  have k3a := k3.under hb5
  clear hw4 hb5 k3
  go_wp2_with fail
  refine (wk6 _).mono ?_; rintro e w6 ⟨rfl, hb6⟩
  have hw6 := below_alloc (below_two hw5 hb6) (Nat.le_refl _) (oW 0 0)
  have k3b := k3a.under hb6
  obtain ⟨c0, c1, f0, f1, hl⟩ := k3b.two
  have HT2 := hid (HT.out.below hw6)
  clear hw5 hb6 k3a k3b
  go_wp2_with fail
  refine (wk7 _ HT2.out).mono ?_; rintro e w7 ⟨rfl, hb7⟩
  have hw7 := below_two hw6 hb7
  clear hw6 hb7
  go_wp2
  go_ret
  exact ⟨rfl, hw7⟩
end Go.Proofs.YtpomhcclnhddmaaDoor
