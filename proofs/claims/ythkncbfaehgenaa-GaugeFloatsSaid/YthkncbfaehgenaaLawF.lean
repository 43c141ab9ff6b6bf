/- Walk of the law GaugeFloats. -/
import Derived.Test.YthkncbfaehgenaaGauP
import Derived.Test.YthkncbfaehgenaaLawC
namespace Go.Proofs.Ythkncbfaehgenaa
open Go.RowKit NB
theorem fltZ_one {z : Int} (hz : -40 ≤ z) (hz2 : z ≤ 40) : fltZ 1 z = stepV z := by
  have e1 : keptV (1 : Int).natAbs = 4503599627370496 := by decide +kernel
  have e2 : (1 : Int).natAbs.log2 = 0 := by decide +kernel
  unfold fltZ stepV
  rw [e1, e2, if_neg (by decide), if_neg (by decide)]
  omega
set_option maxHeartbeats 2000000 in
theorem floats_walk (a0 a1 : Int) (w0 : (Lit.int .i64 a0).wf = true) (_w1 : (Lit.int .i64 a1).wf = true) (w : World) :
    Calls Try.prog 3 #[.int .i64 a0, .int .i64 a1] w fun e w' => e = .returned (.bool true) ∧ Below w.heap.size w w' := by
  have hv := i64_wf w0
  have WA := Lib.hid wakes_c
  by_cases hz : -40 ≤ a1 ∧ a1 ≤ 40
  · have SC := Lib.hid (scale_c a1)
    rw [decide_eq_true hz] at SC
    have ST := Lib.hid (fun w => step_in a1 w hz.1 hz.2)
    have R1 := Lib.hid (fun w => refFloat_c 1 a1 w (by decide) (by decide) hz.1 hz.2)
    rw [fltZ_one hz.1 hz.2] at R1
    have f1 := float64bits (stepV a1)
    generalize stepV a1 = sv at *
    by_cases h : -2305843009213693952 ≤ a0 ∧ a0 ≤ 2305843009213693952
    · have FL := Lib.hid (fun w => float_in a0 a1 w hz.1 hz.2 h.1 h.2)
      have R2 := Lib.hid (fun w => refFloat_c a0 a1 w h.1 h.2 hz.1 hz.2)
      have f2 := float64bits (fltZ a0 a1)
      generalize fltZ a0 a1 = x at *
      generalize (fvV a0 == a0) = o at *
      go_enter Try.func3, Try.ntmps3
      go_wp2_with fail
      refine (WA.out _).mono ?_; rintro e w1 ⟨rfl, hw1⟩
      go_wp2_with fail
      refine (FL.out _).mono ?_; rintro e w2 ⟨rfl, rfl⟩
      go_wp2_with fail
      refine (ST.out _).mono ?_; rintro e w2 ⟨rfl, rfl⟩
      go_wp2_with fail
      refine (SC.out _).mono ?_; rintro e w2 ⟨rfl, rfl⟩
      go_wp2_with fail
      refine (R1.out _).mono ?_; rintro e w3 ⟨rfl, hw3⟩
      go_wp2_with fail
      refine (R2.out _).mono ?_; rintro e w4 ⟨rfl, hw4⟩
      go_wp2
      go_ret
      exact ⟨by simp, below_two (below_two hw1 hw3) hw4⟩
    · have FL := Lib.hid (fun w => float_out2 a0 a1 w hz.1 hz.2 h)
      have f2 := float64bits 0
      have ht : 2305843009213693952 < a0 ∨ (¬ 2305843009213693952 < a0 ∧ a0 < -2305843009213693952) := by omega
      clear h
      rcases ht with ht | ⟨ht, ht2⟩
      all_goals
        go_enter Try.func3, Try.ntmps3
        go_wp2_with fail
        refine (WA.out _).mono ?_; rintro e w1 ⟨rfl, hw1⟩
        go_wp2_with fail
        refine (FL.out _).mono ?_; rintro e w2 ⟨rfl, rfl⟩
        go_wp2_with fail
        refine (ST.out _).mono ?_; rintro e w2 ⟨rfl, rfl⟩
        go_wp2_with fail
        refine (SC.out _).mono ?_; rintro e w2 ⟨rfl, rfl⟩
        go_wp2_with fail
        refine (R1.out _).mono ?_; rintro e w3 ⟨rfl, hw3⟩
        go_wp2
        go_ret
        exact ⟨rfl, below_two hw1 hw3⟩
  · have SC := Lib.hid (scale_c a1)
    rw [decide_eq_false hz] at SC
    have ST := Lib.hid (fun w => step_out a1 w hz)
    have FL := Lib.hid (fun w => float_out1 a0 a1 w hz)
    have f1 := float64bits 0
    clear hz
    go_enter Try.func3, Try.ntmps3
    go_wp2_with fail
    refine (WA.out _).mono ?_; rintro e w1 ⟨rfl, hw1⟩
    go_wp2_with fail
    refine (FL.out _).mono ?_; rintro e w2 ⟨rfl, rfl⟩
    go_wp2_with fail
    refine (ST.out _).mono ?_; rintro e w2 ⟨rfl, rfl⟩
    go_wp2_with fail
    refine (SC.out _).mono ?_; rintro e w2 ⟨rfl, rfl⟩
    go_wp2
    go_ret
    exact ⟨rfl, hw1⟩
end Go.Proofs.Ythkncbfaehgenaa
