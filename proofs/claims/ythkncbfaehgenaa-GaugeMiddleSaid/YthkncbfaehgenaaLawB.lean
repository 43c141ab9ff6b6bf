/- Walk of the law GaugeMiddle. -/
import Derived.Test.YthkncbfaehgenaaLawA
namespace Go.Proofs.Ythkncbfaehgenaa
open Go.RowKit NB
set_option maxHeartbeats 1000000 in
theorem middle_walk (a0 a1 : Int) (w0 : (Lit.int .i64 a0).wf = true) (w1 : (Lit.int .i8 a1).wf = true) (w : World) :
    Calls Try.prog 5 #[.int .i64 a0, .int .i8 a1] w fun e w' => e = .returned (.bool true) ∧ Below w.heap.size w w' := by
  have ha := small_wf w1
  have hv := i64_wf w0
  have hr := tmod_range a1
  have WA := Lib.hid wakes_c
  have SC := Lib.hid (fun w => scaled_c a1 w ha.1 ha.2)
  have hm1 := Int.tmod_lt_of_pos a0 (by decide : (0 : Int) < 2251799813685248)
  have hm2 := Int.lt_tmod_of_pos a0 (by decide : (0 : Int) < 2251799813685248)
  generalize hv' : a0.tmod 2251799813685248 = v at *
  generalize a1.tmod 41 = z at *
  have hmid : ∀ s s' : Int, s' = s + 1 → -40 ≤ s → s < 40 → ∃ (x : Nat) (r : Int), (∀ w, Calls Try.prog 12 #[.int .i64 (2 * v + 1), .int .i64 s'] w fun e w' => e = .returned (.tuple #[.float .f64 x, .bool true, .int .i64 0]) ∧ w = w') ∧ (∀ w, Calls Try.prog 18 #[.float .f64 x, .int .i64 s] w fun e w' => e = .returned (.tuple #[.int .i64 r, .int .i64 0]) ∧ Below w.heap.size w w') ∧ (r = v ∨ r = v + 1) ∧ r.tmod 2 = 0 := by
    intro s s' hs h1 h2
    rw [hs]
    obtain ⟨e1, e2, e3⟩ := middle hm2 hm1 h1 h2
    have f1 := (fixed_flt (v := 2 * v + 1) (z := s + 1) (by omega) (by omega) (by omega)).1
    have hfl := fun w => float_in (2 * v + 1) (s + 1) w (by omega) (by omega) (by omega) (by omega)
    have hfi := fun w => fixed_c (fltZ (2 * v + 1) (s + 1)) s w f1
    rw [fv_exact (by omega) (by omega), beq_self_eq_true] at hfl
    rw [e1] at hfi
    exact ⟨_, _, hfl, hfi, e2, e3⟩
  have hvv : IntKind.i64.wrap v = v := by rw [IntKind.wrap_i64]; omega
  by_cases hz : z = 40
  · obtain ⟨x, r, hfl, hfi, hr1, hr2⟩ := hmid 39 40 rfl (by decide) (by decide)
    subst hz
    rcases hr1 with rfl | rfl
    all_goals
      have FL := Lib.hid hfl
      have FI := Lib.hid hfi
      clear hmid hfl hfi
      have t2 := beq_iff_eq.2 hr2
      clear hr2
      go_enter Try.func5, Try.ntmps5
      go_wp2_with (first | (go_at_call 11; refine (WA.out _).mono ?_; rintro e w1 ⟨rfl, hw1⟩) | (go_at_call 17; refine (SC.out _).mono ?_; rintro e w2 ⟨rfl, rfl⟩) | (go_at_call 12; refine (FL.out _).mono ?_; rintro e w3 ⟨rfl, rfl⟩) | (go_at_call 18; refine (FI.out _).mono ?_; rintro e w4 ⟨rfl, hw4⟩))
      go_ret
      exact ⟨by first | rfl | exact ret_b t2, below_two hw1 hw4⟩
  · obtain ⟨x, r, hfl, hfi, hr1, hr2⟩ := hmid z (z + 1) rfl (by omega) (by omega)
    rcases hr1 with rfl | rfl
    all_goals
      have FL := Lib.hid hfl
      have FI := Lib.hid hfi
      have t : (z == 40) = false := beq_eq_false_iff_ne.2 hz
      clear hmid hfl hfi
      have t2 := beq_iff_eq.2 hr2
      clear hr2
      go_enter Try.func5, Try.ntmps5
      go_wp2_with (first | (go_at_call 11; refine (WA.out _).mono ?_; rintro e w1 ⟨rfl, hw1⟩) | (go_at_call 17; refine (SC.out _).mono ?_; rintro e w2 ⟨rfl, rfl⟩) | (go_at_call 12; refine (FL.out _).mono ?_; rintro e w3 ⟨rfl, rfl⟩) | (go_at_call 18; refine (FI.out _).mono ?_; rintro e w4 ⟨rfl, hw4⟩))
      go_ret
      exact ⟨by first | rfl | exact ret_b t2, below_two hw1 hw4⟩
end Go.Proofs.Ythkncbfaehgenaa
