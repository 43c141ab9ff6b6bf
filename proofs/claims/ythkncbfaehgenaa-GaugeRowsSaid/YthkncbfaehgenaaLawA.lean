/- Walks of the laws: GaugeBack. -/
import Derived.Test.YthkncbfaehgenaaGauK
namespace Go.Proofs.Ythkncbfaehgenaa
open Go.RowKit NB
theorem small_wf {v : Int} (h : (Lit.int .i8 v).wf = true) : -128 ≤ v ∧ v ≤ 127 := by
  simp [Lit.wf, IntKind.min, IntKind.max, IntKind.bits, IntKind.signed] at h
  exact h
theorem i64_wf {v : Int} (h : (Lit.int .i64 v).wf = true) : -9223372036854775808 ≤ v ∧ v ≤ 9223372036854775807 := by
  simp [Lit.wf, IntKind.min, IntKind.max, IntKind.bits, IntKind.signed] at h
  exact h
theorem u64_wf {v : Int} (h : (Lit.int .u64 v).wf = true) : 0 ≤ v ∧ v ≤ 18446744073709551615 := by
  simp [Lit.wf, IntKind.min, IntKind.max, IntKind.bits, IntKind.signed] at h
  exact h
theorem tmod_range (n : Int) : -40 ≤ n.tmod 41 ∧ n.tmod 41 ≤ 40 := by
  have h1 := Int.tmod_lt_of_pos n (by decide : (0 : Int) < 41)
  have h2 := Int.lt_tmod_of_pos n (by decide : (0 : Int) < 41)
  omega
set_option maxHeartbeats 400000 in
theorem scaled_c (n : Int) (w : World) (h : -128 ≤ n) (h2 : n ≤ 127) :
    Calls Try.prog 17 #[.int .i8 n] w fun e w' => e = .returned (.int .i64 (n.tmod 41)) ∧ w = w' := by
  have hr := tmod_range n
  go_enter Try.func17, Try.ntmps17
  go_wp2
  go_ret
  exact ⟨rfl, rfl⟩
set_option maxHeartbeats 1000000 in
theorem back_walk (a0 a1 : Int) (w0 : (Lit.int .i64 a0).wf = true) (w1 : (Lit.int .i8 a1).wf = true) (w : World) :
    Calls Try.prog 4 #[.int .i64 a0, .int .i8 a1] w fun e w' => e = .returned (.bool true) ∧ Below w.heap.size w w' := by
  have ha := small_wf w1
  have hv := i64_wf w0
  have hr := tmod_range a1
  have WA := Lib.hid wakes_c
  have SC := Lib.hid (fun w => scaled_c a1 w ha.1 ha.2)
  generalize a1.tmod 41 = z at *
  by_cases h : -2305843009213693952 ≤ a0 ∧ a0 ≤ 2305843009213693952
  · obtain ⟨f1, f2, f3⟩ := fixed_flt (v := a0) (by omega) hr.1 hr.2
    have hFI := fun w => fixed_c (fltZ a0 z) z w f1
    rw [f2, f3] at hFI
    have FI := Lib.hid hFI
    have FL := Lib.hid (fun w => float_in a0 z w hr.1 hr.2 h.1 h.2)
    have hx := fv_exact (v := a0)
    generalize fltZ a0 z = x at *
    generalize fvV a0 = u at *
    clear hFI f2 f3
    by_cases hu : u = a0
    · have t : (u == a0) = true := beq_iff_eq.2 hu
      clear hu hx
      go_enter Try.func4, Try.ntmps4
      go_wp2_with (first | (go_at_call 11; refine (WA.out _).mono ?_; rintro e w1 ⟨rfl, hw1⟩) | (go_at_call 17; refine (SC.out _).mono ?_; rintro e w2 ⟨rfl, rfl⟩) | (go_at_call 12; refine (FL.out _).mono ?_; rintro e w3 ⟨rfl, rfl⟩) | (go_at_call 18; refine (FI.out _).mono ?_; rintro e w4 ⟨rfl, hw4⟩))
      all_goals
        go_ret
        exact ⟨rfl, below_two hw1 hw4⟩
    · have t : (u == a0) = false := beq_eq_false_iff_ne.2 hu
      have hbig : ¬(-9007199254740992 ≤ a0 ∧ a0 ≤ 9007199254740992) := fun h => hu (hx h.1 h.2)
      clear hu hx
      go_enter Try.func4, Try.ntmps4
      go_wp2_with (first | (go_at_call 11; refine (WA.out _).mono ?_; rintro e w1 ⟨rfl, hw1⟩) | (go_at_call 17; refine (SC.out _).mono ?_; rintro e w2 ⟨rfl, rfl⟩) | (go_at_call 12; refine (FL.out _).mono ?_; rintro e w3 ⟨rfl, rfl⟩) | (go_at_call 18; refine (FI.out _).mono ?_; rintro e w4 ⟨rfl, hw4⟩))
      all_goals
        go_ret
        exact ⟨rfl, below_two hw1 hw4⟩
  · have FL := Lib.hid (fun w => float_out2 a0 z w hr.1 hr.2 h)
    by_cases h2 : 2305843009213693952 < a0
    · clear h
      go_enter Try.func4, Try.ntmps4
      go_wp2_with (first | (go_at_call 11; refine (WA.out _).mono ?_; rintro e w1 ⟨rfl, hw1⟩) | (go_at_call 17; refine (SC.out _).mono ?_; rintro e w2 ⟨rfl, rfl⟩) | (go_at_call 12; refine (FL.out _).mono ?_; rintro e w3 ⟨rfl, rfl⟩))
      go_ret
      exact ⟨rfl, hw1⟩
    · have h3 : a0 < -2305843009213693952 := by omega
      clear h
      go_enter Try.func4, Try.ntmps4
      go_wp2_with (first | (go_at_call 11; refine (WA.out _).mono ?_; rintro e w1 ⟨rfl, hw1⟩) | (go_at_call 17; refine (SC.out _).mono ?_; rintro e w2 ⟨rfl, rfl⟩) | (go_at_call 12; refine (FL.out _).mono ?_; rintro e w3 ⟨rfl, rfl⟩))
      go_ret
      exact ⟨rfl, hw1⟩
end Go.Proofs.Ythkncbfaehgenaa
