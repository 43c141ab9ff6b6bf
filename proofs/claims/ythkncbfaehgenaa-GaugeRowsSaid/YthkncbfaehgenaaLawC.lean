/- Walk of the law GaugeFiner. -/
import Derived.Test.YthkncbfaehgenaaGauL
import Derived.Test.YthkncbfaehgenaaLawA
namespace Go.Proofs.Ythkncbfaehgenaa
open Go.RowKit NB
theorem frombits (b : Nat) (w : World) : (callFunc 19 #[.int .u64 b]).run Try.prog w = .ok (.value (.float .f64 b)) w := by kernel_rfl
set_option maxHeartbeats 2000000 in
theorem finer_walk (a0 a1 : Int) (w0 : (Lit.int .u64 a0).wf = true) (w1 : (Lit.int .i8 a1).wf = true) (w : World) :
    Calls Try.prog 7 #[.int .u64 a0, .int .i8 a1] w fun e w' => e = .returned (.bool true) ∧ Below w.heap.size w w' := by
  have ha := small_wf w1
  have hv := u64_wf w0
  obtain ⟨b, rfl⟩ : ∃ b : Nat, a0 = (b : Int) := ⟨a0.toNat, by omega⟩
  have hb : b < 18446744073709551616 := by omega
  have hfb := frombits b
  have hr := tmod_range a1
  have WA := Lib.hid wakes_c
  have SC := Lib.hid (fun w => scaled_c a1 w ha.1 ha.2)
  generalize a1.tmod 41 = z at *
  have hmid : ∀ s s' : Int, s' = s + 1 → -40 ≤ s → s < 40 → ∃ v e u f : Int, (∀ w, Calls Try.prog 18 #[.float .f64 b, .int .i64 s] w fun d w' => d = .returned (.tuple #[.int .i64 v, .int .i64 e]) ∧ Below w.heap.size w w') ∧ (∀ w, Calls Try.prog 18 #[.float .f64 b, .int .i64 s'] w fun d w' => d = .returned (.tuple #[.int .i64 u, .int .i64 f]) ∧ Below w.heap.size w w') ∧
      ((e ≠ 0 ∧ f = e) ∨ (e = 0 ∧ f = 5 ∧ (1152921504606846976 ≤ v ∨ v ≤ -1152921504606846976)) ∨ (e = 0 ∧ f = 0 ∧ -1 ≤ u - 2 * v ∧ u - 2 * v ≤ 1 ∧ -2305843009213693952 ≤ v ∧ v ≤ 2305843009213693952 ∧ -2305843009213693952 ≤ u ∧ u ≤ 2305843009213693952)) := by
    intro s s' hs h1 h2
    rw [hs]
    exact ⟨_, _, _, _, fun w => fixed_c b s w hb, fun w => fixed_c b (s + 1) w hb, finer_law b h1 h2⟩
  by_cases hz : z = 40
  · obtain ⟨v, e, u, f, hf1, hf2, hc⟩ := hmid 39 40 rfl (by decide) (by decide)
    have F1 := Lib.hid hf1
    have F2 := Lib.hid hf2
    subst hz
    clear hmid hf1 hf2
    have tok1 := trivial
    rcases hc with ⟨h1, rfl⟩ | ⟨rfl, rfl, h3⟩ | ⟨rfl, rfl, h3, h4, h5, h6, h7, h8⟩
    · have t := bne_iff_ne.2 h1
      clear h1
      go_enter Try.func7, Try.ntmps7
      go_wp2_with (first | (go_at_call 11; refine (WA.out _).mono ?_; rintro e w1 ⟨rfl, hw1⟩) | (go_at_call 17; refine (SC.out _).mono ?_; rintro e w2 ⟨rfl, rfl⟩) | (go_at_call 18; have tok2 := tok1; clear tok1; refine (F1.out _).mono ?_; rintro e w3 ⟨rfl, hw3⟩) | (go_at_call 18; refine (F2.out _).mono ?_; rintro e w4 ⟨rfl, hw4⟩))
      all_goals
        go_ret
        exact ⟨rfl, below_two (below_two hw1 hw3) hw4⟩
    · clear hr
      rcases h3 with h3 | h3
      all_goals
        go_enter Try.func7, Try.ntmps7
        go_wp2_with (first | (go_at_call 11; refine (WA.out _).mono ?_; rintro e w1 ⟨rfl, hw1⟩) | (go_at_call 17; refine (SC.out _).mono ?_; rintro e w2 ⟨rfl, rfl⟩) | (go_at_call 18; have tok2 := tok1; clear tok1; refine (F1.out _).mono ?_; rintro e w3 ⟨rfl, hw3⟩) | (go_at_call 18; refine (F2.out _).mono ?_; rintro e w4 ⟨rfl, hw4⟩))
        all_goals
          go_ret
          exact ⟨rfl, below_two (below_two hw1 hw3) hw4⟩
    · have x1 : wrap64 (2 * v) = 2 * v := by unfold wrap64; omega
      have x2 : wrap64 (u - 2 * v) = u - 2 * v := by unfold wrap64; omega
      have t1 : decide (-1 ≤ u - 2 * v) = true := decide_eq_true h3
      have t2 : decide (u - 2 * v ≤ 1) = true := decide_eq_true h4
      clear h3 h4 h5 h6 h7 h8
      go_enter Try.func7, Try.ntmps7
      go_wp2_with (first | (go_at_call 11; refine (WA.out _).mono ?_; rintro e w1 ⟨rfl, hw1⟩) | (go_at_call 17; refine (SC.out _).mono ?_; rintro e w2 ⟨rfl, rfl⟩) | (go_at_call 18; have tok2 := tok1; clear tok1; refine (F1.out _).mono ?_; rintro e w3 ⟨rfl, hw3⟩) | (go_at_call 18; refine (F2.out _).mono ?_; rintro e w4 ⟨rfl, hw4⟩))
      all_goals
        go_ret
        exact ⟨rfl, below_two (below_two hw1 hw3) hw4⟩
  · obtain ⟨v, e, u, f, hf1, hf2, hc⟩ := hmid z (z + 1) rfl (by omega) (by omega)
    have F1 := Lib.hid hf1
    have F2 := Lib.hid hf2
    have tz : (z == 40) = false := beq_eq_false_iff_ne.2 hz
    have hr := hr
    clear hmid hf1 hf2
    have tok1 := trivial
    rcases hc with ⟨h1, rfl⟩ | ⟨rfl, rfl, h3⟩ | ⟨rfl, rfl, h3, h4, h5, h6, h7, h8⟩
    · have t := bne_iff_ne.2 h1
      clear h1
      go_enter Try.func7, Try.ntmps7
      go_wp2_with (first | (go_at_call 11; refine (WA.out _).mono ?_; rintro e w1 ⟨rfl, hw1⟩) | (go_at_call 17; refine (SC.out _).mono ?_; rintro e w2 ⟨rfl, rfl⟩) | (go_at_call 18; have tok2 := tok1; clear tok1; refine (F1.out _).mono ?_; rintro e w3 ⟨rfl, hw3⟩) | (go_at_call 18; refine (F2.out _).mono ?_; rintro e w4 ⟨rfl, hw4⟩))
      all_goals
        go_ret
        exact ⟨rfl, below_two (below_two hw1 hw3) hw4⟩
    · skip
      rcases h3 with h3 | h3
      all_goals
        go_enter Try.func7, Try.ntmps7
        go_wp2_with (first | (go_at_call 11; refine (WA.out _).mono ?_; rintro e w1 ⟨rfl, hw1⟩) | (go_at_call 17; refine (SC.out _).mono ?_; rintro e w2 ⟨rfl, rfl⟩) | (go_at_call 18; have tok2 := tok1; clear tok1; refine (F1.out _).mono ?_; rintro e w3 ⟨rfl, hw3⟩) | (go_at_call 18; refine (F2.out _).mono ?_; rintro e w4 ⟨rfl, hw4⟩))
        all_goals
          go_ret
          exact ⟨rfl, below_two (below_two hw1 hw3) hw4⟩
    · have x1 : wrap64 (2 * v) = 2 * v := by unfold wrap64; omega
      have x2 : wrap64 (u - 2 * v) = u - 2 * v := by unfold wrap64; omega
      have t1 : decide (-1 ≤ u - 2 * v) = true := decide_eq_true h3
      have t2 : decide (u - 2 * v ≤ 1) = true := decide_eq_true h4
      clear h3 h4 h5 h6 h7 h8
      go_enter Try.func7, Try.ntmps7
      go_wp2_with (first | (go_at_call 11; refine (WA.out _).mono ?_; rintro e w1 ⟨rfl, hw1⟩) | (go_at_call 17; refine (SC.out _).mono ?_; rintro e w2 ⟨rfl, rfl⟩) | (go_at_call 18; have tok2 := tok1; clear tok1; refine (F1.out _).mono ?_; rintro e w3 ⟨rfl, hw3⟩) | (go_at_call 18; refine (F2.out _).mono ?_; rintro e w4 ⟨rfl, hw4⟩))
      all_goals
        go_ret
        exact ⟨rfl, below_two (below_two hw1 hw3) hw4⟩
end Go.Proofs.Ythkncbfaehgenaa
