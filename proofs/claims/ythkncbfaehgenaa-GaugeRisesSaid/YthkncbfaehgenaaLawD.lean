/- Walk of the law GaugeRises. -/
import Derived.Test.YthkncbfaehgenaaGauM
import Derived.Test.YthkncbfaehgenaaLawC
namespace Go.Proofs.Ythkncbfaehgenaa
open Go.RowKit NB
theorem fixedI_range (b : Nat) (z : Int) : -2305843009213693952 ≤ fixedI b z ∧ fixedI b z ≤ 2305843009213693952 := by
  unfold fixedI fixI
  repeat' split
  all_goals omega
theorem ordI_range (a b : Nat) : -1 ≤ ordI a b ∧ ordI a b ≤ 1 := by
  unfold ordI ordV
  repeat' split
  all_goals omega
set_option maxHeartbeats 1000000 in
theorem rises_walk (a0 a1 a2 : Int) (w0 : (Lit.int .u64 a0).wf = true) (w1 : (Lit.int .u64 a1).wf = true) (w2 : (Lit.int .i8 a2).wf = true) (w : World) :
    Calls Try.prog 9 #[.int .u64 a0, .int .u64 a1, .int .i8 a2] w fun e w' => e = .returned (.bool true) ∧ Below w.heap.size w w' := by
  have hn := small_wf w2
  have hv := u64_wf w0
  have hv2 := u64_wf w1
  obtain ⟨a, rfl⟩ : ∃ b : Nat, a0 = (b : Int) := ⟨a0.toNat, by omega⟩
  obtain ⟨b, rfl⟩ : ∃ b : Nat, a1 = (b : Int) := ⟨a1.toNat, by omega⟩
  have ha : a < 18446744073709551616 := by omega
  have hb : b < 18446744073709551616 := by omega
  have hr := tmod_range a2
  have WA := Lib.hid wakes_c
  have SC := Lib.hid (fun w => scaled_c a2 w hn.1 hn.2)
  generalize a2.tmod 41 = z at *
  have hx : bits .xor .u64 (a : Int) 9223372036854775808 = ((flip a : Nat) : Int) := by
    have h := u64_xor_nat a 9223372036854775808 ha (by decide)
    rw [show ((9223372036854775808 : Nat) : Int) = 9223372036854775808 from rfl, xor_flip ha] at h
    exact h
  obtain ⟨p1, p2⟩ := fixed_flip (z := z) ha hr.1 hr.2
  have hfl := (flip_parts ha).2.2.1
  have hF1 := fun w => fixed_c a z w ha
  have hF2 := fun w => fixed_c b z w hb
  have hF3 := fun w => fixed_c (flip a) z w hfl
  have hO1 := fun w => order_any a b w ha hb
  have hO2 := fun w => order_any b a w hb ha
  rw [p1, p2] at hF3
  rw [ordI_swap, ordB_swap] at hO2
  have b1 := frombits a
  have b2 := frombits b
  have b3 := frombits (flip a)
  have K1 := Lib.hid (fun w => kind_c a w ha)
  have K2 := Lib.hid (fun w => kind_c b w hb)
  have hL := rises_law (z := z) ha hb hr.1 hr.2
  have hB : ordB a b = false → kindV a ≠ 1 → kindV b = 1 := by
    intro h h2
    have := of_decide_eq_false h
    omega
  have ri := fixedI_range a z
  have ro := ordI_range a b
  generalize fixedI a z = i at *
  generalize fixedE a z = e at *
  generalize fixedI b z = j at *
  generalize fixedE b z = f at *
  generalize ordI a b = n at *
  generalize ordB a b = o at *
  generalize flip a = c at *
  have F1 := Lib.hid hF1
  have F2 := Lib.hid hF2
  have F3 := Lib.hid hF3
  have O1 := Lib.hid hO1
  have O2 := Lib.hid hO2
  clear hF1 hF2 hF3 hO1 hO2 p1 p2 hv hv2 hn
  have tok1 := trivial
  by_cases he : e = 0 ∧ f = 0
  · obtain ⟨l1, l2, l3⟩ := hL he.1 he.2
    obtain ⟨rfl, rfl⟩ := he
    subst l1
    have t1 : (n != -1 || decide (i ≤ j)) = true := by
      by_cases h : n = -1
      · rw [decide_eq_true (l2 h), Bool.or_true]
      · rw [bne_iff_ne.2 h, Bool.true_or]
    have t2 : (n != 0 || i == j) = true := by
      by_cases h : n = 0
      · rw [beq_iff_eq.2 (l3 h), Bool.or_true]
      · rw [bne_iff_ne.2 h, Bool.true_or]
    have L2 := Lib.hid l2
    have L3 := Lib.hid l3
    clear hL hB l2 l3
    go_enter Try.func9, Try.ntmps9
    go_wp2_with fail
    refine (WA.out _).mono ?_; rintro e w1 ⟨rfl, hw1⟩
    go_wp2_with fail
    refine (SC.out _).mono ?_; rintro e w2 ⟨rfl, rfl⟩
    go_wp2_with fail
    refine (F1.out _).mono ?_; rintro e w3 ⟨rfl, hw3⟩
    go_wp2_with fail
    refine (F2.out _).mono ?_; rintro e w4 ⟨rfl, hw4⟩
    go_wp2_with fail
    refine (F3.out _).mono ?_; rintro e w5 ⟨rfl, hw5⟩
    go_wp2_with fail
    refine (O1.out _).mono ?_; rintro e w6 ⟨rfl, rfl⟩
    go_wp2_with fail
    refine (O2.out _).mono ?_; rintro e w7 ⟨rfl, rfl⟩
    go_wp2_with fail
    all_goals
      go_ret
      refine ⟨?_, below_two (below_two (below_two hw1 hw3) hw4) hw5⟩
      first | rfl | (exfalso; have := L2.out (by assumption); omega) | (rw [L3.out (by assumption)]; simp)
  · have ht : (e ≠ 0) ∨ (e = 0 ∧ f ≠ 0) := by omega
    clear hL
    cases o
    · have hk : kindV a = 1 ∨ (kindV a ≠ 1 ∧ kindV b = 1) := by
        by_cases h : kindV a = 1
        · exact .inl h
        · exact .inr ⟨h, hB rfl h⟩
      clear hB he
      rcases ht with ht | ⟨rfl, ht⟩
      all_goals
        have t := bne_iff_ne.2 ht
        clear ht
        rcases hk with hk | ⟨hk, hk2⟩
        · have k := beq_iff_eq.2 hk
          clear hk
          generalize kindV a = ka at *
          go_enter Try.func9, Try.ntmps9
          go_wp2_with fail
          refine (WA.out _).mono ?_; rintro e w1 ⟨rfl, hw1⟩
          go_wp2_with fail
          refine (SC.out _).mono ?_; rintro e w2 ⟨rfl, rfl⟩
          go_wp2_with fail
          refine (F1.out _).mono ?_; rintro e w3 ⟨rfl, hw3⟩
          go_wp2_with fail
          refine (F2.out _).mono ?_; rintro e w4 ⟨rfl, hw4⟩
          go_wp2_with fail
          refine (F3.out _).mono ?_; rintro e w5 ⟨rfl, hw5⟩
          go_wp2_with fail
          refine (O1.out _).mono ?_; rintro e w6 ⟨rfl, rfl⟩
          go_wp2_with fail
          refine (O2.out _).mono ?_; rintro e w7 ⟨rfl, rfl⟩
          go_wp2_with fail
          refine (K1.out _).mono ?_; rintro e w8 ⟨rfl, hw8⟩
          go_wp2
          go_ret
          exact ⟨rfl, below_two (below_two (below_two (below_two hw1 hw3) hw4) hw5) hw8⟩
        · have k := beq_eq_false_iff_ne.2 hk
          have k2 := beq_iff_eq.2 hk2
          clear hk hk2
          generalize kindV a = ka at *
          generalize kindV b = kb at *
          go_enter Try.func9, Try.ntmps9
          go_wp2_with fail
          refine (WA.out _).mono ?_; rintro e w1 ⟨rfl, hw1⟩
          go_wp2_with fail
          refine (SC.out _).mono ?_; rintro e w2 ⟨rfl, rfl⟩
          go_wp2_with fail
          refine (F1.out _).mono ?_; rintro e w3 ⟨rfl, hw3⟩
          go_wp2_with fail
          refine (F2.out _).mono ?_; rintro e w4 ⟨rfl, hw4⟩
          go_wp2_with fail
          refine (F3.out _).mono ?_; rintro e w5 ⟨rfl, hw5⟩
          go_wp2_with fail
          refine (O1.out _).mono ?_; rintro e w6 ⟨rfl, rfl⟩
          go_wp2_with fail
          refine (O2.out _).mono ?_; rintro e w7 ⟨rfl, rfl⟩
          go_wp2_with fail
          refine (K1.out _).mono ?_; rintro e w8 ⟨rfl, hw8⟩
          go_wp2_with fail
          refine (K2.out _).mono ?_; rintro e w9 ⟨rfl, hw9⟩
          go_wp2
          go_ret
          exact ⟨rfl, below_two (below_two (below_two (below_two (below_two hw1 hw3) hw4) hw5) hw8) hw9⟩
    · clear hB he
      rcases ht with ht | ⟨rfl, ht⟩
      all_goals
        have t := bne_iff_ne.2 ht
        clear ht
        go_enter Try.func9, Try.ntmps9
        go_wp2_with fail
        refine (WA.out _).mono ?_; rintro e w1 ⟨rfl, hw1⟩
        go_wp2_with fail
        refine (SC.out _).mono ?_; rintro e w2 ⟨rfl, rfl⟩
        go_wp2_with fail
        refine (F1.out _).mono ?_; rintro e w3 ⟨rfl, hw3⟩
        go_wp2_with fail
        refine (F2.out _).mono ?_; rintro e w4 ⟨rfl, hw4⟩
        go_wp2_with fail
        refine (F3.out _).mono ?_; rintro e w5 ⟨rfl, hw5⟩
        go_wp2_with fail
        refine (O1.out _).mono ?_; rintro e w6 ⟨rfl, rfl⟩
        go_wp2_with fail
        refine (O2.out _).mono ?_; rintro e w7 ⟨rfl, rfl⟩
        go_wp2_with fail
        go_ret
        exact ⟨rfl, below_two (below_two (below_two hw1 hw3) hw4) hw5⟩
end Go.Proofs.Ythkncbfaehgenaa
