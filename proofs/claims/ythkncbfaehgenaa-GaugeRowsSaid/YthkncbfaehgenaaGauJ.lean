/- Contracts of the gauge: Float, Order, and that the layer does something. -/
import Derived.Test.YthkncbfaehgenaaGauI
import Derived.OwnWalk
namespace Go.Proofs.Ythkncbfaehgenaa
open Go.RowKit NB
set_option maxHeartbeats 1000000 in
theorem float_in (v z : Int) (w : World) (hz : -40 ≤ z) (hz2 : z ≤ 40) (hv : -2305843009213693952 ≤ v) (hv2 : v ≤ 2305843009213693952) :
    Calls Try.prog 12 #[.int .i64 v, .int .i64 z] w fun e w' => e = .returned (.tuple #[.float .f64 (fltZ v z), .bool (fvV v == v), .int .i64 0]) ∧ w = w' := by
  have hf := floatOfInt_eq (v := v) (by omega)
  have hm := fun w => run_float_arith (P := Try.prog) w .mul 23 .f64 _ _ _ (float_mul (v := v) (z := z) (by omega) hz hz2)
  have hb := fun w => run_convert_float_int (P := Try.prog) w 23 2 .f64 .i64 _ _ rfl rfl (float_back (v := v) (by omega))
  have ST := Lib.hid (fun w => step_in z w hz hz2)
  generalize fltZ v z = x at *
  generalize fltV v = f at *
  generalize fvV v = u at *
  generalize stepV z = sv at *
  go_enter Try.func12, Try.ntmps12
  go_wp2_with (go_at_call 13; refine (ST.out _).mono ?_; rintro e w' ⟨rfl, rfl⟩)
  go_ret3
  exact ⟨rfl, rfl⟩
set_option maxHeartbeats 1000000 in
theorem float_out1 (v z : Int) (w : World) (hz : ¬(-40 ≤ z ∧ z ≤ 40)) :
    Calls Try.prog 12 #[.int .i64 v, .int .i64 z] w fun e w' => e = .returned (.tuple #[.float .f64 0, .bool false, .int .i64 2]) ∧ w = w' := by
  have ST := Lib.hid (fun w => step_out z w hz)
  clear hz
  go_enter Try.func12, Try.ntmps12
  go_wp2_with (go_at_call 13; refine (ST.out _).mono ?_; rintro e w' ⟨rfl, rfl⟩)
  go_ret3
  exact ⟨rfl, rfl⟩
set_option maxHeartbeats 1000000 in
theorem float_out2 (v z : Int) (w : World) (hz : -40 ≤ z) (hz2 : z ≤ 40) (hv : ¬(-2305843009213693952 ≤ v ∧ v ≤ 2305843009213693952)) :
    Calls Try.prog 12 #[.int .i64 v, .int .i64 z] w fun e w' => e = .returned (.tuple #[.float .f64 0, .bool false, .int .i64 2]) ∧ w = w' := by
  have ST := Lib.hid (fun w => step_in z w hz hz2)
  by_cases h : 2305843009213693952 < v
  · go_enter Try.func12, Try.ntmps12
    go_wp2_with (go_at_call 13; refine (ST.out _).mono ?_; rintro e w' ⟨rfl, rfl⟩)
    go_ret3
    exact ⟨rfl, rfl⟩
  · have h2 : v < -2305843009213693952 := by omega
    clear hv
    go_enter Try.func12, Try.ntmps12
    go_wp2_with (go_at_call 13; refine (ST.out _).mono ?_; rintro e w' ⟨rfl, rfl⟩)
    go_ret3
    exact ⟨rfl, rfl⟩
def ordV (o : Option Ordering) : Int := if o = some .lt then -1 else if o = some .gt then 1 else 0
set_option maxHeartbeats 1000000 in
theorem order_nan (a b : Nat) (w : World) (ha : a < 18446744073709551616) (hb : b < 18446744073709551616) (h : kindV a = 1 ∨ kindV b = 1) :
    Calls Try.prog 23 #[.float .f64 a, .float .f64 b] w fun e w' => e = .returned (.tuple #[.int .i64 0, .bool false]) ∧ w = w' := by
  have ea := isNaN_eq ha
  have eb := isNaN_eq hb
  by_cases h1 : kindV a = 1
  · rw [decide_eq_true h1] at ea
    clear h h1 eb
    go_enter Try.func23, Try.ntmps23
    go_wp2
    go_ret2
    exact ⟨rfl, rfl⟩
  · have h2 : kindV b = 1 := by rcases h with h | h; exact absurd h h1; exact h
    rw [decide_eq_false h1] at ea
    rw [decide_eq_true h2] at eb
    clear h h1 h2
    go_enter Try.func23, Try.ntmps23
    go_wp2
    go_ret2
    exact ⟨rfl, rfl⟩
set_option maxHeartbeats 1000000 in
theorem order_num (a b : Nat) (w : World) (ha : a < 18446744073709551616) (hb : b < 18446744073709551616) (h : kindV a ≠ 1) (h2 : kindV b ≠ 1) :
    Calls Try.prog 23 #[.float .f64 a, .float .f64 b] w fun e w' => e = .returned (.tuple #[.int .i64 (ordV (FloatKind.f64.format.order a b)), .bool true]) ∧ w = w' := by
  have ea := isNaN_eq ha
  have eb := isNaN_eq hb
  rw [decide_eq_false h] at ea
  rw [decide_eq_false h2] at eb
  generalize hO : FloatKind.f64.format.order a b = o at *
  by_cases h1 : o = some .lt
  · have t : (o == some Ordering.lt) = true := beq_iff_eq.2 h1
    have e : ordV o = -1 := by unfold ordV; rw [if_pos h1]
    rw [e]
    clear h1 e h h2
    go_enter Try.func23, Try.ntmps23
    go_wp2
    go_ret2
    exact ⟨rfl, rfl⟩
  · by_cases h3 : o = some .gt
    · have t : (o == some Ordering.lt) = false := beq_eq_false_iff_ne.2 h1
      have t2 : (o == some Ordering.gt) = true := beq_iff_eq.2 h3
      have e : ordV o = 1 := by unfold ordV; rw [if_neg h1, if_pos h3]
      rw [e]
      clear h1 e h h2 h3
      go_enter Try.func23, Try.ntmps23
      go_wp2
      go_ret2
      exact ⟨rfl, rfl⟩
    · have t : (o == some Ordering.lt) = false := beq_eq_false_iff_ne.2 h1
      have t2 : (o == some Ordering.gt) = false := beq_eq_false_iff_ne.2 h3
      have e : ordV o = 0 := by unfold ordV; rw [if_neg h1, if_neg h3]
      rw [e]
      clear h1 e h h2 h3
      go_enter Try.func23, Try.ntmps23
      go_wp2
      go_ret2
      exact ⟨rfl, rfl⟩
theorem wk1 : fixedI 4612811918334230528 0 = 2 ∧ fixedE 4612811918334230528 0 = 0 := by decide +kernel
theorem wk2 : fixedI 4652007308841189376 (-3) = 125 ∧ fixedE 4652007308841189376 (-3) = 0 := by decide +kernel
theorem wk3 : fixedI 4607182418800017408 41 = 0 ∧ fixedE 4607182418800017408 41 = 2 := by decide +kernel
theorem wk4 : fltZ (-3) 1 = 13832806255468478464 ∧ (fvV (-3) == -3) = true := by decide +kernel
theorem wk5 : kindV 0 = 3 := by decide +kernel
set_option maxHeartbeats 2000000 in
theorem wakes_c (w : World) :
    Calls Try.prog 11 #[] w fun e w' => e = .returned (.bool true) ∧ Below w.heap.size w w' := by
  have f1 := fun w => fixed_c 4612811918334230528 0 w (by decide)
  have f2 := fun w => fixed_c 4652007308841189376 (-3) w (by decide)
  have f3 := fun w => fixed_c 4607182418800017408 41 w (by decide)
  have f4 := fun w => float_in (-3) 1 w (by decide) (by decide) (by decide) (by decide)
  have f5 := fun w => kind_c 0 w (by decide)
  rw [wk1.1, wk1.2] at f1
  rw [wk2.1, wk2.2] at f2
  rw [wk3.1, wk3.2] at f3
  rw [wk4.1, wk4.2] at f4
  rw [wk5] at f5
  have F1 := Lib.hid f1
  have F2 := Lib.hid f2
  have F3 := Lib.hid f3
  have F4 := Lib.hid f4
  have F5 := Lib.hid f5
  clear f1 f2 f3 f4 f5
  have tq : (FloatKind.f64.format.order 13832806255468478464 13832806255468478464 == some Ordering.eq) = true := by decide +kernel
  go_enter Try.func11, Try.ntmps11
  go_wp2_with (first | (go_at_call_of 18 (Value.float FloatKind.f64 4612811918334230528); refine (F1.out _).mono ?_; rintro e w1 ⟨rfl, hw1⟩) | (go_at_call_of 18 (Value.float FloatKind.f64 4652007308841189376); refine (F2.out _).mono ?_; rintro e w2 ⟨rfl, hw2⟩) | (go_at_call_of 18 (Value.float FloatKind.f64 4607182418800017408); refine (F3.out _).mono ?_; rintro e w3 ⟨rfl, hw3⟩) | (go_at_call 12; refine (F4.out _).mono ?_; rintro e w4 ⟨rfl, rfl⟩) | (go_at_call 21; refine (F5.out _).mono ?_; rintro e w5 ⟨rfl, hw5⟩))
  go_ret
  exact ⟨rfl, below_two (below_two (below_two hw1 hw2) hw3) hw5⟩
end Go.Proofs.Ythkncbfaehgenaa
