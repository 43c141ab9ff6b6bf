/- Contracts of the gauge: Step, Float, Order. -/
import Derived.Test.YthkncbfaehgenaaFlr
namespace Go.Proofs.Ythkncbfaehgenaa
open Go.RowKit NB
/-- 2^-z -/
def stepV (z : Int) : Nat := (1023 - z).toNat * 4503599627370496
theorem step_lo : ∀ k : Nat, k < 41 → floatOfInt .f64 ((2 ^ k : Nat) : Int) = (1023 + k) * 4503599627370496 := by decide +kernel
theorem step_hi : ∀ k : Nat, k < 41 → floatBits .quo .f64 4607182418800017408 (floatOfInt .f64 ((2 ^ k : Nat) : Int)) = some ((1023 - k) * 4503599627370496) := by decide +kernel
theorem pow_wrap (k : Nat) (h : k < 41) : IntKind.u64.wrap (2 ^ k) = ((2 ^ k : Nat) : Int) := by
  have : 2 ^ k ≤ 2 ^ 40 := Nat.pow_le_pow_right (by decide) (by omega)
  have e : ((2 : Int) ^ k) = ((2 ^ k : Nat) : Int) := by push_cast; rfl
  rw [e, IntKind.wrap_u64]
  generalize 2 ^ k = q at *
  omega
set_option maxHeartbeats 1000000 in
theorem step_out (z : Int) (w : World) (hz : ¬(-40 ≤ z ∧ z ≤ 40)) :
    Calls Try.prog 13 #[.int .i64 z] w fun e w' => e = .returned (.tuple #[.float .f64 0, .int .i64 2]) ∧ w = w' := by
  have hS := scaleIs_c z
  rw [decide_eq_false hz] at hS
  have SC := Lib.hid hS
  clear hS hz
  go_enter Try.func13, Try.ntmps13
  go_wp2_with (go_at_call 26; refine (SC.out _).mono ?_; rintro e w' ⟨rfl, rfl⟩)
  go_ret2
  exact ⟨rfl, rfl⟩
set_option maxHeartbeats 1000000 in
theorem step_in (z : Int) (w : World) (hz : -40 ≤ z) (hz2 : z ≤ 40) :
    Calls Try.prog 13 #[.int .i64 z] w fun e w' => e = .returned (.tuple #[.float .f64 (stepV z), .int .i64 0]) ∧ w = w' := by
  have hS := scaleIs_c z
  rw [decide_eq_true ⟨hz, hz2⟩] at hS
  have SC := Lib.hid hS
  clear hS
  by_cases h0 : z < 0
  · have hl := step_lo (-z).toNat (by omega)
    have hv : stepV z = (1023 + (-z).toNat) * 4503599627370496 := by unfold stepV; omega
    rw [← hv, ← pow_wrap (-z).toNat (by omega)] at hl
    generalize stepV z = sv at *
    clear hv
    go_enter Try.func13, Try.ntmps13
    go_wp2_with (go_at_call 26; refine (SC.out _).mono ?_; rintro e w' ⟨rfl, rfl⟩)
    go_ret2
    exact ⟨rfl, rfl⟩
  · have hl := step_hi z.toNat (by omega)
    have hv : stepV z = (1023 - z.toNat) * 4503599627370496 := by unfold stepV; omega
    rw [← hv, ← pow_wrap z.toNat (by omega)] at hl
    have hq := fun w => run_float_arith (P := Try.prog) w .quo 23 .f64 _ _ _ hl
    clear hl
    generalize stepV z = sv at *
    clear hv
    go_enter Try.func13, Try.ntmps13
    go_wp2_with (go_at_call 26; refine (SC.out _).mono ?_; rintro e w' ⟨rfl, rfl⟩)
    go_ret2
    exact ⟨rfl, rfl⟩
theorem flt_lt {v : Int} (h : v.natAbs ≤ 2305843009213693952) : fltV v < 18446744073709551616 := by
  unfold fltV
  by_cases h0 : v = 0
  · rw [if_pos h0]; decide
  · rw [if_neg h0]
    have hl := log_lt h
    have hk := kept_range (n := v.natAbs) (by omega)
    unfold fltN
    split <;> omega
theorem float_mul {v z : Int} (h : v.natAbs ≤ 2305843009213693952) (hz : -40 ≤ z) (hz2 : z ≤ 40) : floatBits .mul .f64 (fltV v) (stepV z) = some (fltZ v z) := by
  show Ieee.double.mul (fltV v) (stepV z) = some (fltZ v z)
  by_cases h0 : v = 0
  · have e1 : fltV v = 0 := by unfold fltV; rw [if_pos h0]
    have e2 : fltZ v z = 0 := by unfold fltZ; rw [if_pos h0]
    have hs : stepV z = (1023 - z).toNat * 4503599627370496 := rfl
    have x1 : ex (stepV z) = (1023 - z).toNat := by unfold ex; omega
    rw [e1, e2]
    unfold Ieee.Format.mul
    rw [read_number (b := 0) (by decide) (by decide), read_number (b := stepV z) (by omega) (by omega)]
    rw [show decide (9223372036854775808 ≤ stepV z) = false from decide_eq_false (by omega)]
    generalize hm : mant (stepV z) = m
    generalize hp : (-1074 + ((plc (stepV z) : Nat) : Int)) = p
    generalize hp2 : (-1074 + ((plc 0 : Nat) : Int)) = p2
    rw [show mant 0 = 0 from rfl, show decide (9223372036854775808 ≤ 0) = false from rfl]
    show some (Ieee.double.nearest (false ^^ false) (0 * m) (p2 + p)) = some 0
    rw [Nat.zero_mul]
    rfl
  · have hb : fltV v = (if decide (v < 0) = true then 9223372036854775808 else 0) + fltN v.natAbs := by unfold fltV; rw [if_neg h0, sgn_ite]
    have hl := log_lt h
    have hk := kept_range (n := v.natAbs) (by omega)
    have hP := flt_parts (by omega) h hb
    have hbl := flt_lt h
    have hfl : fltN v.natAbs = (v.natAbs.log2 + 1022) * 4503599627370496 + keptV v.natAbs := rfl
    unfold stepV
    rw [mul_pow hbl (by omega) hz hz2 (by omega) (by omega) (by omega)]
    have hA : (if 9223372036854775808 ≤ fltV v then 9223372036854775808 else (0 : Nat)) = if v < 0 then 9223372036854775808 else 0 := by
      by_cases hv : v < 0
      · rw [if_pos hv, if_pos]
        rw [hb, if_pos (decide_eq_true hv)]
        omega
      · rw [if_neg hv, if_neg]
        rw [hb, if_neg (by simpa using hv)]
        omega
    have hB : ((ex (fltV v) : Int) - z).toNat * 4503599627370496 + fr (fltV v) = ((v.natAbs.log2 : Int) + 1022 - z).toNat * 4503599627370496 + keptV v.natAbs := by omega
    rw [hA, hB]
    unfold fltZ
    rw [if_neg h0]
theorem float_back {v : Int} (h : v.natAbs ≤ 2305843009213693952) : floatToIntVal .f64 (fltV v) .i64 = some (fvV v) := by
  by_cases h0 : v = 0
  · rw [h0]; decide +kernel
  · have hb : fltV v = (if decide (v < 0) = true then 9223372036854775808 else 0) + fltN v.natAbs := by unfold fltV; rw [if_neg h0, sgn_ite]
    have hT := toInt_int (by omega) h hb
    have hle := fvN_le (n := v.natAbs) (by omega) h
    unfold floatToIntVal
    show (match (Ieee.double.read (fltV v)).toInt .zero with | some n => if IntKind.i64.min ≤ n ∧ n ≤ IntKind.i64.max then some n else none | none => none) = _
    rw [hT]
    have hf : (if decide (v < 0) = true then -(fvN v.natAbs : Int) else fvN v.natAbs) = fvV v := by
      unfold fvV
      by_cases hv : v < 0
      · rw [if_pos hv, if_pos (decide_eq_true hv)]
      · rw [if_neg hv, if_neg (by simpa using hv)]
    rw [hf]
    have hr : -2305843009213693952 ≤ fvV v ∧ fvV v ≤ 2305843009213693952 := by unfold fvV; split <;> omega
    simp only
    rw [show IntKind.i64.min = -9223372036854775808 from rfl, show IntKind.i64.max = 9223372036854775807 from rfl, if_pos (by omega)]
end Go.Proofs.Ythkncbfaehgenaa
