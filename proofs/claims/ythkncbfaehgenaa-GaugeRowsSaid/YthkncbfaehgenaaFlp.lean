/- Plain facts on the readings' bits, second part: the kinds. No program. -/
import Derived.Test.YthkncbfaehgenaaFlo
namespace Go.Proofs.Ythkncbfaehgenaa
theorem fval_max {b : Nat} (h : ex b ≠ 2047) : fval b ≤ fval 9218868437227405311 := by
  have hx := ex_lt b
  have hf := fr_lt b
  have e1 : mant 9218868437227405311 = 9007199254740991 := by decide
  have e2 : plc 9218868437227405311 = 2045 := by decide
  have h1 : mant b ≤ 9007199254740991 := by unfold mant; split <;> omega
  have h2 : plc b ≤ 2045 := by unfold plc; omega
  unfold fval
  exact Nat.mul_le_mul (by rw [e1]; exact h1) (Nat.pow_le_pow_right (by decide) (by rw [e2]; exact h2))
theorem sval_max : sval 9218868437227405311 = fval 9218868437227405311 := by unfold sval; rw [if_neg (by decide)]
theorem sval_min : sval 18442240474082181119 = -(fval 9218868437227405311 : Int) := by
  unfold sval
  rw [if_pos (by decide)]
  have e1 : fval 18442240474082181119 = fval 9218868437227405311 := by
    unfold fval
    have a1 : mant 18442240474082181119 = mant 9218868437227405311 := by decide
    have a2 : plc 18442240474082181119 = plc 9218868437227405311 := by decide
    rw [a1, a2]
  rw [e1]
theorem sval_zero : sval 0 = 0 := by
  unfold sval fval
  rw [if_neg (by decide), show mant 0 = 0 by decide, Nat.zero_mul]
  rfl
theorem fval_zero {b : Nat} : fval b = 0 ↔ ex b = 0 ∧ fr b = 0 := by
  have hp := Nat.two_pow_pos (plc b)
  unfold fval
  rw [Nat.mul_eq_zero]
  unfold mant
  split <;> omega
theorem cmp_eq {x y : Int} : compare x y = .eq ↔ x = y := by
  simp only [compare, compareOfLessAndEq]
  split
  · constructor
    · intro h; cases h
    · intro h; omega
  · split <;> simp_all
theorem cmp_lt {x y : Int} : compare x y = .lt ↔ x < y := by
  simp only [compare, compareOfLessAndEq]
  split
  · simp_all
  · split <;> simp_all
theorem cmp_gt {x y : Int} : compare x y = .gt ↔ y < x := by
  simp only [compare, compareOfLessAndEq]
  split
  · constructor
    · intro h; cases h
    · intro h; omega
  · split
    · constructor
      · intro h; cases h
      · intro h; omega
    · constructor
      · intro _; omega
      · intro _; rfl
theorem order_inf_fin {b c : Nat} (hb : b < 18446744073709551616) (hc : c < 18446744073709551616) (h : ex b = 2047) (h0 : fr b = 0) (k : ex c ≠ 2047) : FloatKind.f64.format.order b c = some (if 9223372036854775808 ≤ b then .lt else .gt) := by
  rw [format_eq]
  unfold Ieee.Format.order
  rw [read_inf hb h h0, read_number hc k]
  unfold Ieee.Datum.order
  simp only [decide_eq_true_eq]
theorem order_inf_self {b : Nat} (hb : b < 18446744073709551616) (h : ex b = 2047) (h0 : fr b = 0) : FloatKind.f64.format.order b b = some .eq := by
  rw [format_eq]
  unfold Ieee.Format.order
  rw [read_inf hb h h0]
  unfold Ieee.Datum.order
  simp only [Option.some.injEq]
  generalize decide (9223372036854775808 ≤ b) = s
  cases s <;> rfl

theorem kind_cases (b : Nat) : (ex b = 2047 ∧ 0 < fr b ∧ kindV b = 1) ∨ (ex b = 2047 ∧ fr b = 0 ∧ kindV b = 2) ∨ (ex b ≠ 2047 ∧ 0 < ex b ∧ kindV b = 5) ∨ (ex b = 0 ∧ 0 < fr b ∧ kindV b = 4) ∨ (ex b = 0 ∧ fr b = 0 ∧ kindV b = 3) := by
  unfold kindV
  by_cases h1 : ex b = 2047
  · by_cases h2 : 0 < fr b
    · simp [h1, h2]
    · have : fr b = 0 := by omega
      simp [h1, this]
  · by_cases h3 : 0 < ex b
    · simp [h1, h3]
    · have h4 : ex b = 0 := by omega
      by_cases h2 : 0 < fr b
      · simp [h4, h2]
      · have : fr b = 0 := by omega
        simp [h4, this]

theorem isNaN_eq {b : Nat} (hb : b < 18446744073709551616) : (FloatKind.f64.format.order b b != some Ordering.eq) = decide (kindV b = 1) := by
  rcases kind_cases b with ⟨h, h0, hk⟩ | ⟨h, h0, hk⟩ | ⟨h, h0, hk⟩ | ⟨h, h0, hk⟩ | ⟨h, h0, hk⟩ <;> rw [hk]
  · rw [order_nan_left b hb h h0]; rfl
  · rw [order_inf_self hb h h0]; rfl
  · rw [order_fin hb hb h h, cmp_eq.2 rfl]; rfl
  · rw [order_fin hb hb (by omega) (by omega), cmp_eq.2 rfl]; rfl
  · rw [order_fin hb hb (by omega) (by omega), cmp_eq.2 rfl]; rfl
theorem some_beq (x y : Ordering) : (some x == some y) = decide (x = y) := by cases x <;> cases y <;> rfl
theorem endless_eq {b : Nat} (hb : b < 18446744073709551616) : (FloatKind.f64.format.order b 9218868437227405311 == some Ordering.gt || FloatKind.f64.format.order b 18442240474082181119 == some Ordering.lt) = decide (kindV b = 2) := by
  have fin : ex b ≠ 2047 → (FloatKind.f64.format.order b 9218868437227405311 == some Ordering.gt || FloatKind.f64.format.order b 18442240474082181119 == some Ordering.lt) = false := by
    intro h
    have hm := fval_max h
    rw [order_fin hb (by decide) h (by decide), order_fin hb (by decide) h (by decide), some_beq, some_beq, sval_max, sval_min]
    have a1 : ¬ compare (sval b) (fval 9218868437227405311 : Int) = .gt := by rw [cmp_gt]; unfold sval; split <;> omega
    have a2 : ¬ compare (sval b) (-(fval 9218868437227405311 : Int)) = .lt := by rw [cmp_lt]; unfold sval; split <;> omega
    rw [decide_eq_false a1, decide_eq_false a2]; rfl
  rcases kind_cases b with ⟨h, h0, hk⟩ | ⟨h, h0, hk⟩ | ⟨h, h0, hk⟩ | ⟨h, h0, hk⟩ | ⟨h, h0, hk⟩ <;> rw [hk]
  · rw [order_nan_left _ hb h h0, order_nan_left _ hb h h0]; rfl
  · rw [order_inf_fin hb (by decide) h h0 (by decide), order_inf_fin hb (by decide) h h0 (by decide)]
    by_cases hs : 9223372036854775808 ≤ b
    · rw [if_pos hs]; rfl
    · rw [if_neg hs]; rfl
  · rw [fin h]; rfl
  · rw [fin (by omega)]; rfl
  · rw [fin (by omega)]; rfl
theorem nought_eq {b : Nat} (hb : b < 18446744073709551616) : (FloatKind.f64.format.order b 0 == some Ordering.eq) = decide (kindV b = 3) := by
  have fin : ex b ≠ 2047 → (FloatKind.f64.format.order b 0 == some Ordering.eq) = decide (ex b = 0 ∧ fr b = 0) := by
    intro h
    rw [order_fin hb (by decide) h (by decide), some_beq, sval_zero, decide_eq_decide, cmp_eq, ← fval_zero]
    unfold sval; split <;> omega
  rcases kind_cases b with ⟨h, h0, hk⟩ | ⟨h, h0, hk⟩ | ⟨h, h0, hk⟩ | ⟨h, h0, hk⟩ | ⟨h, h0, hk⟩ <;> rw [hk]
  · rw [order_nan_left _ hb h h0]; rfl
  · rw [order_inf_fin hb (by decide) h h0 (by decide)]
    by_cases hs : 9223372036854775808 ≤ b
    · rw [if_pos hs]; rfl
    · rw [if_neg hs]; rfl
  · rw [fin h, decide_eq_false (by omega)]; rfl
  · rw [fin (by omega), decide_eq_false (by omega)]; rfl
  · rw [fin (by omega), decide_eq_true ⟨h, h0⟩]; rfl
end Go.Proofs.Ythkncbfaehgenaa
