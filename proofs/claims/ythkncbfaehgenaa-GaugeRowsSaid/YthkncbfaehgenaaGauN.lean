/- Plain facts: the reference's rounding is the gauge's; how two readings stand to each other by the reference. -/
import Derived.Test.YthkncbfaehgenaaGauM
import Derived.Test.YthkncbfaehgenaaGauB
namespace Go.Proofs.Ythkncbfaehgenaa
open Go.RowKit NB
theorem near_pos (P : Nat) (z : Int) : nearV (P : Int) z = (rndV P z.toNat : Nat) := by
  unfold nearV rndV pw
  have e1 : ((P : Int) % ((2 ^ z.toNat : Nat) : Int)) = ((P % 2 ^ z.toNat : Nat) : Int) := rfl
  have e2 : ((P : Int) / ((2 ^ z.toNat : Nat) : Int)) = ((P / 2 ^ z.toNat : Nat) : Int) := rfl
  rw [e1, e2]
  generalize 2 ^ z.toNat = M
  generalize P % M = R
  generalize P / M = Q
  by_cases h : M < R + R ∨ M = R + R ∧ Q % 2 = 1
  · rw [if_pos h, if_pos (by omega)]; rfl
  · rw [if_neg h, if_neg (by omega)]
theorem near_neg (P : Nat) (z : Int) : nearV (-(P : Int)) z = -((rndV P z.toNat : Nat) : Int) := by
  unfold nearV rndV pw
  have hM := Nat.two_pow_pos z.toNat
  generalize 2 ^ z.toNat = M at *
  have d1 := Nat.div_add_mod P M
  have d2 := Nat.mod_lt P hM
  have d3 := Int.mul_ediv_add_emod (-(P : Int)) (M : Int)
  have d4 := Int.emod_nonneg (-(P : Int)) (show (M : Int) ≠ 0 by omega)
  have d5 := Int.emod_lt_of_pos (-(P : Int)) (show (0 : Int) < M by omega)
  generalize P % M = R at *
  generalize P / M = Q at *
  generalize (-(P : Int)) / (M : Int) = q at *
  generalize (-(P : Int)) % (M : Int) = r at *
  have d6 : ((M : Int) * (Q : Int)) + R = P := by rw [← Int.natCast_mul]; omega
  have d7 : (M : Int) * (q + Q) = -r - R := by rw [Int.mul_add]; omega
  obtain ⟨t, ht⟩ : ∃ t, t = q + Q := ⟨_, rfl⟩
  rw [← ht] at d7
  have t1 : t ≤ 0 := Int.le_of_not_gt fun h => by
    have := Int.mul_le_mul_of_nonneg_left (show (1 : Int) ≤ t by omega) (show (0 : Int) ≤ M by omega)
    omega
  have t2 : -1 ≤ t := Int.le_of_not_gt fun h => by
    have := Int.mul_le_mul_of_nonneg_left (show t ≤ -2 by omega) (show (0 : Int) ≤ M by omega)
    omega
  obtain h | h : t = 0 ∨ t = -1 := by omega
  · rw [h, Int.mul_zero] at d7
    rw [if_neg (by omega), if_neg (by omega)]
    omega
  · rw [h, Int.mul_neg, Int.mul_one] at d7
    by_cases c : M < R + R ∨ M = R + R ∧ Q % 2 = 1
    · rw [if_pos c, if_neg (by omega)]; omega
    · rw [if_neg c, if_pos (by omega)]; omega
theorem parts_fval (b : Nat) : partsN b = fval b * 2 ^ 126 := by
  unfold partsN fval mant plc
  by_cases h : ex b = 0
  · rw [if_neg (by omega), if_pos h, h]
    simp
  · rw [if_pos (by omega), if_neg h, Nat.mul_assoc, ← Nat.pow_add, show ex b - 1 + 126 = 125 + ex b by omega, Nat.add_comm (fr b)]
theorem parts_sval (b : Nat) : partsV b = sval b * ((2 ^ 126 : Nat) : Int) := by
  unfold partsV sval
  rw [parts_fval, Int.natCast_mul]
  split
  · rw [Int.neg_mul]
  · rfl
theorem near_val (b : Nat) {z : Int} (hz : -40 ≤ z) (hz2 : z ≤ 40) : nearV (partsV b) (1200 - z) = if 9223372036854775808 ≤ b then -(valN b z : Int) else valN b z := by
  have e : rndV (partsN b) (1200 - z).toNat = valN b z := by
    have := rnd_scale (fval b) (1074 - z).toNat 126
    rw [show (1074 - z).toNat + 126 = (1200 - z).toNat by omega] at this
    unfold valN
    rw [parts_fval, this]
  unfold partsV
  split
  · rw [near_neg, e]
  · rw [near_pos, e]
/-- how two readings stand to each other, by the reference -/
def refOrd (a b : Nat) : Int := if partsV a < partsV b then -1 else if partsV b < partsV a then 1 else 0
theorem ite_eq {p p' q q' : Prop} [Decidable p] [Decidable p'] [Decidable q] [Decidable q'] (x y z : Int) (h : p ↔ p') (k : q ↔ q') : (if p then x else if q then y else z) = if p' then x else if q' then y else z := by simp only [h, k]
theorem parts_lt (a b : Nat) : partsV a < partsV b ↔ sval a < sval b := by
  rw [parts_sval, parts_sval]
  exact Int.mul_lt_mul_right (by decide)
theorem fval_inf {b : Nat} (h : ex b = 2047) (h0 : fr b = 0) : fval 9218868437227405311 < fval b := by
  have e1 : mant 9218868437227405311 = 9007199254740991 := by decide
  obtain ⟨p, e2, e4⟩ : ∃ p, plc 9218868437227405311 = p ∧ plc b = p + 1 := ⟨_, rfl, by
    rw [show plc 9218868437227405311 = 2045 from by decide]
    unfold plc
    rw [h]⟩
  have e3 : mant b = 4503599627370496 := by unfold mant; rw [if_neg (by omega), h0]
  have e5 := Nat.two_pow_pos p
  unfold fval
  rw [e1, e2, e3, e4, Nat.pow_succ]
  generalize 2 ^ p = q at *
  omega
theorem ord_cmp {x y : Int} : ordV (some (compare x y)) = if x < y then -1 else if y < x then 1 else 0 := by
  rcases Int.lt_trichotomy x y with h | h | h
  · rw [cmp_lt.2 h, if_pos h]; rfl
  · rw [cmp_eq.2 h, if_neg (by omega), if_neg (by omega)]; rfl
  · rw [cmp_gt.2 h, if_neg (by omega), if_pos h]; rfl
theorem refOrd_swap (a b : Nat) : refOrd b a = -refOrd a b := by
  unfold refOrd
  by_cases h : partsV a < partsV b
  · rw [if_pos h, if_neg (by omega), if_pos h]; decide
  · by_cases h2 : partsV b < partsV a
    · rw [if_pos h2, if_neg h, if_pos h2]
    · rw [if_neg h, if_neg h2, if_neg h2, if_neg h]; decide
theorem ord_inf_fin {a b : Nat} (ha : a < 18446744073709551616) (hb : b < 18446744073709551616) (h : ex a = 2047) (h0 : fr a = 0) (k : ex b ≠ 2047) : ordV (FloatKind.f64.format.order a b) = refOrd a b := by
  have h1 := fval_inf h h0
  have h2 := fval_max k
  have hs : ∀ x : Nat, sval x = if 9223372036854775808 ≤ x then -(fval x : Int) else fval x := fun _ => rfl
  rw [order_inf_fin ha hb h h0 k]
  unfold refOrd
  rw [ite_eq _ _ _ (parts_lt a b) (parts_lt b a), hs a, hs b]
  by_cases c : 9223372036854775808 ≤ a
  · rw [if_pos c, if_pos c, if_pos (by split <;> omega)]; rfl
  · rw [if_neg c, if_neg c, if_neg (by split <;> omega), if_pos (by split <;> omega)]; rfl
theorem ord_law {a b : Nat} (ha : a < 18446744073709551616) (hb : b < 18446744073709551616) (h : kindV a ≠ 1) (k : kindV b ≠ 1) : ordV (FloatKind.f64.format.order a b) = refOrd a b := by
  have fin : ∀ x : Nat, kindV x ≠ 1 → ex x = 2047 ∧ fr x = 0 ∨ ex x ≠ 2047 := by
    intro x hx
    rcases kind_cases x with ⟨e, e0, hk⟩ | ⟨e, e0, hk⟩ | ⟨e, e0, hk⟩ | ⟨e, e0, hk⟩ | ⟨e, e0, hk⟩ <;> omega
  rcases fin a h with ⟨a1, a2⟩ | a1
  · rcases fin b k with ⟨b1, b2⟩ | b1
    · by_cases hs : decide (9223372036854775808 ≤ a) = decide (9223372036854775808 ≤ b)
      · have e : a = b := by
          rw [decide_eq_decide] at hs
          unfold ex at a1 b1
          unfold fr at a2 b2
          omega
        rw [e, order_inf_self hb b1 b2]
        unfold refOrd
        rw [if_neg (by omega), if_neg (by omega)]
        rfl
      · have hi := fval_inf a1 a2
        have hj := fval_inf b1 b2
        have hsv : ∀ x : Nat, sval x = if 9223372036854775808 ≤ x then -(fval x : Int) else fval x := fun _ => rfl
        unfold refOrd
        rw [ite_eq _ _ _ (parts_lt a b) (parts_lt b a), hsv a, hsv b]
        rw [format_eq]
        unfold Ieee.Format.order
        rw [read_inf ha a1 a2, read_inf hb b1 b2]
        by_cases c : 9223372036854775808 ≤ a
        · have c2 : ¬ 9223372036854775808 ≤ b := fun c2 => hs (by rw [decide_eq_true c, decide_eq_true c2])
          rw [decide_eq_true c, decide_eq_false c2, if_pos c, if_neg c2, if_pos (by omega)]
          rfl
        · have c2 : 9223372036854775808 ≤ b := Classical.byContradiction fun c2 => hs (by rw [decide_eq_false c, decide_eq_false c2])
          rw [decide_eq_false c, decide_eq_true c2, if_neg c, if_pos c2, if_neg (by omega), if_pos (by omega)]
          rfl
    · exact ord_inf_fin ha hb a1 a2 b1
  · rcases fin b k with ⟨b1, b2⟩ | b1
    · have := ord_inf_fin hb ha b1 b2 a1
      rw [order_swap, ordV_swap, refOrd_swap] at this
      omega
    · rw [order_fin ha hb a1 b1, ord_cmp]
      unfold refOrd
      rw [ite_eq _ _ _ (parts_lt a b) (parts_lt b a)]
end Go.Proofs.Ythkncbfaehgenaa
