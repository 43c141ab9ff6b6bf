/- Plain facts on the readings' bits: which kind a reading is of, and how two stand to each other. No program. -/
import GoSem.Core.Float
namespace Go.Proofs.Ythkncbfaehgenaa

/-- a reading's exponent bits, and its fraction bits -/
def ex (b : Nat) : Nat := b / 4503599627370496 % 2048
def fr (b : Nat) : Nat := b % 4503599627370496
theorem ex_lt (b : Nat) : ex b < 2048 := Nat.mod_lt _ (by decide)
theorem fr_lt (b : Nat) : fr b < 4503599627370496 := Nat.mod_lt _ (by decide)
/-- a reading's kind -/
def kindV (b : Nat) : Int := if ex b = 2047 then (if 0 < fr b then 1 else 2) else if 0 < ex b then 5 else if 0 < fr b then 4 else 3
/-- a reading's digits, and their place above the least one -/
def mant (b : Nat) : Nat := if ex b = 0 then fr b else 4503599627370496 + fr b
def plc (b : Nat) : Nat := ex b - 1
/-- how many times 2^-1074 a finite reading is -/
def fval (b : Nat) : Nat := mant b * 2 ^ plc b
def sval (b : Nat) : Int := if 9223372036854775808 ≤ b then -(fval b : Int) else fval b

theorem signWeight_eq : Ieee.double.signWeight = 9223372036854775808 := by decide
theorem binade_eq : Ieee.double.binade = 4503599627370496 := by decide
theorem infRung_eq : Ieee.double.infRung = 9218868437227405312 := by decide
theorem leastPlace_eq : Ieee.double.leastPlace = -1074 := by decide
theorem format_eq : FloatKind.f64.format = Ieee.double := rfl

theorem neg_eq {b : Nat} (hb : b < 18446744073709551616) : (b / 9223372036854775808 % 2 == 1) = decide (9223372036854775808 ≤ b) := by
  rw [Bool.eq_iff_iff, beq_iff_eq, decide_eq_true_iff]; omega
theorem read_number {b : Nat} (hb : b < 18446744073709551616) (h : ex b ≠ 2047) : Ieee.double.read b = .number (decide (9223372036854775808 ≤ b)) (mant b) (-1074 + (plc b : Nat)) := by
  have e1 : b % 9223372036854775808 / 4503599627370496 = ex b := by unfold ex; omega
  have e2 : b % 9223372036854775808 % 4503599627370496 = fr b := by unfold fr; omega
  have hx := ex_lt b
  unfold Ieee.Format.read
  rw [signWeight_eq, binade_eq, infRung_eq, leastPlace_eq, neg_eq hb]
  simp only [e1, e2]
  by_cases h0 : ex b = 0
  · rw [if_pos (by omega)]
    unfold mant plc
    rw [if_pos h0, h0]
    congr 1
    omega
  · rw [if_neg (by omega), if_pos (by omega)]
    unfold mant plc
    rw [if_neg h0]
theorem read_inf {b : Nat} (hb : b < 18446744073709551616) (h : ex b = 2047) (h0 : fr b = 0) : Ieee.double.read b = .infinity (decide (9223372036854775808 ≤ b)) := by
  unfold ex at h
  unfold fr at h0
  unfold Ieee.Format.read
  rw [signWeight_eq, binade_eq, infRung_eq, neg_eq hb]
  simp only
  rw [if_neg (by omega), if_neg (by omega), if_pos (by omega)]
theorem read_nan {b : Nat} (hb : b < 18446744073709551616) (h : ex b = 2047) (h0 : 0 < fr b) : ∃ t, Ieee.double.read b = .nan (decide (9223372036854775808 ≤ b)) t := by
  unfold ex at h
  unfold fr at h0
  unfold Ieee.Format.read
  rw [signWeight_eq, binade_eq, infRung_eq, neg_eq hb]
  simp only
  rw [if_neg (by omega), if_neg (by omega), if_neg (by omega)]
  exact ⟨_, rfl⟩

theorem compare_scale (x y : Int) (k : Nat) (hk : 0 < k) : compare (x * (k : Int)) (y * (k : Int)) = compare x y := by
  have hk' : (0 : Int) < k := by omega
  simp only [compare, compareOfLessAndEq]
  have h1 : x * (k : Int) < y * (k : Int) ↔ x < y := Int.mul_lt_mul_right hk'
  have h2 : x * (k : Int) = y * (k : Int) ↔ x = y := ⟨fun h => Int.eq_of_mul_eq_mul_right (by omega) h, fun h => by rw [h]⟩
  simp only [h1, h2]
theorem signed_eq (s : Bool) (m p q : Nat) (h : q ≤ p) : Ieee.signed s m (p - q) * ((2 ^ q : Nat) : Int) = if s then -((m * 2 ^ p : Nat) : Int) else ((m * 2 ^ p : Nat) : Int) := by
  have e : m * 2 ^ p = m * 2 ^ (p - q) * 2 ^ q := by rw [Nat.mul_assoc, ← Nat.pow_add, Nat.sub_add_cancel h]
  unfold Ieee.signed
  rw [Nat.shiftLeft_eq, e, Int.natCast_mul (m * 2 ^ (p - q))]
  cases s
  · rfl
  · rw [if_pos rfl, if_pos rfl, Int.neg_mul]
theorem order_fin {b c : Nat} (hb : b < 18446744073709551616) (hc : c < 18446744073709551616) (h : ex b ≠ 2047) (k : ex c ≠ 2047) : FloatKind.f64.format.order b c = some (compare (sval b) (sval c)) := by
  rw [format_eq]
  unfold Ieee.Format.order
  rw [read_number hb h, read_number hc k]
  unfold Ieee.Datum.order
  simp only [Option.some.injEq]
  have hp : ∀ p q : Nat, (-1074 + (p : Int) - min (-1074 + (p : Int)) (-1074 + (q : Int))).toNat = p - min p q := by omega
  have hq : ∀ p q : Nat, (-1074 + (q : Int) - min (-1074 + (p : Int)) (-1074 + (q : Int))).toNat = q - min p q := by omega
  rw [hp, hq, ← compare_scale _ _ (2 ^ min (plc b) (plc c)) (Nat.two_pow_pos _), signed_eq _ _ _ _ (Nat.min_le_left _ _), signed_eq _ _ _ _ (Nat.min_le_right _ _)]
  simp only [decide_eq_true_eq]
  rfl
theorem order_nan_left {b : Nat} (c : Nat) (hb : b < 18446744073709551616) (h : ex b = 2047) (h0 : 0 < fr b) : FloatKind.f64.format.order b c = none := by
  obtain ⟨t, ht⟩ := read_nan hb h h0
  rw [format_eq]
  unfold Ieee.Format.order
  rw [ht]
  rfl
theorem order_nan_right {c : Nat} (b : Nat) (hb : c < 18446744073709551616) (h : ex c = 2047) (h0 : 0 < fr c) : FloatKind.f64.format.order b c = none := by
  obtain ⟨t, ht⟩ := read_nan hb h h0
  rw [format_eq]
  unfold Ieee.Format.order
  rw [ht]
  generalize Ieee.double.read b = d
  cases d <;> rfl
end Go.Proofs.Ythkncbfaehgenaa
