/- Plain facts: the float of a whole number, and a float times a power of two. -/
import Derived.Test.YthkncbfaehgenaaGauH
import Derived.Laws.FloatArith
namespace Go.Proofs.Ythkncbfaehgenaa
open Go.RowKit NB
/-- 53 digits of n -/
def keptV (n : Nat) : Nat := rndV (n * 2 ^ (52 - n.log2)) (n.log2 - 52)
/-- the rung of the float of n -/
def fltN (n : Nat) : Nat := (n.log2 + 1022) * 4503599627370496 + keptV n
/-- the float's value -/
def fvN (n : Nat) : Nat := keptV n * 2 ^ (n.log2 - 52) / 2 ^ (52 - n.log2)
theorem rndV_zero (n : Nat) : rndV n 0 = n := by
  unfold rndV
  rw [Nat.pow_zero, Nat.mod_one, Nat.div_one]
  rfl
theorem log_pow {n : Nat} (h : 0 < n) : 2 ^ n.log2 ≤ n ∧ n < 2 * 2 ^ n.log2 := ⟨Nat.log2_self_le (by omega), by have := @Nat.lt_log2_self n; rw [Nat.pow_succ] at this; omega⟩
theorem kept_range {n : Nat} (h : 0 < n) : 4503599627370496 ≤ keptV n ∧ keptV n ≤ 9007199254740992 := by
  obtain ⟨h1, h2⟩ := log_pow h
  unfold keptV
  generalize n.log2 = l at *
  rcases Nat.lt_or_ge l 53 with hl | hl
  · have hp := Nat.two_pow_pos (52 - l)
    have e : 2 ^ l * 2 ^ (52 - l) = 4503599627370496 := by rw [← Nat.pow_add, show l + (52 - l) = 52 by omega]
    rw [show l - 52 = 0 by omega, rndV_zero]
    have m1 := Nat.mul_le_mul_right (2 ^ (52 - l)) h1
    have m2 := Nat.mul_le_mul_right (2 ^ (52 - l)) (Nat.le_of_lt h2)
    rw [Nat.mul_assoc] at m2
    omega
  · obtain ⟨j, rfl⟩ : ∃ j, l = 52 + j := ⟨l - 52, by omega⟩
    rw [show 52 - (52 + j) = 0 by omega, show 52 + j - 52 = j by omega, Nat.pow_zero, Nat.mul_one]
    have hp := Nat.two_pow_pos j
    rw [Nat.pow_add, show 2 ^ 52 = 4503599627370496 from rfl] at h1 h2
    have d1 : 4503599627370496 ≤ n / 2 ^ j := (Nat.le_div_iff_mul_le hp).2 h1
    have d2 : n / 2 ^ j < 9007199254740992 := (Nat.div_lt_iff_lt_mul hp).2 (by omega)
    unfold rndV
    split <;> omega
theorem cut_rnd (s : Bool) (n l : Nat) (h : l ≤ n.log2 + 2) : Ieee.Toward.even.cut s n l = rndV n l := by
  unfold Ieee.Toward.cut rndV
  simp only
  rw [Nat.min_eq_left h, Nat.one_shiftLeft]
  generalize n / 2 ^ l = Q
  generalize n % 2 ^ l = R
  generalize 2 ^ l = P
  by_cases h1 : P < R + R
  · have t : decide (P < 2 * R) = true := decide_eq_true (by omega)
    rw [if_pos (.inl h1), t]; rfl
  · have t : decide (P < 2 * R) = false := decide_eq_false (by omega)
    rw [t]
    by_cases h2 : P = R + R
    · by_cases h3 : Q % 2 = 1
      · rw [if_pos (.inr ⟨h2, h3⟩), show (P == 2 * R) = true by rw [beq_iff_eq]; omega, h3]; rfl
      · rw [if_neg (by omega), show (Q % 2 == 1) = false by rw [beq_eq_false_iff_ne]; omega]
        simp
    · rw [if_neg (by omega), show (P == 2 * R) = false by rw [beq_eq_false_iff_ne]; omega]; rfl
theorem word_eq (s : Bool) (r : Nat) : Ieee.double.word s r = (if s then 9223372036854775808 else 0) + r := by
  unfold Ieee.Format.word
  rw [signWeight_eq]
  cases s <;> simp
theorem log_lt {n : Nat} (hn : n ≤ 2305843009213693952) : n.log2 ≤ 61 := by
  rcases Nat.eq_zero_or_pos n with rfl | h
  · decide
  · have := (log_pow h).1
    exact (Nat.pow_le_pow_iff_right (by decide : 1 < 2)).1 (Nat.le_trans this hn)
/-- the word nearest to a whole number -/
theorem nearest_int (s : Bool) {n : Nat} (h0 : 0 < n) (hn : n ≤ 2305843009213693952) : Ieee.double.nearest s n 0 = (if s then 9223372036854775808 else 0) + fltN n := by
  have hl := log_lt hn
  have hk := kept_range h0
  unfold Ieee.Format.nearest
  rw [if_neg (by omega), leastPlace_eq, binade_eq, infRung_eq]
  simp only [show Ieee.double.fractionBits = 52 from rfl]
  have e1 : max ((0 : Int) + (n.log2 : Nat) - (52 : Nat)) (-1074) = (n.log2 : Int) - 52 := by omega
  rw [e1, show ((0 : Int) - ((n.log2 : Int) - 52)).toNat = 52 - n.log2 by omega, show ((n.log2 : Int) - 52 - 0).toNat = n.log2 - 52 by omega, show ((n.log2 : Int) - 52 - -1074).toNat = n.log2 + 1022 by omega]
  have e2 : n <<< (52 - n.log2) = n * 2 ^ (52 - n.log2) := Nat.shiftLeft_eq _ _
  have hlog : n.log2 ≤ (n * 2 ^ (52 - n.log2)).log2 := by
    have hp := Nat.two_pow_pos (52 - n.log2)
    have h1 := Nat.le_mul_of_pos_right n hp
    have h2 := (log_pow h0).1
    exact (Nat.le_log2 (by omega)).2 (Nat.le_trans h2 h1)
  rw [e2, cut_rnd s _ _ (by omega)]
  rw [word_eq]
  have e3 : rndV (n * 2 ^ (52 - n.log2)) (n.log2 - 52) = keptV n := rfl
  rw [e3, Nat.min_eq_left (by omega)]
  rfl
theorem rnd_mul (m l : Nat) : rndV (m * 2 ^ l) l = m := by
  have hp := Nat.two_pow_pos l
  unfold rndV
  rw [Nat.mul_mod_left, Nat.mul_div_cancel _ hp, if_neg (by omega)]
theorem bits_parts {b : Nat} (hb : b < 18446744073709551616) : b = (if 9223372036854775808 ≤ b then 9223372036854775808 else 0) + (ex b * 4503599627370496 + fr b) := by
  unfold ex fr
  split <;> omega
/-- a float times 2^-z: its exponent is less by z -/
theorem mul_pow {b : Nat} {z : Int} (hb : b < 18446744073709551616) (h0 : 0 < ex b) (hz : -40 ≤ z) (hz2 : z ≤ 40) (h1 : z < ex b) (h2 : (ex b : Int) - z < 2047) (h3 : ex b < 2047) :
    Ieee.double.mul b ((1023 - z).toNat * 4503599627370496) = some ((if 9223372036854775808 ≤ b then 9223372036854775808 else 0) + (((ex b : Int) - z).toNat * 4503599627370496 + fr b)) := by
  have hf := fr_lt b
  have hm : mant b = 4503599627370496 + fr b := by unfold mant; rw [if_neg (by omega)]
  have hp : plc b = ex b - 1 := rfl
  generalize hP : (1023 - z).toNat = p
  have x1 : ex (p * 4503599627370496) = p := by unfold ex; omega
  have x2 : fr (p * 4503599627370496) = 0 := by unfold fr; omega
  have x3 : mant (p * 4503599627370496) = 4503599627370496 := by unfold mant; rw [if_neg (by omega), x2]
  have x4 : plc (p * 4503599627370496) = p - 1 := by unfold plc; rw [x1]
  unfold Ieee.Format.mul
  rw [read_number hb (by omega), read_number (b := p * 4503599627370496) (by omega) (by omega), x3, x4, hm]
  rw [show decide (9223372036854775808 ≤ p * 4503599627370496) = false from decide_eq_false (by omega)]
  generalize hs : decide (9223372036854775808 ≤ b) = s
  have hs2 : (if 9223372036854775808 ≤ b then 9223372036854775808 else 0) = (if s then 9223372036854775808 else (0 : Nat)) := by
    rw [← hs]
    by_cases h : 9223372036854775808 ≤ b
    · rw [if_pos h, decide_eq_true h]; rfl
    · rw [if_neg h, decide_eq_false h]; rfl
  rw [hs2]
  show some (Ieee.double.nearest (s ^^ false) ((4503599627370496 + fr b) * 4503599627370496) ((-1074 + ((plc b : Nat) : Int)) + (-1074 + ((p - 1 : Nat) : Int)))) = _
  rw [Bool.xor_false]
  congr 1
  have hlog : ((4503599627370496 + fr b) * 4503599627370496).log2 = 104 := (Nat.log2_eq_iff (by omega)).2 ⟨by omega, by omega⟩
  unfold Ieee.Format.nearest
  rw [if_neg (by omega), leastPlace_eq, binade_eq, infRung_eq]
  simp only [show Ieee.double.fractionBits = 52 from rfl, hlog]
  have e1 : max ((-1074 + ((plc b : Nat) : Int)) + (-1074 + ((p - 1 : Nat) : Int)) + (104 : Nat) - (52 : Nat)) (-1074) = (-1074 + ((plc b : Nat) : Int)) + (-1074 + ((p - 1 : Nat) : Int)) + 52 := by omega
  rw [e1]
  generalize hq : (-1074 + ((plc b : Nat) : Int)) + (-1074 + ((p - 1 : Nat) : Int)) = q
  rw [show (q - (q + 52)).toNat = 0 by omega, show (q + 52 - q).toNat = 52 by omega, Nat.shiftLeft_zero, cut_rnd s _ _ (by rw [hlog]; decide)]
  rw [show (4503599627370496 + fr b) * 4503599627370496 = (4503599627370496 + fr b) * 2 ^ 52 from rfl, rnd_mul, word_eq, Nat.min_eq_left (by omega)]
  omega
def fltV (v : Int) : Nat := if v = 0 then 0 else (if v < 0 then 9223372036854775808 else 0) + fltN v.natAbs
/-- its value -/
def fvV (v : Int) : Int := if v < 0 then -(fvN v.natAbs : Int) else fvN v.natAbs
/-- the float of v / 2^z -/
def fltZ (v z : Int) : Nat := if v = 0 then 0 else (if v < 0 then 9223372036854775808 else 0) + (((v.natAbs.log2 : Int) + 1022 - z).toNat * 4503599627370496 + keptV v.natAbs)
theorem sgn_ite (v : Int) : (if decide (v < 0) = true then 9223372036854775808 else (0 : Nat)) = if v < 0 then 9223372036854775808 else 0 := by
  by_cases h : v < 0
  · rw [if_pos h, decide_eq_true h]; rfl
  · rw [if_neg h, decide_eq_false h]; rfl
theorem floatOfInt_eq {v : Int} (h : v.natAbs ≤ 2305843009213693952) : floatOfInt .f64 v = fltV v := by
  show Ieee.double.nearest (decide (v < 0)) v.natAbs 0 = fltV v
  unfold fltV
  by_cases h0 : v = 0
  · rw [if_pos h0, h0]; rfl
  · rw [if_neg h0, nearest_int _ (by omega) h, sgn_ite]
theorem kept_top {n : Nat} (h0 : 0 < n) (h : keptV n = 9007199254740992) : 53 ≤ n.log2 := by
  obtain ⟨h1, h2⟩ := log_pow h0
  unfold keptV at h
  generalize n.log2 = l at *
  rcases Nat.lt_or_ge l 53 with hl | hl
  · have hp := Nat.two_pow_pos (52 - l)
    have e : 2 ^ l * 2 ^ (52 - l) = 4503599627370496 := by rw [← Nat.pow_add, show l + (52 - l) = 52 by omega]
    rw [show l - 52 = 0 by omega, rndV_zero] at h
    have m2 := Nat.mul_lt_mul_of_pos_right h2 hp
    rw [Nat.mul_assoc] at m2
    omega
  · exact hl
/-- the parts of a word whose rung is of n -/
theorem flt_parts {n b : Nat} {s : Bool} (h0 : 0 < n) (hn : n ≤ 2305843009213693952) (hb : b = (if s then 9223372036854775808 else 0) + fltN n) :
    (keptV n < 9007199254740992 ∧ ex b = n.log2 + 1023 ∧ fr b = keptV n - 4503599627370496 ∧ mant b = keptV n ∧ plc b = n.log2 + 1022) ∨ (keptV n = 9007199254740992 ∧ ex b = n.log2 + 1024 ∧ fr b = 0 ∧ mant b = 4503599627370496 ∧ plc b = n.log2 + 1023) := by
  have hl := log_lt hn
  have hk := kept_range h0
  unfold fltN at hb
  have hb2 : b = (if s then 9223372036854775808 else 0) + ((n.log2 + 1022) * 4503599627370496 + keptV n) := hb
  have hm : mant b = if ex b = 0 then fr b else 4503599627370496 + fr b := rfl
  have hp : plc b = ex b - 1 := rfl
  have hx : ex b = b / 4503599627370496 % 2048 := rfl
  have hf : fr b = b % 4503599627370496 := rfl
  have hs : (if s then 9223372036854775808 else (0 : Nat)) = 2048 * 4503599627370496 ∨ (if s then 9223372036854775808 else (0 : Nat)) = 0 := by
    cases s
    · exact .inr rfl
    · exact .inl rfl
  rcases Nat.lt_or_ge (keptV n) 9007199254740992 with h | h
  · left
    have e1 : ex b = n.log2 + 1023 := by omega
    have e2 : fr b = keptV n - 4503599627370496 := by omega
    rw [if_neg (by omega)] at hm
    exact ⟨h, e1, e2, by omega, by omega⟩
  · right
    have e1 : ex b = n.log2 + 1024 := by omega
    have e2 : fr b = 0 := by omega
    rw [if_neg (by omega)] at hm
    exact ⟨by omega, e1, e2, by omega, by omega⟩
theorem cut_zero (s : Bool) (n l : Nat) (h : l ≤ n.log2 + 2) : Ieee.Toward.zero.cut s n l = n / 2 ^ l := by
  unfold Ieee.Toward.cut
  simp only
  rw [Nat.min_eq_left h, Nat.one_shiftLeft]
  rfl
theorem toInt_int {n b : Nat} {s : Bool} (h0 : 0 < n) (hn : n ≤ 2305843009213693952) (hb : b = (if s then 9223372036854775808 else 0) + fltN n) :
    (Ieee.double.read b).toInt .zero = some (if s then -(fvN n : Int) else fvN n) := by
  have hl := log_lt hn
  have hk := kept_range h0
  have hfl : fltN n = (n.log2 + 1022) * 4503599627370496 + keptV n := rfl
  have hP := flt_parts h0 hn hb
  have hs : decide (9223372036854775808 ≤ b) = s := by
    cases s
    · exact decide_eq_false (by simp at hb; omega)
    · exact decide_eq_true (by simp at hb; omega)
  have hb64 : b < 18446744073709551616 := by cases s <;> simp at hb <;> omega
  rw [read_number hb64 (by omega), hs]
  show some (Ieee.signed s (Ieee.Toward.zero.cut s (mant b <<< (-1074 + ((plc b : Nat) : Int)).toNat) (-(-1074 + ((plc b : Nat) : Int))).toNat) 0) = _
  have hc : Ieee.Toward.zero.cut s (mant b <<< (-1074 + ((plc b : Nat) : Int)).toNat) (-(-1074 + ((plc b : Nat) : Int))).toNat = fvN n := by
    rw [Nat.shiftLeft_eq]
    rcases hP with ⟨k1, k2, k3, k4, k5⟩ | ⟨k1, k2, k3, k4, k5⟩
    · rw [k4, k5, show (-1074 + ((n.log2 + 1022 : Nat) : Int)).toNat = n.log2 - 52 by omega, show (-(-1074 + ((n.log2 + 1022 : Nat) : Int))).toNat = 52 - n.log2 by omega]
      rw [cut_zero]
      · rfl
      · have hp := Nat.two_pow_pos (n.log2 - 52)
        have := Nat.le_mul_of_pos_right (keptV n) hp
        have := (Nat.le_log2 (k := 52) (n := keptV n * 2 ^ (n.log2 - 52)) (by omega)).2 (by omega)
        omega
    · have h53 := kept_top h0 k1
      rw [k4, k5, show (-1074 + ((n.log2 + 1023 : Nat) : Int)).toNat = n.log2 - 52 + 1 by omega, show (-(-1074 + ((n.log2 + 1023 : Nat) : Int))).toNat = 0 by omega]
      rw [cut_zero _ _ _ (by omega)]
      unfold fvN
      rw [k1, show 52 - n.log2 = 0 by omega, Nat.pow_succ]
      omega
  rw [hc]
  unfold Ieee.signed
  rw [Nat.shiftLeft_zero]
theorem fvN_le {n : Nat} (h0 : 0 < n) (hn : n ≤ 2305843009213693952) : fvN n ≤ 2305843009213693952 := by
  have hl := log_lt hn
  have hk := kept_range h0
  rcases Nat.lt_or_ge n.log2 61 with h | h
  · unfold fvN
    have h1 : 2 ^ (n.log2 - 52) ≤ 2 ^ 8 := Nat.pow_le_pow_right (by decide) (by omega)
    have h2 := Nat.mul_le_mul hk.2 h1
    exact Nat.le_trans (Nat.div_le_self _ _) (Nat.le_trans h2 (by decide))
  · have h2 := (log_pow h0).1
    rw [show n.log2 = 61 by omega] at h2
    have h3 : n = 2305843009213693952 := by omega
    have hg : (2305843009213693952 : Nat).log2 = 61 := (Nat.log2_eq_iff (by decide)).2 ⟨by decide, by decide⟩
    unfold fvN keptV
    rw [h3, hg]
    decide
end Go.Proofs.Ythkncbfaehgenaa
