/- Plain facts: the value of a float that is a whole number over a power of two. -/
import Derived.Test.YthkncbfaehgenaaGauJ
namespace Go.Proofs.Ythkncbfaehgenaa
open Go.RowKit NB
/-- the parts of a word whose rung is P * 2^52 + k -/
theorem rung_parts {P k b : Nat} {s : Bool} (hP : P < 2045) (hk : 4503599627370496 ≤ k) (hk2 : k ≤ 9007199254740992) (hb : b = (if s then 9223372036854775808 else 0) + (P * 4503599627370496 + k)) :
    decide (9223372036854775808 ≤ b) = s ∧ kindV b = 5 ∧ ((k < 9007199254740992 ∧ mant b = k ∧ plc b = P) ∨ (k = 9007199254740992 ∧ mant b = 4503599627370496 ∧ plc b = P + 1)) := by
  have hm : mant b = if ex b = 0 then fr b else 4503599627370496 + fr b := rfl
  have hp : plc b = ex b - 1 := rfl
  have hx : ex b = b / 4503599627370496 % 2048 := rfl
  have hf : fr b = b % 4503599627370496 := rfl
  have hs : (s = true ∧ b = 2048 * 4503599627370496 + (P * 4503599627370496 + k)) ∨ (s = false ∧ b = P * 4503599627370496 + k) := by
    cases s
    · exact .inr ⟨rfl, by simpa using hb⟩
    · exact .inl ⟨rfl, by simpa using hb⟩
  refine ⟨?_, ?_, ?_⟩
  · rcases hs with ⟨h, h2⟩ | ⟨h, h2⟩
    · rw [h]; exact decide_eq_true (by omega)
    · rw [h]; exact decide_eq_false (by omega)
  · have h1 : ex b ≠ 2047 := by omega
    have h2 : 0 < ex b := by omega
    unfold kindV
    rw [if_neg h1, if_pos h2]
  · rcases Nat.lt_or_ge k 9007199254740992 with h | h
    · left
      have e1 : ex b = P + 1 := by omega
      rw [if_neg (by omega)] at hm
      exact ⟨h, by omega, by omega⟩
    · right
      have e1 : ex b = P + 2 := by omega
      rw [if_neg (by omega)] at hm
      exact ⟨by omega, by omega, by omega⟩
theorem fixed_num {b : Nat} {z : Int} (hz : -40 ≤ z) (hz2 : z ≤ 40) (h1 : kindV b ≠ 1) (h2 : kindV b ≠ 2) : fixedI b z = fixI (decide (9223372036854775808 ≤ b)) (finN ((plc b : Int) - 1074 + z) (mant b)) ∧ fixedE b z = fixE (finN ((plc b : Int) - 1074 + z) (mant b)) := by
  unfold fixedI fixedE
  rw [if_pos ⟨hz, hz2⟩, if_neg h1, if_neg h2, if_pos ⟨hz, hz2⟩, if_neg h1, if_neg h2]
  exact ⟨rfl, rfl⟩
theorem fin_zero (E : Int) : finN E 0 = 0 := by
  unfold finN
  split
  · unfold rndV
    have := Nat.two_pow_pos (-E).toNat
    rw [Nat.zero_mod, Nat.zero_div, if_neg (by omega)]
  · exact Nat.zero_mul _
theorem kept_small {n : Nat} (h : n.log2 ≤ 52) : keptV n = n * 2 ^ (52 - n.log2) := by
  unfold keptV
  rw [show n.log2 - 52 = 0 by omega, rndV_zero]
theorem fvN_small {n : Nat} (h : n.log2 ≤ 52) : fvN n = n := by
  unfold fvN
  rw [kept_small h, show n.log2 - 52 = 0 by omega, Nat.pow_zero, Nat.mul_one, Nat.mul_div_cancel _ (Nat.two_pow_pos _)]
/-- the float's value at its own scale -/
theorem fin_self {n : Nat} (h0 : 0 < n) {p : Nat} {m : Nat} (h : (keptV n < 9007199254740992 ∧ m = keptV n ∧ (p : Int) = n.log2 + 1022) ∨ (keptV n = 9007199254740992 ∧ m = 4503599627370496 ∧ (p : Int) = n.log2 + 1023)) : finN ((p : Int) - 1074) m = fvN n := by
  rcases h with ⟨k1, rfl, k2⟩ | ⟨k1, rfl, k2⟩
  · rcases Nat.lt_or_ge n.log2 53 with hl | hl
    · rw [fvN_small (by omega), kept_small (by omega)]
      rcases Nat.lt_or_ge n.log2 52 with hl2 | hl2
      · rw [finN_neg (by omega), show (-((p : Int) - 1074)).toNat = 52 - n.log2 by omega, rnd_mul]
      · rw [finN_nn (by omega), show ((p : Int) - 1074).toNat = 0 by omega, show 52 - n.log2 = 0 by omega]
        omega
    · rw [finN_nn (by omega)]
      unfold fvN
      rw [show ((p : Int) - 1074).toNat = n.log2 - 52 by omega, show 52 - n.log2 = 0 by omega, Nat.pow_zero, Nat.div_one]
  · have h53 := kept_top h0 k1
    rw [finN_nn (by omega)]
    unfold fvN
    rw [show ((p : Int) - 1074).toNat = n.log2 - 52 + 1 by omega, show 52 - n.log2 = 0 by omega, Nat.pow_zero, Nat.div_one, k1, Nat.pow_succ]
    omega
theorem fixed_flt {v z : Int} (h : v.natAbs ≤ 2305843009213693952) (hz : -40 ≤ z) (hz2 : z ≤ 40) : fltZ v z < 18446744073709551616 ∧ fixedI (fltZ v z) z = fvV v ∧ fixedE (fltZ v z) z = 0 := by
  by_cases h0 : v = 0
  · have e : fltZ v z = 0 := by unfold fltZ; rw [if_pos h0]
    rw [e, h0]
    obtain ⟨e1, e2⟩ := fixed_num (b := 0) hz hz2 (by decide) (by decide)
    rw [e1, e2, show mant 0 = 0 from rfl, fin_zero]
    exact ⟨by decide, by decide +kernel, by decide +kernel⟩
  · have hl := log_lt h
    have hk := kept_range (n := v.natAbs) (by omega)
    have hb : fltZ v z = (if decide (v < 0) = true then 9223372036854775808 else 0) + (((v.natAbs.log2 : Int) + 1022 - z).toNat * 4503599627370496 + keptV v.natAbs) := by
      unfold fltZ
      rw [if_neg h0, sgn_ite]
    obtain ⟨r1, r2, r3⟩ := rung_parts (by omega) hk.1 hk.2 hb
    have hlt : fltZ v z < 18446744073709551616 := by
      rw [hb]
      split <;> omega
    obtain ⟨e1, e2⟩ := fixed_num (b := fltZ v z) hz hz2 (by omega) (by omega)
    have hE : ((plc (fltZ v z) : Int) - 1074 + z) = ((((plc (fltZ v z) : Int) + z).toNat : Nat) : Int) - 1074 := by omega
    have hf := fin_self (n := v.natAbs) (by omega) (p := ((plc (fltZ v z) : Int) + z).toNat) (m := mant (fltZ v z)) (by omega)
    have hle := fvN_le (n := v.natAbs) (by omega) h
    rw [hE, hf, r1] at e1
    rw [hE, hf] at e2
    obtain ⟨x1, x2⟩ := fix_in (s := decide (v < 0)) hle
    refine ⟨hlt, ?_, e2.trans x2⟩
    rw [e1, x1]
    unfold fvV
    by_cases hv : v < 0
    · rw [if_pos hv, if_pos (decide_eq_true hv)]
    · rw [if_neg hv, if_neg (by simpa using hv)]
theorem fv_exact {v : Int} (h : -9007199254740992 ≤ v) (h2 : v ≤ 9007199254740992) : fvV v = v := by
  have hn : fvN v.natAbs = v.natAbs := by
    rcases Nat.lt_or_ge v.natAbs 9007199254740992 with h | h
    · by_cases h0 : v.natAbs = 0
      · rw [h0]; decide +kernel
      · have := (log_pow (n := v.natAbs) (by omega)).1
        have h3 : 2 ^ v.natAbs.log2 < 2 ^ 53 := Nat.lt_of_le_of_lt this h
        have := (Nat.pow_lt_pow_iff_right (by decide : 1 < 2)).1 h3
        exact fvN_small (by omega)
    · rw [show v.natAbs = 9007199254740992 by omega]; decide +kernel
  unfold fvV
  rw [hn]
  split <;> omega
theorem rnd_half (q k : Nat) : rndV ((2 * q + 1) * 2 ^ k) (k + 1) = if q % 2 = 1 then q + 1 else q := by
  have hp := Nat.two_pow_pos k
  have e : (2 * q + 1) * 2 ^ k = 2 ^ k + q * 2 ^ (k + 1) := by rw [Nat.pow_succ, Nat.add_mul]; generalize 2 ^ k = x; rw [Nat.one_mul, Nat.mul_comm x 2, ← Nat.mul_assoc, Nat.mul_comm q 2]; omega
  have hlt : 2 ^ k < 2 ^ (k + 1) := by rw [Nat.pow_succ]; omega
  unfold rndV
  rw [e, Nat.add_mul_mod_self_right, Nat.mod_eq_of_lt hlt, Nat.add_mul_div_right _ _ (by omega), Nat.div_eq_of_lt hlt, Nat.zero_add]
  have e2 : 2 ^ (k + 1) = 2 ^ k + 2 ^ k := by rw [Nat.pow_succ]; omega
  rw [e2]
  by_cases h : q % 2 = 1
  · rw [if_pos h, if_pos (.inr ⟨rfl, h⟩)]
  · rw [if_neg h, if_neg (by omega)]
/-- the middle between two whole numbers -/
theorem middle {v z : Int} (hv : -2251799813685248 < v) (hv2 : v < 2251799813685248) (hz : -40 ≤ z) (hz2 : z < 40) :
    fixedE (fltZ (2 * v + 1) (z + 1)) z = 0 ∧ (fixedI (fltZ (2 * v + 1) (z + 1)) z = v ∨ fixedI (fltZ (2 * v + 1) (z + 1)) z = v + 1) ∧ (fixedI (fltZ (2 * v + 1) (z + 1)) z).tmod 2 = 0 := by
  generalize hu : 2 * v + 1 = u
  have h0 : u ≠ 0 := by omega
  obtain ⟨q, hq⟩ : ∃ q, u.natAbs = 2 * q + 1 := ⟨u.natAbs / 2, by omega⟩
  have hl : u.natAbs.log2 ≤ 51 := by
    have := (log_pow (n := u.natAbs) (by omega)).1
    have h3 : 2 ^ u.natAbs.log2 < 2 ^ 52 := Nat.lt_of_le_of_lt this (by omega)
    have := (Nat.pow_lt_pow_iff_right (by decide : 1 < 2)).1 h3
    omega
  have hk := kept_range (n := u.natAbs) (by omega)
  have hb : fltZ u (z + 1) = (if decide (u < 0) = true then 9223372036854775808 else 0) + (((u.natAbs.log2 : Int) + 1022 - (z + 1)).toNat * 4503599627370496 + keptV u.natAbs) := by
    unfold fltZ
    rw [if_neg h0, sgn_ite]
  obtain ⟨r1, r2, r3⟩ := rung_parts (by omega) hk.1 hk.2 hb
  have hnt : keptV u.natAbs ≠ 9007199254740992 := fun h => by have := kept_top (by omega) h; omega
  obtain ⟨m1, m2⟩ : mant (fltZ u (z + 1)) = keptV u.natAbs ∧ plc (fltZ u (z + 1)) = ((u.natAbs.log2 : Int) + 1022 - (z + 1)).toNat := by
    rcases r3 with ⟨_, h, h'⟩ | ⟨h, _⟩
    · exact ⟨h, h'⟩
    · exact absurd h hnt
  obtain ⟨e1, e2⟩ := fixed_num (b := fltZ u (z + 1)) hz (by omega : z ≤ 40) (by omega) (by omega)
  rw [m1, m2, kept_small (by omega), show ((((u.natAbs.log2 : Int) + 1022 - (z + 1)).toNat : Nat) : Int) - 1074 + z = (u.natAbs.log2 : Int) - 53 by omega] at e1 e2
  rw [finN_neg (by omega), show (-((u.natAbs.log2 : Int) - 53)).toNat = 52 - u.natAbs.log2 + 1 by omega] at e1 e2
  generalize 52 - u.natAbs.log2 = k at e1 e2
  rw [hq, rnd_half] at e1 e2
  generalize hr : (if q % 2 = 1 then q + 1 else q) = r at e1 e2
  have hr2 : r = q ∨ r = q + 1 := by rw [← hr]; split <;> omega
  have hr3 : r % 2 = 0 := by rw [← hr]; split <;> omega
  obtain ⟨x1, x2⟩ := fix_in (s := decide (u < 0)) (N := r) (by omega)
  rw [r1, x1] at e1
  rw [x2] at e2
  refine ⟨e2, ?_⟩
  rw [e1]
  by_cases hv : u < 0
  · rw [if_pos (decide_eq_true hv)]
    exact ⟨by omega, Int.tmod_eq_zero_of_dvd ⟨-((r / 2 : Nat) : Int), by omega⟩⟩
  · rw [if_neg (by simpa using hv)]
    exact ⟨by omega, Int.tmod_eq_zero_of_dvd ⟨((r / 2 : Nat) : Int), by omega⟩⟩
end Go.Proofs.Ythkncbfaehgenaa
