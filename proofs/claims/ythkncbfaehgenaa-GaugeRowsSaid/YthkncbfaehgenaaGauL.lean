/- Plain facts: a reading's value as a rounded whole number; that it rises; by a finer scale; turned round. -/
import Derived.Test.YthkncbfaehgenaaGauK
namespace Go.Proofs.Ythkncbfaehgenaa
open Go.RowKit NB
theorem rnd_near (n l : Nat) : 2 * n ≤ 2 ^ l * (2 * rndV n l + 1) ∧ 2 ^ l * (2 * rndV n l) ≤ 2 * n + 2 ^ l := by
  have hd := Nat.div_add_mod n (2 ^ l)
  have hp := Nat.two_pow_pos l
  have hm := Nat.mod_lt n hp
  unfold rndV
  generalize n / 2 ^ l = Q at *
  generalize n % 2 ^ l = R at *
  generalize 2 ^ l = P at *
  have e1 : P * (2 * Q + 1) = 2 * (P * Q) + P := by rw [Nat.mul_add, Nat.mul_left_comm, Nat.mul_one]
  have e2 : P * (2 * (Q + 1) + 1) = 2 * (P * Q) + 3 * P := by rw [Nat.mul_add, Nat.mul_left_comm, Nat.mul_add, Nat.mul_one]; omega
  have e3 : P * (2 * Q) = 2 * (P * Q) := Nat.mul_left_comm _ _ _
  have e4 : P * (2 * (Q + 1)) = 2 * (P * Q) + 2 * P := by rw [Nat.mul_left_comm, Nat.mul_add, Nat.mul_one]; omega
  split
  · rw [e2, e4]; omega
  · rw [e1, e3]; omega
theorem rnd_mono {n n' : Nat} (l : Nat) (h : n ≤ n') : rndV n l ≤ rndV n' l := by
  rcases Nat.lt_or_ge (rndV n' l) (rndV n l) with hlt | hge
  · have a := (rnd_near n l).2
    have b := (rnd_near n' l).1
    have hp := Nat.two_pow_pos l
    have c : 2 ^ l * (2 * rndV n' l + 1) ≤ 2 ^ l * (2 * rndV n l - 1) := Nat.mul_le_mul_left _ (by omega)
    have d : 2 ^ l * (2 * rndV n l - 1) = 2 ^ l * (2 * rndV n l) - 2 ^ l := by rw [Nat.mul_sub, Nat.mul_one]
    have : n = n' := by omega
    rw [this]
    exact Nat.le_refl _
  · exact hge
theorem rnd_scale (n l k : Nat) : rndV (n * 2 ^ k) (l + k) = rndV n l := by
  have hp := Nat.two_pow_pos k
  have e1 : n * 2 ^ k / 2 ^ (l + k) = n / 2 ^ l := by rw [Nat.pow_add, Nat.mul_div_mul_right _ _ hp]
  have e2 : n * 2 ^ k % 2 ^ (l + k) = n % 2 ^ l * 2 ^ k := by rw [Nat.pow_add, Nat.mul_mod_mul_right]
  unfold rndV
  rw [e1, e2, Nat.pow_add, ← Nat.add_mul]
  have e3 : (2 ^ l * 2 ^ k < (n % 2 ^ l + n % 2 ^ l) * 2 ^ k ∨ 2 ^ l * 2 ^ k = (n % 2 ^ l + n % 2 ^ l) * 2 ^ k ∧ n / 2 ^ l % 2 = 1) ↔ (2 ^ l < n % 2 ^ l + n % 2 ^ l ∨ 2 ^ l = n % 2 ^ l + n % 2 ^ l ∧ n / 2 ^ l % 2 = 1) := by
    rw [Nat.mul_lt_mul_right hp, Nat.mul_left_inj (by omega)]
  by_cases h : 2 ^ l < n % 2 ^ l + n % 2 ^ l ∨ 2 ^ l = n % 2 ^ l + n % 2 ^ l ∧ n / 2 ^ l % 2 = 1
  · rw [if_pos h, if_pos (e3.2 h)]
  · rw [if_neg h, if_neg (fun x => h (e3.1 x))]
/-- a reading's value before its sign: rounded -/
def valN (b : Nat) (z : Int) : Nat := rndV (fval b) (1074 - z).toNat
theorem fin_val (b : Nat) {z : Int} (hz2 : z ≤ 40) : finN ((plc b : Int) - 1074 + z) (mant b) = valN b z := by
  unfold valN fval
  generalize plc b = p
  generalize hD : (1074 - z).toNat = D
  rcases Nat.lt_or_ge p D with h | h
  · rw [finN_neg (by omega), show (-((p : Int) - 1074 + z)).toNat = D - p by omega]
    have := rnd_scale (mant b) (D - p) p
    rw [show D - p + p = D by omega] at this
    exact this.symm
  · rw [finN_nn (by omega), show ((p : Int) - 1074 + z).toNat = p - D by omega]
    have e : mant b * 2 ^ p = mant b * 2 ^ (p - D) * 2 ^ D := by rw [Nat.mul_assoc, ← Nat.pow_add, show p - D + D = p by omega]
    rw [e, rnd_mul]
theorem fixed_val {b : Nat} {z : Int} (hz : -40 ≤ z) (hz2 : z ≤ 40) (h1 : kindV b ≠ 1) (h2 : kindV b ≠ 2) : fixedI b z = fixI (decide (9223372036854775808 ≤ b)) (valN b z) ∧ fixedE b z = fixE (valN b z) := by
  have := fixed_num hz hz2 h1 h2
  rw [fin_val b hz2] at this
  exact this
theorem fixed_nan {b : Nat} {z : Int} (hz : -40 ≤ z) (hz2 : z ≤ 40) (h1 : kindV b = 1) : fixedI b z = 0 ∧ fixedE b z = 130 := by
  unfold fixedI fixedE
  rw [if_pos ⟨hz, hz2⟩, if_pos h1, if_pos ⟨hz, hz2⟩, if_pos h1]
  exact ⟨rfl, rfl⟩
theorem fixed_inf {b : Nat} {z : Int} (hz : -40 ≤ z) (hz2 : z ≤ 40) (h1 : kindV b = 2) : fixedI b z = 0 ∧ fixedE b z = 5 := by
  unfold fixedI fixedE
  rw [if_pos ⟨hz, hz2⟩, if_neg (by omega), if_pos h1, if_pos ⟨hz, hz2⟩, if_neg (by omega), if_pos h1]
  exact ⟨rfl, rfl⟩
theorem val_finer (b : Nat) {z : Int} (hz2 : z < 40) : 2 * valN b z ≤ valN b (z + 1) + 1 ∧ valN b (z + 1) ≤ 2 * valN b z + 1 := by
  unfold valN
  obtain ⟨j, hj⟩ : ∃ j, (1074 - z).toNat = j + 1 := ⟨(1074 - z).toNat - 1, by omega⟩
  rw [hj, show (1074 - (z + 1)).toNat = j by omega]
  generalize fval b = n
  obtain ⟨a1, a2⟩ := rnd_near n (j + 1)
  obtain ⟨b1, b2⟩ := rnd_near n j
  have hp := Nat.two_pow_pos j
  rw [Nat.pow_succ] at a1 a2
  generalize rndV n (j + 1) = N at *
  generalize rndV n j = M at *
  generalize 2 ^ j = P at *
  rw [Nat.mul_assoc] at a1 a2
  constructor
  · rcases Nat.lt_or_ge (M + 1) (2 * N) with h | h
    · have h1 : P * (2 * M + 1) + P * 3 ≤ P * (2 * (2 * N)) := by rw [← Nat.mul_add]; exact Nat.mul_le_mul_left _ (by omega)
      omega
    · exact h
  · rcases Nat.lt_or_ge (2 * N + 1) M with h | h
    · have h1 : P * (2 * (2 * N + 1)) + P * 2 ≤ P * (2 * M) := by rw [← Nat.mul_add]; exact Nat.mul_le_mul_left _ (by omega)
      omega
    · exact h
/-- the law of GaugeFiner -/
theorem finer_law (b : Nat) {z : Int} (hz : -40 ≤ z) (hz2 : z < 40) : (fixedE b z ≠ 0 ∧ fixedE b (z + 1) = fixedE b z) ∨ (fixedE b z = 0 ∧ fixedE b (z + 1) = 5 ∧ (1152921504606846976 ≤ fixedI b z ∨ fixedI b z ≤ -1152921504606846976)) ∨ (fixedE b z = 0 ∧ fixedE b (z + 1) = 0 ∧ -1 ≤ fixedI b (z + 1) - 2 * fixedI b z ∧ fixedI b (z + 1) - 2 * fixedI b z ≤ 1 ∧ -2305843009213693952 ≤ fixedI b z ∧ fixedI b z ≤ 2305843009213693952 ∧ -2305843009213693952 ≤ fixedI b (z + 1) ∧ fixedI b (z + 1) ≤ 2305843009213693952) := by
  by_cases h1 : kindV b = 1
  · left
    rw [(fixed_nan hz (by omega) h1).2, (fixed_nan (by omega) (by omega) h1).2]
    exact ⟨by decide, rfl⟩
  by_cases h2 : kindV b = 2
  · left
    rw [(fixed_inf hz (by omega) h2).2, (fixed_inf (by omega) (by omega) h2).2]
    exact ⟨by decide, rfl⟩
  obtain ⟨e1, e2⟩ := fixed_val (z := z) hz (by omega) h1 h2
  obtain ⟨f1, f2⟩ := fixed_val (z := z + 1) (by omega) (by omega) h1 h2
  obtain ⟨g1, g2⟩ := val_finer b hz2
  rw [e1, e2, f1, f2]
  generalize valN b z = N at *
  generalize valN b (z + 1) = M at *
  generalize decide (9223372036854775808 ≤ b) = s
  by_cases hN : 2305843009213693952 < N
  · left
    rw [(fix_out (s := s) hN).2, (fix_out (s := s) (N := M) (by omega)).2]
    exact ⟨by decide, rfl⟩
  · obtain ⟨x1, x2⟩ := fix_in (s := s) (N := N) (by omega)
    right
    by_cases hM : 2305843009213693952 < M
    · left
      rw [x1, x2, (fix_out (s := s) hM).2]
      refine ⟨rfl, rfl, ?_⟩
      cases s <;> simp <;> omega
    · right
      obtain ⟨y1, y2⟩ := fix_in (s := s) (N := M) (by omega)
      rw [x1, x2, y1, y2]
      refine ⟨rfl, rfl, ?_⟩
      cases s <;> simp <;> omega
end Go.Proofs.Ythkncbfaehgenaa
