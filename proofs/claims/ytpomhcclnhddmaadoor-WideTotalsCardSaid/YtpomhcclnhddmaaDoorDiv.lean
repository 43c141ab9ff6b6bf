/- Plain facts: a quotient digit by digit (as math/bits.Div64 goes about it). No program. -/
namespace Go.Proofs.YtpomhcclnhddmaaDoor.KN
/-- the digit that is sought is at most what is tried; what is tried is at most 2^32 + 1 -/
theorem first {Y U u : Nat} (hY1 : 9223372036854775808 ≤ Y) (hY2 : Y < 18446744073709551616) (hU : U < Y) (hu : u < 4294967296) :
    (U * 4294967296 + u) / Y ≤ U / (Y / 4294967296) ∧ U / (Y / 4294967296) ≤ 4294967297 ∧ (U * 4294967296 + u) / Y < 4294967296 := by
  have hy1 : 2147483648 ≤ Y / 4294967296 := by omega
  have hd := Nat.div_add_mod Y 4294967296
  refine ⟨?_, ?_, ?_⟩
  · refine (Nat.le_div_iff_mul_le (by omega)).2 ?_
    have h1 : (U * 4294967296 + u) / Y * Y ≤ U * 4294967296 + u := Nat.div_mul_le_self _ _
    have h2 : (U * 4294967296 + u) / Y * (4294967296 * (Y / 4294967296)) ≤ (U * 4294967296 + u) / Y * Y := Nat.mul_le_mul_left _ (by omega)
    rw [← Nat.mul_assoc, Nat.mul_right_comm] at h2
    generalize (U * 4294967296 + u) / Y * (Y / 4294967296) = t at *
    omega
  · have : U / (Y / 4294967296) < 4294967298 := by
      refine (Nat.div_lt_iff_lt_mul (by omega)).2 ?_
      omega
    omega
  · refine (Nat.div_lt_iff_lt_mul (by omega)).2 ?_
    omega
/-- while a test says so, what is tried is too great -/
theorem down {Y M q : Nat} (h : M < q * Y) : M / Y < q := by
  rcases Nat.eq_zero_or_pos Y with h0 | h0
  · subst h0; simp at h
  · exact (Nat.div_lt_iff_lt_mul h0).2 h
/-- where no test says so, it is the digit -/
theorem stop {Y M q : Nat} (hY : 0 < Y) (h1 : M / Y ≤ q) (h2 : q * Y ≤ M) : q = M / Y := Nat.le_antisymm ((Nat.le_div_iff_mul_le hY).2 h2) h1
/-- q times Y, by halves -/
theorem split (q Y : Nat) : q * Y = q * (Y / 4294967296) * 4294967296 + q * (Y % 4294967296) := by
  have hd := Nat.div_add_mod Y 4294967296
  calc q * Y = q * (4294967296 * (Y / 4294967296) + Y % 4294967296) := by rw [hd]
    _ = q * (Y / 4294967296) * 4294967296 + q * (Y % 4294967296) := by rw [Nat.mul_add, Nat.mul_comm 4294967296, ← Nat.mul_assoc]
/-- two digits of a quotient -/
theorem two {Y U u1 u0 : Nat} (hY : 0 < Y) : (U * 18446744073709551616 + u1 * 4294967296 + u0) / Y = (U * 4294967296 + u1) / Y * 4294967296 + ((U * 4294967296 + u1) % Y * 4294967296 + u0) / Y ∧
    (U * 18446744073709551616 + u1 * 4294967296 + u0) % Y = ((U * 4294967296 + u1) % Y * 4294967296 + u0) % Y := by
  have h := Nat.div_add_mod (U * 4294967296 + u1) Y
  have e : U * 18446744073709551616 + u1 * 4294967296 + u0 = Y * ((U * 4294967296 + u1) / Y * 4294967296) + ((U * 4294967296 + u1) % Y * 4294967296 + u0) := by
    rw [← Nat.mul_assoc]
    generalize Y * ((U * 4294967296 + u1) / Y) = t at *
    omega
  rw [e]
  exact ⟨by rw [Nat.mul_add_div hY], by rw [Nat.mul_add_mod]⟩
/-- shifted by s, both -/
theorem shifted {D y s : Nat} : D * 2 ^ s / (y * 2 ^ s) = D / y ∧ D * 2 ^ s % (y * 2 ^ s) / 2 ^ s = D % y := by
  have hp : 0 < 2 ^ s := Nat.pow_pos (by decide)
  exact ⟨Nat.mul_div_mul_right _ _ hp, by rw [Nat.mul_mod_mul_right, Nat.mul_div_cancel _ hp]⟩
/-- the dividend, shifted, in two words -/
theorem words {hi lo s : Nat} (hs : s ≤ 63) (hlo : lo < 18446744073709551616) :
    (hi * 18446744073709551616 + lo) * 2 ^ s = (hi * 2 ^ s + lo / 2 ^ (64 - s)) * 18446744073709551616 + lo * 2 ^ s % 18446744073709551616 ∧ lo / 2 ^ (64 - s) < 2 ^ s := by
  have hp : 0 < 2 ^ s := Nat.pow_pos (by decide)
  have e : 2 ^ (64 - s) * 2 ^ s = 18446744073709551616 := by rw [← Nat.pow_add, Nat.sub_add_cancel (by omega)]
  have h1 : lo * 2 ^ s / 18446744073709551616 = lo / 2 ^ (64 - s) := by rw [← e]; exact Nat.mul_div_mul_right _ _ hp
  have h2 := Nat.div_add_mod (lo * 2 ^ s) 18446744073709551616
  refine ⟨?_, ?_⟩
  · rw [← h1, Nat.add_mul, Nat.mul_right_comm]
    generalize hi * 2 ^ s = t at *
    omega
  · refine (Nat.div_lt_iff_lt_mul (Nat.pow_pos (by decide))).2 ?_
    rw [Nat.mul_comm, e]
    exact hlo
end Go.Proofs.YtpomhcclnhddmaaDoor.KN
