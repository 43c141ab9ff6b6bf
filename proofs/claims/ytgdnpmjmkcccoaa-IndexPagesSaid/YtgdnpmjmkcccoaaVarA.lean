/- Plain facts: the bytes of a number, seven bits in each. No program. -/
namespace Go.Proofs.Ytgdnpmjmkcccoaa.VB
/-- a number's bytes -/
def vb (n : Nat) : List Nat := if h : n < 128 then [n] else (n % 128 + 128) :: vb (n / 128)
termination_by n
decreasing_by omega
theorem vb_lt {n : Nat} (h : n < 128) : vb n = [n] := by rw [vb]; exact dif_pos h
theorem vb_ge {n : Nat} (h : ¬ n < 128) : vb n = (n % 128 + 128) :: vb (n / 128) := by rw [vb]; exact dif_neg h
theorem vb_ne (n : Nat) : vb n ≠ [] := by
  by_cases h : n < 128
  · rw [vb_lt h]; exact List.cons_ne_nil _ _
  · rw [vb_ge h]; exact List.cons_ne_nil _ _
theorem vb_byte (n : Nat) : ∀ x ∈ vb n, x < 256 := by
  induction n using Nat.strongRecOn with
  | _ n ih =>
    by_cases h : n < 128
    · rw [vb_lt h]; intro x hx; rw [List.mem_singleton] at hx; omega
    · rw [vb_ge h]; intro x hx
      rcases List.mem_cons.1 hx with rfl | hx
      · omega
      · exact ih (n / 128) (by omega) x hx
/-- at most k + 1 bytes, below 128^(k+1) -/
theorem vb_len_le (k n : Nat) (h : n < 128 ^ (k + 1)) : (vb n).length ≤ k + 1 := by
  induction k generalizing n with
  | zero => rw [vb_lt (by simpa using h)]; simp
  | succ k ih =>
    by_cases hn : n < 128
    · rw [vb_lt hn]; simp
    · rw [vb_ge hn, List.length_cons]
      have := ih (n / 128) (by rw [Nat.div_lt_iff_lt_mul (by decide), ← Nat.pow_succ]; exact h)
      omega
theorem vb_len10 {n : Nat} (h : n < 18446744073709551616) : (vb n).length ≤ 10 := vb_len_le 9 n (Nat.lt_of_lt_of_le h (by decide))
theorem vb_len_pos (n : Nat) : 1 ≤ (vb n).length := by
  have := vb_ne n
  cases h : vb n with
  | nil => exact absurd h this
  | cons a l => simp
theorem vb_len_mono {m n : Nat} (h : m ≤ n) : (vb m).length ≤ (vb n).length := by
  induction m using Nat.strongRecOn generalizing n with
  | _ m ih =>
    by_cases hm : m < 128
    · rw [vb_lt hm]; exact vb_len_pos n
    · rw [vb_ge hm, vb_ge (n := n) (by omega), List.length_cons, List.length_cons]
      have := ih (m / 128) (by omega) (n := n / 128) (Nat.div_le_div_right h)
      omega
end Go.Proofs.Ytgdnpmjmkcccoaa.VB
