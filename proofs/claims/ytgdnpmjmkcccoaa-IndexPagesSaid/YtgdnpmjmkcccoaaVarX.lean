/- Plain laws: the bytes of a number, and the number that bytes are. No program. -/
import Derived.Test.YtgdnpmjmkcccoaaVarP
namespace Go.Proofs.Ytgdnpmjmkcccoaa.VB
theorem p9 : (128 : Nat) ^ 9 = 9223372036854775808 := by decide
/-- what was put is got -/
theorem gv_vb (m : Nat) : ∀ (i n : Nat) (rest : List Nat), (0 < i → 0 < m) → m * 128 ^ i < 18446744073709551616 → i ≤ 9 → gv i n (vb m ++ rest) = (n + m * 128 ^ i, i + (vb m).length, 0) := by
  induction m using Nat.strongRecOn with
  | _ m ih =>
    intro i n rest h0 hm hi
    by_cases h : m < 128
    · rw [vb_lt h, List.cons_append]
      refine gv_last ?_ h (by omega)
      rintro rfl
      rw [p9] at hm
      omega
    · have hi9 : i ≠ 9 := by
        rintro rfl
        rw [p9] at hm
        omega
      have e1 : m / 128 * 128 ^ (i + 1) + m % 128 * 128 ^ i = m * 128 ^ i := by
        rw [Nat.pow_succ, Nat.mul_comm (128 ^ i) 128, ← Nat.mul_assoc, ← Nat.add_mul]
        congr 1
        omega
      have h1 := ih (m / 128) (by omega) (i + 1) (n + (m % 128 + 128) % 128 * 128 ^ i) rest (by omega) (by omega) (by omega)
      rw [vb_ge h, List.cons_append, gv_more hi9 (by omega), h1, List.length_cons]
      have e2 : (m % 128 + 128) % 128 = m % 128 := by omega
      rw [e2, show n + m % 128 * 128 ^ i + m / 128 * 128 ^ (i + 1) = n + m * 128 ^ i by omega, show i + 1 + (vb (m / 128)).length = i + ((vb (m / 128)).length + 1) by omega]
/-- cut off anywhere: told as such -/
theorem gv_cut (m : Nat) : ∀ (i n j : Nat), m * 128 ^ i < 18446744073709551616 → j < (vb m).length → gv i n ((vb m).take j) = (0, 0, 6) := by
  induction m using Nat.strongRecOn with
  | _ m ih =>
    intro i n j hm hj
    cases j with
    | zero => rw [List.take_zero, gv_nil]
    | succ j =>
      by_cases h : m < 128
      · rw [vb_lt h] at hj
        simp at hj
      · have hi9 : i ≠ 9 := by
          rintro rfl
          rw [p9] at hm
          omega
        have e1 : m / 128 * 128 ^ (i + 1) + m % 128 * 128 ^ i = m * 128 ^ i := by
          rw [Nat.pow_succ, Nat.mul_comm (128 ^ i) 128, ← Nat.mul_assoc, ← Nat.add_mul]
          congr 1
          omega
        rw [vb_ge h] at hj ⊢
        rw [List.length_cons] at hj
        rw [List.take_succ_cons, gv_more hi9 (by omega)]
        exact ih (m / 128) (by omega) (i + 1) _ j (by omega) (by omega)
theorem gv_lt : ∀ (l : List Nat) (i n v p : Nat), gv i n l = (v, p, 0) → i < p ∧ p ≤ i + l.length
  | [], i, n, v, p, h => by rw [gv_nil] at h; cases h
  | x :: l, i, n, v, p, h => by
    unfold gv at h
    split at h
    · cases h
    · split at h
      · cases h
      · split at h
        · cases h
          simp
        · have := gv_lt l (i + 1) _ v p h
          simp only [List.length_cons]
          omega
/-- what is got has just those bytes -/
theorem gv_sound : ∀ (l : List Nat) (i n v p : Nat), (∀ x ∈ l, x < 256) → gv i n l = (v, p, 0) → ∃ m, v = n + m * 128 ^ i ∧ l.take (p - i) = vb m ∧ (0 < i → 0 < m)
  | [], i, n, v, p, _, h => by rw [gv_nil] at h; cases h
  | x :: l, i, n, v, p, hb, h => by
    have hx : x < 256 := hb x List.mem_cons_self
    unfold gv at h
    split at h
    · cases h
    · split at h
      · cases h
      · rename_i h0
        split at h
        · rename_i h128
          cases h
          refine ⟨x, rfl, ?_, by omega⟩
          rw [Nat.add_sub_cancel_left, vb_lt h128]
          rfl
        · rename_i h128
          obtain ⟨m, h1, h2, h3⟩ := gv_sound l (i + 1) _ v p (fun y hy => hb y (List.mem_cons_of_mem _ hy)) h
          have hp := gv_lt l (i + 1) _ v p h
          have hm := h3 (by omega)
          refine ⟨x % 128 + 128 * m, ?_, ?_, by omega⟩
          · rw [h1, Nat.pow_succ, Nat.mul_comm (128 ^ i) 128, ← Nat.mul_assoc, Nat.add_assoc, ← Nat.add_mul, Nat.mul_comm m 128]
          · obtain ⟨q, rfl⟩ : ∃ q, p = i + 1 + q := ⟨p - (i + 1), by omega⟩
            rw [show i + 1 + q - i = q + 1 by omega, List.take_succ_cons, vb_ge (n := x % 128 + 128 * m) (by omega)]
            rw [show i + 1 + q - (i + 1) = q by omega] at h2
            rw [h2, show (x % 128 + 128 * m) % 128 + 128 = x by omega, show (x % 128 + 128 * m) / 128 = m by omega]
/-- no number's bytes begin another one's -/
theorem vb_free {m n : Nat} {r : List Nat} (hm : m < 18446744073709551616) (hn : n < 18446744073709551616) (h : vb n = vb m ++ r) : m = n := by
  have h1 := gv_vb m 0 0 r (by omega) (by simpa using hm) (by omega)
  have h2 := gv_vb n 0 0 [] (by omega) (by simpa using hn) (by omega)
  rw [List.append_nil, h, h1] at h2
  simp at h2
  exact h2.1
end Go.Proofs.Ytgdnpmjmkcccoaa.VB
