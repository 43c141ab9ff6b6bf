/- Plain facts: a number's decimal digits, by groups of eighteen. No program. -/
import Derived.Lib.ItoaNum
namespace Go.Proofs.YtpomhcclnhddmaaDoor.TX
open Go.Lib
/-- k digits, with noughts ahead -/
def pad : Nat → Nat → List UInt8
  | 0, _ => []
  | k + 1, g => pad k (g / 10) ++ [UInt8.ofNat (48 + g % 10)]
theorem dec_big {u : Nat} (h : ¬ u < 10) : decDigits u = decDigits (u / 10) ++ [UInt8.ofNat (48 + u % 10)] := by rw [decDigits, dif_neg h]
theorem dec_pad : ∀ (k q g : Nat), 0 < q → g < 10 ^ k → decDigits (q * 10 ^ k + g) = decDigits q ++ pad k g
  | 0, q, g, hq, hg => by
    have : g = 0 := by simpa using hg
    subst this
    simp [pad]
  | k + 1, q, g, hq, hg => by
    have hp : 0 < 10 ^ k := Nat.pow_pos (by decide)
    have e : q * 10 ^ (k + 1) = q * 10 ^ k * 10 := by rw [Nat.pow_succ, Nat.mul_assoc]
    have h1 : 1 ≤ q * 10 ^ k := Nat.mul_pos hq hp
    rw [Nat.pow_succ] at hg
    have h2 := dec_pad k q (g / 10) hq (by omega)
    rw [dec_big (by omega), show (q * 10 ^ (k + 1) + g) / 10 = q * 10 ^ k + g / 10 by omega, show (q * 10 ^ (k + 1) + g) % 10 = g % 10 by omega, h2, pad, List.append_assoc]
/-- behind the 1: the eighteen digits -/
theorem dec_one (k g : Nat) (hg : g < 10 ^ k) : decDigits (10 ^ k + g) = 49 :: pad k g := by
  have h := dec_pad k 1 g (by decide) hg
  rw [Nat.one_mul] at h
  rw [h, decDigits, dif_pos (by decide)]
  rfl
/-- groups -/
def G : Nat := 1000000000000000000
def Ni (N i : Nat) : Nat := N / G ^ i
theorem Ni_succ (N i : Nat) : Ni N (i + 1) = Ni N i / G := by unfold Ni; rw [Nat.pow_succ, Nat.div_div_eq_div_mul]
def lst (N : Nat) : Nat → Nat
  | 0 => 0
  | i + 1 => if 0 < Ni N i % G then i else lst N i
theorem lst_le (N : Nat) : ∀ i, 0 < i → lst N i < i
  | 0, h => absurd h (by decide)
  | i + 1, _ => by
    unfold lst
    split
    · omega
    · rcases Nat.eq_zero_or_pos i with h | h
      · subst h; unfold lst; omega
      · have := lst_le N i h; omega
theorem lst_pos (N : Nat) : ∀ i, 0 < lst N i → 0 < Ni N (lst N i)
  | 0, h => absurd h (Nat.lt_irrefl 0)
  | i + 1, h => by
    unfold lst at h ⊢
    split
    · rename_i hg
      have := Nat.mod_le (Ni N i) G
      omega
    · rename_i hg
      rw [if_neg hg] at h
      exact lst_pos N i h
theorem Ni_zero {N i : Nat} (h : Ni N i = 0) (j : Nat) : Ni N (i + j) = 0 := by
  induction j with
  | zero => exact h
  | succ j ih => rw [← Nat.add_assoc, Ni_succ, ih, Nat.zero_div]
/-- above the last group there is nothing -/
theorem lst_top (N : Nat) : ∀ i, 0 < i → Ni N i = 0 → Ni N (lst N i + 1) = 0
  | 0, h, _ => absurd h (by decide)
  | i + 1, _, h0 => by
    unfold lst
    split
    · exact h0
    · rename_i hg
      have hG : Ni N i = 0 := by
        rw [Ni_succ] at h0
        have := Nat.div_add_mod (Ni N i) G
        rw [h0] at this
        omega
      rcases Nat.eq_zero_or_pos i with h | h
      · subst h; unfold lst; exact Ni_zero hG 1
      · exact lst_top N i h hG
theorem Ni3 {N : Nat} (h : N < 340282366920938463463374607431768211456) : Ni N 3 = 0 := by
  unfold Ni G
  exact Nat.div_eq_of_lt (Nat.lt_trans h (by decide))
/-- one group more -/
theorem dec_group {N j : Nat} (h : 0 < Ni N (j + 1)) : decDigits (Ni N j) = decDigits (Ni N (j + 1)) ++ (decDigits (G + Ni N j % G)).drop 1 := by
  have hg : Ni N j % G < 10 ^ 18 := Nat.mod_lt _ (by decide)
  have e : G = 10 ^ 18 := by decide
  have h1 := dec_pad 18 (Ni N (j + 1)) (Ni N j % G) h hg
  have h2 := dec_one 18 (Ni N j % G) hg
  rw [← e] at h1 h2
  rw [h2, List.drop_succ_cons, List.drop_zero, ← h1, Ni_succ, Nat.mul_comm, Nat.div_add_mod]
theorem dec_top {N j : Nat} (h : Ni N (j + 1) = 0) : Ni N j % G = Ni N j := by
  rw [Ni_succ] at h
  have := Nat.div_add_mod (Ni N j) G
  rw [h] at this
  omega
theorem Ni_pos {N i j : Nat} (h : 0 < Ni N i) (hj : j ≤ i) : 0 < Ni N j := by
  rcases Nat.eq_zero_or_pos (Ni N j) with h0 | h0
  · have := Ni_zero h0 (i - j)
    rw [show j + (i - j) = i by omega] at this
    omega
  · exact h0
end Go.Proofs.YtpomhcclnhddmaaDoor.TX
