/- Plain facts on binary digits of natural numbers: no program in sight. -/
namespace Go.Proofs.Ytgdnpmjmkcccoaa.NB

/-- how many binary digits a number has -/
def nb (n : Nat) : Nat := if n = 0 then 0 else n.log2 + 1
/-- a number's digit at a place -/
def bitf (n i : Nat) : Nat := n / 2 ^ i % 2

theorem lt_nb_iff (n k : Nat) : k < nb n ↔ 2 ^ k ≤ n := by
  unfold nb
  split
  · rename_i h; subst h
    have := Nat.two_pow_pos k
    constructor <;> intro h <;> omega
  · rename_i h
    rw [Nat.lt_succ_iff, Nat.le_log2 h]
theorem nb_le_iff (n k : Nat) : nb n ≤ k ↔ n < 2 ^ k := by
  have := lt_nb_iff n k
  omega
theorem nb_zero : nb 0 = 0 := rfl
theorem nb_one : nb 1 = 1 := by
  have h1 := (nb_le_iff 1 1).2 (by decide)
  have h2 := (lt_nb_iff 1 0).2 (by decide)
  omega
theorem lt_pow_nb (n : Nat) : n < 2 ^ nb n := (nb_le_iff n (nb n)).1 (Nat.le_refl _)
theorem nb_eq {n k : Nat} (h1 : n < 2 ^ k) (h2 : k = 0 ∨ 2 ^ (k - 1) ≤ n) : nb n = k := by
  have a := (nb_le_iff n k).2 h1
  rcases h2 with h | h
  · omega
  · have b := (lt_nb_iff n (k - 1)).2 h
    omega
theorem nb_mono {m n : Nat} (h : m ≤ n) : nb m ≤ nb n := (nb_le_iff m _).2 (Nat.lt_of_le_of_lt h (lt_pow_nb n))
theorem nb_pos {n : Nat} (h : n ≠ 0) : 0 < nb n := (lt_nb_iff n 0).2 (by simp; omega)
theorem nb_eq_zero {n : Nat} : nb n = 0 ↔ n = 0 := by
  constructor
  · intro h; exact Classical.byContradiction fun h' => by have := nb_pos h'; omega
  · rintro rfl; rfl
theorem nb_pow (k : Nat) : nb (2 ^ k) = k + 1 := nb_eq (Nat.pow_lt_pow_right (by decide) (by omega)) (.inr (by simp))
theorem nb_double (n : Nat) (h : n ≠ 0) : nb (2 * n) = nb n + 1 := by
  refine nb_eq ?_ (.inr ?_)
  · have := lt_pow_nb n; rw [Nat.pow_succ]; omega
  · have := (lt_nb_iff n (nb n - 1)).1 (by have := nb_pos h; omega)
    have e : nb n + 1 - 1 = nb n - 1 + 1 := by have := nb_pos h; omega
    rw [e, Nat.pow_succ]; omega
theorem nb_cons (n d : Nat) (hd : d < 2) (h : 2 * n + d ≠ 0) : nb (2 * n + d) = nb n + 1 := by
  by_cases hn : n = 0
  · subst hn
    obtain rfl : d = 1 := by omega
    exact nb_one
  · refine nb_eq ?_ (.inr ?_)
    · have := lt_pow_nb n; rw [Nat.pow_succ]; omega
    · have := (lt_nb_iff n (nb n - 1)).1 (by have := nb_pos hn; omega)
      have e : nb n + 1 - 1 = nb n - 1 + 1 := by have := nb_pos hn; omega
      rw [e, Nat.pow_succ]; omega
theorem nb_half (n : Nat) (h : n ≠ 0) : nb n = nb (n / 2) + 1 := by
  have := nb_cons (n / 2) (n % 2) (by omega) (by omega)
  rwa [show 2 * (n / 2) + n % 2 = n by omega] at this
theorem nb_add_le (m n k : Nat) (hm : nb m ≤ k) (hn : nb n ≤ k) : nb (m + n) ≤ k + 1 := by
  rw [nb_le_iff] at *
  rw [Nat.pow_succ]; omega
theorem nb_mul_le (m n : Nat) : nb (m * n) ≤ nb m + nb n := by
  rw [nb_le_iff, Nat.pow_add]
  exact Nat.mul_lt_mul_of_lt_of_le (lt_pow_nb m) (Nat.le_of_lt (lt_pow_nb n)) (Nat.two_pow_pos _)

theorem bitf_lt (n i : Nat) : bitf n i < 2 := Nat.mod_lt _ (by decide)
theorem bitf_zero (n : Nat) : bitf n 0 = n % 2 := by simp [bitf]
theorem bitf_succ (n i : Nat) : bitf n (i + 1) = bitf (n / 2) i := by
  unfold bitf
  rw [Nat.pow_succ', Nat.div_div_eq_div_mul]
theorem bitf_cons_zero (n d : Nat) (hd : d < 2) : bitf (2 * n + d) 0 = d := by rw [bitf_zero]; omega
theorem bitf_cons_succ (n d i : Nat) (hd : d < 2) : bitf (2 * n + d) (i + 1) = bitf n i := by
  rw [bitf_succ]; congr 1; omega
theorem bitf_of_lt {n i : Nat} (h : n < 2 ^ i) : bitf n i = 0 := by
  unfold bitf; rw [Nat.div_eq_of_lt h]
theorem bitf_ge {n i : Nat} (h : nb n ≤ i) : bitf n i = 0 := bitf_of_lt ((nb_le_iff n i).1 h)
/-- the highest digit is 1 -/
theorem bitf_top {n : Nat} (h : n ≠ 0) : bitf n (nb n - 1) = 1 := by
  have h1 := (lt_nb_iff n (nb n - 1)).1 (by have := nb_pos h; omega)
  have h2 := lt_pow_nb n
  have e : nb n = nb n - 1 + 1 := by have := nb_pos h; omega
  rw [e, Nat.pow_succ] at h2
  unfold bitf
  have hp := Nat.two_pow_pos (nb n - 1)
  have : n / 2 ^ (nb n - 1) = 1 := by
    rw [Nat.div_eq_iff hp]; omega
  rw [this]
/-- n is its highest digits from place i on, then digit i, .. -/
theorem div_pow_step (n i : Nat) : n / 2 ^ i = 2 * (n / 2 ^ (i + 1)) + bitf n i := by
  unfold bitf
  rw [Nat.pow_succ, ← Nat.div_div_eq_div_mul]; omega
theorem mod_pow_step (n i : Nat) : n % 2 ^ (i + 1) = n % 2 ^ i + 2 ^ i * bitf n i := by
  unfold bitf
  rw [Nat.pow_succ, Nat.mod_mul]

/-! equal lengths: who is less -/
theorem lt_of_nb_lt {m n : Nat} (h : nb m < nb n) : m < n := by
  have h1 := lt_pow_nb m
  have h2 := (lt_nb_iff n (nb m)).1 h
  omega
/-- the digits from place k on are the same, the digit k - 1 is not -/
theorem lt_of_top {m n k : Nat} (h : m / 2 ^ (k + 1) = n / 2 ^ (k + 1)) (hb : bitf m k ≠ bitf n k) : m < n ↔ bitf m k < bitf n k := by
  have h1 := div_pow_step m k
  have h2 := div_pow_step n k
  have b1 := bitf_lt m k
  have b2 := bitf_lt n k
  have hp := Nat.two_pow_pos k
  constructor
  · intro hlt
    have : m / 2 ^ k ≤ n / 2 ^ k := Nat.div_le_div_right (Nat.le_of_lt hlt)
    omega
  · intro hlt
    have h3 : m / 2 ^ k < n / 2 ^ k := by omega
    exact Classical.byContradiction fun hc => by
      have : n / 2 ^ k ≤ m / 2 ^ k := Nat.div_le_div_right (by omega)
      omega

/-! sums -/
/-- what is carried into place k -/
def carry (m n k : Nat) : Nat := (m % 2 ^ k + n % 2 ^ k) / 2 ^ k
theorem carry_zero (m n : Nat) : carry m n 0 = 0 := by simp [carry, Nat.mod_one]
theorem carry_lt (m n k : Nat) : carry m n k < 2 := by
  unfold carry
  have hp := Nat.two_pow_pos k
  have h1 := Nat.mod_lt m hp
  have h2 := Nat.mod_lt n hp
  rw [Nat.div_lt_iff_lt_mul hp]; omega
theorem sum_at (m n k : Nat) : (m + n) / 2 ^ k = m / 2 ^ k + n / 2 ^ k + carry m n k := by
  unfold carry
  have hp := Nat.two_pow_pos k
  have e1 := Nat.div_add_mod m (2 ^ k)
  have e2 := Nat.div_add_mod n (2 ^ k)
  have : m + n = (m % 2 ^ k + n % 2 ^ k) + 2 ^ k * (m / 2 ^ k + n / 2 ^ k) := by rw [Nat.mul_add]; omega
  rw [this, Nat.add_mul_div_left _ _ hp]; omega
theorem carry_digit (m n k : Nat) : (carry m n k + bitf m k + bitf n k) % 2 = bitf (m + n) k := by
  have := sum_at m n k
  simp only [bitf]; omega
theorem carry_step (m n k : Nat) : (carry m n k + bitf m k + bitf n k) / 2 = carry m n (k + 1) := by
  have h0 := sum_at m n k
  have h1 := sum_at m n (k + 1)
  have a := div_pow_step m k
  have b := div_pow_step n k
  have c := div_pow_step (m + n) k
  have d := carry_digit m n k
  omega
theorem sum_goes {m n k : Nat} (h : k < nb m ∨ k < nb n ∨ 0 < carry m n k) : k < nb (m + n) := by
  have hs := sum_at m n k
  have hp := Nat.two_pow_pos k
  rcases h with h | h | h
  · rw [lt_nb_iff] at *; omega
  · rw [lt_nb_iff] at *; omega
  · rw [lt_nb_iff]
    refine Nat.le_of_not_lt fun hc => ?_
    rw [Nat.div_eq_of_lt hc] at hs
    have h4 : carry m n k ≤ 0 := by rw [hs]; exact Nat.le_add_left _ _
    omega
theorem sum_ends {m n k : Nat} (h1 : nb m ≤ k) (h2 : nb n ≤ k) (h3 : carry m n k = 0) : nb (m + n) ≤ k := by
  rw [nb_le_iff] at *
  have hs := sum_at m n k
  rw [Nat.div_eq_of_lt h1, Nat.div_eq_of_lt h2, h3] at hs
  have hp := Nat.two_pow_pos k
  exact Classical.byContradiction fun hc => by
    have := Nat.div_pos (show 2 ^ k ≤ m + n by omega) hp
    omega

/-! differences -/
def borrow (m n k : Nat) : Nat := if m % 2 ^ k < n % 2 ^ k then 1 else 0
theorem borrow_zero (m n : Nat) : borrow m n 0 = 0 := by simp [borrow, Nat.mod_one]
theorem borrow_lt (m n k : Nat) : borrow m n k < 2 := by unfold borrow; split <;> omega
theorem borrow_step (m n k : Nat) : borrow m n (k + 1) = if bitf m k < bitf n k + borrow m n k then 1 else 0 := by
  unfold borrow
  have hp := Nat.two_pow_pos k
  have h1 := Nat.mod_lt m hp
  have h2 := Nat.mod_lt n hp
  have b1 := bitf_lt m k
  have b2 := bitf_lt n k
  rw [mod_pow_step, mod_pow_step]
  obtain hb1 | hb1 : bitf m k = 0 ∨ bitf m k = 1 := by omega
  all_goals obtain hb2 | hb2 : bitf n k = 0 ∨ bitf n k = 1 := by omega
  all_goals rw [hb1, hb2]
  all_goals simp only [Nat.mul_zero, Nat.mul_one, Nat.add_zero]
  all_goals (repeat' split) <;> omega
theorem diff_at {m n : Nat} (k : Nat) (h : n ≤ m) : (m - n) / 2 ^ k + n / 2 ^ k + borrow m n k = m / 2 ^ k := by
  have hp := Nat.two_pow_pos k
  have hs := sum_at (m - n) n k
  rw [Nat.sub_add_cancel h] at hs
  have hc : carry (m - n) n k = borrow m n k := by
    have e1 := Nat.div_add_mod (m - n) (2 ^ k)
    have e2 := Nat.div_add_mod n (2 ^ k)
    have e3 := Nat.div_add_mod m (2 ^ k)
    have h1 := Nat.mod_lt (m - n) hp
    have h2 := Nat.mod_lt n hp
    have h3 := Nat.mod_lt m hp
    unfold carry borrow
    have hm : m = (m - n) + n := by omega
    have hmod : m % 2 ^ k = ((m - n) % 2 ^ k + n % 2 ^ k) % 2 ^ k := by
      conv => lhs; rw [hm]
      exact Nat.add_mod _ _ _
    by_cases hlt : (m - n) % 2 ^ k + n % 2 ^ k < 2 ^ k
    · rw [Nat.div_eq_of_lt hlt, hmod, Nat.mod_eq_of_lt hlt, if_neg (by omega)]
    · have : (m - n) % 2 ^ k + n % 2 ^ k = 2 ^ k + ((m - n) % 2 ^ k + n % 2 ^ k - 2 ^ k) := by omega
      rw [hmod, this, Nat.add_mod_left, Nat.add_div_left _ hp, Nat.div_eq_of_lt (by omega), Nat.mod_eq_of_lt (by omega), if_pos (by omega)]
  rw [hc] at hs; omega
theorem diff_digit {m n : Nat} (k : Nat) (h : n ≤ m) : (bitf (m - n) k : Int) = (bitf m k : Int) - borrow m n k - bitf n k + if (bitf m k : Int) - borrow m n k - bitf n k < 0 then 2 else 0 := by
  have h0 := diff_at k h
  have h1 := diff_at (k + 1) h
  have a := div_pow_step m k
  have b := div_pow_step n k
  have c := div_pow_step (m - n) k
  have d := borrow_step m n k
  have b1 := bitf_lt m k
  have b2 := bitf_lt n k
  have b3 := bitf_lt (m - n) k
  have b4 := borrow_lt m n k
  split at d <;> split <;> omega

/-! a number's word: the digits from a place on, from the highest on -/
theorem word_step (m f k : Nat) (hk : k < 64) : m / 2 ^ (f + k) % 2 ^ (64 - k) = 2 * (m / 2 ^ (f + (k + 1)) % 2 ^ (64 - (k + 1))) + bitf m (f + k) := by
  have h := div_pow_step m (f + k)
  rw [show f + k + 1 = f + (k + 1) from rfl] at h
  have e : 64 - k = (64 - (k + 1)) + 1 := by omega
  rw [e, Nat.pow_succ', Nat.mod_mul, h]
  have b := bitf_lt m (f + k)
  generalize m / 2 ^ (f + (k + 1)) = x at *
  rw [show (2 * x + bitf m (f + k)) % 2 = bitf m (f + k) by omega, show (2 * x + bitf m (f + k)) / 2 = x by omega]
  omega

/-! what is left of a row of digits without the noughts at its end -/
theorem trim_len {v k L : Nat} (hL : v < 2 ^ L) (hk : k ≤ L) (hz : ∀ j, k ≤ j → j < L → bitf v j = 0) (ht : k = 0 ∨ bitf v (k - 1) ≠ 0) : nb v = k := by
  have hlt : v < 2 ^ k := by
    have key : ∀ d, d ≤ L - k → v < 2 ^ (L - d) := by
      intro d
      induction d with
      | zero => intro _; exact hL
      | succ d ih =>
        intro hd
        have h1 := ih (by omega)
        have h2 := hz (L - (d + 1)) (by omega) (by omega)
        have h3 := div_pow_step v (L - (d + 1))
        rw [h2, show L - (d + 1) + 1 = L - d by omega, Nat.div_eq_of_lt h1] at h3
        exact Nat.lt_of_not_le fun hc => by
          have := Nat.div_pos hc (Nat.two_pow_pos _)
          omega
    have := key (L - k) (Nat.le_refl _)
    rwa [show L - (L - k) = k by omega] at this
  refine nb_eq hlt ?_
  rcases ht with h | h
  · exact .inl h
  · refine .inr (Nat.le_of_not_lt fun hc => h (bitf_of_lt hc))

end Go.Proofs.Ytgdnpmjmkcccoaa.NB
