/- Plain facts: what the document's Get reckons is gv. No program. -/
import Derived.Test.YtgdnpmjmkcccoaaVarE
namespace Go.Proofs.Ytgdnpmjmkcccoaa.VB
/-- how many bytes belong to the number that begins a row of bytes, at most so many -/
def rl : Nat → List Nat → Nat
  | 0, _ => 0
  | _ + 1, [] => 0
  | k + 1, x :: l => if x < 128 then 1 else rl k l + 1
theorem rl_le : ∀ (k : Nat) (l : List Nat), rl k l ≤ k
  | 0, _ => Nat.le_refl _
  | _ + 1, [] => Nat.zero_le _
  | k + 1, x :: l => by
    unfold rl
    have := rl_le k l
    split <;> omega
theorem rl_le_len : ∀ (k : Nat) (l : List Nat), rl k l ≤ l.length
  | 0, _ => Nat.zero_le _
  | _ + 1, [] => Nat.zero_le _
  | k + 1, x :: l => by
    unfold rl
    have := rl_le_len k l
    rw [List.length_cons]
    split <;> omega
theorem rl_big : ∀ (k : Nat) (l : List Nat) (i : Nat), i + 1 < rl k l → 128 ≤ l.getD i 0
  | 0, _, i, h => by unfold rl at h; omega
  | _ + 1, [], i, h => by unfold rl at h; omega
  | k + 1, x :: l, i, h => by
    unfold rl at h
    split at h
    · omega
    · cases i with
      | zero => rw [List.getD_cons_zero]; omega
      | succ i =>
        rw [List.getD_cons_succ]
        exact rl_big k l i (by omega)
theorem rl_end : ∀ (k : Nat) (l : List Nat), rl k l = k ∨ rl k l = l.length ∨ (0 < rl k l ∧ l.getD (rl k l - 1) 0 < 128)
  | 0, _ => .inl rfl
  | _ + 1, [] => .inr (.inl rfl)
  | k + 1, x :: l => by
    unfold rl
    split
    · rename_i h
      exact .inr (.inr ⟨by omega, by simpa using h⟩)
    · rcases rl_end k l with h | h | ⟨h1, h2⟩
      · exact .inl (by omega)
      · exact .inr (.inl (by rw [List.length_cons]; omega))
      · refine .inr (.inr ⟨by omega, ?_⟩)
        obtain ⟨m, hm⟩ : ∃ m, rl k l = m + 1 := ⟨rl k l - 1, by omega⟩
        rw [hm] at h2 ⊢
        simpa using h2
/-- seven bits of each byte -/
def lv : List Nat → Nat
  | [] => 0
  | x :: l => x % 128 + 128 * lv l
theorem lv_lt : ∀ l : List Nat, lv l < 128 ^ l.length
  | [] => by simp [lv]
  | x :: l => by
    unfold lv
    have := lv_lt l
    rw [List.length_cons, Nat.pow_succ]
    omega
theorem lv_snoc : ∀ (l : List Nat) (x : Nat), lv (l ++ [x]) = lv l + x % 128 * 128 ^ l.length
  | [], x => by simp [lv]
  | y :: l, x => by
    rw [List.cons_append]
    unfold lv
    rw [lv_snoc l x, List.length_cons, Nat.pow_succ]
    rw [Nat.mul_add, Nat.mul_comm (128 ^ l.length) 128, Nat.mul_left_comm]
    omega
theorem lv_drop_le : ∀ (l : List Nat) (i : Nat), lv (l.drop i) ≤ lv l
  | [], i => by simp
  | x :: l, 0 => Nat.le_refl _
  | x :: l, i + 1 => by
    rw [List.drop_succ_cons]
    have := lv_drop_le l i
    have e : lv (x :: l) = x % 128 + 128 * lv l := rfl
    omega
theorem lv_step {l : List Nat} {i : Nat} (h : i < l.length) : lv (l.drop i) = l.getD i 0 % 128 + 128 * lv (l.drop (i + 1)) := by
  rw [List.drop_eq_getElem_cons h, List.getD_eq_getElem?_getD, List.getElem?_eq_getElem h]
  rfl
/-- what the document's Get reckons -/
def refT (l : List Nat) : Nat × Nat × Int :=
  if rl 10 l = 10 ∧ 1 < l.getD (rl 10 l - 1) 0 then (0, 0, 7)
  else if rl 10 l = 0 ∨ 128 ≤ l.getD (rl 10 l - 1) 0 then (0, 0, 6)
  else if 1 < rl 10 l ∧ l.getD (rl 10 l - 1) 0 = 0 then (0, 0, 7)
  else (lv (l.take (rl 10 l)), rl 10 l, 0)
theorem gv_rl : ∀ (l : List Nat) (i n : Nat), i ≤ 9 → gv i n l =
    if rl (10 - i) l = 10 - i ∧ 1 < l.getD (rl (10 - i) l - 1) 0 then (0, 0, 7)
    else if rl (10 - i) l = 0 ∨ 128 ≤ l.getD (rl (10 - i) l - 1) 0 then (0, 0, 6)
    else if 1 < i + rl (10 - i) l ∧ l.getD (rl (10 - i) l - 1) 0 = 0 then (0, 0, 7)
    else (n + lv (l.take (rl (10 - i) l)) * 128 ^ i, i + rl (10 - i) l, 0)
  | [], i, n, hi => by
    obtain ⟨k, hk⟩ : ∃ k, 10 - i = k + 1 := ⟨9 - i, by omega⟩
    rw [hk, gv_nil]
    have e : rl (k + 1) [] = 0 := rfl
    rw [e, if_neg (by omega), if_pos (.inl rfl)]
  | x :: l, i, n, hi => by
    obtain ⟨k, hk⟩ : ∃ k, 10 - i = k + 1 := ⟨9 - i, by omega⟩
    rw [hk]
    by_cases hx : x < 128
    · have e : rl (k + 1) (x :: l) = 1 := by unfold rl; rw [if_pos hx]
      rw [e, show (x :: l).getD (1 - 1) 0 = x from rfl, show (x :: l).take 1 = [x] from rfl, show lv [x] = x by unfold lv; unfold lv; omega]
      by_cases h9 : i = 9 ∧ 1 < x
      · obtain ⟨rfl, h⟩ := h9
        rw [gv_form9 h, if_pos ⟨by omega, h⟩]
      · rw [if_neg (by omega), if_neg (by omega)]
        by_cases h0 : x = 0 ∧ 0 < i
        · obtain ⟨rfl, h⟩ := h0
          rw [gv_form0 h, if_pos ⟨by omega, rfl⟩]
        · rw [if_neg (by omega), gv_last (by omega) hx (by omega)]
    · have e : rl (k + 1) (x :: l) = rl k l + 1 := by
        conv => lhs; unfold rl
        rw [if_neg hx]
      rw [e]
      by_cases h9 : i = 9
      · subst h9
        obtain rfl : k = 0 := by omega
        have e0 : rl 0 l = 0 := rfl
        rw [e0, show (x :: l).getD (0 + 1 - 1) 0 = x from rfl, if_pos ⟨rfl, by omega⟩, gv_form9 (by omega)]
      · rw [gv_more h9 hx, gv_rl l (i + 1) _ (by omega)]
        have hk1 : 10 - (i + 1) = k := by omega
        rw [hk1, Nat.add_sub_cancel]
        by_cases hm : rl k l = 0
        · rw [hm, if_neg (by omega), if_pos (.inl rfl), if_neg (by omega), if_pos (.inr (by simpa using (by omega : 128 ≤ x)))]
        · obtain ⟨m, hm⟩ : ∃ m, rl k l = m + 1 := ⟨rl k l - 1, by omega⟩
          rw [hm, show (x :: l).getD (m + 1) 0 = l.getD m 0 from List.getD_cons_succ, Nat.add_sub_cancel, show (x :: l).take (m + 1 + 1) = x :: l.take (m + 1) from rfl]
          have el : lv (x :: l.take (m + 1)) = x % 128 + 128 * lv (l.take (m + 1)) := rfl
          rw [el]
          have ep : n + x % 128 * 128 ^ i + lv (l.take (m + 1)) * 128 ^ (i + 1) = n + (x % 128 + 128 * lv (l.take (m + 1))) * 128 ^ i := by
            rw [Nat.add_mul, Nat.pow_succ, Nat.add_assoc, Nat.mul_comm (128 ^ i) 128, ← Nat.mul_assoc, Nat.mul_comm (lv _) 128]
          rw [ep]
          generalize l.getD m 0 = y
          by_cases c1 : m + 1 = k ∧ 1 < y
          · rw [if_pos c1, if_pos (show m + 1 + 1 = k + 1 ∧ 1 < y from ⟨by omega, c1.2⟩)]
          · rw [if_neg c1, if_neg (show ¬ (m + 1 + 1 = k + 1 ∧ 1 < y) by omega)]
            by_cases c2 : 128 ≤ y
            · rw [if_pos (show m + 1 = 0 ∨ 128 ≤ y from .inr c2), if_pos (show m + 1 + 1 = 0 ∨ 128 ≤ y from .inr c2)]
            · rw [if_neg (show ¬ (m + 1 = 0 ∨ 128 ≤ y) by omega), if_neg (show ¬ (m + 1 + 1 = 0 ∨ 128 ≤ y) by omega)]
              by_cases c3 : y = 0
              · rw [if_pos (show 1 < i + 1 + (m + 1) ∧ y = 0 from ⟨by omega, c3⟩), if_pos (show 1 < i + (m + 1 + 1) ∧ y = 0 from ⟨by omega, c3⟩)]
              · rw [if_neg (show ¬ (1 < i + 1 + (m + 1) ∧ y = 0) by omega), if_neg (show ¬ (1 < i + (m + 1 + 1) ∧ y = 0) by omega)]
                rw [show i + 1 + (m + 1) = i + (m + 1 + 1) by omega]
theorem gv_ref (l : List Nat) : gv 0 0 l = refT l := by
  rw [gv_rl l 0 0 (by omega)]
  simp only [Nat.sub_zero, Nat.zero_add, Nat.pow_zero, Nat.mul_one]
  rfl
theorem gv_err : ∀ (l : List Nat) (i n : Nat), (gv i n l).2.2 = 0 ∨ ((gv i n l).1 = 0 ∧ (gv i n l).2.1 = 0)
  | [], i, n => .inr ⟨rfl, rfl⟩
  | x :: l, i, n => by
    unfold gv
    split
    · exact .inr ⟨rfl, rfl⟩
    · split
      · exact .inr ⟨rfl, rfl⟩
      · split
        · exact .inl rfl
        · exact gv_err l _ _
/-- the number is one of 64 bits -/
theorem lv_small {l : List Nat} (h1 : ¬ (rl 10 l = 10 ∧ 1 < l.getD (rl 10 l - 1) 0)) (h2 : ¬ (rl 10 l = 0 ∨ 128 ≤ l.getD (rl 10 l - 1) 0)) : lv (l.take (rl 10 l)) < 18446744073709551616 := by
  have hle := rl_le 10 l
  have hln := rl_le_len 10 l
  obtain ⟨m, hm⟩ : ∃ m, rl 10 l = m + 1 := ⟨rl 10 l - 1, by omega⟩
  rw [hm] at h1 h2 hle hln ⊢
  rw [Nat.add_sub_cancel] at h1 h2
  have hml : m < l.length := by omega
  rw [List.take_succ_eq_append_getElem hml, lv_snoc]
  have hg : l.getD m 0 = l[m] := by rw [List.getD_eq_getElem?_getD, List.getElem?_eq_getElem hml]; rfl
  rw [hg] at h1 h2
  have hb := lv_lt (l.take m)
  have htl : (l.take m).length = m := by rw [List.length_take]; omega
  rw [htl] at hb ⊢
  rw [Nat.mod_eq_of_lt (by omega)]
  by_cases h9 : m = 9
  · subst h9
    have : l[9] ≤ 1 := by omega
    have hp : (128 : Nat) ^ 9 = 9223372036854775808 := by decide
    rw [hp] at hb ⊢
    omega
  · have hp : 128 ^ (m + 1) ≤ (128 : Nat) ^ 9 := Nat.pow_le_pow_right (by decide) (by omega)
    have hp2 : (128 : Nat) ^ 9 = 9223372036854775808 := by decide
    rw [hp2] at hp
    have hx : l[m] * 128 ^ m ≤ 127 * 128 ^ m := Nat.mul_le_mul_right _ (by omega)
    rw [Nat.pow_succ] at hp
    omega
end Go.Proofs.Ytgdnpmjmkcccoaa.VB
