/- Plain laws: a row that was put is got; under a lesser limit, or cut off anywhere, it is refused. -/
import Derived.Test.YtcdkibpfgnmmfaaLawL
namespace Go.Proofs.Ytcdkibpfgnmmfaa
open Go.RowKit Go.Shelf VB
set_option linter.unusedVariables false
theorem gotN_stop {pre : List Nat} {n j : Nat} (hn : n < 18446744073709551616) (hj : j < (vb n).length) {k : Int} (hk : k = (pre.length : Nat)) : gotN (pre ++ (vb n).take j) k = (0, 0, 6) := by
  subst hk
  unfold gotN
  rw [Int.toNat_natCast, List.drop_left, gv_cut n 0 0 j (by simpa using hn) hj, if_pos ⟨by omega, by rw [List.length_append]; omega⟩, if_neg (by decide)]
def flat (zs : List Int) : List Nat := (zs.map fold64).flatMap vb
theorem flat_cons (z : Int) (zs : List Int) : flat (z :: zs) = vb (fold64 z) ++ flat zs := by simp [flat]
abbrev I64 (zs : List Int) : Prop := ∀ z ∈ zs, -9223372036854775808 ≤ z ∧ z ≤ 9223372036854775807
theorem gl_put : ∀ (zs : List Int) (pre rest : List Nat), I64 zs → gl (pre ++ (flat zs ++ rest)) zs.length pre.length = (zs, pre.length + (flat zs).length, 0)
  | [], pre, rest, _ => by simp [gl, flat]
  | z :: zs, pre, rest, h => by
    have hz := h z List.mem_cons_self
    have h1 := gotN_put (pre := pre) (rest := flat zs ++ rest) (fold64_lt hz.1 hz.2) (k := (pre.length : Nat)) rfl
    have h2 := gl_put zs (pre ++ vb (fold64 z)) rest (fun x hx => h x (List.mem_cons_of_mem _ hx))
    rw [List.append_assoc, List.length_append] at h2
    rw [flat_cons, List.append_assoc, List.length_cons]
    unfold gl
    rw [h1]
    dsimp only
    rw [if_pos rfl, h2]
    dsimp only
    rw [if_pos rfl, unf_fold, List.length_append, Nat.add_assoc]
theorem gl_stop : ∀ (zs : List Int) (pre : List Nat) (j : Nat), I64 zs → j < (flat zs).length → gl (pre ++ (flat zs).take j) zs.length pre.length = ([], 0, 6)
  | [], pre, j, _, hj => by simp [flat] at hj
  | z :: zs, pre, j, h, hj => by
    have hz := h z List.mem_cons_self
    have hf := fold64_lt hz.1 hz.2
    rw [flat_cons] at hj ⊢
    rw [List.length_append] at hj
    rw [List.length_cons]
    unfold gl
    by_cases hlt : j < (vb (fold64 z)).length
    · rw [List.take_append_of_le_length (by omega), gotN_stop hf hlt rfl]
      dsimp only
      rw [if_neg (by decide)]
    · obtain ⟨i, rfl⟩ : ∃ i, j = (vb (fold64 z)).length + i := ⟨j - (vb (fold64 z)).length, by omega⟩
      have h1 := gotN_put (pre := pre) (rest := (flat zs).take i) hf (k := (pre.length : Nat)) rfl
      have h2 := gl_stop zs (pre ++ vb (fold64 z)) i (fun x hx => h x (List.mem_cons_of_mem _ hx)) (by omega)
      rw [List.append_assoc, List.length_append] at h2
      rw [List.take_length_add_append, h1]
      dsimp only
      rw [if_pos rfl, h2]
      dsimp only
      rw [if_neg (by decide)]
theorem rowB_flat (zs : List Int) : rowB zs = vb zs.length ++ flat zs := rfl
theorem rowG_put (zs : List Int) (pre rest : List Nat) (h : I64 zs) (hl : zs.length ≤ 1000) : rowG (pre ++ (rowB zs ++ rest)) (pre.length : Nat) (zs.length : Nat) = (zs, pre.length + (rowB zs).length, 0) := by
  have h1 := gotN_put (pre := pre) (rest := flat zs ++ rest) (n := zs.length) (by omega) (k := (pre.length : Nat)) rfl
  have h2 := gl_put zs (pre ++ vb zs.length) rest h
  rw [List.append_assoc, List.length_append] at h2
  rw [rowB_flat, List.append_assoc]
  unfold rowG
  rw [if_pos ⟨by omega, by rw [List.length_append]; omega, by omega⟩, h1]
  dsimp only
  rw [if_pos rfl, if_neg (by omega), h2, List.length_append, Nat.add_assoc]
theorem rowG_less (zs : List Int) (pre rest : List Nat) (hl : zs.length ≤ 1000) (h0 : 0 < zs.length) : rowG (pre ++ (rowB zs ++ rest)) (pre.length : Nat) ((zs.length : Nat) - 1) = ([], 0, 3) := by
  have h1 := gotN_put (pre := pre) (rest := flat zs ++ rest) (n := zs.length) (by omega) (k := (pre.length : Nat)) rfl
  rw [rowB_flat, List.append_assoc]
  unfold rowG
  rw [if_pos ⟨by omega, by rw [List.length_append]; omega, by omega⟩, h1]
  dsimp only
  rw [if_pos rfl, if_pos (by omega)]
theorem rowG_stop (zs : List Int) (pre : List Nat) (j : Nat) (h : I64 zs) (hl : zs.length ≤ 1000) (hj : j < (rowB zs).length) : rowG (pre ++ (rowB zs).take j) (pre.length : Nat) (zs.length : Nat) = ([], 0, 6) := by
  rw [rowB_flat] at hj ⊢
  rw [List.length_append] at hj
  unfold rowG
  rw [if_pos ⟨by omega, by rw [List.length_append]; omega, by omega⟩]
  by_cases hlt : j < (vb zs.length).length
  · rw [List.take_append_of_le_length (by omega), gotN_stop (by omega) hlt rfl]
    dsimp only
    rw [if_neg (by decide)]
  · obtain ⟨i, rfl⟩ : ∃ i, j = (vb zs.length).length + i := ⟨j - (vb zs.length).length, by omega⟩
    have h1 := gotN_put (pre := pre) (rest := (flat zs).take i) (n := zs.length) (by omega) (k := (pre.length : Nat)) rfl
    have h2 := gl_stop zs (pre ++ vb zs.length) i h (by omega)
    rw [List.append_assoc, List.length_append] at h2
    rw [List.take_length_add_append, h1]
    dsimp only
    rw [if_pos rfl, if_neg (by omega), h2]
end Go.Proofs.Ytcdkibpfgnmmfaa
