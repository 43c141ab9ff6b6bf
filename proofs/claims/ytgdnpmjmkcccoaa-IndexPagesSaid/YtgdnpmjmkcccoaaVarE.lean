/- Plain facts: the number whose bytes begin a row of bytes. No program. -/
import Derived.Test.YtgdnpmjmkcccoaaVarA
namespace Go.Proofs.Ytgdnpmjmkcccoaa.VB
/-- i bytes are read, of which n was made: the number, how many bytes it has, the error -/
def gv : Nat → Nat → List Nat → Nat × Nat × Int
  | _, _, [] => (0, 0, 6)
  | i, n, x :: l => if i = 9 ∧ 1 < x then (0, 0, 7) else if x = 0 ∧ 0 < i then (0, 0, 7) else if x < 128 then (n + x * 128 ^ i, i + 1, 0) else gv (i + 1) (n + x % 128 * 128 ^ i) l
theorem gv_nil (i n : Nat) : gv i n [] = (0, 0, 6) := rfl
theorem gv_form9 {n x : Nat} {l : List Nat} (h : 1 < x) : gv 9 n (x :: l) = (0, 0, 7) := by unfold gv; rw [if_pos ⟨rfl, h⟩]
theorem gv_form0 {i n : Nat} {l : List Nat} (h : 0 < i) : gv i n (0 :: l) = (0, 0, 7) := by
  unfold gv
  rw [if_neg (by omega), if_pos ⟨rfl, h⟩]
theorem gv_last {i n x : Nat} {l : List Nat} (h9 : i = 9 → x ≤ 1) (h : x < 128) (h0 : x = 0 → i = 0) : gv i n (x :: l) = (n + x * 128 ^ i, i + 1, 0) := by
  unfold gv
  rw [if_neg (by omega), if_neg (by omega), if_pos h]
theorem gv_more {i n x : Nat} {l : List Nat} (h9 : i ≠ 9) (h : ¬ x < 128) : gv i n (x :: l) = gv (i + 1) (n + x % 128 * 128 ^ i) l := by
  conv => lhs; unfold gv
  rw [if_neg (by omega), if_neg (by omega), if_neg h]
end Go.Proofs.Ytgdnpmjmkcccoaa.VB
