/- Contracts of vary: gets, GetU, Get. -/
import Derived.Test.YtgdnpmjmkcccoaaVarD
import Derived.Test.YtgdnpmjmkcccoaaVarE
import Derived.WalkMore
namespace Go.Proofs.Ytgdnpmjmkcccoaa
open Go.RowKit Go.Shelf VB
set_option linter.unusedVariables false
/-- what is got from a place: the number's value, by f, and the place behind it, or the error -/
def RetG3 (k : IntKind) (v : Int) (p : Nat) (e : Int) (w : World) (d : Ending) (w' : World) : Prop := d = .returned (.tuple #[.int k (if e = 0 then v else 0), .int .i64 (if e = 0 then p else 0 : Nat), .int .i64 e]) ∧ w = w'
theorem bsV_at {w : World} {A : Option Addr} {bs : List Nat} {n : Nat} (h : Reads w 5 1 A n (bsV bs)) {k : Nat} (hk : k < n) : ∃ ad, A = some ad ∧ w.cell? (ad.add k) = some (.int .u8 (bs.getD k 0 : Nat)) := by
  obtain ⟨ad, u, e, h1, h2⟩ := h.at_ hk
  have hl : bs.length = n := by have := h.1; rw [bsV_len] at this; omega
  unfold bsV at h1
  rw [List.getElem?_map, List.getElem?_eq_getElem (by omega)] at h1
  cases h1
  exact ⟨ad, e, by rw [h2, List.getD_eq_getElem?_getD, List.getElem?_eq_getElem (by omega)]; rfl⟩
theorem and8 : ∀ x : Nat, x < 256 → bits .and .u8 (x : Int) 127 = ((x % 128 : Nat) : Int) := by decide +kernel
theorem or_step {acc y k : Nat} (ha : acc < 128 ^ k) (hy : y < 128) (hk : k ≤ 9) (hk9 : k = 9 → y ≤ 1) : bits .or .u64 (acc : Int) (IntKind.u64.wrap ((y : Int) * 2 ^ (7 * k))) = ((acc + y * 128 ^ k : Nat) : Int) := by
  have e1 : (128 : Nat) ^ k = 2 ^ (7 * k) := by rw [show (128 : Nat) = 2 ^ 7 from rfl, ← Nat.pow_mul]
  rw [e1] at ha ⊢
  have e2 : ((y : Int) * 2 ^ (7 * k)) = ((y * 2 ^ (7 * k) : Nat) : Int) := by push_cast; rfl
  have h1 : y * 2 ^ (7 * k) < 18446744073709551616 := by
    by_cases h : k = 9
    · have := hk9 h
      subst h
      obtain rfl | rfl : y = 0 ∨ y = 1 := by omega
      · decide
      · decide
    · have h2 : 2 ^ (7 * k) ≤ 2 ^ 56 := Nat.pow_le_pow_right (by decide) (by omega)
      have h3 := Nat.mul_le_mul (show y ≤ 127 by omega) h2
      omega
  have h2 : acc < 18446744073709551616 := Nat.lt_of_lt_of_le ha (Nat.le_trans (Nat.pow_le_pow_right (by decide) (show 7 * k ≤ 64 by omega)) (by decide))
  have e3 : IntKind.u64.wrap (((y * 2 ^ (7 * k) : Nat) : Int)) = ((y * 2 ^ (7 * k) : Nat) : Int) := by rw [IntKind.wrap_u64]; omega
  rw [e2, e3, u64_or_nat _ _ h2 h1, Nat.or_comm, Nat.mul_comm y]
  have := Nat.two_pow_add_eq_or_of_lt (i := 7 * k) (b := acc) ha y
  rw [← this, Nat.add_comm]
theorem acc_step {acc y k : Nat} (ha : acc < 128 ^ k) (hy : y < 128) : acc + y * 128 ^ k < 128 ^ (k + 1) := by
  have h := Nat.mul_le_mul_right (128 ^ k) (show y ≤ 127 by omega)
  rw [Nat.pow_succ]
  omega
theorem acc_lt {acc y k : Nat} (ha : acc < 128 ^ k) (hk : k ≤ 9) (hy : y < 128) (hk9 : k = 9 → y ≤ 1) : acc + y * 128 ^ k < 18446744073709551616 := by
  by_cases h : k = 9
  · have := hk9 h
    subst h
    obtain rfl | rfl : y = 0 ∨ y = 1 := by omega
    · omega
    · omega
  · exact Nat.lt_of_lt_of_le (acc_step ha hy) (Nat.le_trans (Nat.pow_le_pow_right (by decide) (show k + 1 ≤ 9 by omega)) (by decide))
theorem trip {a b c d : Nat} {x y : Int} (h : (a, b, x) = (c, d, y)) : a = c ∧ b = d ∧ x = y := by cases h; exact ⟨rfl, rfl, rfl⟩
set_option maxHeartbeats 400000 in
theorem getu1_c (z : Int) (w : World) : Calls Try.prog 111 #[.int .u64 z] w fun e w' => e = .returned (.int .u64 z) ∧ w = w' := by
  go_enter Try.func111, Try.ntmps111
  go_wp2
  go_ret
  exact ⟨rfl, rfl⟩
theorem ret3 {k : IntKind} {a b c d e : Int} (h : a = b) (h2 : c = d) : Ending.returned (.tuple #[.int k a, .int .i64 c, .int .i64 e]) = .returned (.tuple #[.int k b, .int .i64 d, .int .i64 e]) := by rw [h, h2]
theorem ret_i' {k : IntKind} {a b : Int} (h : a = b) : Ending.returned (.int k a) = .returned (.int k b) := by rw [h]
/-- the number with a sign for which one stands -/
def unf (v : Nat) : Int := if v % 2 = 0 then ((v / 2 : Nat) : Int) else -((v / 2 : Nat) : Int) - 1
theorem ofInt_i64 (a : Nat) (ha : a < 9223372036854775808) : (BitVec.ofInt 64 (a : Int)).toNat = a := by
  rw [BitVec.ofInt_natCast, BitVec.toNat_ofNat]; exact Nat.mod_eq_of_lt (by omega)
theorem xor_m1 (a : Nat) (ha : a < 9223372036854775808) : bits .xor .i64 (a : Int) (-1) = -1 - (a : Int) := by
  show IntKind.i64.wrap ((BitVec.ofInt 64 (a : Int) ^^^ BitVec.ofInt 64 (-1)).toNat : Int) = _
  rw [BitVec.toNat_xor, ofInt_i64 a ha, show (BitVec.ofInt 64 (-1)).toNat = 18446744073709551615 from rfl, xor_ones (by omega), IntKind.wrap_i64]
  omega
theorem xor_z (a : Nat) (ha : a < 9223372036854775808) : bits .xor .i64 (a : Int) 0 = (a : Int) := by
  show IntKind.i64.wrap ((BitVec.ofInt 64 (a : Int) ^^^ BitVec.ofInt 64 0).toNat : Int) = _
  rw [BitVec.toNat_xor, ofInt_i64 a ha, show (BitVec.ofInt 64 0).toNat = 0 from rfl, Nat.xor_zero, IntKind.wrap_i64]
  omega
theorem and1 (v : Nat) (h : v < 18446744073709551616) : bits .and .u64 (v : Int) 1 = ((v % 2 : Nat) : Int) := by
  have h2 := u64_and_nat v 1 h (by decide)
  rw [show ((1 : Nat) : Int) = 1 from rfl] at h2
  rw [h2, show 1 = 2 ^ 1 - 1 from rfl, Nat.and_two_pow_sub_one_eq_mod]
set_option maxHeartbeats 400000 in
theorem unfolded_c (v : Nat) (hv : v < 18446744073709551616) (w : World) : Calls Try.prog 137 #[.int .u64 (v : Nat)] w fun e w' => e = .returned (.int .i64 (unf v)) ∧ w = w' := by
  have hu : unf v = if v % 2 = 0 then ((v / 2 : Nat) : Int) else -((v / 2 : Nat) : Int) - 1 := rfl
  have ha := and1 v hv
  have h1 := xor_m1 (v / 2) (by omega)
  have h0 := xor_z (v / 2) (by omega)
  rw [show ((v / 2 : Nat) : Int) = (v : Int) / 2 from rfl] at h1 h0 hu
  have HU := Lib.hid hu
  clear hu
  by_cases hm : v % 2 = 0
  · have e1 : ((v % 2 : Nat) : Int) = 0 := by omega
    rw [e1] at ha
    have HM := Lib.hid hm
    clear hm e1
    go_enter Try.func137, Try.ntmps137
    go_wp2
    go_ret
    refine ⟨?_, rfl⟩
    rw [HU.out, if_pos HM.out, ← h0]
    first | rfl | (rw [h0]; rfl)
  · have e1 : ((v % 2 : Nat) : Int) = 1 := by omega
    rw [e1] at ha
    have HM := Lib.hid hm
    clear hm e1
    go_enter Try.func137, Try.ntmps137
    go_wp2
    go_ret
    refine ⟨?_, rfl⟩
    rw [HU.out, if_neg HM.out]
    exact ret_i' (by omega)
end Go.Proofs.Ytgdnpmjmkcccoaa
