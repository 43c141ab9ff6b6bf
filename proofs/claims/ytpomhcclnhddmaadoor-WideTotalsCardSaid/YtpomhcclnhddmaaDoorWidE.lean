/- Contracts of the package wide: size, parts. -/
import Derived.Test.YtpomhcclnhddmaaDoorWidC
namespace Go.Proofs.YtpomhcclnhddmaaDoor
open Go.RowKit Go.Shelf
set_option linter.unusedVariables false
theorem neg_words {a b : Int} (hb : 0 ≤ b) (hb' : b < 18446744073709551616) (ha : -9223372036854775808 ≤ a) (ha' : a < 0) : (0 - a % 18446744073709551616 - bor 0 b) % 18446744073709551616 = (-(a * 18446744073709551616 + b)) / 18446744073709551616 ∧ (0 - b) % 18446744073709551616 = (-(a * 18446744073709551616 + b)) % 18446744073709551616 := by
  have e := bor_div (b := 0) (d := b) (by decide) (by decide) hb hb'
  generalize bor 0 b = t at *
  omega
/-- how far a number is from 0, in two words -/
theorem size_c (X : Int) (hX : inW X) (w : World) :
    Calls Tryd.prog 48 #[wV X] w fun e w' => e = .returned (.tuple #[.int .u64 ((X.natAbs / 18446744073709551616 : Nat) : Int), .int .u64 ((X.natAbs % 18446744073709551616 : Nat) : Int)]) ∧ Below w.heap.size w w' := by
  obtain ⟨a0, a1⟩ := hi_in hX
  obtain ⟨b0, b1⟩ := lo_in X
  have hxg := hi_neg X
  have hx : X / 18446744073709551616 * 18446744073709551616 + X % 18446744073709551616 = X := by omega
  by_cases hn : X < 0
  · have hw := neg_words b0 b1 a0 (hxg.2 hn)
    rw [hx] at hw
    have e1 : ((X.natAbs / 18446744073709551616 : Nat) : Int) = (0 - X / 18446744073709551616 % 18446744073709551616 - bor 0 (X % 18446744073709551616)) % 18446744073709551616 := by rw [hw.1]; omega
    have e2 : ((X.natAbs % 18446744073709551616 : Nat) : Int) = (0 - X % 18446744073709551616) % 18446744073709551616 := by rw [hw.2]; omega
    rw [e1, e2]
    show Calls Tryd.prog 48 #[wv (X / 18446744073709551616) (X % 18446744073709551616)] w _
    have hn' := hxg.2 hn
    clear e1 e2 hw hx hxg hn hX
    generalize X / 18446744073709551616 = a at *
    generalize X % 18446744073709551616 = b at *
    obtain ⟨cy, hcy⟩ : ∃ z, z = bor 0 b := ⟨_, rfl⟩
    have q0 : 0 ≤ cy := by rw [hcy]; exact (bor_01 0 b).1
    have q1 : cy ≤ 1 := by rw [hcy]; exact (bor_01 0 b).2
    obtain ⟨ua, hua⟩ : ∃ z, z = a % 18446744073709551616 := ⟨_, rfl⟩
    rw [← hua, ← hcy]
    have e1 : IntKind.u64.wrap a = ua := by rw [hua]; exact IntKind.wrap_u64 a
    have f1 := fun w => sub64 0 b 0 (by decide) b0 b1 (by decide) (by decide) w
    rw [Int.sub_zero, Int.add_zero, show (if (0 : Int) < b then (1 : Int) else 0) = cy from hcy.symm] at f1
    have f2 := fun w => sub64 0 ua cy (by decide) (by omega) (by omega) q0 q1 w
    obtain ⟨c2, hc2⟩ : ∃ z : Int, z = if 0 < ua + cy then 1 else 0 := ⟨_, rfl⟩
    rw [← hc2] at f2
    obtain ⟨uh, huh⟩ : ∃ z, z = (0 - ua - cy) % 18446744073709551616 := ⟨_, rfl⟩
    rw [← huh] at f2 ⊢
    obtain ⟨ul, hul⟩ : ∃ z, z = (0 - b) % 18446744073709551616 := ⟨_, rfl⟩
    rw [← hul] at f1 ⊢
    have td : decide (0 ≤ a) = false := decide_eq_false (by omega)
    clear hua hcy hc2 huh hul
    go_enter Tryd.func48, Tryd.ntmps48
    go_wp2_with (first | simp only [f1] | simp only [f2])
    go_ret2
    exact ⟨rfl, ba1 _ _⟩
  · have e1 : ((X.natAbs / 18446744073709551616 : Nat) : Int) = X / 18446744073709551616 := by omega
    have e2 : ((X.natAbs % 18446744073709551616 : Nat) : Int) = X % 18446744073709551616 := by omega
    rw [e1, e2]
    show Calls Tryd.prog 48 #[wv (X / 18446744073709551616) (X % 18446744073709551616)] w _
    have hn' : 0 ≤ X / 18446744073709551616 := by omega
    clear e1 e2 hx hxg hn hX
    generalize X / 18446744073709551616 = a at *
    generalize X % 18446744073709551616 = b at *
    have e1 : IntKind.u64.wrap a = a := by rw [IntKind.wrap_u64]; omega
    go_enter Tryd.func48, Tryd.ntmps48
    go_upto_region 2 with fail
    go_quiet (fail)
    go_wp2
    go_ret2
    exact ⟨rfl, (ba1 w (oW a b)).os, (ba1 w (oW a b)).tape, (ba1 w (oW a b)).output, (ba1 w (oW a b)).size, (ba1 w (oW a b)).block⟩
theorem two_div {q Q : Nat} (h : Q < 18446744073709551616) : (q * 18446744073709551616 + Q) / 18446744073709551616 = q ∧ (q * 18446744073709551616 + Q) % 18446744073709551616 = Q := by omega
/-- how often a size has a number, and what is left -/
theorem parts_c (hi lo m : Nat) (hh : hi < 18446744073709551616) (hl : lo < 18446744073709551616) (hm : 0 < m) (hm' : m < 18446744073709551616) (w : World) :
    Calls Tryd.prog 54 #[.int .u64 (hi : Nat), .int .u64 (lo : Nat), .int .u64 (m : Nat)] w fun e w' => e = .returned (.tuple #[.int .u64 (((hi * 18446744073709551616 + lo) / m / 18446744073709551616 : Nat) : Int), .int .u64 (((hi * 18446744073709551616 + lo) / m % 18446744073709551616 : Nat) : Int), .int .u64 (((hi * 18446744073709551616 + lo) % m : Nat) : Int)]) ∧ ∃ q, w' = w.drewN q := by
  have hmod := Nat.mod_lt hi hm
  have hc := div64_c (hi % m) lo m hmod hl hm' w
  have hd := Nat.div_add_mod hi m
  have hq : (hi % m * 18446744073709551616 + lo) / m < 18446744073709551616 := (Nat.div_lt_iff_lt_mul hm).2 (by
    have h1 : (hi % m + 1) * 18446744073709551616 ≤ m * 18446744073709551616 := Nat.mul_le_mul_right _ hmod
    rw [Nat.mul_comm 18446744073709551616 m]
    omega)
  have e0 : hi * 18446744073709551616 + lo = m * (hi / m * 18446744073709551616) + (hi % m * 18446744073709551616 + lo) := by
    rw [← Nat.mul_assoc, ← Nat.add_assoc, ← Nat.add_mul, hd]
  have e1 : (hi * 18446744073709551616 + lo) / m = hi / m * 18446744073709551616 + (hi % m * 18446744073709551616 + lo) / m := by rw [e0, Nat.mul_add_div hm]
  have e2 : (hi * 18446744073709551616 + lo) % m = (hi % m * 18446744073709551616 + lo) % m := by rw [e0, Nat.mul_add_mod]
  rw [e1, e2]
  clear e0 e1 e2 hd hmod
  obtain ⟨q, hqq⟩ : ∃ q, q = hi / m := ⟨_, rfl⟩
  obtain ⟨r, hr⟩ : ∃ r, r = hi % m := ⟨_, rfl⟩
  rw [← hr] at hc hq ⊢
  have hqm : hi / m ≤ hi := Nat.div_le_self _ _
  rw [← hqq] at hqm ⊢
  have hrm : r ≤ hi := by rw [hr]; exact Nat.mod_le _ _
  have g1 : (hi : Int) / (m : Int) = (q : Nat) := by rw [hqq]; rfl
  have g2 : (hi : Int) % (m : Int) = (r : Nat) := by rw [hr]; rfl
  clear hqq hr
  obtain ⟨Q, hQ⟩ : ∃ Q, Q = (r * 18446744073709551616 + lo) / m := ⟨_, rfl⟩
  obtain ⟨R, hR⟩ : ∃ Q, Q = (r * 18446744073709551616 + lo) % m := ⟨_, rfl⟩
  rw [← hQ, ← hR] at hc ⊢
  rw [← hQ] at hq
  clear hQ hR
  obtain ⟨k1, k2⟩ := @two_div q Q hq
  rw [k1, k2]
  have t1 : ((m : Int) == 0) = false := beq_eq_false_iff_ne.2 (by omega)
  have g3 : IntKind.u64.wrap (q : Nat) = (q : Nat) := by rw [IntKind.wrap_u64]; omega
  have g4 : IntKind.u64.wrap (r : Nat) = (r : Nat) := by rw [IntKind.wrap_u64]; omega
  have H := Lib.hid hc
  clear hc hq k1 k2
  go_enter Tryd.func54, Tryd.ntmps54
  go_wp2_with fail
  refine H.out.mono ?_
  rintro e w' ⟨rfl, k, rfl⟩
  go_wp2_with fail
  go_ret3
  exact ⟨rfl, k, rfl⟩
end Go.Proofs.YtpomhcclnhddmaaDoor
