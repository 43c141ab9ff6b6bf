/- Contracts of the package wide: Div, joined. -/
import Derived.Test.YtpomhcclnhddmaaDoorWidK
namespace Go.Proofs.YtpomhcclnhddmaaDoor
open Go.RowKit Go.Shelf
set_option linter.unusedVariables false
set_option maxHeartbeats 1000000 in
theorem div_bad (X m : Int) (hm : m < 1) (w : World) :
    Calls Tryd.prog 30 #[wV X, .int .i64 m] w fun e w' => e = .returned (.tuple #[wV 0, .int .i64 0, .int .i64 2]) ∧ Below w.heap.size w w' := by
  show Calls Tryd.prog 30 #[wv (X / 18446744073709551616) (X % 18446744073709551616), .int .i64 m] w fun e w' => e = .returned (.tuple #[wv 0 0, .int .i64 0, .int .i64 2]) ∧ Below w.heap.size w w'
  generalize X / 18446744073709551616 = a
  generalize X % 18446744073709551616 = b
  have HB := Lib.hid (ba2 w (oW a b) (oW 0 0))
  have HK := Lib.hid (Blk.new_at (g := w.heap.size + 1) (w.alloc (oW a b)) 24 #[.int .i64 0, .int .u64 0] (by simp))
  go_enter Tryd.func30, Tryd.ntmps30
  go_wp2
  exact ret_wtt rfl rfl rfl rfl rfl HK.out ⟨rfl, HB.out⟩
theorem nat_words (N : Nat) : N / 18446744073709551616 * 18446744073709551616 + N % 18446744073709551616 = N := by omega
theorem int_words (Q : Nat) : ((Q / 18446744073709551616 : Nat) : Int) * 18446744073709551616 + ((Q % 18446744073709551616 : Nat) : Int) = (Q : Int) := by omega
set_option maxHeartbeats 1000000 in
theorem div_w (X m : Int) (hX : inW X) (hm : 1 ≤ m) (hm' : m ≤ 9223372036854775807) (w : World) :
    Calls Tryd.prog 30 #[wV X, .int .i64 m] w fun e w' => e = .returned (.tuple #[wV (X / m), .int .i64 (X % m), .int .i64 0]) ∧ Below w.heap.size w w' := by
  obtain ⟨k, rfl⟩ := Int.eq_ofNat_of_zero_le (show 0 ≤ m by omega)
  have hk : 0 < k := by omega
  obtain ⟨p1, p2, p3⟩ := div_plain X k hk
  have hN : X.natAbs ≤ 170141183460469231731687303715884105728 := by omega
  have hsz := fun w => size_c X hX w
  have n1 : X.natAbs / 18446744073709551616 < 18446744073709551616 := by omega
  have n2 : X.natAbs % 18446744073709551616 < 18446744073709551616 := by omega
  have n3 : k < 18446744073709551616 := by omega
  have hR := Nat.mod_lt X.natAbs hk
  have hQ : X.natAbs / k ≤ X.natAbs := Nat.div_le_self _ _
  have hQ1 : X < 0 → X.natAbs % k ≠ 0 → X.natAbs / k < X.natAbs := fun _ h0 => by
    have h2 : 2 ≤ k := by
      rcases Nat.lt_or_ge k 2 with h | h
      · have : k = 1 := by omega
        subst this
        exact absurd (Nat.mod_one _) h0
      · exact h
    exact Nat.div_lt_self (by rcases Nat.eq_zero_or_pos X.natAbs with h | h; · rw [h] at h0; exact absurd (Nat.zero_mod k) h0
                              · exact h) h2
  have hng : decide (X / 18446744073709551616 < 0) = decide (X < 0) := decide_eq_decide.2 (hi_neg X)
  have hpa := fun w => parts_c (X.natAbs / 18446744073709551616) (X.natAbs % 18446744073709551616) k n1 n2 hk n3 w
  rw [nat_words] at hpa
  have n4 : X.natAbs / k / 18446744073709551616 < 18446744073709551616 := by generalize X.natAbs / k = Q at *; omega
  have n5 : X.natAbs / k % 18446744073709551616 < 18446744073709551616 := Nat.mod_lt _ (by decide)
  have hsg := fun w => signed_c (decide (X < 0)) ((X.natAbs / k / 18446744073709551616 : Nat) : Int) ((X.natAbs / k % 18446744073709551616 : Nat) : Int) (Int.natCast_nonneg _) (Int.ofNat_lt.2 n4) (Int.natCast_nonneg _) (Int.ofNat_lt.2 n5) w
  rw [int_words] at hsg
  have hof := fun w => of_w 1 (by decide) (by decide) w
  have hdf := fun w => dif_c (wr (if decide (X < 0) = true then -((X.natAbs / k : Nat) : Int) else ((X.natAbs / k : Nat) : Int))) 1 (wr_in _) (by decide) w
  have h := div_core (X / 18446744073709551616) (X % 18446744073709551616) (k : Int) _ _ _ _ ((X.natAbs % k : Nat) : Int) _ _ _ _ _ _ _ w hng hm hm' (by omega) (by omega) hsz hpa hsg hof hdf
  refine h.mono ?_
  rintro e w' ⟨rfl, hb⟩
  refine ⟨?_, hb⟩
  clear h hdf hof hsg hpa hsz
  generalize X.natAbs / k = Q at *
  generalize X.natAbs % k = R at *
  by_cases hx : X < 0
  · rw [decide_eq_true hx]
    by_cases h0 : R = 0
    · obtain ⟨e1, e2⟩ := p2 hx h0
      have hc : (0 < (R : Int)) = False := by simp [h0]
      simp only [hc, and_false, if_false, if_true]
      rw [wr_id (by omega), e1, e2, h0]
      rfl
    · obtain ⟨e1, e2⟩ := p3 hx h0
      have := hQ1 hx h0
      have hc : (0 < (R : Int)) = True := by simp; omega
      simp only [hc, and_true, if_true]
      rw [wr_id (x := -(Q : Int)) (by omega), wr_id (by omega), e1, e2]
  · rw [decide_eq_false hx]
    obtain ⟨e1, e2⟩ := p1 (by omega)
    simp only [false_and, if_false, Bool.false_eq_true]
    rw [wr_id (by omega), e1, e2]
end Go.Proofs.YtpomhcclnhddmaaDoor
