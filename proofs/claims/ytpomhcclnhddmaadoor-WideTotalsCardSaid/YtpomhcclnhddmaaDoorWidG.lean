/- Contracts of the package wide: Mul, Add, Sub, Neg. -/
import Derived.Test.YtpomhcclnhddmaaDoorWidF
namespace Go.Proofs.YtpomhcclnhddmaaDoor
open Go.RowKit Go.Shelf
set_option linter.unusedVariables false
theorem mul_in {a b : Int} (h0 : -9223372036854775808 ≤ a) (h1 : a ≤ 9223372036854775807) (h2 : -9223372036854775808 ≤ b) (h3 : b ≤ 9223372036854775807) : inW (a * b) := by
  have e1 : (a * b).natAbs = a.natAbs * b.natAbs := Int.natAbs_mul a b
  have e2 : a.natAbs * b.natAbs ≤ 9223372036854775808 * 9223372036854775808 := Nat.mul_le_mul (by omega) (by omega)
  omega
/-- a product's words -/
theorem mul_words {a b : Int} {ua ub : Nat} (ha : (ua : Int) = a % 18446744073709551616) (hb : (ub : Int) = b % 18446744073709551616) (h0 : -9223372036854775808 ≤ a) (h1 : a ≤ 9223372036854775807) (h2 : -9223372036854775808 ≤ b) (h3 : b ≤ 9223372036854775807) :
    (((ua * ub % 18446744073709551616 : Nat) : Int) = a * b % 18446744073709551616) ∧
    ((((ua * ub / 18446744073709551616 : Nat) : Int) - (if a < 0 then (ub : Int) else 0) - (if b < 0 then (ua : Int) else 0) + 9223372036854775808) % 18446744073709551616 - 9223372036854775808 = a * b / 18446744073709551616) := by
  have hi := mul_in h0 h1 h2 h3
  have ea : a = (ua : Int) - (if a < 0 then 18446744073709551616 else 0) := by split <;> omega
  have eb : b = (ub : Int) - (if b < 0 then 18446744073709551616 else 0) := by split <;> omega
  have hP : a * b = (ua : Int) * (ub : Int) - (if a < 0 then 18446744073709551616 * (ub : Int) else 0) - (if b < 0 then 18446744073709551616 * (ua : Int) else 0) + (if a < 0 ∧ b < 0 then 340282366920938463463374607431768211456 else 0) := by
    generalize hA : (ua : Int) = A at *
    generalize hB : (ub : Int) = B at *
    by_cases na : a < 0 <;> by_cases nb : b < 0 <;> simp only [na, nb, if_true, if_false, and_true, and_false, and_self] at ea eb ⊢ <;> rw [ea, eb] <;> simp only [Int.sub_mul, Int.mul_sub] <;> omega
  rw [← Int.natCast_mul] at hP
  generalize ua * ub = P at *
  generalize a * b = Z at *
  by_cases na : a < 0 <;> by_cases nb : b < 0 <;> simp only [na, nb, if_true, if_false, and_true, and_false, and_self] at hP ⊢ <;> omega
set_option maxRecDepth 100000 in
set_option maxHeartbeats 2000000 in
theorem mul_w (a b : Int) (h0 : -9223372036854775808 ≤ a) (h1 : a ≤ 9223372036854775807) (h2 : -9223372036854775808 ≤ b) (h3 : b ≤ 9223372036854775807) (w : World) :
    Calls Tryd.prog 24 #[.int .i64 a, .int .i64 b] w fun e w' => e = .returned (wV (a * b)) ∧ Below w.heap.size w w' := by
  obtain ⟨ua, hua⟩ : ∃ u : Nat, (u : Int) = a % 18446744073709551616 := ⟨(a % 18446744073709551616).toNat, by omega⟩
  obtain ⟨ub, hub⟩ : ∃ u : Nat, (u : Int) = b % 18446744073709551616 := ⟨(b % 18446744073709551616).toNat, by omega⟩
  have hw := mul_words hua hub h0 h1 h2 h3
  have hm := fun w => mul64_c ua ub (by omega) (by omega) w
  show Calls Tryd.prog 24 #[.int .i64 a, .int .i64 b] w fun e w' => e = .returned (wv (a * b / 18446744073709551616) (a * b % 18446744073709551616)) ∧ _
  rw [← hw.1]
  have hw2 := hw.2
  clear hw
  have hPb : ua * ub / 18446744073709551616 < 18446744073709551616 := by
    refine (Nat.div_lt_iff_lt_mul (by decide)).2 ?_
    have := Nat.mul_le_mul (show ua ≤ 18446744073709551615 by omega) (show ub ≤ 18446744073709551615 by omega)
    omega
  generalize a * b / 18446744073709551616 = s at *
  generalize ua * ub / 18446744073709551616 = ph at *
  generalize ua * ub % 18446744073709551616 = pl at *
  have e1 : IntKind.u64.wrap a = (ua : Nat) := by rw [hua]; exact IntKind.wrap_u64 a
  have e2 : IntKind.u64.wrap b = (ub : Nat) := by rw [hub]; exact IntKind.wrap_u64 b
  have hua' : ua < 18446744073709551616 := by omega
  have hub' : ub < 18446744073709551616 := by omega
  obtain ⟨v1, hv1⟩ : ∃ v : Int, v = (if a < 0 then ((ph : Int) - (ub : Int)) % 18446744073709551616 else ph) := ⟨_, rfl⟩
  obtain ⟨v2, hv2⟩ : ∃ v : Int, v = (if b < 0 then (v1 - (ua : Int)) % 18446744073709551616 else v1) := ⟨_, rfl⟩
  have hb1 : 0 ≤ v1 ∧ v1 < 18446744073709551616 := by rw [hv1]; split <;> omega
  have hb2 : 0 ≤ v2 ∧ v2 < 18446744073709551616 := by rw [hv2]; split <;> omega
  have hs : wrap64 v2 = s := by
    rw [← hw2]; unfold wrap64
    by_cases na : a < 0 <;> by_cases nb : b < 0 <;> simp only [na, nb, if_true, if_false] at hv1 hv2 ⊢ <;> omega
  have HM := Lib.hid hm
  have H1 := Lib.hid hv1
  have H2 := Lib.hid hv2
  clear hm hw2 hua hub hv1 hv2
  obtain ⟨hb10, hb11⟩ := hb1
  obtain ⟨hb20, hb21⟩ := hb2
  have K4 := Blk.new w 24 #[.int .i64 0, .int .u64 0]
  obtain ⟨c0, c1, f0, f1, hl⟩ := K4.two
  have KF := Lib.hid (K4.set2 (.int .i64 s) (.int .u64 (pl : Nat)))
  have HB := Lib.hid (((ba1 w (oW 0 0)).setCell (p := ⟨w.heap.size, 0, none⟩) (Nat.le_refl _) (.int .i64 s)).setCell (p := ⟨w.heap.size, 1, none⟩) (Nat.le_refl _) (.int .u64 (pl : Nat)))
  clear K4
  have HB0 := Lib.hid (ba1 w (oW s pl))
  have HK0 := Lib.hid (Blk.new w 24 #[.int .i64 s, .int .u64 (pl : Nat)])
  by_cases na : a < 0
  · have HV1 := H1.out
    rw [if_pos na] at HV1
    have g1 : IntKind.u64.wrap ((ph : Int) - (ub : Int)) = v1 := by rw [IntKind.wrap_u64, HV1]
    clear HV1
    by_cases nb : b < 0
    · have HV2 := H2.out
      rw [if_pos nb] at HV2
      have g2 : IntKind.u64.wrap (v1 - (ua : Int)) = v2 := by rw [IntKind.wrap_u64, HV2]
      clear HV2
      go_enter Tryd.func24, Tryd.ntmps24
      go_wp2_with fail
      refine (HM.out _).mono ?_
      rintro e w' ⟨rfl, rfl⟩
      go_wp2
      first | exact ret_w rfl rfl rfl HK0.out ⟨rfl, HB0.out⟩ | exact ret_w rfl rfl rfl KF.out ⟨rfl, HB.out⟩
    · have td : decide (b < 0) = false := decide_eq_false nb
      have HV2 := H2.out
      rw [if_neg nb] at HV2
      subst HV2
      go_enter Tryd.func24, Tryd.ntmps24
      go_wp2_with fail
      refine (HM.out _).mono ?_
      rintro e w' ⟨rfl, rfl⟩
      go_wp2
      first | exact ret_w rfl rfl rfl HK0.out ⟨rfl, HB0.out⟩ | exact ret_w rfl rfl rfl KF.out ⟨rfl, HB.out⟩
  · have tc : decide (a < 0) = false := decide_eq_false na
    have HV1 := H1.out
    rw [if_neg na] at HV1
    subst HV1
    by_cases nb : b < 0
    · have HV2 := H2.out
      rw [if_pos nb] at HV2
      have g2 : IntKind.u64.wrap ((ph : Int) - (ua : Int)) = v2 := by rw [IntKind.wrap_u64, HV2]
      clear HV2
      go_enter Tryd.func24, Tryd.ntmps24
      go_wp2_with fail
      refine (HM.out _).mono ?_
      rintro e w' ⟨rfl, rfl⟩
      go_wp2
      first | exact ret_w rfl rfl rfl HK0.out ⟨rfl, HB0.out⟩ | exact ret_w rfl rfl rfl KF.out ⟨rfl, HB.out⟩
    · have td : decide (b < 0) = false := decide_eq_false nb
      have HV2 := H2.out
      rw [if_neg nb] at HV2
      subst HV2
      go_enter Tryd.func24, Tryd.ntmps24
      go_wp2_with fail
      refine (HM.out _).mono ?_
      rintro e w' ⟨rfl, rfl⟩
      go_wp2
      first | exact ret_w rfl rfl rfl HK0.out ⟨rfl, HB0.out⟩ | exact ret_w rfl rfl rfl KF.out ⟨rfl, HB.out⟩
/-- a number told, or that it has no room -/
abbrev tW (x : Int) : Value := .tuple #[wV (if inW x then x else 0), .int .i64 (if inW x then 0 else 5)]
theorem told_c (x : Int) (w : World) : Calls Tryd.prog 43 #[wV (wr x), .bool (decide (inW x))] w fun e w' => e = .returned (tW x) ∧ Below w.heap.size w w' := by
  by_cases h : inW x
  · rw [decide_eq_true h, wr_id h]
    unfold tW
    rw [if_pos h, if_pos h]
    exact told_yes _ _ w
  · rw [decide_eq_false h]
    unfold tW
    rw [if_neg h, if_neg h]
    exact told_no _ _ w
theorem tW_words (x : Int) : ∃ h l k : Int, tW x = .tuple #[wv h l, .int .i64 k] := ⟨_, _, _, rfl⟩
set_option maxRecDepth 100000 in
set_option maxHeartbeats 1000000 in
theorem add_w (X Y : Int) (hX : inW X) (hY : inW Y) (w : World) : Calls Tryd.prog 14 #[wV X, wV Y] w fun e w' => e = .returned (tW (X + Y)) ∧ Below w.heap.size w w' := by
  have h1 : ∀ w, Calls Tryd.prog 44 #[wv (X / 18446744073709551616) (X % 18446744073709551616), wv (Y / 18446744073709551616) (Y % 18446744073709551616)] w fun e w' => e = .returned (.tuple #[wv (wr (X + Y) / 18446744073709551616) (wr (X + Y) % 18446744073709551616), .bool (decide (inW (X + Y)))]) ∧ Below w.heap.size w w' := fun w => sum_c X Y hX hY w
  have h2 : ∀ w, Calls Tryd.prog 43 #[wv (wr (X + Y) / 18446744073709551616) (wr (X + Y) % 18446744073709551616), .bool (decide (inW (X + Y)))] w fun e w' => e = .returned (tW (X + Y)) ∧ Below w.heap.size w w' := fun w => told_c (X + Y) w
  show Calls Tryd.prog 14 #[wv (X / 18446744073709551616) (X % 18446744073709551616), wv (Y / 18446744073709551616) (Y % 18446744073709551616)] w _
  obtain ⟨h, l, k, ht⟩ := tW_words (X + Y)
  rw [ht] at h2 ⊢
  clear ht hX hY
  generalize wr (X + Y) / 18446744073709551616 = s at *
  generalize wr (X + Y) % 18446744073709551616 = t at *
  generalize decide (inW (X + Y)) = F at *
  generalize X / 18446744073709551616 = a at *
  generalize X % 18446744073709551616 = b at *
  generalize Y / 18446744073709551616 = c at *
  generalize Y % 18446744073709551616 = d at *
  have H1 := Lib.hid h1
  have H2 := Lib.hid h2
  clear h1 h2
  have K4 := Blk.new_at (g := w.heap.size + 1 + 1) ((w.alloc (oW a b)).alloc (oW c d)) 24 #[.int .i64 0, .int .u64 0] (by simp)
  go_enter Tryd.func14, Tryd.ntmps14
  go_wp2_with fail
  refine (H1.out _).mono ?_
  rintro e w1 ⟨rfl, hb1⟩
  have K5 := K4.under hb1
  have hb1' := below_two (ba3 w (oW a b) (oW c d) (oW 0 0)) hb1
  clear K4 hb1
  go_wp2_with fail
  refine (H2.out _).mono ?_
  rintro e w2 ⟨rfl, hb2⟩
  have K6 := K5.under hb2
  obtain ⟨c0, c1, f0, f1, hl⟩ := K6.two
  have KF := Lib.hid (K6.set2 (.int .i64 h) (.int .u64 l))
  have HB := Lib.hid (((below_two hb1' hb2).setCell (p := ⟨w.heap.size + 1 + 1, 0, none⟩) (by simp only []; omega) (.int .i64 h)).setCell (p := ⟨w.heap.size + 1 + 1, 1, none⟩) (by simp only []; omega) (.int .u64 l))
  clear K5 K6 hb1' hb2 H1 H2
  go_wp2
  exact ret_wt rfl rfl rfl rfl KF.out ⟨rfl, HB.out⟩
set_option maxRecDepth 100000 in
set_option maxHeartbeats 1000000 in
theorem sub_w (X Y : Int) (hX : inW X) (hY : inW Y) (w : World) : Calls Tryd.prog 15 #[wV X, wV Y] w fun e w' => e = .returned (tW (X - Y)) ∧ Below w.heap.size w w' := by
  have h1 : ∀ w, Calls Tryd.prog 45 #[wv (X / 18446744073709551616) (X % 18446744073709551616), wv (Y / 18446744073709551616) (Y % 18446744073709551616)] w fun e w' => e = .returned (.tuple #[wv (wr (X - Y) / 18446744073709551616) (wr (X - Y) % 18446744073709551616), .bool (decide (inW (X - Y)))]) ∧ Below w.heap.size w w' := fun w => dif_c X Y hX hY w
  have h2 : ∀ w, Calls Tryd.prog 43 #[wv (wr (X - Y) / 18446744073709551616) (wr (X - Y) % 18446744073709551616), .bool (decide (inW (X - Y)))] w fun e w' => e = .returned (tW (X - Y)) ∧ Below w.heap.size w w' := fun w => told_c (X - Y) w
  show Calls Tryd.prog 15 #[wv (X / 18446744073709551616) (X % 18446744073709551616), wv (Y / 18446744073709551616) (Y % 18446744073709551616)] w _
  obtain ⟨h, l, k, ht⟩ := tW_words (X - Y)
  rw [ht] at h2 ⊢
  clear ht hX hY
  generalize wr (X - Y) / 18446744073709551616 = s at *
  generalize wr (X - Y) % 18446744073709551616 = t at *
  generalize decide (inW (X - Y)) = F at *
  generalize X / 18446744073709551616 = a at *
  generalize X % 18446744073709551616 = b at *
  generalize Y / 18446744073709551616 = c at *
  generalize Y % 18446744073709551616 = d at *
  have H1 := Lib.hid h1
  have H2 := Lib.hid h2
  clear h1 h2
  have K4 := Blk.new_at (g := w.heap.size + 1 + 1) ((w.alloc (oW a b)).alloc (oW c d)) 24 #[.int .i64 0, .int .u64 0] (by simp)
  go_enter Tryd.func15, Tryd.ntmps15
  go_wp2_with fail
  refine (H1.out _).mono ?_
  rintro e w1 ⟨rfl, hb1⟩
  have K5 := K4.under hb1
  have hb1' := below_two (ba3 w (oW a b) (oW c d) (oW 0 0)) hb1
  clear K4 hb1
  go_wp2_with fail
  refine (H2.out _).mono ?_
  rintro e w2 ⟨rfl, hb2⟩
  have K6 := K5.under hb2
  obtain ⟨c0, c1, f0, f1, hl⟩ := K6.two
  have KF := Lib.hid (K6.set2 (.int .i64 h) (.int .u64 l))
  have HB := Lib.hid (((below_two hb1' hb2).setCell (p := ⟨w.heap.size + 1 + 1, 0, none⟩) (by simp only []; omega) (.int .i64 h)).setCell (p := ⟨w.heap.size + 1 + 1, 1, none⟩) (by simp only []; omega) (.int .u64 l))
  clear K5 K6 hb1' hb2 H1 H2
  go_wp2
  exact ret_wt rfl rfl rfl rfl KF.out ⟨rfl, HB.out⟩
set_option maxRecDepth 100000 in
set_option maxHeartbeats 1000000 in
theorem neg_w (X : Int) (hX : inW X) (w : World) : Calls Tryd.prog 16 #[wV X] w fun e w' => e = .returned (tW (-X)) ∧ Below w.heap.size w w' := by
  have h1 : ∀ w, Calls Tryd.prog 45 #[wv 0 0, wv (X / 18446744073709551616) (X % 18446744073709551616)] w fun e w' => e = .returned (.tuple #[wv (wr (-X) / 18446744073709551616) (wr (-X) % 18446744073709551616), .bool (decide (inW (-X)))]) ∧ Below w.heap.size w w' := fun w => by
    have h := dif_c 0 X (by decide) hX w
    rw [show (0 : Int) - X = -X by omega] at h
    exact h
  have h2 : ∀ w, Calls Tryd.prog 43 #[wv (wr (-X) / 18446744073709551616) (wr (-X) % 18446744073709551616), .bool (decide (inW (-X)))] w fun e w' => e = .returned (tW (-X)) ∧ Below w.heap.size w w' := fun w => told_c (-X) w
  show Calls Tryd.prog 16 #[wv (X / 18446744073709551616) (X % 18446744073709551616)] w _
  obtain ⟨h, l, k, ht⟩ := tW_words (-X)
  rw [ht] at h2 ⊢
  clear ht hX
  generalize wr (-X) / 18446744073709551616 = s at *
  generalize wr (-X) % 18446744073709551616 = t at *
  generalize decide (inW (-X)) = F at *
  generalize X / 18446744073709551616 = a at *
  generalize X % 18446744073709551616 = b at *
  have H1 := Lib.hid h1
  have H2 := Lib.hid h2
  clear h1 h2
  have K4 := Blk.new_at (g := w.heap.size + 1) (w.alloc (oW a b)) 24 #[.int .i64 0, .int .u64 0] (by simp)
  go_enter Tryd.func16, Tryd.ntmps16
  go_wp2_with fail
  refine (H1.out _).mono ?_
  rintro e w1 ⟨rfl, hb1⟩
  have K5 := K4.under hb1
  have hb1' := below_two (ba2 w (oW a b) (oW 0 0)) hb1
  clear K4 hb1
  go_wp2_with fail
  refine (H2.out _).mono ?_
  rintro e w2 ⟨rfl, hb2⟩
  have K6 := K5.under hb2
  obtain ⟨c0, c1, f0, f1, hl⟩ := K6.two
  have KF := Lib.hid (K6.set2 (.int .i64 h) (.int .u64 l))
  have HB := Lib.hid (((below_two hb1' hb2).setCell (p := ⟨w.heap.size + 1, 0, none⟩) (by simp only []; omega) (.int .i64 h)).setCell (p := ⟨w.heap.size + 1, 1, none⟩) (by simp only []; omega) (.int .u64 l))
  clear K5 K6 hb1' hb2 H1 H2
  go_wp2
  exact ret_wt rfl rfl rfl rfl KF.out ⟨rfl, HB.out⟩
end Go.Proofs.YtpomhcclnhddmaaDoor
