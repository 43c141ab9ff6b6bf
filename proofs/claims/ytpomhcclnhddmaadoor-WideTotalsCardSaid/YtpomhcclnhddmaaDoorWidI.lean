/- Contracts of the package wide: Scale, Div. -/
import Derived.Test.YtpomhcclnhddmaaDoorWidH
namespace Go.Proofs.YtpomhcclnhddmaaDoor
open Go.RowKit Go.Shelf
set_option linter.unusedVariables false
theorem of_w (n : Int) (h0 : -9223372036854775808 ≤ n) (h1 : n ≤ 9223372036854775807) (w : World) : Calls Tryd.prog 23 #[.int .i64 n] w fun e w' => e = .returned (wV n) ∧ Below w.heap.size w w' := by
  have h := of_c n h0 h1 w
  rw [show n / 9223372036854775808 = n / 18446744073709551616 by omega] at h
  exact h
theorem signed_c (sg : Bool) (hi lo : Int) (h0 : 0 ≤ hi) (h1 : hi < 18446744073709551616) (l0 : 0 ≤ lo) (l1 : lo < 18446744073709551616) (w : World) :
    Calls Tryd.prog 51 #[.bool sg, .int .u64 hi, .int .u64 lo] w fun e w' => e = .returned (.tuple #[wV (wr (if sg then -(hi * 18446744073709551616 + lo) else hi * 18446744073709551616 + lo)), .bool (decide (inW (if sg then -(hi * 18446744073709551616 + lo) else hi * 18446744073709551616 + lo)))]) ∧ Below w.heap.size w w' := by
  cases sg
  · exact signed_no hi lo h0 h1 l0 l1 w
  · exact signed_yes hi lo h0 h1 l0 l1 w
theorem mul_nat {a b : Nat} (ha : a < 18446744073709551616) (hb : b < 18446744073709551616) : a * b / 18446744073709551616 < 18446744073709551616 := by
  refine (Nat.div_lt_iff_lt_mul (by decide)).2 ?_
  have := Nat.mul_le_mul (show a ≤ 18446744073709551615 by omega) (show b ≤ 18446744073709551615 by omega)
  omega
/-- a product of sizes, by words -/
theorem scale_nat {N T : Nat} : N * T = (N / 18446744073709551616 * T / 18446744073709551616 + (N / 18446744073709551616 * T % 18446744073709551616 + N % 18446744073709551616 * T / 18446744073709551616) / 18446744073709551616) * 340282366920938463463374607431768211456 +
    ((N / 18446744073709551616 * T % 18446744073709551616 + N % 18446744073709551616 * T / 18446744073709551616) % 18446744073709551616) * 18446744073709551616 + N % 18446744073709551616 * T % 18446744073709551616 := by
  have h := Nat.div_add_mod N 18446744073709551616
  have e : N * T = 18446744073709551616 * (N / 18446744073709551616 * T) + N % 18446744073709551616 * T := by
    rw [← Nat.mul_assoc, ← Nat.add_mul, h]
  rw [e]
  generalize N / 18446744073709551616 * T = p at *
  generalize N % 18446744073709551616 * T = q at *
  omega
/-- the sign of a product -/
theorem sign_mul (X n : Int) : X * n = if (decide (X < 0) != decide (n < 0)) = true then -((X.natAbs * n.natAbs : Nat) : Int) else ((X.natAbs * n.natAbs : Nat) : Int) := by
  rw [Int.natCast_mul]
  have e1 : (X.natAbs : Int) = if X < 0 then -X else X := by split <;> omega
  have e2 : (n.natAbs : Int) = if n < 0 then -n else n := by split <;> omega
  rw [e1, e2]
  by_cases h1 : X < 0 <;> by_cases h2 : n < 0 <;> simp [h1, h2, Int.neg_mul, Int.mul_neg]
set_option maxRecDepth 100000 in
set_option maxHeartbeats 400000 in
/-- the walk of Scale: whatever the words; ok: what is told -/
theorem scale_core (a b n hi lo T1 T2 T carry low over mid0 mid c s t rh rl rk : Int) (za zn F : Bool) (x y : Int) (w : World) (hza : decide (a < 0) = za) (hzn : decide (n < 0) = zn)
    (hs : ∀ w, Calls Tryd.prog 48 #[wv a b] w fun e w' => e = .returned (.tuple #[.int .u64 hi, .int .u64 lo]) ∧ Below w.heap.size w w')
    (ho : ∀ w, Calls Tryd.prog 23 #[.int .i64 n] w fun e w' => e = .returned (wv x y) ∧ Below w.heap.size w w')
    (ht : ∀ w, Calls Tryd.prog 48 #[wv x y] w fun e w' => e = .returned (.tuple #[.int .u64 T1, .int .u64 T]) ∧ Below w.heap.size w w')
    (hm1 : ∀ w, Calls Tryd.prog 49 #[.int .u64 lo, .int .u64 T] w fun e w' => e = .returned (.tuple #[.int .u64 carry, .int .u64 low]) ∧ w = w')
    (hm2 : ∀ w, Calls Tryd.prog 49 #[.int .u64 hi, .int .u64 T] w fun e w' => e = .returned (.tuple #[.int .u64 over, .int .u64 mid0]) ∧ w = w')
    (f1 : ∀ w, (callFunc 50 #[.int .u64 mid0, .int .u64 carry, .int .u64 0]).run Tryd.prog w = .ok (.value (.tuple #[.int .u64 mid, .int .u64 c])) w)
    (hg : ∀ w, Calls Tryd.prog 51 #[.bool (!(za == zn)), .int .u64 mid, .int .u64 low] w fun e w' => e = .returned (.tuple #[wv s t, .bool F]) ∧ Below w.heap.size w w')
    (hto : ∀ w, Calls Tryd.prog 43 #[wv s t, .bool (F && (over == 0) && (c == 0))] w fun e w' => e = .returned (.tuple #[wv rh rl, .int .i64 rk]) ∧ Below w.heap.size w w') :
    Calls Tryd.prog 22 #[wv a b, .int .i64 n] w fun e w' => e = .returned (.tuple #[wv rh rl, .int .i64 rk]) ∧ Below w.heap.size w w' := by
  have HS := Lib.hid hs
  have HO := Lib.hid ho
  have HT := Lib.hid ht
  have HM1 := Lib.hid hm1
  have HM2 := Lib.hid hm2
  have HG := Lib.hid hg
  have K2 := (Blk.new w 24 #[.int .i64 a, .int .u64 b]).alloc (oW 0 0)
  have K4 := Blk.new_at (g := w.heap.size + 1) (w.alloc (oW a b)) 24 #[.int .i64 0, .int .u64 0] (by simp)
  clear hs ho ht hm1 hm2 hg
  cases F
  · have HTO := Lib.hid hto
    clear hto
    go_enter Tryd.func22, Tryd.ntmps22
    go_wp2_with fail
    refine (HS.out _).mono ?_; rintro e w1 ⟨rfl, hb1⟩
    have hw1 := below_two (ba2 w (oW a b) (oW 0 0)) hb1
    have k2a := K2.under hb1
    have k4a := K4.under hb1
    clear K2 K4 hb1 HS
    go_wp2_with fail
    refine (HO.out _).mono ?_; rintro e w2 ⟨rfl, hb2⟩
    have hw2 := below_two hw1 hb2
    have k2b := k2a.under hb2
    have k4b := k4a.under hb2
    clear hw1 k2a k4a hb2 HO
    go_wp2_with fail
    refine (HT.out _).mono ?_; rintro e w3 ⟨rfl, hb3⟩
    have hw3 := below_two hw2 hb3
    have k2c := k2b.under hb3
    have k4c := k4b.under hb3
    clear hw2 k2b k4b hb3 HT
    go_wp2_with fail
    refine (HM1.out _).mono ?_; rintro e w' ⟨rfl, rfl⟩
    clear HM1
    go_wp2_with fail
    refine (HM2.out _).mono ?_; rintro e w' ⟨rfl, rfl⟩
    clear HM2
    obtain ⟨c20, c21, f20, f21, l2⟩ := k2c.two
    go_wp2_with fail
    refine (HG.out _).mono ?_; rintro e w4 ⟨rfl, hb4⟩
    have hw4 := below_two hw3 hb4
    have k4d := k4c.under hb4
    have k15 := Blk.new w4 24 #[.int .i64 s, .int .u64 t]
    have k4e := k4d.alloc (oW s t)
    have hw5 := below_alloc hw4 (Nat.le_refl _) (oW s t)
    obtain ⟨c150, c151, f150, f151, l15⟩ := k15.two
    clear hw3 hw4 k2c k4c hb4 HG c20 c21 f20 f21 l2 k4d k15
    go_wp2_with fail
    refine (HTO.out _).mono ?_; rintro e w6 ⟨rfl, hb6⟩
    have k4f := k4e.under hb6
    obtain ⟨c40, c41, f40, f41, l4⟩ := k4f.two
    have KF := Lib.hid (k4f.set2 (.int .i64 rh) (.int .u64 rl))
    have HB := Lib.hid (((below_two hw5 hb6).setCell (p := ⟨w.heap.size + 1, 0, none⟩) (by simp only []; omega) (.int .i64 rh)).setCell (p := ⟨w.heap.size + 1, 1, none⟩) (by simp only []; omega) (.int .u64 rl))
    clear hw5 k4e k4f hb6 HTO c150 c151 f150 f151 l15
    go_wp2
    exact ret_wt rfl rfl rfl rfl KF.out ⟨rfl, HB.out⟩
  · by_cases h1 : over = 0
    · have e1 : (over == 0) = true := beq_iff_eq.2 h1
      rw [e1] at hto
      by_cases h2 : c = 0
      · have e2 : (c == 0) = true := beq_iff_eq.2 h2
        rw [e2] at hto
        have HTO := Lib.hid hto
        clear hto h1 h2
        go_enter Tryd.func22, Tryd.ntmps22
        go_wp2_with fail
        refine (HS.out _).mono ?_; rintro e w1 ⟨rfl, hb1⟩
        have hw1 := below_two (ba2 w (oW a b) (oW 0 0)) hb1
        have k2a := K2.under hb1
        have k4a := K4.under hb1
        clear K2 K4 hb1 HS
        go_wp2_with fail
        refine (HO.out _).mono ?_; rintro e w2 ⟨rfl, hb2⟩
        have hw2 := below_two hw1 hb2
        have k2b := k2a.under hb2
        have k4b := k4a.under hb2
        clear hw1 k2a k4a hb2 HO
        go_wp2_with fail
        refine (HT.out _).mono ?_; rintro e w3 ⟨rfl, hb3⟩
        have hw3 := below_two hw2 hb3
        have k2c := k2b.under hb3
        have k4c := k4b.under hb3
        clear hw2 k2b k4b hb3 HT
        go_wp2_with fail
        refine (HM1.out _).mono ?_; rintro e w' ⟨rfl, rfl⟩
        clear HM1
        go_wp2_with fail
        refine (HM2.out _).mono ?_; rintro e w' ⟨rfl, rfl⟩
        clear HM2
        obtain ⟨c20, c21, f20, f21, l2⟩ := k2c.two
        go_wp2_with fail
        refine (HG.out _).mono ?_; rintro e w4 ⟨rfl, hb4⟩
        have hw4 := below_two hw3 hb4
        have k4d := k4c.under hb4
        have k15 := Blk.new w4 24 #[.int .i64 s, .int .u64 t]
        have k4e := k4d.alloc (oW s t)
        have hw5 := below_alloc hw4 (Nat.le_refl _) (oW s t)
        obtain ⟨c150, c151, f150, f151, l15⟩ := k15.two
        clear hw3 hw4 k2c k4c hb4 HG c20 c21 f20 f21 l2 k4d k15
        go_wp2_with fail
        refine (HTO.out _).mono ?_; rintro e w6 ⟨rfl, hb6⟩
        have k4f := k4e.under hb6
        obtain ⟨c40, c41, f40, f41, l4⟩ := k4f.two
        have KF := Lib.hid (k4f.set2 (.int .i64 rh) (.int .u64 rl))
        have HB := Lib.hid (((below_two hw5 hb6).setCell (p := ⟨w.heap.size + 1, 0, none⟩) (by simp only []; omega) (.int .i64 rh)).setCell (p := ⟨w.heap.size + 1, 1, none⟩) (by simp only []; omega) (.int .u64 rl))
        clear hw5 k4e k4f hb6 HTO c150 c151 f150 f151 l15
        go_wp2
        exact ret_wt rfl rfl rfl rfl KF.out ⟨rfl, HB.out⟩
      · have e2 : (c == 0) = false := beq_eq_false_iff_ne.2 h2
        rw [e2] at hto
        have HTO := Lib.hid hto
        clear hto h1 h2
        go_enter Tryd.func22, Tryd.ntmps22
        go_wp2_with fail
        refine (HS.out _).mono ?_; rintro e w1 ⟨rfl, hb1⟩
        have hw1 := below_two (ba2 w (oW a b) (oW 0 0)) hb1
        have k2a := K2.under hb1
        have k4a := K4.under hb1
        clear K2 K4 hb1 HS
        go_wp2_with fail
        refine (HO.out _).mono ?_; rintro e w2 ⟨rfl, hb2⟩
        have hw2 := below_two hw1 hb2
        have k2b := k2a.under hb2
        have k4b := k4a.under hb2
        clear hw1 k2a k4a hb2 HO
        go_wp2_with fail
        refine (HT.out _).mono ?_; rintro e w3 ⟨rfl, hb3⟩
        have hw3 := below_two hw2 hb3
        have k2c := k2b.under hb3
        have k4c := k4b.under hb3
        clear hw2 k2b k4b hb3 HT
        go_wp2_with fail
        refine (HM1.out _).mono ?_; rintro e w' ⟨rfl, rfl⟩
        clear HM1
        go_wp2_with fail
        refine (HM2.out _).mono ?_; rintro e w' ⟨rfl, rfl⟩
        clear HM2
        obtain ⟨c20, c21, f20, f21, l2⟩ := k2c.two
        go_wp2_with fail
        refine (HG.out _).mono ?_; rintro e w4 ⟨rfl, hb4⟩
        have hw4 := below_two hw3 hb4
        have k4d := k4c.under hb4
        have k15 := Blk.new w4 24 #[.int .i64 s, .int .u64 t]
        have k4e := k4d.alloc (oW s t)
        have hw5 := below_alloc hw4 (Nat.le_refl _) (oW s t)
        obtain ⟨c150, c151, f150, f151, l15⟩ := k15.two
        clear hw3 hw4 k2c k4c hb4 HG c20 c21 f20 f21 l2 k4d k15
        go_wp2_with fail
        refine (HTO.out _).mono ?_; rintro e w6 ⟨rfl, hb6⟩
        have k4f := k4e.under hb6
        obtain ⟨c40, c41, f40, f41, l4⟩ := k4f.two
        have KF := Lib.hid (k4f.set2 (.int .i64 rh) (.int .u64 rl))
        have HB := Lib.hid (((below_two hw5 hb6).setCell (p := ⟨w.heap.size + 1, 0, none⟩) (by simp only []; omega) (.int .i64 rh)).setCell (p := ⟨w.heap.size + 1, 1, none⟩) (by simp only []; omega) (.int .u64 rl))
        clear hw5 k4e k4f hb6 HTO c150 c151 f150 f151 l15
        go_wp2
        exact ret_wt rfl rfl rfl rfl KF.out ⟨rfl, HB.out⟩
    · have e1 : (over == 0) = false := beq_eq_false_iff_ne.2 h1
      rw [e1] at hto
      have HTO := Lib.hid hto
      clear hto h1
      go_enter Tryd.func22, Tryd.ntmps22
      go_wp2_with fail
      refine (HS.out _).mono ?_; rintro e w1 ⟨rfl, hb1⟩
      have hw1 := below_two (ba2 w (oW a b) (oW 0 0)) hb1
      have k2a := K2.under hb1
      have k4a := K4.under hb1
      clear K2 K4 hb1 HS
      go_wp2_with fail
      refine (HO.out _).mono ?_; rintro e w2 ⟨rfl, hb2⟩
      have hw2 := below_two hw1 hb2
      have k2b := k2a.under hb2
      have k4b := k4a.under hb2
      clear hw1 k2a k4a hb2 HO
      go_wp2_with fail
      refine (HT.out _).mono ?_; rintro e w3 ⟨rfl, hb3⟩
      have hw3 := below_two hw2 hb3
      have k2c := k2b.under hb3
      have k4c := k4b.under hb3
      clear hw2 k2b k4b hb3 HT
      go_wp2_with fail
      refine (HM1.out _).mono ?_; rintro e w' ⟨rfl, rfl⟩
      clear HM1
      go_wp2_with fail
      refine (HM2.out _).mono ?_; rintro e w' ⟨rfl, rfl⟩
      clear HM2
      obtain ⟨c20, c21, f20, f21, l2⟩ := k2c.two
      go_wp2_with fail
      refine (HG.out _).mono ?_; rintro e w4 ⟨rfl, hb4⟩
      have hw4 := below_two hw3 hb4
      have k4d := k4c.under hb4
      have k15 := Blk.new w4 24 #[.int .i64 s, .int .u64 t]
      have k4e := k4d.alloc (oW s t)
      have hw5 := below_alloc hw4 (Nat.le_refl _) (oW s t)
      obtain ⟨c150, c151, f150, f151, l15⟩ := k15.two
      clear hw3 hw4 k2c k4c hb4 HG c20 c21 f20 f21 l2 k4d k15
      go_wp2_with fail
      refine (HTO.out _).mono ?_; rintro e w6 ⟨rfl, hb6⟩
      have k4f := k4e.under hb6
      obtain ⟨c40, c41, f40, f41, l4⟩ := k4f.two
      have KF := Lib.hid (k4f.set2 (.int .i64 rh) (.int .u64 rl))
      have HB := Lib.hid (((below_two hw5 hb6).setCell (p := ⟨w.heap.size + 1, 0, none⟩) (by simp only []; omega) (.int .i64 rh)).setCell (p := ⟨w.heap.size + 1, 1, none⟩) (by simp only []; omega) (.int .u64 rl))
      clear hw5 k4e k4f hb6 HTO c150 c151 f150 f151 l15
      go_wp2
      exact ret_wt rfl rfl rfl rfl KF.out ⟨rfl, HB.out⟩
end Go.Proofs.YtpomhcclnhddmaaDoor
