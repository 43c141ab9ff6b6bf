/- Walks of the laws over wide: WideBack. -/
import Derived.Test.YtpomhcclnhddmaaDoorWidO
import Derived.DataShut
namespace Go.Proofs.YtpomhcclnhddmaaDoor
open Go.RowKit Go.Shelf
open Go.Lib (hid)
set_option linter.unusedVariables false
theorem i64_wf {v : Int} (h : (Lit.int .i64 v).wf = true) : -9223372036854775808 ≤ v ∧ v ≤ 9223372036854775807 := by
  rw [Lit.wf_int_iff, IntKind.min_i64, IntKind.max_i64] at h; exact h
theorem u64_wf {v : Int} (h : (Lit.int .u64 v).wf = true) : 0 ≤ v ∧ v < 18446744073709551616 := by
  rw [Lit.wf_int_iff, IntKind.min_u64, IntKind.max_u64] at h; omega
/-- a number of 128 bits that came in, by its words -/
theorem wide_in {h l : Int} (hh : (Lit.int .i64 h).wf = true) (hl : (Lit.int .u64 l).wf = true) : ∃ X, inW X ∧ h = X / 18446744073709551616 ∧ l = X % 18446744073709551616 := by
  obtain ⟨a, b⟩ := i64_wf hh
  obtain ⟨c, d⟩ := u64_wf hl
  exact ⟨h * 18446744073709551616 + l, by omega, by omega, by omega⟩
theorem tW_yes {x : Int} (h : inW x) : tW x = .tuple #[wv (x / 18446744073709551616) (x % 18446744073709551616), .int .i64 0] := by unfold tW; rw [if_pos h, if_pos h]
theorem tW_no {x : Int} (h : ¬ inW x) : tW x = .tuple #[wv 0 0, .int .i64 5] := by
  unfold tW
  rw [if_neg h, if_neg h]
  unfold wV
  rw [show (0 : Int) / 18446744073709551616 = 0 by decide, show (0 : Int) % 18446744073709551616 = 0 by decide]
def hiW (x : Int) : Int := x / 18446744073709551616
def loW (x : Int) : Int := x % 18446744073709551616
section
variable (X Y : Int) (hX : inW X) (hY : inW Y) (w : World)
include hX hY
theorem add_yes (h : inW (X + Y)) : Calls Tryd.prog 14 #[wv (hiW X) (loW X), wv (hiW Y) (loW Y)] w fun e w' => e = .returned (.tuple #[wv (hiW (X + Y)) (loW (X + Y)), .int .i64 0]) ∧ Below w.heap.size w w' := by
  have := add_w X Y hX hY w
  rw [tW_yes h] at this
  exact this
theorem add_no (h : ¬ inW (X + Y)) : Calls Tryd.prog 14 #[wv (hiW X) (loW X), wv (hiW Y) (loW Y)] w fun e w' => e = .returned (.tuple #[wv 0 0, .int .i64 5]) ∧ Below w.heap.size w w' := by
  have := add_w X Y hX hY w
  rw [tW_no h] at this
  exact this
theorem sub_yes (h : inW (X - Y)) : Calls Tryd.prog 15 #[wv (hiW X) (loW X), wv (hiW Y) (loW Y)] w fun e w' => e = .returned (.tuple #[wv (hiW (X - Y)) (loW (X - Y)), .int .i64 0]) ∧ Below w.heap.size w w' := by
  have := sub_w X Y hX hY w
  rw [tW_yes h] at this
  exact this
end
theorem cmp_wv (X Y : Int) (w : World) : Calls Tryd.prog 29 #[wv (hiW X) (loW X), wv (hiW Y) (loW Y)] w fun e w' => e = .returned (.int .i64 (cmpV X Y)) ∧ Below w.heap.size w w' := compare_w X Y w
theorem neg_yes (X : Int) (hX : inW X) (w : World) (h : inW (-X)) : Calls Tryd.prog 16 #[wv (hiW X) (loW X)] w fun e w' => e = .returned (.tuple #[wv (hiW (-X)) (loW (-X)), .int .i64 0]) ∧ Below w.heap.size w w' := by
  have := neg_w X hX w
  rw [tW_yes h] at this
  exact this
theorem neg_no (X : Int) (hX : inW X) (w : World) (h : ¬ inW (-X)) : Calls Tryd.prog 16 #[wv (hiW X) (loW X)] w fun e w' => e = .returned (.tuple #[wv 0 0, .int .i64 5]) ∧ Below w.heap.size w w' := by
  have := neg_w X hX w
  rw [tW_no h] at this
  exact this
set_option maxRecDepth 100000 in
set_option maxHeartbeats 1000000 in
theorem wBack_core (x0a x0b x1a x1b : Int) (w : World) (w0a : (Lit.int .i64 x0a).wf = true) (w0b : (Lit.int .u64 x0b).wf = true) (w1a : (Lit.int .i64 x1a).wf = true) (w1b : (Lit.int .u64 x1b).wf = true) (htab : Tab w) :
    Calls Tryd.prog 4 #[wv x0a x0b, wv x1a x1b] w fun e w' => e = .returned (.bool true) ∧ Below w.heap.size w w' := by
  obtain ⟨X, hX, rfl, rfl⟩ := wide_in w0a w0b
  obtain ⟨Y, hY, rfl, rfl⟩ := wide_in w1a w1b
  clear w0a w0b w1a w1b
  show Calls Tryd.prog 4 #[wv (hiW X) (loW X), wv (hiW Y) (loW Y)] w _
  have HTAB := hid htab
  have HWK := hid (fun w h => wakes_c w h)
  clear htab
  have kb_a := ((Blk.new_at (g := w.heap.size) w 24 #[.int .i64 (hiW X), .int .u64 (loW X)] (by simp)).alloc (oW (hiW Y) (loW Y)))
  have kb_b := (Blk.new_at (g := w.heap.size + 1) (w.alloc (oW (hiW X) (loW X))) 24 #[.int .i64 (hiW Y), .int .u64 (loW Y)] (by simp))
  have hw0 := ba2 w (oW (hiW X) (loW X)) (oW (hiW Y) (loW Y))
  go_enter Tryd.func4, Tryd.ntmps4
  have ht1 := HTAB.out.below hw0
  go_wp2_with fail
  refine (HWK.out _ ht1).mono ?_
  rintro e w1 ⟨rfl, hb1⟩
  have kb_a_1 := (kb_a).under hb1
  have kb_b_1 := (kb_b).under hb1
  have hw1 := below_two hw0 hb1
  clear kb_a kb_b hw0 hb1 ht1
  obtain ⟨ca0_1, ca1_1, fa0_1, fa1_1, la_1⟩ := kb_a_1.two
  obtain ⟨cb0_1, cb1_1, fb0_1, fb1_1, lb_1⟩ := kb_b_1.two
  clear HWK
  by_cases hs : inW (X + Y)
  · have HA := hid (fun w => add_yes X Y hX hY w hs)
    have HA2 := hid (fun w => show Calls Tryd.prog 14 #[wv (hiW Y) (loW Y), wv (hiW X) (loW X)] w fun e w' => e = .returned (.tuple #[wv (hiW (X + Y)) (loW (X + Y)), .int .i64 0]) ∧ Below w.heap.size w w' from by have := add_yes Y X hY hX w (by rw [Int.add_comm]; exact hs); rw [Int.add_comm Y X] at this; exact this)
    have HB := hid (fun w => show Calls Tryd.prog 15 #[wv (hiW (X + Y)) (loW (X + Y)), wv (hiW Y) (loW Y)] w fun e w' => e = .returned (.tuple #[wv (hiW X) (loW X), .int .i64 0]) ∧ Below w.heap.size w w' from by have := sub_yes (X + Y) Y hs hY w (by rw [Int.add_sub_cancel]; exact hX); rw [Int.add_sub_cancel] at this; exact this)
    clear hs
    generalize hiW (X + Y) = ph at *
    generalize loW (X + Y) = pl at *
    generalize hiW Y = yh at *
    generalize loW Y = yl at *
    go_wp2_with fail
    refine (HA.out _).mono ?_
    rintro e w2 ⟨rfl, hb2⟩
    have kb_a_2 := (kb_a_1).under hb2
    have kb_b_2 := (kb_b_1).under hb2
    have hw2 := below_two hw1 hb2
    clear kb_a_1 kb_b_1 hw1 hb2
    clear ca0_1 ca1_1 fa0_1 fa1_1 la_1 cb0_1 cb1_1 fb0_1 fb1_1 lb_1
    obtain ⟨ca0_2, ca1_2, fa0_2, fa1_2, la_2⟩ := kb_a_2.two
    obtain ⟨cb0_2, cb1_2, fb0_2, fb1_2, lb_2⟩ := kb_b_2.two
    go_wp2_with fail
    refine (HA2.out _).mono ?_
    rintro e w3 ⟨rfl, hb3⟩
    have hp3 := below_alloc hw2 (Nat.le_refl _) (oW ph pl)
    have kb_a_3 := (kb_a_2.alloc (oW ph pl)).under hb3
    have kb_b_3 := (kb_b_2.alloc (oW ph pl)).under hb3
    have kb_p_3 := (Blk.new w2 24 #[.int .i64 ph, .int .u64 pl]).under hb3
    have hw3 := below_two hp3 hb3
    clear kb_a_2 kb_b_2 hw2 hp3 hb3
    clear ca0_2 ca1_2 fa0_2 fa1_2 la_2 cb0_2 cb1_2 fb0_2 fb1_2 lb_2
    obtain ⟨ca0_3, ca1_3, fa0_3, fa1_3, la_3⟩ := kb_a_3.two
    obtain ⟨cb0_3, cb1_3, fb0_3, fb1_3, lb_3⟩ := kb_b_3.two
    obtain ⟨cp0_3, cp1_3, fp0_3, fp1_3, lp_3⟩ := kb_p_3.two
    go_wp2_with fail
    refine (HB.out _).mono ?_
    rintro e w4 ⟨rfl, hb4⟩
    have hp4 := below_alloc hw3 (Nat.le_refl _) (oW ph pl)
    have kb_a_4 := (kb_a_3.alloc (oW ph pl)).under hb4
    have kb_b_4 := (kb_b_3.alloc (oW ph pl)).under hb4
    have kb_p_4 := (kb_p_3.alloc (oW ph pl)).under hb4
    have kb_q_4 := (Blk.new w3 24 #[.int .i64 ph, .int .u64 pl]).under hb4
    have hw4 := below_two hp4 hb4
    clear kb_a_3 kb_b_3 kb_p_3 hw3 hp4 hb4
    clear ca0_3 ca1_3 fa0_3 fa1_3 la_3 cb0_3 cb1_3 fb0_3 fb1_3 lb_3 cp0_3 cp1_3 fp0_3 fp1_3 lp_3
    obtain ⟨ca0_4, ca1_4, fa0_4, fa1_4, la_4⟩ := kb_a_4.two
    obtain ⟨cb0_4, cb1_4, fb0_4, fb1_4, lb_4⟩ := kb_b_4.two
    obtain ⟨cp0_4, cp1_4, fp0_4, fp1_4, lp_4⟩ := kb_p_4.two
    obtain ⟨cq0_4, cq1_4, fq0_4, fq1_4, lq_4⟩ := kb_q_4.two
    clear HA HA2 HB
    by_cases hn : inW (-X)
    · have HN := hid (fun w => neg_yes X hX w hn)
      have HN2 := hid (fun w => show Calls Tryd.prog 16 #[wv (hiW (-X)) (loW (-X))] w fun e w' => e = .returned (.tuple #[wv (hiW X) (loW X), .int .i64 0]) ∧ Below w.heap.size w w' from by have := neg_yes (-X) hn w (by rw [Int.neg_neg]; exact hX); rw [Int.neg_neg] at this; exact this)
      have HZ := hid (fun w => show Calls Tryd.prog 14 #[wv (hiW X) (loW X), wv (hiW (-X)) (loW (-X))] w fun e w' => e = .returned (.tuple #[wv 0 0, .int .i64 0]) ∧ Below w.heap.size w w' from by have := add_yes X (-X) hX hn w (by rw [Int.add_right_neg]; decide); rw [Int.add_right_neg] at this; exact this)
      clear hn hX hY
      generalize hiW (-X) = nh at *
      generalize loW (-X) = nl at *
      generalize hiW X = xh at *
      generalize loW X = xl at *
      go_wp2_with fail
      refine (HN.out _).mono ?_
      rintro e w5 ⟨rfl, hb5⟩
      have hp5 := below_alloc hw4 (Nat.le_refl _) (oW xh xl)
      have kb_a_5 := (kb_a_4.alloc (oW xh xl)).under hb5
      have kb_b_5 := (kb_b_4.alloc (oW xh xl)).under hb5
      have kb_p_5 := (kb_p_4.alloc (oW xh xl)).under hb5
      have kb_q_5 := (kb_q_4.alloc (oW xh xl)).under hb5
      have kb_k_5 := (Blk.new w4 24 #[.int .i64 xh, .int .u64 xl]).under hb5
      have hw5 := below_two hp5 hb5
      clear kb_a_4 kb_b_4 kb_p_4 kb_q_4 hw4 hp5 hb5
      clear ca0_4 ca1_4 fa0_4 fa1_4 la_4 cb0_4 cb1_4 fb0_4 fb1_4 lb_4 cp0_4 cp1_4 fp0_4 fp1_4 lp_4 cq0_4 cq1_4 fq0_4 fq1_4 lq_4
      obtain ⟨ca0_5, ca1_5, fa0_5, fa1_5, la_5⟩ := kb_a_5.two
      obtain ⟨cb0_5, cb1_5, fb0_5, fb1_5, lb_5⟩ := kb_b_5.two
      obtain ⟨cp0_5, cp1_5, fp0_5, fp1_5, lp_5⟩ := kb_p_5.two
      obtain ⟨cq0_5, cq1_5, fq0_5, fq1_5, lq_5⟩ := kb_q_5.two
      obtain ⟨ck0_5, ck1_5, fk0_5, fk1_5, lk_5⟩ := kb_k_5.two
      go_wp2_with fail
      refine (HN2.out _).mono ?_
      rintro e w6 ⟨rfl, hb6⟩
      have hp6 := below_alloc hw5 (Nat.le_refl _) (oW nh nl)
      have kb_a_6 := (kb_a_5.alloc (oW nh nl)).under hb6
      have kb_b_6 := (kb_b_5.alloc (oW nh nl)).under hb6
      have kb_p_6 := (kb_p_5.alloc (oW nh nl)).under hb6
      have kb_q_6 := (kb_q_5.alloc (oW nh nl)).under hb6
      have kb_k_6 := (kb_k_5.alloc (oW nh nl)).under hb6
      have kb_n_6 := (Blk.new w5 24 #[.int .i64 nh, .int .u64 nl]).under hb6
      have hw6 := below_two hp6 hb6
      clear kb_a_5 kb_b_5 kb_p_5 kb_q_5 kb_k_5 hw5 hp6 hb6
      clear ca0_5 ca1_5 fa0_5 fa1_5 la_5 cb0_5 cb1_5 fb0_5 fb1_5 lb_5 cp0_5 cp1_5 fp0_5 fp1_5 lp_5 cq0_5 cq1_5 fq0_5 fq1_5 lq_5 ck0_5 ck1_5 fk0_5 fk1_5 lk_5
      obtain ⟨ca0_6, ca1_6, fa0_6, fa1_6, la_6⟩ := kb_a_6.two
      obtain ⟨cb0_6, cb1_6, fb0_6, fb1_6, lb_6⟩ := kb_b_6.two
      obtain ⟨cp0_6, cp1_6, fp0_6, fp1_6, lp_6⟩ := kb_p_6.two
      obtain ⟨cq0_6, cq1_6, fq0_6, fq1_6, lq_6⟩ := kb_q_6.two
      obtain ⟨ck0_6, ck1_6, fk0_6, fk1_6, lk_6⟩ := kb_k_6.two
      obtain ⟨cn0_6, cn1_6, fn0_6, fn1_6, ln_6⟩ := kb_n_6.two
      go_wp2_with fail
      refine (HZ.out _).mono ?_
      rintro e w7 ⟨rfl, hb7⟩
      have hp7 := below_alloc hw6 (Nat.le_refl _) (oW xh xl)
      have kb_a_7 := (kb_a_6.alloc (oW xh xl)).under hb7
      have kb_b_7 := (kb_b_6.alloc (oW xh xl)).under hb7
      have kb_p_7 := (kb_p_6.alloc (oW xh xl)).under hb7
      have kb_q_7 := (kb_q_6.alloc (oW xh xl)).under hb7
      have kb_k_7 := (kb_k_6.alloc (oW xh xl)).under hb7
      have kb_n_7 := (kb_n_6.alloc (oW xh xl)).under hb7
      have kb_m_7 := (Blk.new w6 24 #[.int .i64 xh, .int .u64 xl]).under hb7
      have hw7 := below_two hp7 hb7
      clear kb_a_6 kb_b_6 kb_p_6 kb_q_6 kb_k_6 kb_n_6 hw6 hp7 hb7
      clear ca0_6 ca1_6 fa0_6 fa1_6 la_6 cb0_6 cb1_6 fb0_6 fb1_6 lb_6 cp0_6 cp1_6 fp0_6 fp1_6 lp_6 cq0_6 cq1_6 fq0_6 fq1_6 lq_6 ck0_6 ck1_6 fk0_6 fk1_6 lk_6 cn0_6 cn1_6 fn0_6 fn1_6 ln_6
      obtain ⟨ca0_7, ca1_7, fa0_7, fa1_7, la_7⟩ := kb_a_7.two
      obtain ⟨cb0_7, cb1_7, fb0_7, fb1_7, lb_7⟩ := kb_b_7.two
      obtain ⟨cp0_7, cp1_7, fp0_7, fp1_7, lp_7⟩ := kb_p_7.two
      obtain ⟨cq0_7, cq1_7, fq0_7, fq1_7, lq_7⟩ := kb_q_7.two
      obtain ⟨ck0_7, ck1_7, fk0_7, fk1_7, lk_7⟩ := kb_k_7.two
      obtain ⟨cn0_7, cn1_7, fn0_7, fn1_7, ln_7⟩ := kb_n_7.two
      obtain ⟨cm0_7, cm1_7, fm0_7, fm1_7, lm_7⟩ := kb_m_7.two
      go_wp2
      have hpe := below_alloc hw7 (Nat.le_refl _) (oW 0 0)
      go_ret
      exact ⟨rfl, hpe⟩
    · have hx : X = -170141183460469231731687303715884105728 := by omega
      have HN := hid (fun w => neg_no X hX w hn)
      have eh : hiW X = -9223372036854775808 := by rw [hx]; decide
      have el : loW X = 0 := by rw [hx]; decide
      clear hn hX hY hx
      generalize hiW X = xh at *
      generalize loW X = xl at *
      subst eh el
      go_wp2_with fail
      refine (HN.out _).mono ?_
      rintro e w5 ⟨rfl, hb5⟩
      have hp5 := below_alloc hw4 (Nat.le_refl _) (oW (-9223372036854775808) 0)
      have kb_a_5 := (kb_a_4.alloc (oW (-9223372036854775808) 0)).under hb5
      have kb_b_5 := (kb_b_4.alloc (oW (-9223372036854775808) 0)).under hb5
      have kb_p_5 := (kb_p_4.alloc (oW (-9223372036854775808) 0)).under hb5
      have kb_q_5 := (kb_q_4.alloc (oW (-9223372036854775808) 0)).under hb5
      have kb_k_5 := (Blk.new w4 24 #[.int .i64 (-9223372036854775808), .int .u64 0]).under hb5
      have hw5 := below_two hp5 hb5
      clear kb_a_4 kb_b_4 kb_p_4 kb_q_4 hw4 hp5 hb5
      clear ca0_4 ca1_4 fa0_4 fa1_4 la_4 cb0_4 cb1_4 fb0_4 fb1_4 lb_4 cp0_4 cp1_4 fp0_4 fp1_4 lp_4 cq0_4 cq1_4 fq0_4 fq1_4 lq_4
      obtain ⟨ca0_5, ca1_5, fa0_5, fa1_5, la_5⟩ := kb_a_5.two
      obtain ⟨cb0_5, cb1_5, fb0_5, fb1_5, lb_5⟩ := kb_b_5.two
      obtain ⟨cp0_5, cp1_5, fp0_5, fp1_5, lp_5⟩ := kb_p_5.two
      obtain ⟨cq0_5, cq1_5, fq0_5, fq1_5, lq_5⟩ := kb_q_5.two
      obtain ⟨ck0_5, ck1_5, fk0_5, fk1_5, lk_5⟩ := kb_k_5.two
      go_wp2
      have hpe := below_alloc hw5 (Nat.le_refl _) (oW 0 0)
      go_ret
      exact ⟨rfl, hpe⟩
  · have HA := hid (fun w => add_no X Y hX hY w hs)
    have HA2 := hid (fun w => add_no Y X hY hX w (by rw [Int.add_comm]; exact hs))
    clear hs
    generalize hiW Y = yh at *
    generalize loW Y = yl at *
    go_wp2_with fail
    refine (HA.out _).mono ?_
    rintro e w2 ⟨rfl, hb2⟩
    have kb_a_2 := (kb_a_1).under hb2
    have kb_b_2 := (kb_b_1).under hb2
    have hw2 := below_two hw1 hb2
    clear kb_a_1 kb_b_1 hw1 hb2
    clear ca0_1 ca1_1 fa0_1 fa1_1 la_1 cb0_1 cb1_1 fb0_1 fb1_1 lb_1
    obtain ⟨ca0_2, ca1_2, fa0_2, fa1_2, la_2⟩ := kb_a_2.two
    obtain ⟨cb0_2, cb1_2, fb0_2, fb1_2, lb_2⟩ := kb_b_2.two
    go_wp2_with fail
    refine (HA2.out _).mono ?_
    rintro e w3 ⟨rfl, hb3⟩
    have hp3 := below_alloc hw2 (Nat.le_refl _) (oW 0 0)
    have kb_a_3 := (kb_a_2.alloc (oW 0 0)).under hb3
    have kb_b_3 := (kb_b_2.alloc (oW 0 0)).under hb3
    have kb_p_3 := (Blk.new w2 24 #[.int .i64 0, .int .u64 0]).under hb3
    have hw3 := below_two hp3 hb3
    clear kb_a_2 kb_b_2 hw2 hp3 hb3
    clear ca0_2 ca1_2 fa0_2 fa1_2 la_2 cb0_2 cb1_2 fb0_2 fb1_2 lb_2
    obtain ⟨ca0_3, ca1_3, fa0_3, fa1_3, la_3⟩ := kb_a_3.two
    obtain ⟨cb0_3, cb1_3, fb0_3, fb1_3, lb_3⟩ := kb_b_3.two
    obtain ⟨cp0_3, cp1_3, fp0_3, fp1_3, lp_3⟩ := kb_p_3.two
    clear HA HA2
    by_cases hn : inW (-X)
    · have HN := hid (fun w => neg_yes X hX w hn)
      have HN2 := hid (fun w => show Calls Tryd.prog 16 #[wv (hiW (-X)) (loW (-X))] w fun e w' => e = .returned (.tuple #[wv (hiW X) (loW X), .int .i64 0]) ∧ Below w.heap.size w w' from by have := neg_yes (-X) hn w (by rw [Int.neg_neg]; exact hX); rw [Int.neg_neg] at this; exact this)
      have HZ := hid (fun w => show Calls Tryd.prog 14 #[wv (hiW X) (loW X), wv (hiW (-X)) (loW (-X))] w fun e w' => e = .returned (.tuple #[wv 0 0, .int .i64 0]) ∧ Below w.heap.size w w' from by have := add_yes X (-X) hX hn w (by rw [Int.add_right_neg]; decide); rw [Int.add_right_neg] at this; exact this)
      clear hn hX hY
      generalize hiW (-X) = nh at *
      generalize loW (-X) = nl at *
      generalize hiW X = xh at *
      generalize loW X = xl at *
      go_wp2_with fail
      refine (HN.out _).mono ?_
      rintro e w4 ⟨rfl, hb4⟩
      have hp4 := below_alloc hw3 (Nat.le_refl _) (oW 0 0)
      have kb_a_4 := (kb_a_3.alloc (oW 0 0)).under hb4
      have kb_b_4 := (kb_b_3.alloc (oW 0 0)).under hb4
      have kb_p_4 := (kb_p_3.alloc (oW 0 0)).under hb4
      have kb_q_4 := (Blk.new w3 24 #[.int .i64 0, .int .u64 0]).under hb4
      have hw4 := below_two hp4 hb4
      clear kb_a_3 kb_b_3 kb_p_3 hw3 hp4 hb4
      clear ca0_3 ca1_3 fa0_3 fa1_3 la_3 cb0_3 cb1_3 fb0_3 fb1_3 lb_3 cp0_3 cp1_3 fp0_3 fp1_3 lp_3
      obtain ⟨ca0_4, ca1_4, fa0_4, fa1_4, la_4⟩ := kb_a_4.two
      obtain ⟨cb0_4, cb1_4, fb0_4, fb1_4, lb_4⟩ := kb_b_4.two
      obtain ⟨cp0_4, cp1_4, fp0_4, fp1_4, lp_4⟩ := kb_p_4.two
      obtain ⟨cq0_4, cq1_4, fq0_4, fq1_4, lq_4⟩ := kb_q_4.two
      go_wp2_with fail
      refine (HN2.out _).mono ?_
      rintro e w5 ⟨rfl, hb5⟩
      have hp5 := below_alloc hw4 (Nat.le_refl _) (oW nh nl)
      have kb_a_5 := (kb_a_4.alloc (oW nh nl)).under hb5
      have kb_b_5 := (kb_b_4.alloc (oW nh nl)).under hb5
      have kb_p_5 := (kb_p_4.alloc (oW nh nl)).under hb5
      have kb_q_5 := (kb_q_4.alloc (oW nh nl)).under hb5
      have kb_n_5 := (Blk.new w4 24 #[.int .i64 nh, .int .u64 nl]).under hb5
      have hw5 := below_two hp5 hb5
      clear kb_a_4 kb_b_4 kb_p_4 kb_q_4 hw4 hp5 hb5
      clear ca0_4 ca1_4 fa0_4 fa1_4 la_4 cb0_4 cb1_4 fb0_4 fb1_4 lb_4 cp0_4 cp1_4 fp0_4 fp1_4 lp_4 cq0_4 cq1_4 fq0_4 fq1_4 lq_4
      obtain ⟨ca0_5, ca1_5, fa0_5, fa1_5, la_5⟩ := kb_a_5.two
      obtain ⟨cb0_5, cb1_5, fb0_5, fb1_5, lb_5⟩ := kb_b_5.two
      obtain ⟨cp0_5, cp1_5, fp0_5, fp1_5, lp_5⟩ := kb_p_5.two
      obtain ⟨cq0_5, cq1_5, fq0_5, fq1_5, lq_5⟩ := kb_q_5.two
      obtain ⟨cn0_5, cn1_5, fn0_5, fn1_5, ln_5⟩ := kb_n_5.two
      go_wp2_with fail
      refine (HZ.out _).mono ?_
      rintro e w6 ⟨rfl, hb6⟩
      have hp6 := below_alloc hw5 (Nat.le_refl _) (oW xh xl)
      have kb_a_6 := (kb_a_5.alloc (oW xh xl)).under hb6
      have kb_b_6 := (kb_b_5.alloc (oW xh xl)).under hb6
      have kb_p_6 := (kb_p_5.alloc (oW xh xl)).under hb6
      have kb_q_6 := (kb_q_5.alloc (oW xh xl)).under hb6
      have kb_n_6 := (kb_n_5.alloc (oW xh xl)).under hb6
      have kb_m_6 := (Blk.new w5 24 #[.int .i64 xh, .int .u64 xl]).under hb6
      have hw6 := below_two hp6 hb6
      clear kb_a_5 kb_b_5 kb_p_5 kb_q_5 kb_n_5 hw5 hp6 hb6
      clear ca0_5 ca1_5 fa0_5 fa1_5 la_5 cb0_5 cb1_5 fb0_5 fb1_5 lb_5 cp0_5 cp1_5 fp0_5 fp1_5 lp_5 cq0_5 cq1_5 fq0_5 fq1_5 lq_5 cn0_5 cn1_5 fn0_5 fn1_5 ln_5
      obtain ⟨ca0_6, ca1_6, fa0_6, fa1_6, la_6⟩ := kb_a_6.two
      obtain ⟨cb0_6, cb1_6, fb0_6, fb1_6, lb_6⟩ := kb_b_6.two
      obtain ⟨cp0_6, cp1_6, fp0_6, fp1_6, lp_6⟩ := kb_p_6.two
      obtain ⟨cq0_6, cq1_6, fq0_6, fq1_6, lq_6⟩ := kb_q_6.two
      obtain ⟨cn0_6, cn1_6, fn0_6, fn1_6, ln_6⟩ := kb_n_6.two
      obtain ⟨cm0_6, cm1_6, fm0_6, fm1_6, lm_6⟩ := kb_m_6.two
      go_wp2
      have hpe := below_alloc hw6 (Nat.le_refl _) (oW 0 0)
      go_ret
      exact ⟨rfl, hpe⟩
    · have hx : X = -170141183460469231731687303715884105728 := by omega
      have HN := hid (fun w => neg_no X hX w hn)
      have eh : hiW X = -9223372036854775808 := by rw [hx]; decide
      have el : loW X = 0 := by rw [hx]; decide
      clear hn hX hY hx
      generalize hiW X = xh at *
      generalize loW X = xl at *
      subst eh el
      go_wp2_with fail
      refine (HN.out _).mono ?_
      rintro e w4 ⟨rfl, hb4⟩
      have hp4 := below_alloc hw3 (Nat.le_refl _) (oW 0 0)
      have kb_a_4 := (kb_a_3.alloc (oW 0 0)).under hb4
      have kb_b_4 := (kb_b_3.alloc (oW 0 0)).under hb4
      have kb_p_4 := (kb_p_3.alloc (oW 0 0)).under hb4
      have kb_q_4 := (Blk.new w3 24 #[.int .i64 0, .int .u64 0]).under hb4
      have hw4 := below_two hp4 hb4
      clear kb_a_3 kb_b_3 kb_p_3 hw3 hp4 hb4
      clear ca0_3 ca1_3 fa0_3 fa1_3 la_3 cb0_3 cb1_3 fb0_3 fb1_3 lb_3 cp0_3 cp1_3 fp0_3 fp1_3 lp_3
      obtain ⟨ca0_4, ca1_4, fa0_4, fa1_4, la_4⟩ := kb_a_4.two
      obtain ⟨cb0_4, cb1_4, fb0_4, fb1_4, lb_4⟩ := kb_b_4.two
      obtain ⟨cp0_4, cp1_4, fp0_4, fp1_4, lp_4⟩ := kb_p_4.two
      obtain ⟨cq0_4, cq1_4, fq0_4, fq1_4, lq_4⟩ := kb_q_4.two
      go_wp2
      have hpe := below_alloc hw4 (Nat.le_refl _) (oW 0 0)
      go_ret
      exact ⟨rfl, hpe⟩
end Go.Proofs.YtpomhcclnhddmaaDoor
