/- Contracts of the package wide: Div. -/
import Derived.Test.YtpomhcclnhddmaaDoorWidJ
import Derived.Deep.RegionWith
namespace Go.Proofs.YtpomhcclnhddmaaDoor
open Go.RowKit Go.Shelf
set_option linter.unusedVariables false
theorem div_uniq {X q r m : Int} (hm : 0 < m) (h : X = q * m + r) (h0 : 0 ≤ r) (h1 : r < m) : X / m = q ∧ X % m = r :=
  (Int.ediv_emod_unique hm).2 ⟨by rw [h, Int.mul_comm]; omega, h0, h1⟩
theorem div_plain (X : Int) (m : Nat) (hm : 0 < m) : (0 ≤ X → X / m = (X.natAbs / m : Nat) ∧ X % m = (X.natAbs % m : Nat)) ∧
    (X < 0 → X.natAbs % m = 0 → X / m = -((X.natAbs / m : Nat) : Int) ∧ X % m = 0) ∧ (X < 0 → X.natAbs % m ≠ 0 → X / m = -((X.natAbs / m : Nat) : Int) - 1 ∧ X % m = (m : Int) - (X.natAbs % m : Nat)) := by
  have h := Nat.div_add_mod X.natAbs m
  have hr := Nat.mod_lt X.natAbs hm
  have e : (X.natAbs : Int) = ((X.natAbs / m : Nat) : Int) * (m : Int) + ((X.natAbs % m : Nat) : Int) := by
    rw [← Int.natCast_mul, Nat.mul_comm, ← Int.natCast_add, h]
  generalize X.natAbs % m = R at *
  generalize hQ : X.natAbs / m = Q at *
  refine ⟨fun hx => ?_, fun hx h0 => ?_, fun hx h0 => ?_⟩
  · exact div_uniq (by omega) (by omega) (by omega) (by omega)
  · exact div_uniq (by omega) (by rw [Int.neg_mul]; omega) (by omega) (by omega)
  · refine div_uniq (by omega) ?_ (by omega) (by omega)
    rw [Int.sub_mul, Int.neg_mul, Int.one_mul]
    omega
set_option maxRecDepth 100000 in
set_option maxHeartbeats 1000000 in
theorem div_core (a b m hi lo qh ql R s t s2 t2 : Int) (za F F2 : Bool) (w : World) (hza : decide (a < 0) = za) (hm : 1 ≤ m) (hm' : m ≤ 9223372036854775807) (hR0 : 0 ≤ R) (hRm : R < m)
    (hs : ∀ w, Calls Tryd.prog 48 #[wv a b] w fun e w' => e = .returned (.tuple #[.int .u64 hi, .int .u64 lo]) ∧ Below w.heap.size w w')
    (hp : ∀ w, Calls Tryd.prog 54 #[.int .u64 hi, .int .u64 lo, .int .u64 m] w fun e w' => e = .returned (.tuple #[.int .u64 qh, .int .u64 ql, .int .u64 R]) ∧ ∃ q, w' = w.drewN q)
    (hg : ∀ w, Calls Tryd.prog 51 #[.bool za, .int .u64 qh, .int .u64 ql] w fun e w' => e = .returned (.tuple #[wv s t, .bool F]) ∧ Below w.heap.size w w')
    (ho : ∀ w, Calls Tryd.prog 23 #[.int .i64 1] w fun e w' => e = .returned (wv 0 1) ∧ Below w.heap.size w w')
    (hd : ∀ w, Calls Tryd.prog 45 #[wv s t, wv 0 1] w fun e w' => e = .returned (.tuple #[wv s2 t2, .bool F2]) ∧ Below w.heap.size w w') :
    Calls Tryd.prog 30 #[wv a b, .int .i64 m] w fun e w' => e = .returned (.tuple #[wv (if za = true ∧ 0 < R then s2 else s) (if za = true ∧ 0 < R then t2 else t), .int .i64 (if za = true ∧ 0 < R then m - R else R), .int .i64 0]) ∧ Below w.heap.size w w' := by
  have HS := Lib.hid hs
  have HP := Lib.hid hp
  have HG := Lib.hid hg
  have HO := Lib.hid ho
  have HD := Lib.hid hd
  have K2 := (Blk.new w 24 #[.int .i64 a, .int .u64 b]).alloc (oW 0 0)
  have K4 := Blk.new_at (g := w.heap.size + 1) (w.alloc (oW a b)) 24 #[.int .i64 0, .int .u64 0] (by simp)
  have e1 : IntKind.u64.wrap m = m := by rw [IntKind.wrap_u64]; omega
  have tm : decide (m < 1) = false := decide_eq_false (by omega)
  have e2 : wrap64 R = R := by unfold wrap64; omega
  clear hs hp hg ho hd
  cases za
  · rw [if_neg (by simp), if_neg (by simp), if_neg (by simp)]
    go_enter Tryd.func30, Tryd.ntmps30
    go_wp2_with fail
    refine (HS.out _).mono ?_; rintro e w1 ⟨rfl, hb1⟩
    have hw1 := below_two (ba2 w (oW a b) (oW 0 0)) hb1
    have k2a := K2.under hb1
    have k4a := K4.under hb1
    clear K2 K4 hb1 HS
    go_wp2_with fail
    refine (HP.out _).mono ?_; rintro e w2 ⟨rfl, nq, rfl⟩
    have hw2 : Below w.heap.size w (w1.drewN nq) := ⟨hw1.os, hw1.tape, hw1.output, hw1.size, hw1.block⟩
    have k2b := k2a.drewN nq
    have k4b := k4a.drewN nq
    clear hw1 k2a k4a HP
    generalize w1.drewN nq = w2 at *
    obtain ⟨c20, c21, f20, f21, l2⟩ := k2b.two
    go_wp2_with fail
    refine (HG.out _).mono ?_; rintro e w4 ⟨rfl, hb4⟩
    have hw4 := below_two hw2 hb4
    have k2c := (k2b.under hb4).alloc (oW s t)
    have k4c := (k4b.under hb4).alloc (oW s t)
    have k10 := Blk.new w4 24 #[.int .i64 s, .int .u64 t]
    have hw5 := below_alloc hw4 (Nat.le_refl _) (oW s t)
    have hg10 : w.heap.size + 1 < w4.heap.size := by have := k4b.under hb4; have := this.lt; omega
    clear hw2 hw4 k2b k4b hb4 HG c20 c21 f20 f21 l2
    go_upto_region 6 with fail
    generalize hgg : w4.heap.size = g10 at *
    generalize w4.alloc (oW s t) = w5 at *
    clear hgg
    obtain ⟨c20, c21, f20, f21, l2⟩ := k2c.two
    obtain ⟨c10, c11, f10, f11, l10⟩ := k10.two
    have K4F := k4c
    have HW := hw5
    clear k4c hw5 HO HD k2c k10
    obtain ⟨c40, c41, f40, f41, l4⟩ := K4F.two
    have KF := Lib.hid (K4F.set2 (.int .i64 s) (.int .u64 t))
    have HB := Lib.hid ((HW.setCell (p := ⟨w.heap.size + 1, 0, none⟩) (by simp only []; omega) (.int .i64 s)).setCell (p := ⟨w.heap.size + 1, 1, none⟩) (by simp only []; omega) (.int .u64 t))
    clear K4F HW
    go_wp2
    exact ret_wtt rfl rfl rfl rfl rfl KF.out ⟨rfl, HB.out⟩
  · by_cases hr : 0 < R
    · rw [if_pos ⟨rfl, hr⟩, if_pos ⟨rfl, hr⟩, if_pos ⟨rfl, hr⟩]
      have e3 : IntKind.u64.wrap (m - R) = m - R := by rw [IntKind.wrap_u64]; omega
      have e4 : wrap64 (m - R) = m - R := by unfold wrap64; omega
      go_enter Tryd.func30, Tryd.ntmps30
      go_wp2_with fail
      refine (HS.out _).mono ?_; rintro e w1 ⟨rfl, hb1⟩
      have hw1 := below_two (ba2 w (oW a b) (oW 0 0)) hb1
      have k2a := K2.under hb1
      have k4a := K4.under hb1
      clear K2 K4 hb1 HS
      go_wp2_with fail
      refine (HP.out _).mono ?_; rintro e w2 ⟨rfl, nq, rfl⟩
      have hw2 : Below w.heap.size w (w1.drewN nq) := ⟨hw1.os, hw1.tape, hw1.output, hw1.size, hw1.block⟩
      have k2b := k2a.drewN nq
      have k4b := k4a.drewN nq
      clear hw1 k2a k4a HP
      generalize w1.drewN nq = w2 at *
      obtain ⟨c20, c21, f20, f21, l2⟩ := k2b.two
      go_wp2_with fail
      refine (HG.out _).mono ?_; rintro e w4 ⟨rfl, hb4⟩
      have hw4 := below_two hw2 hb4
      have k2c := (k2b.under hb4).alloc (oW s t)
      have k4c := (k4b.under hb4).alloc (oW s t)
      have k10 := Blk.new w4 24 #[.int .i64 s, .int .u64 t]
      have hw5 := below_alloc hw4 (Nat.le_refl _) (oW s t)
      have hg10 : w.heap.size + 1 < w4.heap.size := by have := k4b.under hb4; have := this.lt; omega
      clear hw2 hw4 k2b k4b hb4 HG c20 c21 f20 f21 l2
      go_upto_region 6 with fail
      generalize hgg : w4.heap.size = g10 at *
      generalize w4.alloc (oW s t) = w5 at *
      clear hgg
      obtain ⟨c20, c21, f20, f21, l2⟩ := k2c.two
      obtain ⟨c10, c11, f10, f11, l10⟩ := k10.two
      go_upto_region 7 with fail
      have k10d := k10.drew
      have k4d := k4c.drew
      have hwd : Below w.heap.size w w5.drew := ⟨hw5.os, hw5.tape, hw5.output, hw5.size, hw5.block⟩
      go_region_with (first | (go_at_call 23; refine (HO.out _).mono ?_; rintro e w6 ⟨rfl, hb6⟩; have k10e := k10d.under hb6; obtain ⟨c10', c11', f10', f11', l10'⟩ := k10e.two) | (go_at_call 45; refine (HD.out _).mono ?_; rintro e w7 ⟨rfl, hb7⟩; have k10f := k10e.under hb7; obtain ⟨c10'', c11'', f10'', f11'', l10''⟩ := k10f.two))
      all_goals
        have hne : w.heap.size + 1 ≠ g10 := by omega
        have hB10 : w.heap.size ≤ g10 := by omega
        have K4F := (((k4d.under hb6).under hb7).far (p := ⟨g10, 0, none⟩) hne (.int .i64 s2)).far (p := ⟨g10, 1, none⟩) hne (.int .u64 t2)
        have HW := ((below_two (below_two hwd hb6) hb7).setCell (p := ⟨g10, 0, none⟩) hB10 (.int .i64 s2)).setCell (p := ⟨g10, 1, none⟩) hB10 (.int .u64 t2)
        have K10F := k10f.set2 (.int .i64 s2) (.int .u64 t2)
        obtain ⟨d10, d11, g100, g101, m10⟩ := K10F.two
        clear k10d k4d hwd hb6 hb7 k10e k10f K10F k4c hw5 HO HD k2c k10 c10' c11' f10' f11' l10' c10'' c11'' f10'' f11'' l10'' c20 c21 f20 f21 l2 c10 c11 f10 f11 l10
        generalize (w7.setCell ⟨g10, 0, none⟩ (.int .i64 s2)).setCell ⟨g10, 1, none⟩ (.int .u64 t2) = w8 at *
        obtain ⟨c40, c41, f40, f41, l4⟩ := K4F.two
        have KF := Lib.hid (K4F.set2 (.int .i64 s2) (.int .u64 t2))
        have HB := Lib.hid ((HW.setCell (p := ⟨w.heap.size + 1, 0, none⟩) (by simp only []; omega) (.int .i64 s2)).setCell (p := ⟨w.heap.size + 1, 1, none⟩) (by simp only []; omega) (.int .u64 t2))
        clear K4F HW
        go_wp2
        exact ret_wtt rfl rfl rfl rfl rfl KF.out ⟨rfl, HB.out⟩
    · have hr' : decide (0 < R) = false := decide_eq_false hr
      rw [if_neg (by simp [hr]), if_neg (by simp [hr]), if_neg (by simp [hr])]
      go_enter Tryd.func30, Tryd.ntmps30
      go_wp2_with fail
      refine (HS.out _).mono ?_; rintro e w1 ⟨rfl, hb1⟩
      have hw1 := below_two (ba2 w (oW a b) (oW 0 0)) hb1
      have k2a := K2.under hb1
      have k4a := K4.under hb1
      clear K2 K4 hb1 HS
      go_wp2_with fail
      refine (HP.out _).mono ?_; rintro e w2 ⟨rfl, nq, rfl⟩
      have hw2 : Below w.heap.size w (w1.drewN nq) := ⟨hw1.os, hw1.tape, hw1.output, hw1.size, hw1.block⟩
      have k2b := k2a.drewN nq
      have k4b := k4a.drewN nq
      clear hw1 k2a k4a HP
      generalize w1.drewN nq = w2 at *
      obtain ⟨c20, c21, f20, f21, l2⟩ := k2b.two
      go_wp2_with fail
      refine (HG.out _).mono ?_; rintro e w4 ⟨rfl, hb4⟩
      have hw4 := below_two hw2 hb4
      have k2c := (k2b.under hb4).alloc (oW s t)
      have k4c := (k4b.under hb4).alloc (oW s t)
      have k10 := Blk.new w4 24 #[.int .i64 s, .int .u64 t]
      have hw5 := below_alloc hw4 (Nat.le_refl _) (oW s t)
      have hg10 : w.heap.size + 1 < w4.heap.size := by have := k4b.under hb4; have := this.lt; omega
      clear hw2 hw4 k2b k4b hb4 HG c20 c21 f20 f21 l2
      go_upto_region 6 with fail
      generalize hgg : w4.heap.size = g10 at *
      generalize w4.alloc (oW s t) = w5 at *
      clear hgg
      obtain ⟨c20, c21, f20, f21, l2⟩ := k2c.two
      obtain ⟨c10, c11, f10, f11, l10⟩ := k10.two
      have K4F := k4c
      have HW := hw5
      clear k4c hw5 HO HD k2c k10
      obtain ⟨c40, c41, f40, f41, l4⟩ := K4F.two
      have KF := Lib.hid (K4F.set2 (.int .i64 s) (.int .u64 t))
      have HB := Lib.hid ((HW.setCell (p := ⟨w.heap.size + 1, 0, none⟩) (by simp only []; omega) (.int .i64 s)).setCell (p := ⟨w.heap.size + 1, 1, none⟩) (by simp only []; omega) (.int .u64 t))
      clear K4F HW
      go_wp2
      exact ret_wtt rfl rfl rfl rfl rfl KF.out ⟨rfl, HB.out⟩
end Go.Proofs.YtpomhcclnhddmaaDoor
