/- Contract of the gauge's reference: Float. -/
import Derived.Test.YthkncbfaehgenaaGauO
namespace Go.Proofs.Ythkncbfaehgenaa
open Go.RowKit NB
theorem nb_log {n : Nat} (h : 0 < n) : nb n = n.log2 + 1 := by unfold nb; rw [if_neg (by omega)]
theorem keep4d {W : World} {p1 p2 p3 p4 : Addr} {v1 v2 v3 v4 : Value} (h : W.cell? p1 = some v1 ∧ W.cell? p2 = some v2 ∧ W.cell? p3 = some v3 ∧ W.cell? p4 = some v4) : W.drew.cell? p1 = some v1 ∧ W.drew.cell? p2 = some v2 ∧ W.drew.cell? p3 = some v3 ∧ W.drew.cell? p4 = some v4 := h
theorem ret_ub {k : IntKind} {a b : Int} {c d : Bool} (h : a = b) (h2 : c = d) : Ending.returned (.tuple #[.int k a, .bool c]) = .returned (.tuple #[.int k b, .bool d]) := by rw [h, h2]
theorem fltZ_int {v z : Int} {L K : Nat} (h0 : v ≠ 0) (hL : v.natAbs.log2 = L) (hK : keptV v.natAbs = K) (hl : L ≤ 61) (hz : -40 ≤ z) (hz2 : z ≤ 40) : ((fltZ v z : Nat) : Int) = (if v < 0 then 9223372036854775808 else 0) + (((L : Int) + 1022 - z) * 4503599627370496 + K) := by
  unfold fltZ
  rw [if_neg h0, hL, hK]
  split <;> omega
set_option maxRecDepth 100000 in
set_option maxHeartbeats 2000000 in
theorem refFloat_big (v z : Int) (w : World) (hv : -2305843009213693952 ≤ v) (hv2 : v ≤ 2305843009213693952) (hz : -40 ≤ z) (hz2 : z ≤ 40) (h0 : v ≠ 0) (hL : 52 < v.natAbs.log2) :
    Calls Try.prog 16 #[.int .i64 v, .int .i64 z] w fun e w' => e = .returned (.tuple #[.int .u64 (fltZ v z : Nat), .bool (fvV v == v)]) ∧ Below w.heap.size w w' := by
  have hN : 0 < v.natAbs := by omega
  have hl := log_lt (n := v.natAbs) (by omega)
  have hnb := nb_log hN
  have hkr := kept_range hN
  have IC := Lib.hid (fun w => int_c v w (by omega) (by omega))
  have HNB := Lib.hid hnb
  have H0 := Lib.hid h0
  generalize hLG : v.natAbs.log2 = L at *
  have LG := Lib.hid hLG
  clear hLG
  clear hnb h0
  go_enter Try.func16, Try.ntmps16
  go_wp2_with fail
  refine (IC.out _).mono ?_; rintro e w1 ⟨b1, A1, p1, c1, rfl, hn1, hb1⟩
  have hp : (p1 : Int) - 53 = (L : Int) - 52 := by rw [hn1.dig.len, HNB.out]; omega
  have hp1 : 54 ≤ p1 := by omega
  have hp2 : p1 ≤ 63 := by omega
  have HP := Lib.hid hp
  clear hp
  go_wp2_with fail
  have K6 : Blk (((w1.alloc (bNum b1 A1 p1 c1)).alloc (bNum false A1 p1 c1)).alloc (bNum false A1 p1 c1)) w1.heap.size 59 #[.bool b1, .slice A1 p1 c1] := ((Blk.new _ _ _).alloc _).alloc _
  have K7 : Blk (((w1.alloc (bNum b1 A1 p1 c1)).alloc (bNum false A1 p1 c1)).alloc (bNum false A1 p1 c1)) (w1.heap.size + 1) 59 #[.bool false, .slice A1 p1 c1] := (Blk.new_at _ _ _ (by simp)).alloc _
  have K9 : Blk (((w1.alloc (bNum b1 A1 p1 c1)).alloc (bNum false A1 p1 c1)).alloc (bNum false A1 p1 c1)) (w1.heap.size + 1 + 1) 59 #[.bool false, .slice A1 p1 c1] := Blk.new_at _ _ _ (by simp)
  have n7 : NumIs (((w1.alloc (bNum b1 A1 p1 c1)).alloc (bNum false A1 p1 c1)).alloc (bNum false A1 p1 c1)) (v.natAbs : Int) false A1 p1 c1 := ⟨by simp, by simpa using ((hn1.dig.alloc (bNum b1 A1 p1 c1)).alloc (bNum false A1 p1 c1)).alloc (bNum false A1 p1 c1)⟩
  have hbw : Below w.heap.size w (((w1.alloc (bNum b1 A1 p1 c1)).alloc (bNum false A1 p1 c1)).alloc (bNum false A1 p1 c1)) := bstep hb1 (below3 w1 _ _ _ (Below.refl _ _))
  have hb1n := hn1.neg
  generalize ((w1.alloc (bNum b1 A1 p1 c1)).alloc (bNum false A1 p1 c1)).alloc (bNum false A1 p1 c1) = W1 at *
  have hg : w.heap.size ≤ w1.heap.size := hb1.size
  generalize w1.heap.size = g6 at *
  have kz : nearV (v.natAbs : Int) ((p1 : Int) - 53) = ((keptV v.natAbs : Nat) : Int) := by
    rw [near_pos]
    unfold keptV
    rw [LG.out, show 52 - L = 0 by omega, Nat.pow_zero, Nat.mul_one, show ((p1 : Int) - 53).toNat = L - 52 by have := HP.out; omega]
  have ez : fvV v = if v < 0 then -((keptV v.natAbs * pw ((p1 : Int) - 53) : Nat) : Int) else ((keptV v.natAbs * pw ((p1 : Int) - 53) : Nat) : Int) := by
    unfold fvV fvN pw
    rw [LG.out, show 52 - L = 0 by omega, Nat.pow_zero, Nat.div_one, show ((p1 : Int) - 53).toNat = L - 52 by have := HP.out; omega]
  have ez2 : (fvV v == v) = decide (((keptV v.natAbs : Nat) : Int) * ((pw ((p1 : Int) - 53) : Nat) : Int) = (v.natAbs : Int)) := by
    rw [ez, Bool.eq_iff_iff, beq_iff_eq, decide_eq_true_iff, ← Int.natCast_mul]
    generalize keptV v.natAbs * pw ((p1 : Int) - 53) = y
    split <;> omega
  have hbk : nb (keptV v.natAbs) ≤ 54 := (nb_le_iff _ _).2 (by omega)
  have hne := nearest_c ((p1 : Int) - 53) n7 (by omega) (by omega) (by omega)
  rw [kz] at hne
  have NE := Lib.hid hne
  have KZ := Lib.hid kz
  have EZ := Lib.hid ez2
  have HB := Lib.hid hb1n
  clear hne kz ez ez2 hb1n
  have hp0 : 0 ≤ (p1 : Int) - 53 := by omega
  have hp9 : (p1 : Int) - 53 ≤ 10 := by omega
  refine NE.out.mono ?_; rintro e w2 ⟨b2, A2, p2, c2, rfl, hn2, hb2⟩
  have l2 : p2 ≤ 54 := by rw [hn2.dig.len]; simpa using hbk
  have K6 := K6.under hb2
  have K7 := K7.under hb2
  have K9 := K9.under hb2
  have n7 := n7.below hb2
  have hbw := bstep hbw hb2
  obtain ⟨x0, x1, x2, x3, x4⟩ := K9.two
  obtain ⟨y0, y1, y2, y3, y4⟩ := K7.two
  go_wp2_with fail
  have hty := K9.typed
  have hn2 := (hn2.setCell (q := ⟨g6 + 1 + 1, 0, none⟩) hty (.bool b2)).setCell (q := ⟨g6 + 1 + 1, 1, none⟩) (hty.setCell _ _) (.slice A2 p2 c2)
  have n7 := (n7.setCell (q := ⟨g6 + 1 + 1, 0, none⟩) hty (.bool b2)).setCell (q := ⟨g6 + 1 + 1, 1, none⟩) (hty.setCell _ _) (.slice A2 p2 c2)
  have K6 := (K6.far (p := ⟨g6 + 1 + 1, 0, none⟩) (by dsimp only; omega) (.bool b2)).far (p := ⟨g6 + 1 + 1, 1, none⟩) (by dsimp only; omega) (.slice A2 p2 c2)
  have K7 := (K7.far (p := ⟨g6 + 1 + 1, 0, none⟩) (by dsimp only; omega) (.bool b2)).far (p := ⟨g6 + 1 + 1, 1, none⟩) (by dsimp only; omega) (.slice A2 p2 c2)
  have K9 := K9.set2 (.bool b2) (.slice A2 p2 c2)
  have hbw := (hbw.setCell (p := ⟨g6 + 1 + 1, 0, none⟩) (by dsimp only; omega) (.bool b2)).setCell (p := ⟨g6 + 1 + 1, 1, none⟩) (by dsimp only; omega) (.slice A2 p2 c2)
  generalize (w2.setCell ⟨g6 + 1 + 1, 0, none⟩ (.bool b2)).setCell ⟨g6 + 1 + 1, 1, none⟩ (.slice A2 p2 c2) = W2 at *
  have S0 : W2.cell? ⟨g6 + 1 + 1, 0, none⟩ = some (.bool b2) ∧ W2.cell? ⟨g6 + 1 + 1, 1, none⟩ = some (.slice A2 p2 c2) ∧ W2.cell? ⟨g6 + 1, 0, none⟩ = some (.bool false) ∧ W2.cell? ⟨g6 + 1, 1, none⟩ = some (.slice A1 p1 c1) := ⟨K9.two.1, K9.two.2.1, K7.two.1, K7.two.2.1⟩
  have HS := Lib.hid S0
  clear S0 x0 x1 x2 x3 x4 y0 y1 y2 y3 y4
  go_region_held3 (fun w' => w'.cell? ⟨g6 + 1 + 1, 0, none⟩ = some (.bool b2) ∧ w'.cell? ⟨g6 + 1 + 1, 1, none⟩ = some (.slice A2 p2 c2) ∧ w'.cell? ⟨g6 + 1, 0, none⟩ = some (.bool false) ∧ w'.cell? ⟨g6 + 1, 1, none⟩ = some (.slice A1 p1 c1))
    (((try dsimp only); first | (with_reducible exact S3.out) | (with_reducible exact S2.out) | (with_reducible exact S1.out) | (with_reducible exact keep4d HS.out)))
    (first | (go_at_call 31; refine (pow_c ((p1 : Int) - 53) _ hp0 (by omega)).mono ?_; rintro e w3 ⟨b3, C3, m3, c3, rfl, hpw, hb3⟩; have S1 := Lib.hid (keep4 (keep4d HS.out) hb3); have l3 : m3 ≤ 100 := (by rw [hpw.dig.len]; simp; exact Nat.le_trans (nb_le _) (by omega))) | (go_at_call 30; refine (mul_c (hn2.drew.below hb3) hpw (by omega) (by omega)).mono ?_; rintro e w4 ⟨b4, C4, m4, c4, rfl, hm4, hb4⟩; have S2 := Lib.hid (keep4 S1.out hb4)) | (go_at_call 29; refine (Same_c hm4 ((n7.drew.below hb3).below hb4) (by rw [hm4.dig.len, Int.natAbs_mul]; exact Nat.le_trans (nb_mul_le _ _) (by rw [← hpw.dig.len, ← hn2.dig.len]; omega)) (by omega)).mono ?_; rintro e w5 ⟨rfl, hb5⟩; have S3 := Lib.hid (keep4 S2.out hb5); rw [← EZ.out]))
  have K6 := ((K6.under (undrew hb3)).under hb4).under hb5
  have K9 := ((K9.under (undrew hb3)).under hb4).under hb5
  have n9 := ((hn2.below (undrew hb3)).below hb4).below hb5
  have hbw := bstep (bstep (bstep hbw (undrew hb3)) hb4) hb5
  obtain ⟨x0, x1, x2, x3, x4⟩ := K9.two
  obtain ⟨y0, y1, y2, y3, y4⟩ := K6.two
  have vv : valV ((keptV v.natAbs : Nat) : Int) = keptV v.natAbs := by
    unfold valV
    rw [if_pos (fits64.2 (by omega))]
  have VV := Lib.hid vv
  have FZ := Lib.hid (fltZ_int H0.out LG.out rfl hl hz hz2)
  clear vv hn2 n7
  generalize keptV v.natAbs = K at *
  go_wp2_with fail
  refine (Value_c n9 (by omega)).mono ?_; rintro e w7 ⟨rfl, hb7⟩
  have K6' := K6.under hb7
  have hbwz := bstep hbw hb7
  rw [VV.out]
  clear x0 x1 x2 x3 x4 y0 y1 y2 y3 y4
  obtain ⟨y0, y1, y2, y3, y4⟩ := K6'.two
  by_cases hk : K = 9007199254740992
  all_goals
    first | (have tk : ((K : Int) == 9007199254740992) = true := by rw [beq_iff_eq]; omega) | (have tk : ((K : Int) == 9007199254740992) = false := by rw [beq_eq_false_iff_ne]; omega)
    have HK := Lib.hid hk
    clear hk
    cases b1
    all_goals
      go_wp2
      go_ret2
      refine ⟨ret_ub ?_ ?_, hbwz⟩
      · have e1 := FZ.out
        try simp only [IntKind.wrap_u64]
        have e2 := HP.out
        have e3 := HK.out
        first | (have e4 : v < 0 := of_decide_eq_true HB.out.symm
                 rw [if_pos e4] at e1
                 omega) | (have e4 : ¬ v < 0 := of_decide_eq_false HB.out.symm
                           rw [if_neg e4] at e1
                           omega)
      · first | rfl | (with_reducible exact EZ.out)
set_option maxRecDepth 100000 in
set_option maxHeartbeats 2000000 in
theorem refFloat_small (v z : Int) (w : World) (hv : -2305843009213693952 ≤ v) (hv2 : v ≤ 2305843009213693952) (hz : -40 ≤ z) (hz2 : z ≤ 40) (h0 : v ≠ 0) (hL : ¬ 52 < v.natAbs.log2) :
    Calls Try.prog 16 #[.int .i64 v, .int .i64 z] w fun e w' => e = .returned (.tuple #[.int .u64 (fltZ v z : Nat), .bool (fvV v == v)]) ∧ Below w.heap.size w w' := by
  have hN : 0 < v.natAbs := by omega
  have hl := log_lt (n := v.natAbs) (by omega)
  have hnb := nb_log hN
  have hkr := kept_range hN
  have IC := Lib.hid (fun w => int_c v w (by omega) (by omega))
  have HNB := Lib.hid hnb
  have H0 := Lib.hid h0
  generalize hLG : v.natAbs.log2 = L at *
  have LG := Lib.hid hLG
  clear hLG
  clear hnb h0
  go_enter Try.func16, Try.ntmps16
  go_wp2_with fail
  refine (IC.out _).mono ?_; rintro e w1 ⟨b1, A1, p1, c1, rfl, hn1, hb1⟩
  have hp : (p1 : Int) - 53 = (L : Int) - 52 := by rw [hn1.dig.len, HNB.out]; omega
  have hp1 : p1 ≤ 53 := by omega
  have hp0 : 0 < p1 := by omega
  have HP := Lib.hid hp
  clear hp
  go_wp2_with fail
  have K6 : Blk (((w1.alloc (bNum b1 A1 p1 c1)).alloc (bNum false A1 p1 c1)).alloc (bNum false A1 p1 c1)) w1.heap.size 59 #[.bool b1, .slice A1 p1 c1] := ((Blk.new _ _ _).alloc _).alloc _
  have K7 : Blk (((w1.alloc (bNum b1 A1 p1 c1)).alloc (bNum false A1 p1 c1)).alloc (bNum false A1 p1 c1)) (w1.heap.size + 1) 59 #[.bool false, .slice A1 p1 c1] := (Blk.new_at _ _ _ (by simp)).alloc _
  have K9 : Blk (((w1.alloc (bNum b1 A1 p1 c1)).alloc (bNum false A1 p1 c1)).alloc (bNum false A1 p1 c1)) (w1.heap.size + 1 + 1) 59 #[.bool false, .slice A1 p1 c1] := Blk.new_at _ _ _ (by simp)
  have n7 : NumIs (((w1.alloc (bNum b1 A1 p1 c1)).alloc (bNum false A1 p1 c1)).alloc (bNum false A1 p1 c1)) (v.natAbs : Int) false A1 p1 c1 := ⟨by simp, by simpa using ((hn1.dig.alloc (bNum b1 A1 p1 c1)).alloc (bNum false A1 p1 c1)).alloc (bNum false A1 p1 c1)⟩
  have hbw : Below w.heap.size w (((w1.alloc (bNum b1 A1 p1 c1)).alloc (bNum false A1 p1 c1)).alloc (bNum false A1 p1 c1)) := bstep hb1 (below3 w1 _ _ _ (Below.refl _ _))
  have hb1n := hn1.neg
  generalize ((w1.alloc (bNum b1 A1 p1 c1)).alloc (bNum false A1 p1 c1)).alloc (bNum false A1 p1 c1) = W1 at *
  have hg : w.heap.size ≤ w1.heap.size := hb1.size
  generalize w1.heap.size = g6 at *
  have kz : (v.natAbs : Int) * ((pw (-((p1 : Int) - 53)) : Nat) : Int) = ((keptV v.natAbs : Nat) : Int) := by
    rw [kept_small (by rw [LG.out]; omega), LG.out, Int.natCast_mul]
    unfold pw
    rw [show (-((p1 : Int) - 53)).toNat = 52 - L by have := HP.out; omega]
  have ez : true = (fvV v == v) := by
    rw [eq_comm, beq_iff_eq]
    unfold fvV
    rw [fvN_small (by rw [LG.out]; omega)]
    split <;> omega
  have EZ := Lib.hid ez
  have HB := Lib.hid hb1n
  have KZ := Lib.hid kz
  clear ez hb1n kz
  obtain ⟨x0, x1, x2, x3, x4⟩ := K9.two
  obtain ⟨y0, y1, y2, y3, y4⟩ := K7.two
  have hq0 : 0 ≤ -((p1 : Int) - 53) := by omega
  have hq1 : -((p1 : Int) - 53) ≤ 100 := by omega
  have S0 : W1.cell? ⟨g6 + 1, 0, none⟩ = some (.bool false) ∧ W1.cell? ⟨g6 + 1, 1, none⟩ = some (.slice A1 p1 c1) := ⟨K7.two.1, K7.two.2.1⟩
  have HS := Lib.hid S0
  clear S0 x0 x1 x2 x3 x4 y0 y1 y2 y3 y4
  have hwq : IntKind.i64.wrap (-((p1 : Int) - 53)) = -((p1 : Int) - 53) := IntWalk.i64_in _ (by omega)
  have K6 := K6.drew
  have K9 := K9.drew
  have n7 := n7.drew
  have hbw := hbw.drew
  go_region_held3 (fun w' => w'.cell? ⟨g6 + 1, 0, none⟩ = some (.bool false) ∧ w'.cell? ⟨g6 + 1, 1, none⟩ = some (.slice A1 p1 c1))
    (((try dsimp only); first | (with_reducible exact S2.out) | (with_reducible exact S1.out) | (with_reducible exact keepDr HS.out) | ((repeat' (with_reducible refine keepF' ?_ ?_ ?_)) <;> first | (with_reducible exact S2.out) | (dsimp only; omega))))
    (first | (go_at_call 31; refine (pow_c (-((p1 : Int) - 53)) _ hq0 (by omega)).mono ?_; rintro e w3 ⟨b3, C3, m3, c3, rfl, hpw, hb3⟩; have S1 := Lib.hid (keep2 (keepDr HS.out) hb3); have l3 : m3 ≤ 101 := (by rw [hpw.dig.len]; simp; exact Nat.le_trans (nb_le _) (by omega))) | (go_at_call 30; refine (mul_c (n7.below hb3) hpw (by omega) (by omega)).mono ?_; rintro e w4 ⟨b4, C4, m4, c4, rfl, hm4, hb4⟩; have S2 := Lib.hid (keep2 S1.out hb4); have K9x := (K9.under hb3).under hb4; obtain ⟨z0, z1, z2, z3, z4⟩ := K9x.two))
  rw [KZ.out] at hm4
  have hbk : nb (keptV v.natAbs) ≤ 54 := (nb_le_iff _ _).2 (by omega)
  have l4 : m4 ≤ 54 := by rw [hm4.dig.len]; simpa using hbk
  have K6 := (K6.under hb3).under hb4
  have hbw := bstep (bstep hbw hb3) hb4
  have hty := K9x.typed
  have n9 := (hm4.setCell (q := ⟨g6 + 1 + 1, 0, none⟩) hty (.bool b4)).setCell (q := ⟨g6 + 1 + 1, 1, none⟩) (hty.setCell _ _) (.slice C4 m4 c4)
  have K6 := (K6.far (p := ⟨g6 + 1 + 1, 0, none⟩) (by dsimp only; omega) (.bool b4)).far (p := ⟨g6 + 1 + 1, 1, none⟩) (by dsimp only; omega) (.slice C4 m4 c4)
  have K9 := K9x.set2 (.bool b4) (.slice C4 m4 c4)
  have hbw := (hbw.setCell (p := ⟨g6 + 1 + 1, 0, none⟩) (by dsimp only; omega) (.bool b4)).setCell (p := ⟨g6 + 1 + 1, 1, none⟩) (by dsimp only; omega) (.slice C4 m4 c4)
  generalize (w4.setCell ⟨g6 + 1 + 1, 0, none⟩ (.bool b4)).setCell ⟨g6 + 1 + 1, 1, none⟩ (.slice C4 m4 c4) = W2 at *
  clear z0 z1 z2 z3 z4
  obtain ⟨x0, x1, x2, x3, x4⟩ := K9.two
  obtain ⟨y0, y1, y2, y3, y4⟩ := K6.two
  have vv : valV ((keptV v.natAbs : Nat) : Int) = keptV v.natAbs := by
    unfold valV
    rw [if_pos (fits64.2 (by omega))]
  have VV := Lib.hid vv
  have FZ := Lib.hid (fltZ_int H0.out LG.out rfl hl hz hz2)
  clear vv hm4 n7
  generalize keptV v.natAbs = K at *
  go_wp2_with fail
  refine (Value_c n9 (by omega)).mono ?_; rintro e w7 ⟨rfl, hb7⟩
  have K6' := K6.under hb7
  have hbwz := bstep hbw hb7
  rw [VV.out]
  clear x0 x1 x2 x3 x4 y0 y1 y2 y3 y4
  obtain ⟨y0, y1, y2, y3, y4⟩ := K6'.two
  by_cases hk : K = 9007199254740992
  all_goals
    first | (have tk : ((K : Int) == 9007199254740992) = true := by rw [beq_iff_eq]; omega) | (have tk : ((K : Int) == 9007199254740992) = false := by rw [beq_eq_false_iff_ne]; omega)
    have HK := Lib.hid hk
    clear hk
    cases b1
    all_goals
      go_wp2
      go_ret2
      refine ⟨ret_ub ?_ ?_, hbwz⟩
      · have e1 := FZ.out
        try simp only [IntKind.wrap_u64]
        have e2 := HP.out
        have e3 := HK.out
        first | (have e4 : v < 0 := of_decide_eq_true HB.out.symm
                 rw [if_pos e4] at e1
                 omega) | (have e4 : ¬ v < 0 := of_decide_eq_false HB.out.symm
                           rw [if_neg e4] at e1
                           omega)
      · first | rfl | (with_reducible exact EZ.out)
theorem refFloat_zero (z : Int) (w : World) :
    Calls Try.prog 16 #[.int .i64 0, .int .i64 z] w fun e w' => e = .returned (.tuple #[.int .u64 (fltZ 0 z : Nat), .bool (fvV 0 == 0)]) ∧ Below w.heap.size w w' := by
  have e1 : fltZ 0 z = 0 := rfl
  have e2 : (fvV 0 == 0) = true := by decide +kernel
  rw [e1, e2]
  go_enter Try.func16, Try.ntmps16
  go_wp2_with fail
  refine (int_c 0 _ (by decide) (by decide)).mono ?_; rintro e w1 ⟨b1, A1, p1, c1, rfl, hn1, hb1⟩
  obtain rfl : p1 = 0 := hn1.dig.len
  go_wp2
  go_ret2
  exact ⟨rfl, bstep hb1 ((Below.refl _ _).alloc (Nat.le_refl _) _)⟩
theorem refFloat_c (v z : Int) (w : World) (hv : -2305843009213693952 ≤ v) (hv2 : v ≤ 2305843009213693952) (hz : -40 ≤ z) (hz2 : z ≤ 40) :
    Calls Try.prog 16 #[.int .i64 v, .int .i64 z] w fun e w' => e = .returned (.tuple #[.int .u64 (fltZ v z : Nat), .bool (fvV v == v)]) ∧ Below w.heap.size w w' := by
  by_cases h0 : v = 0
  · subst h0; exact refFloat_zero z w
  · by_cases hL : 52 < v.natAbs.log2
    · exact refFloat_big v z w hv hv2 hz hz2 h0 hL
    · exact refFloat_small v z w hv hv2 hz hz2 h0 hL
end Go.Proofs.Ythkncbfaehgenaa
