/- Contracts of the reference's Of (seat Wide). -/
import Derived.Test.YtpomhcclnhddmaaDoorWidP
import Derived.Test.YtpomhcclnhddmaaDoorWLawD
namespace Go.Proofs.YtpomhcclnhddmaaDoor
open Go.RowKit Go.Shelf NB
set_option linter.unusedVariables false
theorem pw_128 : pw 128 = 340282366920938463463374607431768211456 := by rfl
theorem of_pos_num {h l : Int} (h0 : 0 ≤ h) (l0 : 0 ≤ l) : h * 18446744073709551616 + l = ((h.toNat * pw 64 + l.toNat : Nat) : Int) := by
  rw [pw_64]; omega
theorem of_neg_num {h l u : Int} (h0 : -9223372036854775808 ≤ h) (hn : h < 0) (l0 : 0 ≤ l) (l1 : l < 18446744073709551616) (hu : u = h + 18446744073709551616) :
    u.toNat * pw 64 + l.toNat ≤ pw 128 ∧ h * 18446744073709551616 + l = if true = true then -((pw 128 - (u.toNat * pw 64 + l.toNat) : Nat) : Int) else ((pw 128 - (u.toNat * pw 64 + l.toNat) : Nat) : Int) := by
  rw [pw_64, pw_128, if_pos rfl]; omega
theorem nb_u {u : Int} (h : u < 18446744073709551616) : nb u.toNat ≤ 100 := Nat.le_trans ((nb_le_iff _ 64).2 (by omega)) (by decide)
theorem nb_prod {u : Int} (h0 : 0 ≤ u) (h : u < 18446744073709551616) : nb (u.toNat * pw 64) ≤ 200 := Nat.le_trans ((nb_le_iff _ 128).2 (by rw [pw_64]; omega)) (by decide)
theorem nb_sum {u l : Int} (h0 : 0 ≤ u) (h : u < 18446744073709551616) (l1 : l < 18446744073709551616) : nb (u.toNat * pw 64 + l.toNat) ≤ 200 := Nat.le_trans ((nb_le_iff _ 128).2 (by rw [pw_64]; omega)) (by decide)
theorem two_boxes (w : World) (h l : Int) : (((w.alloc (oW h l)).alloc zNum)).drew.cell? ⟨w.heap.size, 0, none⟩ = some (.int .i64 h) ∧ (((w.alloc (oW h l)).alloc zNum)).drew.cell? ⟨w.heap.size, 1, none⟩ = some (.int .u64 l) := by
  have k1 : Blk (((w.alloc (oW h l)).alloc zNum)).drew w.heap.size 24 #[.int .i64 h, .int .u64 l] := ((Blk.new w _ _).alloc _).drew
  exact ⟨k1.two.1, k1.two.2.1⟩
set_option maxHeartbeats 2000000 in
theorem of_pos (h l : Int) (w : World) (h0 : 0 ≤ h) (h1 : h ≤ 9223372036854775807) (l0 : 0 ≤ l) (l1 : l < 18446744073709551616) :
    Calls Tryd.prog 13 #[wv h l] w (RetN (h * 18446744073709551616 + l) w) := by
  have hx := of_pos_num (l := l) h0 l0
  have b1 := nb_u (u := h) (by omega)
  have b2 := nb_prod (u := h) h0 (by omega)
  have b3 : nb (pw 64) ≤ 100 := Nat.le_trans ((nb_le_iff _ 65).2 (by rw [pw_64]; decide)) (by decide)
  have b4 := nb_u l1
  have hw : IntKind.u64.wrap h = h := by rw [IntKind.wrap_u64]; omega
  have t : decide (h < 0) = false := decide_eq_false (by omega)
  have B1 := Lib.hid b1
  have B2 := Lib.hid b2
  have B3 := Lib.hid b3
  have B4 := Lib.hid b4
  have HX := Lib.hid hx
  have HSh := Lib.hid (fun w => sz_c (w := w) h h0 (by omega))
  have HSl := Lib.hid (fun w => sz_c (w := w) l l0 l1)
  have HS := Lib.hid (two_boxes w h l)
  have K0 : Blk ((w.alloc (oW h l)).alloc zNum).drew (w.heap.size + 1) 28 #[.bool false, .slice none 0 0] := (Blk.new_at (w.alloc (oW h l)) _ _ (by simp)).drew
  clear b1 b2 b3 b4 hx h0 h1 l0 l1
  go_enter Tryd.func13, Tryd.ntmps13
  go_wp2_with fail
  go_region_held3 (fun w' => w'.cell? ⟨w.heap.size, 0, none⟩ = some (.int .i64 h) ∧ w'.cell? ⟨w.heap.size, 1, none⟩ = some (.int .u64 l))
    (first | exact HS.out | exact S1.out | exact S2.out | exact S3.out | exact S4.out | exact S5.out)
    (first | (go_at_call_of 39 (Value.int .u64 h); refine (HSh.out _).mono ?_; rintro e w1 ⟨A1, p1, c1, rfl, hd1, hb1⟩; have S1 := Lib.hid (keep2 HS.out hb1)) | (go_at_call 40; refine (po_c 64 (by decide) (by decide)).mono ?_; rintro e w2 ⟨A2, p2, c2, rfl, hd2, hb2⟩; have S2 := Lib.hid (keep2 S1.out hb2)) | (go_at_call 38; refine (ti_c (hd1.below hb2) hd2 (by rw [hd1.len]; exact Nat.le_trans B1.out (by decide)) (by rw [hd2.len]; exact Nat.le_trans B3.out (by decide))).mono ?_; rintro e w3 ⟨A3, p3, c3, rfl, hd3, hb3⟩; have S3 := Lib.hid (keep2 S2.out hb3)) | (go_at_call_of 39 (Value.int .u64 l); refine (HSl.out _).mono ?_; rintro e w4 ⟨A4, p4, c4, rfl, hd4, hb4⟩; have S4 := Lib.hid (keep2 S3.out hb4)) | (go_at_call 37; refine (pl_c (hd3.below hb4) hd4 (by rw [hd3.len]; exact Nat.le_trans B2.out (by decide)) (by rw [hd4.len]; exact Nat.le_trans B4.out (by decide))).mono ?_; rintro e w5 ⟨A5, p5, c5, rfl, hd5, hb5⟩; have S5 := Lib.hid (keep2 S4.out hb5); have hb15 := bstep (bstep (bstep (bstep hb1 hb2) hb3) hb4) hb5; have K5 := K0.under hb15; obtain ⟨s0, s1⟩ := S5.out))
  go_wp2_with fail
  refine (made_f hd5 HX.out).mono ?_
  rintro e w6 ⟨b6, A6, p6, c6, rfl, hn, hb6⟩
  have K6 := K5.under hb6
  obtain ⟨c0, c1', f0, f1, hl⟩ := K6.two
  go_wp2
  exact num_done K6 hn (below_two (below2 w _ _ (undrew hb15)) hb6) (by omega) rfl rfl rfl
set_option maxHeartbeats 2000000 in
theorem of_neg (h l : Int) (w : World) (h0 : -9223372036854775808 ≤ h) (h1 : h < 0) (l0 : 0 ≤ l) (l1 : l < 18446744073709551616) :
    Calls Tryd.prog 13 #[wv h l] w (RetN (h * 18446744073709551616 + l) w) := by
  obtain ⟨u, hu⟩ : ∃ u, u = h + 18446744073709551616 := ⟨_, rfl⟩
  have hx := of_neg_num h0 h1 l0 l1 hu
  have b1 := nb_u (u := u) (by omega)
  have b2 := nb_prod (u := u) (by omega) (by omega)
  have b3 : nb (pw 64) ≤ 100 := Nat.le_trans ((nb_le_iff _ 65).2 (by rw [pw_64]; decide)) (by decide)
  have b4 := nb_u l1
  have b5 := nb_pw 128 (by decide) (by decide)
  have b6 := nb_sum (u := u) (l := l) (by omega) (by omega) l1
  have hw : IntKind.u64.wrap h = u := by rw [IntKind.wrap_u64]; omega
  have t : decide (h < 0) = true := decide_eq_true (by omega)
  have B1 := Lib.hid b1
  have B2 := Lib.hid b2
  have B3 := Lib.hid b3
  have B4 := Lib.hid b4
  have B5 := Lib.hid b5
  have B6 := Lib.hid b6
  have HX := Lib.hid hx
  have HSh := Lib.hid (fun w => sz_c (w := w) u (by omega) (by omega))
  have HSl := Lib.hid (fun w => sz_c (w := w) l l0 l1)
  have HS := Lib.hid (two_boxes w h l)
  have K0 : Blk ((w.alloc (oW h l)).alloc zNum).drew (w.heap.size + 1) 28 #[.bool false, .slice none 0 0] := (Blk.new_at (w.alloc (oW h l)) _ _ (by simp)).drew
  clear b1 b2 b3 b4 b5 b6 hx h0 h1 l0 l1 hu
  go_enter Tryd.func13, Tryd.ntmps13
  go_wp2_with fail
  go_region_held3 (fun w' => w'.cell? ⟨w.heap.size, 0, none⟩ = some (.int .i64 h) ∧ w'.cell? ⟨w.heap.size, 1, none⟩ = some (.int .u64 l))
    (first | exact HS.out | exact S1.out | exact S2.out | exact S3.out | exact S4.out | exact S5.out)
    (first | (go_at_call_of 39 (Value.int .u64 u); refine (HSh.out _).mono ?_; rintro e w1 ⟨A1, p1, c1, rfl, hd1, hb1⟩; have S1 := Lib.hid (keep2 HS.out hb1)) | (go_at_call 40; refine (po_c 64 (by decide) (by decide)).mono ?_; rintro e w2 ⟨A2, p2, c2, rfl, hd2, hb2⟩; have S2 := Lib.hid (keep2 S1.out hb2)) | (go_at_call 38; refine (ti_c (hd1.below hb2) hd2 (by rw [hd1.len]; exact Nat.le_trans B1.out (by decide)) (by rw [hd2.len]; exact Nat.le_trans B3.out (by decide))).mono ?_; rintro e w3 ⟨A3, p3, c3, rfl, hd3, hb3⟩; have S3 := Lib.hid (keep2 S2.out hb3)) | (go_at_call_of 39 (Value.int .u64 l); refine (HSl.out _).mono ?_; rintro e w4 ⟨A4, p4, c4, rfl, hd4, hb4⟩; have S4 := Lib.hid (keep2 S3.out hb4)) | (go_at_call 37; refine (pl_c (hd3.below hb4) hd4 (by rw [hd3.len]; exact Nat.le_trans B2.out (by decide)) (by rw [hd4.len]; exact Nat.le_trans B4.out (by decide))).mono ?_; rintro e w5 ⟨A5, p5, c5, rfl, hd5, hb5⟩; have S5 := Lib.hid (keep2 S4.out hb5); have hb15 := bstep (bstep (bstep (bstep hb1 hb2) hb3) hb4) hb5; have K5 := K0.under hb15; obtain ⟨s0, s1⟩ := S5.out))
  go_wp2_with fail
  refine (po_c 128 (by decide) (by decide)).mono ?_
  rintro e w6 ⟨A6, p6, c6, rfl, hd6, hb6⟩
  go_wp2_with fail
  refine (mi_c hd6 (hd5.below hb6) HX.out.1 (by rw [hd6.len]; exact Nat.le_trans B5.out (by decide))).mono ?_
  rintro e w7 ⟨A7, p7, c7, rfl, hd7, hb7⟩
  go_wp2_with fail
  refine (made_c hd7 HX.out.2).mono ?_
  rintro e w8 ⟨b8, A8, p8, c8, rfl, hn, hb8⟩
  have hb18 := bstep (bstep (bstep hb15 hb6) hb7) hb8
  have K6 := K0.under hb18
  obtain ⟨c0, c1', f0, f1, hl⟩ := K6.two
  go_wp2
  exact num_done K6 hn (below2 w _ _ (undrew hb18)) (by omega) rfl rfl rfl
/-- a wide number, as the document has it -/
theorem ofn_c (X : Int) (hX : inW X) (w : World) : Calls Tryd.prog 13 #[wv (hiW X) (loW X)] w (RetN X w) := by
  obtain ⟨a, b⟩ := hi_in hX
  obtain ⟨c, d⟩ := lo_in X
  have e : hiW X * 18446744073709551616 + loW X = X := by unfold hiW loW; omega
  by_cases h : hiW X < 0
  · have := of_neg (hiW X) (loW X) w a h c d
    rw [e] at this; exact this
  · have := of_pos (hiW X) (loW X) w (by omega) b c d
    rw [e] at this; exact this
end Go.Proofs.YtpomhcclnhddmaaDoor
