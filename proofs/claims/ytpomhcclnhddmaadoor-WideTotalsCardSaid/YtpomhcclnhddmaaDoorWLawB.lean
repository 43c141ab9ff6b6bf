/- Walks of the laws over wide: WideWhole. -/
import Derived.Test.YtpomhcclnhddmaaDoorWLawA
import Derived.Deep.RegionHeld3
namespace Go.Proofs.YtpomhcclnhddmaaDoor
open Go.RowKit Go.Shelf
open Go.Lib (hid)
set_option linter.unusedVariables false
theorem scale_yes (X n : Int) (hX : inW X) (h0 : -9223372036854775808 ≤ n) (h1 : n ≤ 9223372036854775807) (w : World) (h : inW (X * n)) : Calls Tryd.prog 22 #[wv (hiW X) (loW X), .int .i64 n] w fun e w' => e = .returned (.tuple #[wv (hiW (X * n)) (loW (X * n)), .int .i64 0]) ∧ Below w.heap.size w w' := by
  have := scale_w X n hX h0 h1 w
  rw [tW_yes h] at this
  exact this
theorem scale_no (X n : Int) (hX : inW X) (h0 : -9223372036854775808 ≤ n) (h1 : n ≤ 9223372036854775807) (w : World) (h : ¬ inW (X * n)) : Calls Tryd.prog 22 #[wv (hiW X) (loW X), .int .i64 n] w fun e w' => e = .returned (.tuple #[wv 0 0, .int .i64 5]) ∧ Below w.heap.size w w' := by
  have := scale_w X n hX h0 h1 w
  rw [tW_no h] at this
  exact this
theorem of_wv (n : Int) (h0 : -9223372036854775808 ≤ n) (h1 : n ≤ 9223372036854775807) (w : World) : Calls Tryd.prog 23 #[.int .i64 n] w fun e w' => e = .returned (wv (hiW n) (loW n)) ∧ Below w.heap.size w w' := of_w n h0 h1 w
theorem div_wv (X m : Int) (hX : inW X) (hm : 1 ≤ m) (hm' : m ≤ 9223372036854775807) (w : World) : Calls Tryd.prog 30 #[wv (hiW X) (loW X), .int .i64 m] w fun e w' => e = .returned (.tuple #[wv (hiW (X / m)) (loW (X / m)), .int .i64 (X % m), .int .i64 0]) ∧ Below w.heap.size w w' := div_w X m hX hm hm' w
theorem quo_in {X m : Int} (hX : inW X) (hm : 1 ≤ m) : inW (X / m) := by
  obtain ⟨k, rfl⟩ := Int.eq_ofNat_of_zero_le (show 0 ≤ m by omega)
  obtain ⟨p1, p2, p3⟩ := div_plain X k (by omega)
  have hQ : X.natAbs / k ≤ X.natAbs := Nat.div_le_self _ _
  have hQ1 : X.natAbs % k ≠ 0 → X.natAbs / k < X.natAbs ∨ k = 1 := fun h0 => by
    rcases Nat.lt_or_ge k 2 with h | h
    · right; omega
    · left
      refine Nat.div_lt_self ?_ h
      rcases Nat.eq_zero_or_pos X.natAbs with h' | h'
      · rw [h'] at h0; exact absurd (Nat.zero_mod k) h0
      · exact h'
  have h1k : k = 1 → X.natAbs % k = 0 := fun h => by rw [h]; exact Nat.mod_one _
  generalize X.natAbs / k = Q at *
  generalize X.natAbs % k = R at *
  by_cases hx : X < 0
  · by_cases h0 : R = 0
    · have := (p2 hx h0).1
      omega
    · have := (p3 hx h0).1
      rcases hQ1 h0 with h | h
      · omega
      · exact absurd (h1k h) h0
  · have := (p1 (by omega)).1
    omega
set_option maxRecDepth 100000 in
set_option maxHeartbeats 1000000 in
theorem wWhole_core (x0a x0b m : Int) (w : World) (w0a : (Lit.int .i64 x0a).wf = true) (w0b : (Lit.int .u64 x0b).wf = true) (w1 : (Lit.int .i64 m).wf = true) (htab : Tab w) :
    Calls Tryd.prog 10 #[wv x0a x0b, .int .i64 m] w fun e w' => e = .returned (.bool true) ∧ Below w.heap.size w w' := by
  obtain ⟨X, hX, rfl, rfl⟩ := wide_in w0a w0b
  obtain ⟨m0, m1⟩ := i64_wf w1
  clear w0a w0b w1
  show Calls Tryd.prog 10 #[wv (hiW X) (loW X), .int .i64 m] w _
  have HTAB := hid htab
  have HWK := hid (fun w h => wakes_c w h)
  clear htab
  have kb_a := (Blk.new_at (g := w.heap.size) w 24 #[.int .i64 (hiW X), .int .u64 (loW X)] (by simp))
  have hw0 := ba1 w (oW (hiW X) (loW X))
  go_enter Tryd.func10, Tryd.ntmps10
  have ht1 := HTAB.out.below hw0
  go_wp2_with fail
  refine (HWK.out _ ht1).mono ?_
  rintro e w1 ⟨rfl, hb1⟩
  have kb_a_1 := (kb_a).under hb1
  have hw1 := below_two hw0 hb1
  clear kb_a hw0 hb1 ht1
  obtain ⟨ca0_1, ca1_1, fa0_1, fa1_1, la_1⟩ := kb_a_1.two
  clear HWK
  by_cases hm : m < 1
  · have HC := hid (fun w => show Calls Tryd.prog 29 #[wv (hiW X) (loW X), wv (hiW X) (loW X)] w fun e w' => e = .returned (.int .i64 0) ∧ Below w.heap.size w w' from by have := cmp_wv X X w; rw [show cmpV X X = 0 from if_pos rfl] at this; exact this)
    go_wp2_with fail
    refine (HC.out _).mono ?_
    rintro e w2 ⟨rfl, hb2⟩
    have kb_a_2 := (kb_a_1).under hb2
    have hw2 := below_two hw1 hb2
    clear kb_a_1 hw1 hb2
    clear ca0_1 ca1_1 fa0_1 fa1_1 la_1
    obtain ⟨ca0_2, ca1_2, fa0_2, fa1_2, la_2⟩ := kb_a_2.two
    go_wp2
    go_ret
    exact ⟨rfl, hw2⟩
  · have tm : decide (m < 1) = false := decide_eq_false hm
    have hq := quo_in (m := m) hX (by omega)
    have hr0 := Int.emod_nonneg X (show m ≠ 0 by omega)
    have hr1 := Int.emod_lt_of_pos X (show 0 < m by omega)
    have hqr := Int.mul_ediv_add_emod X m
    rw [Int.mul_comm] at hqr
    have HD := hid (fun w => div_wv X m hX (by omega) m1 w)
    generalize X / m = q at *
    generalize X % m = r at *
    have tr : decide (r < 0) = false := decide_eq_false (by omega)
    have tr2 : decide (m ≤ r) = false := decide_eq_false (by omega)
    go_wp2_with fail
    refine (HD.out _).mono ?_
    rintro e w2 ⟨rfl, hb2⟩
    have kb_a_2 := (kb_a_1).under hb2
    have hw2 := below_two hw1 hb2
    clear kb_a_1 hw1 hb2
    clear ca0_1 ca1_1 fa0_1 fa1_1 la_1
    obtain ⟨ca0_2, ca1_2, fa0_2, fa1_2, la_2⟩ := kb_a_2.two
    clear HD
    by_cases hs : inW (q * m)
    · have HS := hid (fun w => scale_yes q m hq m0 m1 w hs)
      have HO := hid (fun w => of_wv r (by omega) (by omega) w)
      have HA := hid (fun w => show Calls Tryd.prog 14 #[wv (hiW (q * m)) (loW (q * m)), wv (hiW r) (loW r)] w fun e w' => e = .returned (.tuple #[wv (hiW X) (loW X), .int .i64 0]) ∧ Below w.heap.size w w' from by have := add_yes (q * m) r hs (by omega) w (by rw [hqr]; exact hX); rw [hqr] at this; exact this)
      clear hs hqr hX hq
      generalize hiW (q * m) = ph at *
      generalize loW (q * m) = pl at *
      generalize hiW r = rh at *
      generalize loW r = rl at *
      generalize hiW q = qh at *
      generalize loW q = ql at *
      generalize hiW X = xh at *
      generalize loW X = xl at *
      go_wp2_with fail
      refine (HS.out _).mono ?_
      rintro e w3 ⟨rfl, hb3⟩
      have hp3 := below_alloc hw2 (Nat.le_refl _) (oW qh ql)
      have kb_a_3 := (kb_a_2.alloc (oW qh ql)).under hb3
      have kb_q_3 := (Blk.new w2 24 #[.int .i64 qh, .int .u64 ql]).under hb3
      have hw3 := below_two hp3 hb3
      clear kb_a_2 hw2 hp3 hb3
      clear ca0_2 ca1_2 fa0_2 fa1_2 la_2
      obtain ⟨ca0_3, ca1_3, fa0_3, fa1_3, la_3⟩ := kb_a_3.two
      obtain ⟨cq0_3, cq1_3, fq0_3, fq1_3, lq_3⟩ := kb_q_3.two
      clear HS
      have kA := kb_a_3.alloc (oW ph pl)
      have kP := Blk.new w3 24 #[.int .i64 ph, .int .u64 pl]
      have hwp := below_alloc hw3 (Nat.le_refl _) (oW ph pl)
      go_upto_region 11 with fail
      clear kb_a_3 kb_q_3 hw3 ca0_3 ca1_3 fa0_3 fa1_3 la_3 cq0_3 cq1_3 fq0_3 fq1_3 lq_3
      generalize w3.alloc (oW ph pl) = wr at *
      generalize w3.heap.size = gp at *
      refine wp_region_noPanic ?_
      refine wp_region_held_drew (S := (fun w' => Blk w' w.heap.size 24 #[.int .i64 xh, .int .u64 xl] ∧ Blk w' gp 24 #[.int .i64 ph, .int .u64 pl] ∧ Below w.heap.size w w')) (by kernel_rfl) ⟨kA.drew, kP.drew, ⟨hwp.os, hwp.tape, hwp.output, hwp.size, hwp.block⟩⟩ (fun hHeld => ?_)
      refine wpAnyH_take (i := 0) (v := ?_) rfl (by kernel_rfl) (by kernel_rfl) (by kernel_rfl) (fun _ _ _ h => h) (Or.inl ⟨by rfl, ?_⟩) (by assumption) ?_
      rotate_left
      · intro W hW
        obtain ⟨kx, ky, kz⟩ := hW
        obtain ⟨x0, x1, x2, x3, x4⟩ := kx.two
        obtain ⟨y0, y1, y2, y3, y4⟩ := ky.two
        go_simp
        try rfl
      simp only [List.getElem_toArray, List.getElem_cons_zero, Act.put, List.setIfInBounds_toArray, List.set_cons_zero, List.set_cons_succ]
      refine wpAnyH_take (i := 1) (v := ?_) rfl (by kernel_rfl) (by kernel_rfl) (by kernel_rfl) (fun _ _ _ h => h) (Or.inl ⟨by rfl, ?_⟩) (by assumption) ?_
      rotate_left
      · intro W hW
        obtain ⟨kx, ky, kz⟩ := hW
        obtain ⟨x0, x1, x2, x3, x4⟩ := kx.two
        obtain ⟨y0, y1, y2, y3, y4⟩ := ky.two
        go_simp
        try rfl
      simp only [List.getElem_toArray, List.getElem_cons_succ, List.getElem_cons_zero, Act.put, List.setIfInBounds_toArray, List.set_cons_zero, List.set_cons_succ]
      refine wpAnyH_ready (rs := [2, 7]) (by kernel_rfl) (by simp) ?_
      refine AllReadyH.cons rfl (fun K hK => ?_) (AllReadyH.cons rfl (fun K hK => ?_) AllReadyH.nil)
      · go_simp
        refine (HO.out _).mono ?_
        rintro e wo ⟨rfl, hbo⟩
        refine hK.out _ _ ⟨hHeld.1.under hbo, hHeld.2.1.under hbo, below_two hHeld.2.2 hbo⟩ (fun hHeld => ?_)
        clear hK K
        try simp only [List.getElem_toArray, List.getElem_cons_succ, List.getElem_cons_zero, Act.put, List.setIfInBounds_toArray, List.set_cons_zero, List.set_cons_succ]
        refine wpAnyH_ready (rs := [3, 7]) (by kernel_rfl) (by simp) ?_
        refine AllReadyH.cons rfl (fun K hK => ?_) (AllReadyH.cons rfl (fun K hK => ?_) AllReadyH.nil)
        · go_simp
          refine (HA.out _).mono ?_
          rintro e wx ⟨rfl, hbx⟩
          refine hK.out _ _ ⟨hHeld.1.under hbx, hHeld.2.1.under hbx, below_two hHeld.2.2 hbx⟩ (fun hHeld => ?_)
          clear hK K
          try simp only [List.getElem_toArray, List.getElem_cons_succ, List.getElem_cons_zero, Act.put, List.setIfInBounds_toArray, List.set_cons_zero, List.set_cons_succ]
          refine wpAnyH_take (i := 4) (v := ?_) rfl (by kernel_rfl) (by kernel_rfl) (by kernel_rfl) (fun _ _ _ h => h) (Or.inl ⟨by rfl, ?_⟩) (by assumption) ?_
          rotate_left
          · intro W hW
            obtain ⟨kx, ky, kz⟩ := hW
            obtain ⟨x0, x1, x2, x3, x4⟩ := kx.two
            obtain ⟨y0, y1, y2, y3, y4⟩ := ky.two
            go_simp
            try rfl
          simp only [List.getElem_toArray, List.getElem_cons_succ, List.getElem_cons_zero, Act.put, List.setIfInBounds_toArray, List.set_cons_zero, List.set_cons_succ]
          refine wpAnyH_take (i := 5) (v := ?_) rfl (by kernel_rfl) (by kernel_rfl) (by kernel_rfl) (fun _ _ _ h => h) (Or.inl ⟨by rfl, ?_⟩) (by assumption) ?_
          rotate_left
          · intro W hW
            obtain ⟨kx, ky, kz⟩ := hW
            obtain ⟨x0, x1, x2, x3, x4⟩ := kx.two
            obtain ⟨y0, y1, y2, y3, y4⟩ := ky.two
            go_simp
            try rfl
          simp only [List.getElem_toArray, List.getElem_cons_succ, List.getElem_cons_zero, Act.put, List.setIfInBounds_toArray, List.set_cons_zero, List.set_cons_succ]
          refine wpAnyH_take (i := 6) (v := ?_) rfl (by kernel_rfl) (by kernel_rfl) (by kernel_rfl) (fun _ _ _ h => h) (Or.inl ⟨by rfl, ?_⟩) (by assumption) ?_
          rotate_left
          · intro W hW
            obtain ⟨kx, ky, kz⟩ := hW
            obtain ⟨x0, x1, x2, x3, x4⟩ := kx.two
            obtain ⟨y0, y1, y2, y3, y4⟩ := ky.two
            go_simp
            try rfl
          simp only [List.getElem_toArray, List.getElem_cons_succ, List.getElem_cons_zero, Act.put, List.setIfInBounds_toArray, List.set_cons_zero, List.set_cons_succ]
          have kA4 := hHeld.1.alloc (oW xh xl)
          have kP4 := hHeld.2.1.alloc (oW xh xl)
          have hw4' := below_alloc hHeld.2.2 (Nat.le_refl _) (oW xh xl)
          refine wpAnyH_ready (rs := [7]) (by kernel_rfl) (by simp) ?_
          refine AllReadyH.cons rfl (fun K hK => ?_) AllReadyH.nil
          · go_simp
            refine hK.out _ _ ⟨hHeld.1.alloc _, hHeld.2.1.alloc _, below_alloc hHeld.2.2 (Nat.le_refl _) _⟩ (fun hHeld => ?_)
            clear hK K
            try simp only [List.getElem_toArray, List.getElem_cons_succ, List.getElem_cons_zero, Act.put, List.setIfInBounds_toArray, List.set_cons_zero, List.set_cons_succ]
            refine wpAnyH_ready (rs := [8]) (by kernel_rfl) (by simp) ?_
            refine AllReadyH.cons rfl (fun K hK => ?_) AllReadyH.nil
            · go_simp
              refine hK.out _ _ ⟨kA4, kP4, hw4'⟩ (fun hHeld => ?_)
              clear hK K
              try simp only [List.getElem_toArray, List.getElem_cons_succ, List.getElem_cons_zero, Act.put, List.setIfInBounds_toArray, List.set_cons_zero, List.set_cons_succ]
              refine wpAnyH_take (i := 9) (v := ?_) rfl (by kernel_rfl) (by kernel_rfl) (by kernel_rfl) (fun _ _ _ h => h) (Or.inl ⟨by rfl, ?_⟩) (by assumption) ?_
              rotate_left
              · intro W hW
                obtain ⟨kx, ky, kz⟩ := hW
                obtain ⟨x0, x1, x2, x3, x4⟩ := kx.two
                obtain ⟨y0, y1, y2, y3, y4⟩ := ky.two
                go_simp
                try rfl
              simp only [List.getElem_toArray, List.getElem_cons_succ, List.getElem_cons_zero, Act.put, List.setIfInBounds_toArray, List.set_cons_zero, List.set_cons_succ]
              refine wpAnyH_done (by kernel_rfl) ?_ _
              refine NoPanic.normal ?_
              obtain ⟨kA9, kP9, hw9⟩ := hHeld
              obtain ⟨a0, a1, a2, a3, a4⟩ := kA9.two
              go_wp2
              go_ret
              exact ⟨rfl, hw9⟩
        · go_simp
          obtain ⟨gN, hgNe⟩ : ∃ g, g = (wo).heap.size := ⟨_, rfl⟩
          have kN0 := Blk.new_at (g := gN) (wo) 24 #[.int .i64 0, .int .u64 0] hgNe
          have hne1 : w.heap.size ≠ gN := by have := hHeld.1.lt; omega
          have hne2 : gp ≠ gN := by have := hHeld.2.1.lt; omega
          have hgN : w.heap.size ≤ gN := by have := hHeld.1.lt; omega
          rw [← hgNe]
          clear hgNe
          refine hK.out _ _ ⟨hHeld.1.alloc _, hHeld.2.1.alloc _, below_alloc hHeld.2.2 (Nat.le_refl _) _⟩ (fun hHeld => ?_)
          clear hK K
          try simp only [List.getElem_toArray, List.getElem_cons_succ, List.getElem_cons_zero, Act.put, List.setIfInBounds_toArray, List.set_cons_zero, List.set_cons_succ]
          refine wpAnyH_ready (rs := [3]) (by kernel_rfl) (by simp) ?_
          refine AllReadyH.cons rfl (fun K hK => ?_) AllReadyH.nil
          · go_simp
            refine (HA.out _).mono ?_
            rintro e wx ⟨rfl, hbx⟩
            have kN := kN0.under hbx
            refine hK.out _ _ ⟨hHeld.1.under hbx, hHeld.2.1.under hbx, below_two hHeld.2.2 hbx⟩ (fun hHeld => ?_)
            clear hK K
            try simp only [List.getElem_toArray, List.getElem_cons_succ, List.getElem_cons_zero, Act.put, List.setIfInBounds_toArray, List.set_cons_zero, List.set_cons_succ]
            refine wpAnyH_take (i := 4) (v := ?_) rfl (by kernel_rfl) (by kernel_rfl) (by kernel_rfl) (fun _ _ _ h => h) (Or.inl ⟨by rfl, ?_⟩) (by assumption) ?_
            rotate_left
            · intro W hW
              obtain ⟨kx, ky, kz⟩ := hW
              obtain ⟨x0, x1, x2, x3, x4⟩ := kx.two
              obtain ⟨y0, y1, y2, y3, y4⟩ := ky.two
              go_simp
              try rfl
            simp only [List.getElem_toArray, List.getElem_cons_succ, List.getElem_cons_zero, Act.put, List.setIfInBounds_toArray, List.set_cons_zero, List.set_cons_succ]
            refine wpAnyH_take (i := 5) (v := ?_) rfl (by kernel_rfl) (by kernel_rfl) (by kernel_rfl) (fun _ _ _ h => h) (Or.inl ⟨by rfl, ?_⟩) (by assumption) ?_
            rotate_left
            · intro W hW
              obtain ⟨kx, ky, kz⟩ := hW
              obtain ⟨x0, x1, x2, x3, x4⟩ := kx.two
              obtain ⟨y0, y1, y2, y3, y4⟩ := ky.two
              go_simp
              try rfl
            simp only [List.getElem_toArray, List.getElem_cons_succ, List.getElem_cons_zero, Act.put, List.setIfInBounds_toArray, List.set_cons_zero, List.set_cons_succ]
            refine wpAnyH_take (i := 6) (v := ?_) rfl (by kernel_rfl) (by kernel_rfl) (by kernel_rfl) (fun _ _ _ h => h) (Or.inl ⟨by rfl, ?_⟩) (by assumption) ?_
            rotate_left
            · intro W hW
              obtain ⟨kx, ky, kz⟩ := hW
              obtain ⟨x0, x1, x2, x3, x4⟩ := kx.two
              obtain ⟨y0, y1, y2, y3, y4⟩ := ky.two
              go_simp
              try rfl
            simp only [List.getElem_toArray, List.getElem_cons_succ, List.getElem_cons_zero, Act.put, List.setIfInBounds_toArray, List.set_cons_zero, List.set_cons_succ]
            obtain ⟨d0, d1, d2, d3, d4⟩ := kN.two
            refine wpAnyH_ready (rs := [8]) (by kernel_rfl) (by simp) ?_
            refine AllReadyH.cons rfl (fun K hK => ?_) AllReadyH.nil
            · go_simp
              refine hK.out _ _ ⟨(hHeld.1.far (p := ⟨gN, 0, none⟩) hne1 _).far (p := ⟨gN, 1, none⟩) hne1 _, (hHeld.2.1.far (p := ⟨gN, 0, none⟩) hne2 _).far (p := ⟨gN, 1, none⟩) hne2 _, (hHeld.2.2.setCell (p := ⟨gN, 0, none⟩) hgN _).setCell (p := ⟨gN, 1, none⟩) hgN _⟩ (fun hHeld => ?_)
              clear hK K
              try simp only [List.getElem_toArray, List.getElem_cons_succ, List.getElem_cons_zero, Act.put, List.setIfInBounds_toArray, List.set_cons_zero, List.set_cons_succ]
              refine wpAnyH_take (i := 9) (v := ?_) rfl (by kernel_rfl) (by kernel_rfl) (by kernel_rfl) (fun _ _ _ h => h) (Or.inl ⟨by rfl, ?_⟩) (by assumption) ?_
              rotate_left
              · intro W hW
                obtain ⟨kx, ky, kz⟩ := hW
                obtain ⟨x0, x1, x2, x3, x4⟩ := kx.two
                obtain ⟨y0, y1, y2, y3, y4⟩ := ky.two
                go_simp
                try rfl
              simp only [List.getElem_toArray, List.getElem_cons_succ, List.getElem_cons_zero, Act.put, List.setIfInBounds_toArray, List.set_cons_zero, List.set_cons_succ]
              refine wpAnyH_done (by kernel_rfl) ?_ _
              refine NoPanic.normal ?_
              obtain ⟨kA9, kP9, hw9⟩ := hHeld
              obtain ⟨a0, a1, a2, a3, a4⟩ := kA9.two
              have kN9 := kN.set2 (.int .i64 xh) (.int .u64 xl)
              obtain ⟨n0, n1, n2, n3, n4⟩ := kN9.two
              clear d0 d1 d2 d3 d4
              go_wp2
              go_ret
              exact ⟨rfl, hw9⟩
      · go_simp
        obtain ⟨gN, hgNe⟩ : ∃ g, g = (wr).heap.size := ⟨_, rfl⟩
        have kN0 := Blk.new_at (g := gN) (wr) 24 #[.int .i64 0, .int .u64 0] hgNe
        have hne1 : w.heap.size ≠ gN := by have := kA.lt; omega
        have hne2 : gp ≠ gN := by have := kP.lt; omega
        have hgN : w.heap.size ≤ gN := by have := kA.lt; omega
        rw [← hgNe]
        clear hgNe
        refine hK.out _ _ ⟨hHeld.1.alloc _, hHeld.2.1.alloc _, below_alloc hHeld.2.2 (Nat.le_refl _) _⟩ (fun hHeld => ?_)
        clear hK K
        try simp only [List.getElem_toArray, List.getElem_cons_succ, List.getElem_cons_zero, Act.put, List.setIfInBounds_toArray, List.set_cons_zero, List.set_cons_succ]
        refine wpAnyH_ready (rs := [2]) (by kernel_rfl) (by simp) ?_
        refine AllReadyH.cons rfl (fun K hK => ?_) AllReadyH.nil
        · go_simp
          refine (HO.out _).mono ?_
          rintro e wo ⟨rfl, hbo⟩
          have kN1 := kN0.drew.under hbo
          refine hK.out _ _ ⟨hHeld.1.under hbo, hHeld.2.1.under hbo, below_two hHeld.2.2 hbo⟩ (fun hHeld => ?_)
          clear hK K
          try simp only [List.getElem_toArray, List.getElem_cons_succ, List.getElem_cons_zero, Act.put, List.setIfInBounds_toArray, List.set_cons_zero, List.set_cons_succ]
          refine wpAnyH_ready (rs := [3]) (by kernel_rfl) (by simp) ?_
          refine AllReadyH.cons rfl (fun K hK => ?_) AllReadyH.nil
          · go_simp
            refine (HA.out _).mono ?_
            rintro e wx ⟨rfl, hbx⟩
            have kN := kN1.under hbx
            refine hK.out _ _ ⟨hHeld.1.under hbx, hHeld.2.1.under hbx, below_two hHeld.2.2 hbx⟩ (fun hHeld => ?_)
            clear hK K
            try simp only [List.getElem_toArray, List.getElem_cons_succ, List.getElem_cons_zero, Act.put, List.setIfInBounds_toArray, List.set_cons_zero, List.set_cons_succ]
            refine wpAnyH_take (i := 4) (v := ?_) rfl (by kernel_rfl) (by kernel_rfl) (by kernel_rfl) (fun _ _ _ h => h) (Or.inl ⟨by rfl, ?_⟩) (by assumption) ?_
            rotate_left
            · intro W hW
              obtain ⟨kx, ky, kz⟩ := hW
              obtain ⟨x0, x1, x2, x3, x4⟩ := kx.two
              obtain ⟨y0, y1, y2, y3, y4⟩ := ky.two
              go_simp
              try rfl
            simp only [List.getElem_toArray, List.getElem_cons_succ, List.getElem_cons_zero, Act.put, List.setIfInBounds_toArray, List.set_cons_zero, List.set_cons_succ]
            refine wpAnyH_take (i := 5) (v := ?_) rfl (by kernel_rfl) (by kernel_rfl) (by kernel_rfl) (fun _ _ _ h => h) (Or.inl ⟨by rfl, ?_⟩) (by assumption) ?_
            rotate_left
            · intro W hW
              obtain ⟨kx, ky, kz⟩ := hW
              obtain ⟨x0, x1, x2, x3, x4⟩ := kx.two
              obtain ⟨y0, y1, y2, y3, y4⟩ := ky.two
              go_simp
              try rfl
            simp only [List.getElem_toArray, List.getElem_cons_succ, List.getElem_cons_zero, Act.put, List.setIfInBounds_toArray, List.set_cons_zero, List.set_cons_succ]
            refine wpAnyH_take (i := 6) (v := ?_) rfl (by kernel_rfl) (by kernel_rfl) (by kernel_rfl) (fun _ _ _ h => h) (Or.inl ⟨by rfl, ?_⟩) (by assumption) ?_
            rotate_left
            · intro W hW
              obtain ⟨kx, ky, kz⟩ := hW
              obtain ⟨x0, x1, x2, x3, x4⟩ := kx.two
              obtain ⟨y0, y1, y2, y3, y4⟩ := ky.two
              go_simp
              try rfl
            simp only [List.getElem_toArray, List.getElem_cons_succ, List.getElem_cons_zero, Act.put, List.setIfInBounds_toArray, List.set_cons_zero, List.set_cons_succ]
            obtain ⟨d0, d1, d2, d3, d4⟩ := kN.two
            refine wpAnyH_ready (rs := [8]) (by kernel_rfl) (by simp) ?_
            refine AllReadyH.cons rfl (fun K hK => ?_) AllReadyH.nil
            · go_simp
              refine hK.out _ _ ⟨(hHeld.1.far (p := ⟨gN, 0, none⟩) hne1 _).far (p := ⟨gN, 1, none⟩) hne1 _, (hHeld.2.1.far (p := ⟨gN, 0, none⟩) hne2 _).far (p := ⟨gN, 1, none⟩) hne2 _, (hHeld.2.2.setCell (p := ⟨gN, 0, none⟩) hgN _).setCell (p := ⟨gN, 1, none⟩) hgN _⟩ (fun hHeld => ?_)
              clear hK K
              try simp only [List.getElem_toArray, List.getElem_cons_succ, List.getElem_cons_zero, Act.put, List.setIfInBounds_toArray, List.set_cons_zero, List.set_cons_succ]
              refine wpAnyH_take (i := 9) (v := ?_) rfl (by kernel_rfl) (by kernel_rfl) (by kernel_rfl) (fun _ _ _ h => h) (Or.inl ⟨by rfl, ?_⟩) (by assumption) ?_
              rotate_left
              · intro W hW
                obtain ⟨kx, ky, kz⟩ := hW
                obtain ⟨x0, x1, x2, x3, x4⟩ := kx.two
                obtain ⟨y0, y1, y2, y3, y4⟩ := ky.two
                go_simp
                try rfl
              simp only [List.getElem_toArray, List.getElem_cons_succ, List.getElem_cons_zero, Act.put, List.setIfInBounds_toArray, List.set_cons_zero, List.set_cons_succ]
              refine wpAnyH_done (by kernel_rfl) ?_ _
              refine NoPanic.normal ?_
              obtain ⟨kA9, kP9, hw9⟩ := hHeld
              obtain ⟨a0, a1, a2, a3, a4⟩ := kA9.two
              have kN9 := kN.set2 (.int .i64 xh) (.int .u64 xl)
              obtain ⟨n0, n1, n2, n3, n4⟩ := kN9.two
              clear d0 d1 d2 d3 d4
              go_wp2
              go_ret
              exact ⟨rfl, hw9⟩
    · have HS := hid (fun w => scale_no q m hq m0 m1 w hs)
      have hx0 : X < 0 := by omega
      have hr2 : 0 < r := by omega
      have th : hiW X < 0 := (hi_neg X).2 hx0
      clear hs hqr hX hq hx0
      generalize hiW q = qh at *
      generalize loW q = ql at *
      generalize hiW X = xh at *
      generalize loW X = xl at *
      go_wp2_with fail
      refine (HS.out _).mono ?_
      rintro e w3 ⟨rfl, hb3⟩
      have hp3 := below_alloc hw2 (Nat.le_refl _) (oW qh ql)
      have kb_a_3 := (kb_a_2.alloc (oW qh ql)).under hb3
      have kb_q_3 := (Blk.new w2 24 #[.int .i64 qh, .int .u64 ql]).under hb3
      have hw3 := below_two hp3 hb3
      clear kb_a_2 hw2 hp3 hb3
      clear ca0_2 ca1_2 fa0_2 fa1_2 la_2
      obtain ⟨ca0_3, ca1_3, fa0_3, fa1_3, la_3⟩ := kb_a_3.two
      obtain ⟨cq0_3, cq1_3, fq0_3, fq1_3, lq_3⟩ := kb_q_3.two
      go_wp2
      have hpe := below_alloc hw3 (Nat.le_refl _) (oW 0 0)
      go_ret
      exact ⟨rfl, hpe⟩
end Go.Proofs.YtpomhcclnhddmaaDoor
