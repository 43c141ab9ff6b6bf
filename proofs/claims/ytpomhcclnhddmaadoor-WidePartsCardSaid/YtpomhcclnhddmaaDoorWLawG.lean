/- Walks of the laws over wide: WideTimes. -/
import Derived.Test.YtpomhcclnhddmaaDoorWLawF
namespace Go.Proofs.YtpomhcclnhddmaaDoor
open Go.RowKit Go.Shelf
open Go.Lib (hid)
set_option linter.unusedVariables false
theorem scale_tw (X n : Int) (hX : inW X) (h0 : -9223372036854775808 ≤ n) (h1 : n ≤ 9223372036854775807) (w : World) : Calls Tryd.prog 22 #[wv (hiW X) (loW X), .int .i64 n] w (RetTW (X * n) w) := tw_of (scale_w X n hX h0 h1 w)
theorem tw_yes {x : Int} (h : inW x) : TW x (hiW x) (loW x) 0 := .inl ⟨h, rfl, rfl, rfl⟩
theorem mul_big {X n : Int} (hX : inW X) (h0 : -9223372036854775808 ≤ n) (h1 : n ≤ 9223372036854775807) : -(2 ^ 512 : Int) ≤ X * n ∧ X * n ≤ 2 ^ 512 := by
  have e1 : (X * n).natAbs = X.natAbs * n.natAbs := Int.natAbs_mul X n
  have e2 : X.natAbs * n.natAbs ≤ 170141183460469231731687303715884105728 * 9223372036854775808 := Nat.mul_le_mul (by omega) (by omega)
  omega
set_option maxRecDepth 100000 in
set_option maxHeartbeats 1000000 in
theorem wTimes_core (m n x2a x2b : Int) (w : World) (w0 : (Lit.int .i64 m).wf = true) (w1 : (Lit.int .i64 n).wf = true) (w2a : (Lit.int .i64 x2a).wf = true) (w2b : (Lit.int .u64 x2b).wf = true) (htab : Tab w) :
    Calls Tryd.prog 5 #[.int .i64 m, .int .i64 n, wv x2a x2b] w fun e w' => e = .returned (.bool true) ∧ Below w.heap.size w w' := by
  obtain ⟨X, hX, rfl, rfl⟩ := wide_in w2a w2b
  obtain ⟨m0, m1⟩ := i64_wf w0
  obtain ⟨n0, n1⟩ := i64_wf w1
  clear w0 w1 w2a w2b
  show Calls Tryd.prog 5 #[.int .i64 m, .int .i64 n, wv (hiW X) (loW X)] w _
  have HTAB := hid htab
  have HWK := hid (fun w h => wakes_c w h)
  have HIM := hid (fun w => int_c m w m0 m1)
  have HI_N := hid (fun w => int_c n w n0 n1)
  have HSC := hid (fun w => scale_tw X n hX n0 n1 w)
  have HOF := hid (fun w => of_wv m m0 m1 w)
  have HML := hid (fun w => mul_wv m n m0 m1 n0 n1 w)
  have HOX := hid (fun w => ofn_c X hX w)
  have HTM := hid (tw_yes (inW_small m0 m1))
  have HTP := hid (tw_yes (mul_in m0 m1 n0 n1))
  have HIN := hid (And.intro hX (And.intro (And.intro m0 m1) (And.intro n0 n1)))
  have HBP := hid (mul_big (X := m) (inW_small m0 m1) n0 n1)
  have HBX := hid (mul_big hX n0 n1)
  clear htab hX m0 m1 n0 n1
  generalize hiW X = xh at *
  generalize loW X = xl at *
  generalize hiW (m * n) = ph at *
  generalize loW (m * n) = pl at *
  generalize hiW m = mh at *
  generalize loW m = ml at *
  have ka := Blk.new_at (g := w.heap.size) w 24 #[.int .i64 xh, .int .u64 xl] rfl
  have hw := (Below.refl w.heap.size w).alloc (Nat.le_refl _) (oW xh xl)
  have ht := HTAB.out.below hw
  go_enter Tryd.func5, Tryd.ntmps5
  go_wp2_with fail
  refine (HWK.out _ ht).mono ?_
  rintro e w1 ⟨rfl, hb1⟩
  have ka := ka.under hb1
  have hw := below_two hw hb1
  clear ht hb1 HWK HTAB
  go_wp2_with fail
  refine (HIM.out _).mono ?_
  rintro e w2 ⟨b1, A1, p1, d1, rfl, hn1, hb2⟩
  have ka := ka.under hb2
  have hw := below_two hw hb2
  clear hb2
  go_wp2_with fail
  refine (HI_N.out _).mono ?_
  rintro e w3 ⟨b2, A2, p2, d2, rfl, hn2, hb3⟩
  have ka := ka.under hb3
  have hn1 := hn1.below hb3
  have hw := below_two hw hb3
  clear hb3
  obtain ⟨a0, a1, a2, a3, a4⟩ := ka.two
  go_upto_region 4 with fail
  clear a0 a1 a2 a3 a4
  have k1 := (Blk.new_at (g := w3.heap.size) w3 28 #[.bool b1, .slice A1 p1 d1] rfl).alloc (bNum b2 A2 p2 d2)
  have k2 := Blk.new_at (g := w3.heap.size + 1) (w3.alloc (bNum b1 A1 p1 d1)) 28 #[.bool b2, .slice A2 p2 d2] (by simp)
  have ka := (ka.alloc (bNum b1 A1 p1 d1)).alloc (bNum b2 A2 p2 d2)
  have hn1 := (hn1.alloc (bNum b1 A1 p1 d1)).alloc (bNum b2 A2 p2 d2)
  have hn2 := (hn2.alloc (bNum b1 A1 p1 d1)).alloc (bNum b2 A2 p2 d2)
  have hw := below_alloc (below_alloc hw (Nat.le_refl _) (bNum b1 A1 p1 d1)) (by simp) (bNum b2 A2 p2 d2)
  generalize (w3.alloc (bNum b1 A1 p1 d1)).alloc (bNum b2 A2 p2 d2) = w4 at *
  generalize w3.heap.size = g1 at *
  obtain ⟨cka0_11, cka1_11, cka2_11, cka3_11, cka4_11⟩ := ka.two
  obtain ⟨ck10_11, ck11_11, ck12_11, ck13_11, ck14_11⟩ := k1.two
  obtain ⟨ck20_11, ck21_11, ck22_11, ck23_11, ck24_11⟩ := k2.two
  go_wp2_with fail
  clear cka0_11 cka1_11 cka2_11 cka3_11 cka4_11 ck10_11 ck11_11 ck12_11 ck13_11 ck14_11 ck20_11 ck21_11 ck22_11 ck23_11 ck24_11
  refine (HSC.out _).mono ?_
  rintro e w11 ⟨sh, sl, se, rfl, HP, hb11⟩
  have ka := ka.under hb11
  have k1 := k1.under hb11
  have k2 := k2.under hb11
  have hn1 := hn1.below hb11
  have hn2 := hn2.below hb11
  have hw := below_two hw hb11
  clear hb11
  obtain ⟨cka0_12, cka1_12, cka2_12, cka3_12, cka4_12⟩ := ka.two
  obtain ⟨ck10_12, ck11_12, ck12_12, ck13_12, ck14_12⟩ := k1.two
  obtain ⟨ck20_12, ck21_12, ck22_12, ck23_12, ck24_12⟩ := k2.two
  go_upto_region 5 with fail
  clear cka0_12 cka1_12 cka2_12 cka3_12 cka4_12 ck10_12 ck11_12 ck12_12 ck13_12 ck14_12 ck20_12 ck21_12 ck22_12 ck23_12 ck24_12
  have ka_ := ka.alloc (oW sh sl)
  have k1_ := k1.alloc (oW sh sl)
  have k2_ := k2.alloc (oW sh sl)
  have hn1_ := hn1.alloc (oW sh sl)
  have hn2_ := hn2.alloc (oW sh sl)
  have kp_ := Blk.new w11 24 #[.int .i64 sh, .int .u64 sl]
  have hw_ := below_alloc hw (Nat.le_refl _) (oW sh sl)
  clear ka k1 k2 hn1 hn2 hw
  generalize w11.heap.size = gkp at *
  generalize w11.alloc (oW sh sl) = wa12 at *
  have ka := ka_
  clear ka_
  have k1 := k1_
  clear k1_
  have k2 := k2_
  clear k2_
  have kp := kp_
  clear kp_
  have hn1 := hn1_
  clear hn1_
  have hn2 := hn2_
  clear hn2_
  have hw := hw_
  clear hw_
  refine wp_region_noPanic ?_
  refine wp_region_held_drew (S := (fun w' => Below wa12.heap.size wa12 w')) (by kernel_rfl) (Below.refl wa12.heap.size wa12).drew (fun hHeld => ?_)
  clear hHeld
  have hB : Below wa12.heap.size wa12 wa12.drew := (Below.refl wa12.heap.size wa12).drew
  refine wpAnyH_take (i := 0) (v := ?_) rfl (by kernel_rfl) (by kernel_rfl) (by kernel_rfl) (fun _ _ _ h => h) (Or.inl ⟨by rfl, ?_⟩) (by assumption) ?_
  rotate_left
  · intro W hW
    go_simp
    try rfl
  simp only [List.getElem_toArray, List.getElem_cons_zero, Act.put, List.setIfInBounds_toArray, List.set_cons_zero, List.set_cons_succ]
  refine wpAnyH_take (i := 2) (v := ?_) rfl (by kernel_rfl) (by kernel_rfl) (by kernel_rfl) (fun _ _ _ h => h) (Or.inl ⟨by rfl, ?_⟩) (by assumption) ?_
  rotate_left
  · intro W hW
    have kx := k1.under hW
    obtain ⟨z0, z1, z2, z3, z4⟩ := kx.two
    go_simp
    try rfl
  simp only [List.getElem_toArray, List.getElem_cons_succ, List.getElem_cons_zero, Act.put, List.setIfInBounds_toArray, List.set_cons_zero, List.set_cons_succ]
  refine wpAnyH_ready (rs := [1]) (by kernel_rfl) (by simp) ?_
  refine AllReadyH.cons rfl (fun K hK => ?_) AllReadyH.nil
  go_simp
  refine (HOF.out _).mono ?_
  rintro e wc1 ⟨rfl, hc1⟩
  have hB := below_two hB hc1
  refine hK.out _ _ hB (fun hHeld => ?_)
  clear hK K
  try simp only [List.getElem_toArray, List.getElem_cons_succ, List.getElem_cons_zero, Act.put, List.setIfInBounds_toArray, List.set_cons_zero, List.set_cons_succ]
  clear hHeld
  refine wpAnyH_ready (rs := [3]) (by kernel_rfl) (by simp) ?_
  refine AllReadyH.cons rfl (fun K hK => ?_) AllReadyH.nil
  go_simp
  refine (is_c HTM.out (hn1.below hB) (num_len (hn1.below hB) (by have := HIN.out; omega))).mono ?_
  rintro e wc3 ⟨rfl, hc3⟩
  have hB := below_two hB hc3
  refine hK.out _ _ hB (fun hHeld => ?_)
  clear hK K
  try simp only [List.getElem_toArray, List.getElem_cons_succ, List.getElem_cons_zero, Act.put, List.setIfInBounds_toArray, List.set_cons_zero, List.set_cons_succ]
  clear hHeld
  refine wpAnyH_take (i := 4) (v := ?_) rfl (by kernel_rfl) (by kernel_rfl) (by kernel_rfl) (fun _ _ _ h => h) (Or.inl ⟨by rfl, ?_⟩) (by assumption) ?_
  rotate_left
  · intro W hW
    go_simp
    try rfl
  simp only [List.getElem_toArray, List.getElem_cons_succ, List.getElem_cons_zero, Act.put, List.setIfInBounds_toArray, List.set_cons_zero, List.set_cons_succ]
  refine wpAnyH_take (i := 5) (v := ?_) rfl (by kernel_rfl) (by kernel_rfl) (by kernel_rfl) (fun _ _ _ h => h) (Or.inl ⟨by rfl, ?_⟩) (by assumption) ?_
  rotate_left
  · intro W hW
    go_simp
    try rfl
  simp only [List.getElem_toArray, List.getElem_cons_succ, List.getElem_cons_zero, Act.put, List.setIfInBounds_toArray, List.set_cons_zero, List.set_cons_succ]
  refine wpAnyH_take (i := 6) (v := ?_) rfl (by kernel_rfl) (by kernel_rfl) (by kernel_rfl) (fun _ _ _ h => h) (Or.inl ⟨by rfl, ?_⟩) (by assumption) ?_
  rotate_left
  · intro W hW
    go_simp
    try rfl
  simp only [List.getElem_toArray, List.getElem_cons_succ, List.getElem_cons_zero, Act.put, List.setIfInBounds_toArray, List.set_cons_zero, List.set_cons_succ]
  refine wpAnyH_take (i := 8) (v := ?_) rfl (by kernel_rfl) (by kernel_rfl) (by kernel_rfl) (fun _ _ _ h => h) (Or.inl ⟨by rfl, ?_⟩) (by assumption) ?_
  rotate_left
  · intro W hW
    have kx := k1.under hW
    obtain ⟨z0, z1, z2, z3, z4⟩ := kx.two
    go_simp
    try rfl
  simp only [List.getElem_toArray, List.getElem_cons_succ, List.getElem_cons_zero, Act.put, List.setIfInBounds_toArray, List.set_cons_zero, List.set_cons_succ]
  refine wpAnyH_take (i := 9) (v := ?_) rfl (by kernel_rfl) (by kernel_rfl) (by kernel_rfl) (fun _ _ _ h => h) (Or.inl ⟨by rfl, ?_⟩) (by assumption) ?_
  rotate_left
  · intro W hW
    have kx := k2.under hW
    obtain ⟨z0, z1, z2, z3, z4⟩ := kx.two
    go_simp
    try rfl
  simp only [List.getElem_toArray, List.getElem_cons_succ, List.getElem_cons_zero, Act.put, List.setIfInBounds_toArray, List.set_cons_zero, List.set_cons_succ]
  refine wpAnyH_ready (rs := [7]) (by kernel_rfl) (by simp) ?_
  refine AllReadyH.cons rfl (fun K hK => ?_) AllReadyH.nil
  go_simp
  refine (HML.out _).mono ?_
  rintro e wc7 ⟨rfl, hc7⟩
  have hB := below_two hB hc7
  refine hK.out _ _ hB (fun hHeld => ?_)
  clear hK K
  try simp only [List.getElem_toArray, List.getElem_cons_succ, List.getElem_cons_zero, Act.put, List.setIfInBounds_toArray, List.set_cons_zero, List.set_cons_succ]
  clear hHeld
  refine wpAnyH_ready (rs := [10]) (by kernel_rfl) (by simp) ?_
  refine AllReadyH.cons rfl (fun K hK => ?_) AllReadyH.nil
  go_simp
  refine (mul_c (hn1.below hB) (hn2.below hB) (num_len hn1 (by have := HIN.out; omega)) (num_len hn2 (by have := HIN.out; omega))).mono ?_
  rintro e wc10 ⟨c10, C10, q10, r10, rfl, hm10, hc10⟩
  have hB := below_two hB hc10
  refine hK.out _ _ hB (fun hHeld => ?_)
  clear hK K
  try simp only [List.getElem_toArray, List.getElem_cons_succ, List.getElem_cons_zero, Act.put, List.setIfInBounds_toArray, List.set_cons_zero, List.set_cons_succ]
  clear hHeld
  refine wpAnyH_ready (rs := [11]) (by kernel_rfl) (by simp) ?_
  refine AllReadyH.cons rfl (fun K hK => ?_) AllReadyH.nil
  go_simp
  refine (is_c HTP.out hm10 (num_len hm10 HBP.out)).mono ?_
  rintro e wc11 ⟨rfl, hc11⟩
  have hB := below_two hB hc11
  refine hK.out _ _ hB (fun hHeld => ?_)
  clear hK K
  try simp only [List.getElem_toArray, List.getElem_cons_succ, List.getElem_cons_zero, Act.put, List.setIfInBounds_toArray, List.set_cons_zero, List.set_cons_succ]
  clear hHeld
  refine wpAnyH_take (i := 12) (v := ?_) rfl (by kernel_rfl) (by kernel_rfl) (by kernel_rfl) (fun _ _ _ h => h) (Or.inl ⟨by rfl, ?_⟩) (by assumption) ?_
  rotate_left
  · intro W hW
    go_simp
    try rfl
  simp only [List.getElem_toArray, List.getElem_cons_succ, List.getElem_cons_zero, Act.put, List.setIfInBounds_toArray, List.set_cons_zero, List.set_cons_succ]
  refine wpAnyH_take (i := 13) (v := ?_) rfl (by kernel_rfl) (by kernel_rfl) (by kernel_rfl) (fun _ _ _ h => h) (Or.inl ⟨by rfl, ?_⟩) (by assumption) ?_
  rotate_left
  · intro W hW
    go_simp
    try rfl
  simp only [List.getElem_toArray, List.getElem_cons_succ, List.getElem_cons_zero, Act.put, List.setIfInBounds_toArray, List.set_cons_zero, List.set_cons_succ]
  refine wpAnyH_take (i := 14) (v := ?_) rfl (by kernel_rfl) (by kernel_rfl) (by kernel_rfl) (fun _ _ _ h => h) (Or.inl ⟨by rfl, ?_⟩) (by assumption) ?_
  rotate_left
  · intro W hW
    have kx := kp.under hW
    obtain ⟨z0, z1, z2, z3, z4⟩ := kx.two
    go_simp
    try rfl
  simp only [List.getElem_toArray, List.getElem_cons_succ, List.getElem_cons_zero, Act.put, List.setIfInBounds_toArray, List.set_cons_zero, List.set_cons_succ]
  refine wpAnyH_take (i := 15) (v := ?_) rfl (by kernel_rfl) (by kernel_rfl) (by kernel_rfl) (fun _ _ _ h => h) (Or.inl ⟨by rfl, ?_⟩) (by assumption) ?_
  rotate_left
  · intro W hW
    go_simp
    try rfl
  simp only [List.getElem_toArray, List.getElem_cons_succ, List.getElem_cons_zero, Act.put, List.setIfInBounds_toArray, List.set_cons_zero, List.set_cons_succ]
  refine wpAnyH_take (i := 16) (v := ?_) rfl (by kernel_rfl) (by kernel_rfl) (by kernel_rfl) (fun _ _ _ h => h) (Or.inl ⟨by rfl, ?_⟩) (by assumption) ?_
  rotate_left
  · intro W hW
    have kx := ka.under hW
    obtain ⟨z0, z1, z2, z3, z4⟩ := kx.two
    go_simp
    try rfl
  simp only [List.getElem_toArray, List.getElem_cons_succ, List.getElem_cons_zero, Act.put, List.setIfInBounds_toArray, List.set_cons_zero, List.set_cons_succ]
  refine wpAnyH_take (i := 18) (v := ?_) rfl (by kernel_rfl) (by kernel_rfl) (by kernel_rfl) (fun _ _ _ h => h) (Or.inl ⟨by rfl, ?_⟩) (by assumption) ?_
  rotate_left
  · intro W hW
    have kx := k2.under hW
    obtain ⟨z0, z1, z2, z3, z4⟩ := kx.two
    go_simp
    try rfl
  simp only [List.getElem_toArray, List.getElem_cons_succ, List.getElem_cons_zero, Act.put, List.setIfInBounds_toArray, List.set_cons_zero, List.set_cons_succ]
  refine wpAnyH_ready (rs := [17]) (by kernel_rfl) (by simp) ?_
  refine AllReadyH.cons rfl (fun K hK => ?_) AllReadyH.nil
  go_simp
  refine (HOX.out _).mono ?_
  rintro e wc17 ⟨c17, C17, q17, r17, rfl, hm17, hc17⟩
  have hB := below_two hB hc17
  refine hK.out _ _ hB (fun hHeld => ?_)
  clear hK K
  try simp only [List.getElem_toArray, List.getElem_cons_succ, List.getElem_cons_zero, Act.put, List.setIfInBounds_toArray, List.set_cons_zero, List.set_cons_succ]
  clear hHeld
  refine wpAnyH_ready (rs := [19]) (by kernel_rfl) (by simp) ?_
  refine AllReadyH.cons rfl (fun K hK => ?_) AllReadyH.nil
  go_simp
  refine (mul_c hm17 (hn2.below hB) (num_len hm17 (by have := HIN.out; omega)) (num_len hn2 (by have := HIN.out; omega))).mono ?_
  rintro e wc19 ⟨c19, C19, q19, r19, rfl, hm19, hc19⟩
  have hB := below_two hB hc19
  refine hK.out _ _ hB (fun hHeld => ?_)
  clear hK K
  try simp only [List.getElem_toArray, List.getElem_cons_succ, List.getElem_cons_zero, Act.put, List.setIfInBounds_toArray, List.set_cons_zero, List.set_cons_succ]
  clear hHeld
  refine wpAnyH_ready (rs := [20]) (by kernel_rfl) (by simp) ?_
  refine AllReadyH.cons rfl (fun K hK => ?_) AllReadyH.nil
  go_simp
  refine (is_c HP.out hm19 (num_len hm19 HBX.out)).mono ?_
  rintro e wc20 ⟨rfl, hc20⟩
  have hB := below_two hB hc20
  refine hK.out _ _ hB (fun hHeld => ?_)
  clear hK K
  try simp only [List.getElem_toArray, List.getElem_cons_succ, List.getElem_cons_zero, Act.put, List.setIfInBounds_toArray, List.set_cons_zero, List.set_cons_succ]
  clear hHeld
  refine wpAnyH_take (i := 21) (v := ?_) rfl (by kernel_rfl) (by kernel_rfl) (by kernel_rfl) (fun _ _ _ h => h) (Or.inl ⟨by rfl, ?_⟩) (by assumption) ?_
  rotate_left
  · intro W hW
    go_simp
    try rfl
  simp only [List.getElem_toArray, List.getElem_cons_succ, List.getElem_cons_zero, Act.put, List.setIfInBounds_toArray, List.set_cons_zero, List.set_cons_succ]
  refine wpAnyH_take (i := 22) (v := ?_) rfl (by kernel_rfl) (by kernel_rfl) (by kernel_rfl) (fun _ _ _ h => h) (Or.inl ⟨by rfl, ?_⟩) (by assumption) ?_
  rotate_left
  · intro W hW
    go_simp
    try rfl
  simp only [List.getElem_toArray, List.getElem_cons_succ, List.getElem_cons_zero, Act.put, List.setIfInBounds_toArray, List.set_cons_zero, List.set_cons_succ]
  refine wpAnyH_done (by kernel_rfl) ?_ _
  refine NoPanic.normal ?_
  go_wp2
  go_ret
  exact ⟨rfl, below_two hw hB⟩
end Go.Proofs.YtpomhcclnhddmaaDoor
