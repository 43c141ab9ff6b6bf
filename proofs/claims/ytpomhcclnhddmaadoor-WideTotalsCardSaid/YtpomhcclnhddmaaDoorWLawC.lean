/- Walks of the laws over wide: WideOrder. -/
import Derived.Test.YtpomhcclnhddmaaDoorWLawB
import Derived.Deep.QuietTactic
import Derived.BigQuiet
import Derived.Deep.DeepCutAuto
namespace Go.Proofs.YtpomhcclnhddmaaDoor
open Go.RowKit Go.Shelf
open Go.Lib (hid)
set_option linter.unusedVariables false
theorem cmp_cases (X Y : Int) : (cmpV X Y = -1 ∧ X < Y) ∨ (cmpV X Y = 0 ∧ X = Y) ∨ (cmpV X Y = 1 ∧ Y < X) := by
  unfold cmpV; split
  · omega
  · split <;> omega
theorem cmp_turn (X Y : Int) : cmpV Y X = -cmpV X Y := by
  rcases cmp_cases X Y with h | h | h <;> rcases cmp_cases Y X with k | k | k <;> omega
theorem cmp_add (X Y Z : Int) : cmpV (X + Z) (Y + Z) = cmpV X Y := by
  rcases cmp_cases X Y with h | h | h <;> rcases cmp_cases (X + Z) (Y + Z) with k | k | k <;> omega
theorem cmp_trans (X Y Z : Int) : (cmpV X Y ≤ 0 → cmpV Y Z ≤ 0 → cmpV X Z ≤ 0) ∧ (0 ≤ cmpV X Y → 0 ≤ cmpV Y Z → 0 ≤ cmpV X Z) := by
  rcases cmp_cases X Y with h | h | h <;> rcases cmp_cases Y Z with k | k | k <;> rcases cmp_cases X Z with l | l | l <;> omega
theorem words_eq {X Y : Int} (h1 : hiW X = hiW Y) (h2 : loW X = loW Y) : X = Y := by unfold hiW loW at *; omega
set_option maxRecDepth 100000 in
set_option maxHeartbeats 2000000 in
theorem wOrder_core (x0a x0b x1a x1b x2a x2b : Int) (w : World) (w0a : (Lit.int .i64 x0a).wf = true) (w0b : (Lit.int .u64 x0b).wf = true) (w1a : (Lit.int .i64 x1a).wf = true) (w1b : (Lit.int .u64 x1b).wf = true) (w2a : (Lit.int .i64 x2a).wf = true) (w2b : (Lit.int .u64 x2b).wf = true) (htab : Tab w) :
    Calls Tryd.prog 7 #[wv x0a x0b, wv x1a x1b, wv x2a x2b] w fun e w' => e = .returned (.bool true) ∧ Below w.heap.size w w' := by
  obtain ⟨X, hX, rfl, rfl⟩ := wide_in w0a w0b
  obtain ⟨Y, hY, rfl, rfl⟩ := wide_in w1a w1b
  obtain ⟨Z, hZ, rfl, rfl⟩ := wide_in w2a w2b
  clear w0a w0b w1a w1b w2a w2b
  show Calls Tryd.prog 7 #[wv (hiW X) (loW X), wv (hiW Y) (loW Y), wv (hiW Z) (loW Z)] w _
  have HTAB := hid htab
  have HWK := hid (fun w h => wakes_c w h)
  clear htab
  have hmb : -9223372036854775808 ≤ wrap64 (loW X) ∧ wrap64 (loW X) ≤ 9223372036854775807 := by unfold wrap64; omega
  have hnb : -9223372036854775808 ≤ wrap64 (loW Y) ∧ wrap64 (loW Y) ≤ 9223372036854775807 := by unfold wrap64; omega
  obtain ⟨mm, hmm⟩ : ∃ m, wrap64 (loW X) = m := ⟨_, rfl⟩
  obtain ⟨nn, hnn⟩ : ∃ m, wrap64 (loW Y) = m := ⟨_, rfl⟩
  have hmm2 : IntKind.i64.wrap (loW X) = mm := by rw [IntKind.wrap_i64, ← hmm]; unfold wrap64; omega
  have hnn2 : IntKind.i64.wrap (loW Y) = nn := by rw [IntKind.wrap_i64, ← hnn]; unfold wrap64; omega
  rw [hmm] at hmb
  rw [hnn] at hnb
  have HOM := hid (fun w => of_wv mm hmb.1 hmb.2 w)
  have HON := hid (fun w => of_wv nn hnb.1 hnb.2 w)
  have HCM := hid (fun w => cmp_wv mm nn w)
  have hmn : decide (cmpV mm nn < 0) = decide (mm < nn) := decide_eq_decide.2 (by rcases cmp_cases mm nn with h | h | h <;> omega)
  clear hmb hnb
  have HXZ := hid (fun w (h : inW (X + Z)) => add_yes X Z hX hZ w h)
  have HXZn := hid (fun w (h : ¬ inW (X + Z)) => add_no X Z hX hZ w h)
  have HYZ := hid (fun w (h : inW (Y + Z)) => add_yes Y Z hY hZ w h)
  have HYZn := hid (fun w (h : ¬ inW (Y + Z)) => add_no Y Z hY hZ w h)
  have HCS := hid (fun w => show Calls Tryd.prog 29 #[wv (hiW (X + Z)) (loW (X + Z)), wv (hiW (Y + Z)) (loW (Y + Z))] w fun e w' => e = .returned (.int .i64 (cmpV X Y)) ∧ Below w.heap.size w w' from by have := cmp_wv (X + Z) (Y + Z) w; rw [cmp_add] at this; exact this)
  have HXY := hid (fun w => cmp_wv X Y w)
  have HYW := hid (fun w => cmp_wv Y Z w)
  have HXW := hid (fun w => cmp_wv X Z w)
  have HYX := hid (fun w => cmp_wv Y X w)
  have hturn := cmp_turn X Y
  obtain ⟨ht1, ht2⟩ := cmp_trans X Y Z
  have hc1 := cmp_cases X Y
  have hc2 := cmp_cases Y Z
  have hweq := @words_eq X Y
  generalize cmpV X Y = x at *
  generalize cmpV Y Z = y at *
  generalize cmpV X Z = z at *
  generalize cmpV Y X = nx at *
  generalize cmpV mm nn = cm at *
  have hx3 : x = -1 ∨ x = 0 ∨ x = 1 := by omega
  have hy3 : y = -1 ∨ y = 0 ∨ y = 1 := by omega
  have hxe : x = 0 → hiW X = hiW Y ∧ loW X = loW Y := by
    intro h
    have e : X = Y := by omega
    rw [e]; exact ⟨rfl, rfl⟩
  have hxn : x ≠ 0 → ¬ hiW X = hiW Y ∨ (hiW X = hiW Y ∧ ¬ loW X = loW Y) := by
    intro h
    by_cases h1 : hiW X = hiW Y
    · right; refine ⟨h1, fun h2 => h ?_⟩
      have := hweq h1 h2
      omega
    · left; exact h1
  have hin : inW (X + Z) ∨ ¬ inW (X + Z) := Decidable.em _
  have hin2 : inW (Y + Z) ∨ ¬ inW (Y + Z) := Decidable.em _
  generalize inW (X + Z) = PX at *
  generalize inW (Y + Z) = PY at *
  clear hc1 hc2 hweq hX hY hZ
  generalize hiW (X + Z) = ph at *
  generalize loW (X + Z) = pl at *
  generalize hiW (Y + Z) = qh at *
  generalize loW (Y + Z) = ql at *
  generalize hiW X = xh at *
  generalize loW X = xl at *
  generalize hiW Y = yh at *
  generalize loW Y = yl at *
  generalize hiW Z = zh at *
  generalize loW Z = zl at *
  generalize hiW mm = mh at *
  generalize loW mm = ml at *
  generalize hiW nn = nh at *
  generalize loW nn = nl at *
  have HH := hid (And.intro hxe (And.intro hxn (And.intro hin hin2)))
  have HT := hid (And.intro ht1 (And.intro ht2 (And.intro hx3 (And.intro hy3 hturn))))
  clear hxe hxn hin hin2 ht1 ht2 hx3 hy3 hturn
  have kb_a := (((Blk.new_at (g := w.heap.size) w 24 #[.int .i64 xh, .int .u64 xl] (by simp)).alloc (oW yh yl)).alloc (oW zh zl))
  have kb_b := ((Blk.new_at (g := w.heap.size + 1) (w.alloc (oW xh xl)) 24 #[.int .i64 yh, .int .u64 yl] (by simp)).alloc (oW zh zl))
  have kb_c := (Blk.new_at (g := w.heap.size + 1 + 1) ((w.alloc (oW xh xl)).alloc (oW yh yl)) 24 #[.int .i64 zh, .int .u64 zl] (by simp))
  have hw0 := ba3 w (oW xh xl) (oW yh yl) (oW zh zl)
  go_enter Tryd.func7, Tryd.ntmps7
  have ht1 := HTAB.out.below hw0
  go_wp2_with fail
  refine (HWK.out _ ht1).mono ?_
  rintro e w1 ⟨rfl, hb1⟩
  have kb_a_1 := (kb_a).under hb1
  have kb_b_1 := (kb_b).under hb1
  have kb_c_1 := (kb_c).under hb1
  have hw1 := below_two hw0 hb1
  clear kb_a kb_b kb_c hw0 hb1 ht1
  obtain ⟨ca0_1, ca1_1, fa0_1, fa1_1, la_1⟩ := kb_a_1.two
  obtain ⟨cb0_1, cb1_1, fb0_1, fb1_1, lb_1⟩ := kb_b_1.two
  obtain ⟨cc0_1, cc1_1, fc0_1, fc1_1, lc_1⟩ := kb_c_1.two
  clear HWK
  go_upto_region 3 with fail
  refine wp_region_noPanic ?_
  refine wp_region_held_drew (S := (fun w' => Blk w' w.heap.size 24 #[.int .i64 xh, .int .u64 xl] ∧ Blk w' (w.heap.size + 1) 24 #[.int .i64 yh, .int .u64 yl] ∧ Blk w' (w.heap.size + 1 + 1) 24 #[.int .i64 zh, .int .u64 zl] ∧ Below w.heap.size w w')) (by kernel_rfl) ⟨kb_a_1.drew, kb_b_1.drew, kb_c_1.drew, ⟨hw1.os, hw1.tape, hw1.output, hw1.size, hw1.block⟩⟩ (fun hHeld => ?_)
  refine wpAnyH_take (i := 0) (v := ?_) rfl (by kernel_rfl) (by kernel_rfl) (by kernel_rfl) (fun _ _ _ h => h) (Or.inl ⟨by rfl, ?_⟩) (by assumption) ?_
  rotate_left
  · intro W hW
    obtain ⟨kx, ky, kz, kw⟩ := hW
    obtain ⟨x0, x1, x2, x3, x4⟩ := kx.two
    obtain ⟨y0, y1, y2, y3, y4⟩ := ky.two
    obtain ⟨z0, z1, z2, z3, z4⟩ := kz.two
    go_simp
    try rfl
  simp only [List.getElem_toArray, List.getElem_cons_zero, Act.put, List.setIfInBounds_toArray, List.set_cons_zero, List.set_cons_succ]
  refine wpAnyH_take (i := 1) (v := ?_) rfl (by kernel_rfl) (by kernel_rfl) (by kernel_rfl) (fun _ _ _ h => h) (Or.inl ⟨by rfl, ?_⟩) (by assumption) ?_
  rotate_left
  · intro W hW
    obtain ⟨kx, ky, kz, kw⟩ := hW
    obtain ⟨x0, x1, x2, x3, x4⟩ := kx.two
    obtain ⟨y0, y1, y2, y3, y4⟩ := ky.two
    obtain ⟨z0, z1, z2, z3, z4⟩ := kz.two
    go_simp
    try rfl
  simp only [List.getElem_toArray, List.getElem_cons_succ, List.getElem_cons_zero, Act.put, List.setIfInBounds_toArray, List.set_cons_zero, List.set_cons_succ]
  refine wpAnyH_take (i := 3) (v := ?_) rfl (by kernel_rfl) (by kernel_rfl) (by kernel_rfl) (fun _ _ _ h => h) (Or.inl ⟨by rfl, ?_⟩) (by assumption) ?_
  rotate_left
  · intro W hW
    obtain ⟨kx, ky, kz, kw⟩ := hW
    obtain ⟨x0, x1, x2, x3, x4⟩ := kx.two
    obtain ⟨y0, y1, y2, y3, y4⟩ := ky.two
    obtain ⟨z0, z1, z2, z3, z4⟩ := kz.two
    go_simp
    try rfl
  simp only [List.getElem_toArray, List.getElem_cons_succ, List.getElem_cons_zero, Act.put, List.setIfInBounds_toArray, List.set_cons_zero, List.set_cons_succ]
  refine wpAnyH_take (i := 4) (v := ?_) rfl (by kernel_rfl) (by kernel_rfl) (by kernel_rfl) (fun _ _ _ h => h) (Or.inl ⟨by rfl, ?_⟩) (by assumption) ?_
  rotate_left
  · intro W hW
    obtain ⟨kx, ky, kz, kw⟩ := hW
    obtain ⟨x0, x1, x2, x3, x4⟩ := kx.two
    obtain ⟨y0, y1, y2, y3, y4⟩ := ky.two
    obtain ⟨z0, z1, z2, z3, z4⟩ := kz.two
    go_simp
    try rfl
  simp only [List.getElem_toArray, List.getElem_cons_succ, List.getElem_cons_zero, Act.put, List.setIfInBounds_toArray, List.set_cons_zero, List.set_cons_succ]
  refine wpAnyH_take (i := 6) (v := ?_) rfl (by kernel_rfl) (by kernel_rfl) (by kernel_rfl) (fun _ _ _ h => h) (Or.inl ⟨by rfl, ?_⟩) (by assumption) ?_
  rotate_left
  · intro W hW
    obtain ⟨kx, ky, kz, kw⟩ := hW
    obtain ⟨x0, x1, x2, x3, x4⟩ := kx.two
    obtain ⟨y0, y1, y2, y3, y4⟩ := ky.two
    obtain ⟨z0, z1, z2, z3, z4⟩ := kz.two
    go_simp
    try rfl
  simp only [List.getElem_toArray, List.getElem_cons_succ, List.getElem_cons_zero, Act.put, List.setIfInBounds_toArray, List.set_cons_zero, List.set_cons_succ]
  refine wpAnyH_take (i := 7) (v := ?_) rfl (by kernel_rfl) (by kernel_rfl) (by kernel_rfl) (fun _ _ _ h => h) (Or.inl ⟨by rfl, ?_⟩) (by assumption) ?_
  rotate_left
  · intro W hW
    obtain ⟨kx, ky, kz, kw⟩ := hW
    obtain ⟨x0, x1, x2, x3, x4⟩ := kx.two
    obtain ⟨y0, y1, y2, y3, y4⟩ := ky.two
    obtain ⟨z0, z1, z2, z3, z4⟩ := kz.two
    go_simp
    try rfl
  simp only [List.getElem_toArray, List.getElem_cons_succ, List.getElem_cons_zero, Act.put, List.setIfInBounds_toArray, List.set_cons_zero, List.set_cons_succ]
  refine wpAnyH_ready (rs := [2]) (by kernel_rfl) (by simp) ?_
  refine AllReadyH.cons rfl (fun K hK => ?_) AllReadyH.nil
  go_simp
  refine (HXY.out _).mono ?_
  rintro e wa ⟨rfl, hba⟩
  refine hK.out _ _ ⟨hHeld.1.under hba, hHeld.2.1.under hba, hHeld.2.2.1.under hba, below_two hHeld.2.2.2 hba⟩ (fun hHeld => ?_)
  clear hK K
  try simp only [List.getElem_toArray, List.getElem_cons_succ, List.getElem_cons_zero, Act.put, List.setIfInBounds_toArray, List.set_cons_zero, List.set_cons_succ]
  refine wpAnyH_ready (rs := [5]) (by kernel_rfl) (by simp) ?_
  refine AllReadyH.cons rfl (fun K hK => ?_) AllReadyH.nil
  go_simp
  refine (HYW.out _).mono ?_
  rintro e wb ⟨rfl, hbb⟩
  refine hK.out _ _ ⟨hHeld.1.under hbb, hHeld.2.1.under hbb, hHeld.2.2.1.under hbb, below_two hHeld.2.2.2 hbb⟩ (fun hHeld => ?_)
  clear hK K
  try simp only [List.getElem_toArray, List.getElem_cons_succ, List.getElem_cons_zero, Act.put, List.setIfInBounds_toArray, List.set_cons_zero, List.set_cons_succ]
  refine wpAnyH_ready (rs := [8]) (by kernel_rfl) (by simp) ?_
  refine AllReadyH.cons rfl (fun K hK => ?_) AllReadyH.nil
  go_simp
  refine (HXW.out _).mono ?_
  rintro e wc ⟨rfl, hbc⟩
  refine hK.out _ _ ⟨hHeld.1.under hbc, hHeld.2.1.under hbc, hHeld.2.2.1.under hbc, below_two hHeld.2.2.2 hbc⟩ (fun hHeld => ?_)
  clear hK K
  try simp only [List.getElem_toArray, List.getElem_cons_succ, List.getElem_cons_zero, Act.put, List.setIfInBounds_toArray, List.set_cons_zero, List.set_cons_succ]
  refine wpAnyH_take (i := 9) (v := ?_) rfl (by kernel_rfl) (by kernel_rfl) (by kernel_rfl) (fun _ _ _ h => h) (Or.inl ⟨by rfl, ?_⟩) (by assumption) ?_
  rotate_left
  · intro W hW
    obtain ⟨kx, ky, kz, kw⟩ := hW
    obtain ⟨x0, x1, x2, x3, x4⟩ := kx.two
    obtain ⟨y0, y1, y2, y3, y4⟩ := ky.two
    obtain ⟨z0, z1, z2, z3, z4⟩ := kz.two
    go_simp
    try rfl
  simp only [List.getElem_toArray, List.getElem_cons_succ, List.getElem_cons_zero, Act.put, List.setIfInBounds_toArray, List.set_cons_zero, List.set_cons_succ]
  refine wpAnyH_take (i := 10) (v := ?_) rfl (by kernel_rfl) (by kernel_rfl) (by kernel_rfl) (fun _ _ _ h => h) (Or.inl ⟨by rfl, ?_⟩) (by assumption) ?_
  rotate_left
  · intro W hW
    obtain ⟨kx, ky, kz, kw⟩ := hW
    obtain ⟨x0, x1, x2, x3, x4⟩ := kx.two
    obtain ⟨y0, y1, y2, y3, y4⟩ := ky.two
    obtain ⟨z0, z1, z2, z3, z4⟩ := kz.two
    go_simp
    try rfl
  simp only [List.getElem_toArray, List.getElem_cons_succ, List.getElem_cons_zero, Act.put, List.setIfInBounds_toArray, List.set_cons_zero, List.set_cons_succ]
  refine wpAnyH_take (i := 11) (v := ?_) rfl (by kernel_rfl) (by kernel_rfl) (by kernel_rfl) (fun _ _ _ h => h) (Or.inl ⟨by rfl, ?_⟩) (by assumption) ?_
  rotate_left
  · intro W hW
    obtain ⟨kx, ky, kz, kw⟩ := hW
    obtain ⟨x0, x1, x2, x3, x4⟩ := kx.two
    obtain ⟨y0, y1, y2, y3, y4⟩ := ky.two
    obtain ⟨z0, z1, z2, z3, z4⟩ := kz.two
    go_simp
    try rfl
  simp only [List.getElem_toArray, List.getElem_cons_succ, List.getElem_cons_zero, Act.put, List.setIfInBounds_toArray, List.set_cons_zero, List.set_cons_succ]
  refine wpAnyH_done (by kernel_rfl) ?_ _
  refine NoPanic.normal ?_
  have HB0 := hid hHeld
  clear hba hbb hbc hHeld HXY HYW HXW kb_a_1 kb_b_1 kb_c_1 hw1 ca0_1 ca1_1 fa0_1 fa1_1 la_1 cb0_1 cb1_1 fb0_1 fb1_1 lb_1 cc0_1 cc1_1 fc0_1 fc1_1 lc_1
  go_upto_region 4 with fail
  go_cut [64] (fun u64 wx => u64 = .bool false ∧ Blk wx w.heap.size 24 #[.int .i64 xh, .int .u64 xl] ∧ Blk wx (w.heap.size + 1) 24 #[.int .i64 yh, .int .u64 yl] ∧ Blk wx (w.heap.size + 1 + 1) 24 #[.int .i64 zh, .int .u64 zl] ∧ Below w.heap.size w wx)
  case first =>
    obtain ⟨ka, kb, kc, hw⟩ := HB0.out
    obtain ⟨a0, a1, a2, a3, a4⟩ := ka.two
    obtain ⟨b0, b1, b2, b3, b4⟩ := kb.two
    obtain ⟨hxe, hxn, _, _⟩ := HH.out
    obtain ⟨ht1, ht2, hx3, hy3, hturn⟩ := HT.out
    clear HH HT HB0
    rcases hx3 with rfl | rfl | rfl
    · obtain rfl : nx = 1 := by omega
      rcases hxn (by decide) with he | ⟨rfl, he⟩
      · rcases hy3 with rfl | rfl | rfl
        · have te : (xh == yh) = false := beq_eq_false_iff_ne.2 he
          have tz1 : decide (0 < z) = false := decide_eq_false (by omega)
          clear ht1 ht2 hxe hxn hturn
          have HYX2 := hid (fun w => HYX.out w)
          clear HYX
          go_wp2_with fail
          refine (HYX2.out _).mono ?_; rintro e wn ⟨rfl, hbn⟩
          have ka2 := ka.under hbn
          have kb2 := kb.under hbn
          have kc2 := kc.under hbn
          have hw2 := below_two hw hbn
          clear a0 a1 a2 a3 a4 b0 b1 b2 b3 b4 ka kb kc hw hbn
          obtain ⟨a0, a1, a2, a3, a4⟩ := ka2.two
          obtain ⟨b0, b1, b2, b3, b4⟩ := kb2.two
          go_wp2_with fail
          go_meet
          exact ⟨rfl, ka2, kb2, kc2, hw2⟩
        · have te : (xh == yh) = false := beq_eq_false_iff_ne.2 he
          have tz1 : decide (0 < z) = false := decide_eq_false (by omega)
          clear ht1 ht2 hxe hxn hturn
          have HYX2 := hid (fun w => HYX.out w)
          clear HYX
          go_wp2_with fail
          refine (HYX2.out _).mono ?_; rintro e wn ⟨rfl, hbn⟩
          have ka2 := ka.under hbn
          have kb2 := kb.under hbn
          have kc2 := kc.under hbn
          have hw2 := below_two hw hbn
          clear a0 a1 a2 a3 a4 b0 b1 b2 b3 b4 ka kb kc hw hbn
          obtain ⟨a0, a1, a2, a3, a4⟩ := ka2.two
          obtain ⟨b0, b1, b2, b3, b4⟩ := kb2.two
          go_wp2_with fail
          go_meet
          exact ⟨rfl, ka2, kb2, kc2, hw2⟩
        · have te : (xh == yh) = false := beq_eq_false_iff_ne.2 he
          clear ht1 ht2 hxe hxn hturn
          have HYX2 := hid (fun w => HYX.out w)
          clear HYX
          go_wp2_with fail
          refine (HYX2.out _).mono ?_; rintro e wn ⟨rfl, hbn⟩
          have ka2 := ka.under hbn
          have kb2 := kb.under hbn
          have kc2 := kc.under hbn
          have hw2 := below_two hw hbn
          clear a0 a1 a2 a3 a4 b0 b1 b2 b3 b4 ka kb kc hw hbn
          obtain ⟨a0, a1, a2, a3, a4⟩ := ka2.two
          obtain ⟨b0, b1, b2, b3, b4⟩ := kb2.two
          go_wp2_with fail
          go_meet
          exact ⟨rfl, ka2, kb2, kc2, hw2⟩
      · rcases hy3 with rfl | rfl | rfl
        · have te : (xl == yl) = false := beq_eq_false_iff_ne.2 he
          have tz1 : decide (0 < z) = false := decide_eq_false (by omega)
          clear ht1 ht2 hxe hxn hturn
          have HYX2 := hid (fun w => HYX.out w)
          clear HYX
          go_wp2_with fail
          refine (HYX2.out _).mono ?_; rintro e wn ⟨rfl, hbn⟩
          have ka2 := ka.under hbn
          have kb2 := kb.under hbn
          have kc2 := kc.under hbn
          have hw2 := below_two hw hbn
          clear a0 a1 a2 a3 a4 b0 b1 b2 b3 b4 ka kb kc hw hbn
          obtain ⟨a0, a1, a2, a3, a4⟩ := ka2.two
          obtain ⟨b0, b1, b2, b3, b4⟩ := kb2.two
          go_wp2_with fail
          go_meet
          exact ⟨rfl, ka2, kb2, kc2, hw2⟩
        · have te : (xl == yl) = false := beq_eq_false_iff_ne.2 he
          have tz1 : decide (0 < z) = false := decide_eq_false (by omega)
          clear ht1 ht2 hxe hxn hturn
          have HYX2 := hid (fun w => HYX.out w)
          clear HYX
          go_wp2_with fail
          refine (HYX2.out _).mono ?_; rintro e wn ⟨rfl, hbn⟩
          have ka2 := ka.under hbn
          have kb2 := kb.under hbn
          have kc2 := kc.under hbn
          have hw2 := below_two hw hbn
          clear a0 a1 a2 a3 a4 b0 b1 b2 b3 b4 ka kb kc hw hbn
          obtain ⟨a0, a1, a2, a3, a4⟩ := ka2.two
          obtain ⟨b0, b1, b2, b3, b4⟩ := kb2.two
          go_wp2_with fail
          go_meet
          exact ⟨rfl, ka2, kb2, kc2, hw2⟩
        · have te : (xl == yl) = false := beq_eq_false_iff_ne.2 he
          clear ht1 ht2 hxe hxn hturn
          have HYX2 := hid (fun w => HYX.out w)
          clear HYX
          go_wp2_with fail
          refine (HYX2.out _).mono ?_; rintro e wn ⟨rfl, hbn⟩
          have ka2 := ka.under hbn
          have kb2 := kb.under hbn
          have kc2 := kc.under hbn
          have hw2 := below_two hw hbn
          clear a0 a1 a2 a3 a4 b0 b1 b2 b3 b4 ka kb kc hw hbn
          obtain ⟨a0, a1, a2, a3, a4⟩ := ka2.two
          obtain ⟨b0, b1, b2, b3, b4⟩ := kb2.two
          go_wp2_with fail
          go_meet
          exact ⟨rfl, ka2, kb2, kc2, hw2⟩
    · obtain rfl : nx = 0 := by omega
      obtain ⟨rfl, rfl⟩ := hxe rfl
      rcases hy3 with rfl | rfl | rfl
      · have tz1 : decide (0 < z) = false := decide_eq_false (by omega)
        clear ht1 ht2 hxe hxn hturn
        have HYX2 := hid (fun w => HYX.out w)
        clear HYX
        go_wp2_with fail
        refine (HYX2.out _).mono ?_; rintro e wn ⟨rfl, hbn⟩
        have ka2 := ka.under hbn
        have kb2 := kb.under hbn
        have kc2 := kc.under hbn
        have hw2 := below_two hw hbn
        clear a0 a1 a2 a3 a4 b0 b1 b2 b3 b4 ka kb kc hw hbn
        obtain ⟨a0, a1, a2, a3, a4⟩ := ka2.two
        obtain ⟨b0, b1, b2, b3, b4⟩ := kb2.two
        go_wp2_with fail
        go_meet
        exact ⟨rfl, ka2, kb2, kc2, hw2⟩
      · have tz1 : decide (0 < z) = false := decide_eq_false (by omega)
        have tz2 : decide (z < 0) = false := decide_eq_false (by omega)
        clear ht1 ht2 hxe hxn hturn
        have HYX2 := hid (fun w => HYX.out w)
        clear HYX
        go_wp2_with fail
        refine (HYX2.out _).mono ?_; rintro e wn ⟨rfl, hbn⟩
        have ka2 := ka.under hbn
        have kb2 := kb.under hbn
        have kc2 := kc.under hbn
        have hw2 := below_two hw hbn
        clear a0 a1 a2 a3 a4 b0 b1 b2 b3 b4 ka kb kc hw hbn
        obtain ⟨a0, a1, a2, a3, a4⟩ := ka2.two
        obtain ⟨b0, b1, b2, b3, b4⟩ := kb2.two
        go_wp2_with fail
        go_meet
        exact ⟨rfl, ka2, kb2, kc2, hw2⟩
      · have tz2 : decide (z < 0) = false := decide_eq_false (by omega)
        clear ht1 ht2 hxe hxn hturn
        have HYX2 := hid (fun w => HYX.out w)
        clear HYX
        go_wp2_with fail
        refine (HYX2.out _).mono ?_; rintro e wn ⟨rfl, hbn⟩
        have ka2 := ka.under hbn
        have kb2 := kb.under hbn
        have kc2 := kc.under hbn
        have hw2 := below_two hw hbn
        clear a0 a1 a2 a3 a4 b0 b1 b2 b3 b4 ka kb kc hw hbn
        obtain ⟨a0, a1, a2, a3, a4⟩ := ka2.two
        obtain ⟨b0, b1, b2, b3, b4⟩ := kb2.two
        go_wp2_with fail
        go_meet
        exact ⟨rfl, ka2, kb2, kc2, hw2⟩
    · obtain rfl : nx = -1 := by omega
      rcases hxn (by decide) with he | ⟨rfl, he⟩
      · rcases hy3 with rfl | rfl | rfl
        · have te : (xh == yh) = false := beq_eq_false_iff_ne.2 he
          clear ht1 ht2 hxe hxn hturn
          have HYX2 := hid (fun w => HYX.out w)
          clear HYX
          go_wp2_with fail
          refine (HYX2.out _).mono ?_; rintro e wn ⟨rfl, hbn⟩
          have ka2 := ka.under hbn
          have kb2 := kb.under hbn
          have kc2 := kc.under hbn
          have hw2 := below_two hw hbn
          clear a0 a1 a2 a3 a4 b0 b1 b2 b3 b4 ka kb kc hw hbn
          obtain ⟨a0, a1, a2, a3, a4⟩ := ka2.two
          obtain ⟨b0, b1, b2, b3, b4⟩ := kb2.two
          go_wp2_with fail
          go_meet
          exact ⟨rfl, ka2, kb2, kc2, hw2⟩
        · have te : (xh == yh) = false := beq_eq_false_iff_ne.2 he
          have tz2 : decide (z < 0) = false := decide_eq_false (by omega)
          clear ht1 ht2 hxe hxn hturn
          have HYX2 := hid (fun w => HYX.out w)
          clear HYX
          go_wp2_with fail
          refine (HYX2.out _).mono ?_; rintro e wn ⟨rfl, hbn⟩
          have ka2 := ka.under hbn
          have kb2 := kb.under hbn
          have kc2 := kc.under hbn
          have hw2 := below_two hw hbn
          clear a0 a1 a2 a3 a4 b0 b1 b2 b3 b4 ka kb kc hw hbn
          obtain ⟨a0, a1, a2, a3, a4⟩ := ka2.two
          obtain ⟨b0, b1, b2, b3, b4⟩ := kb2.two
          go_wp2_with fail
          go_meet
          exact ⟨rfl, ka2, kb2, kc2, hw2⟩
        · have te : (xh == yh) = false := beq_eq_false_iff_ne.2 he
          have tz2 : decide (z < 0) = false := decide_eq_false (by omega)
          clear ht1 ht2 hxe hxn hturn
          have HYX2 := hid (fun w => HYX.out w)
          clear HYX
          go_wp2_with fail
          refine (HYX2.out _).mono ?_; rintro e wn ⟨rfl, hbn⟩
          have ka2 := ka.under hbn
          have kb2 := kb.under hbn
          have kc2 := kc.under hbn
          have hw2 := below_two hw hbn
          clear a0 a1 a2 a3 a4 b0 b1 b2 b3 b4 ka kb kc hw hbn
          obtain ⟨a0, a1, a2, a3, a4⟩ := ka2.two
          obtain ⟨b0, b1, b2, b3, b4⟩ := kb2.two
          go_wp2_with fail
          go_meet
          exact ⟨rfl, ka2, kb2, kc2, hw2⟩
      · rcases hy3 with rfl | rfl | rfl
        · have te : (xl == yl) = false := beq_eq_false_iff_ne.2 he
          clear ht1 ht2 hxe hxn hturn
          have HYX2 := hid (fun w => HYX.out w)
          clear HYX
          go_wp2_with fail
          refine (HYX2.out _).mono ?_; rintro e wn ⟨rfl, hbn⟩
          have ka2 := ka.under hbn
          have kb2 := kb.under hbn
          have kc2 := kc.under hbn
          have hw2 := below_two hw hbn
          clear a0 a1 a2 a3 a4 b0 b1 b2 b3 b4 ka kb kc hw hbn
          obtain ⟨a0, a1, a2, a3, a4⟩ := ka2.two
          obtain ⟨b0, b1, b2, b3, b4⟩ := kb2.two
          go_wp2_with fail
          go_meet
          exact ⟨rfl, ka2, kb2, kc2, hw2⟩
        · have te : (xl == yl) = false := beq_eq_false_iff_ne.2 he
          have tz2 : decide (z < 0) = false := decide_eq_false (by omega)
          clear ht1 ht2 hxe hxn hturn
          have HYX2 := hid (fun w => HYX.out w)
          clear HYX
          go_wp2_with fail
          refine (HYX2.out _).mono ?_; rintro e wn ⟨rfl, hbn⟩
          have ka2 := ka.under hbn
          have kb2 := kb.under hbn
          have kc2 := kc.under hbn
          have hw2 := below_two hw hbn
          clear a0 a1 a2 a3 a4 b0 b1 b2 b3 b4 ka kb kc hw hbn
          obtain ⟨a0, a1, a2, a3, a4⟩ := ka2.two
          obtain ⟨b0, b1, b2, b3, b4⟩ := kb2.two
          go_wp2_with fail
          go_meet
          exact ⟨rfl, ka2, kb2, kc2, hw2⟩
        · have te : (xl == yl) = false := beq_eq_false_iff_ne.2 he
          have tz2 : decide (z < 0) = false := decide_eq_false (by omega)
          clear ht1 ht2 hxe hxn hturn
          have HYX2 := hid (fun w => HYX.out w)
          clear HYX
          go_wp2_with fail
          refine (HYX2.out _).mono ?_; rintro e wn ⟨rfl, hbn⟩
          have ka2 := ka.under hbn
          have kb2 := kb.under hbn
          have kc2 := kc.under hbn
          have hw2 := below_two hw hbn
          clear a0 a1 a2 a3 a4 b0 b1 b2 b3 b4 ka kb kc hw hbn
          obtain ⟨a0, a1, a2, a3, a4⟩ := ka2.two
          obtain ⟨b0, b1, b2, b3, b4⟩ := kb2.two
          go_wp2_with fail
          go_meet
          exact ⟨rfl, ka2, kb2, kc2, hw2⟩
  case rest =>
    obtain ⟨rfl, kb_a_20, kb_b_20, kb_c_20, hw20⟩ := hcut
    clear HYX HB0
    obtain ⟨_, _, hin, hin2⟩ := HH.out
    clear HH HT
    obtain ⟨oa0, oa1, oa2, oa3, oa4⟩ := kb_a_20.two
    obtain ⟨ob0, ob1, ob2, ob3, ob4⟩ := kb_b_20.two
    obtain ⟨oc0, oc1, oc2, oc3, oc4⟩ := kb_c_20.two
    rcases hin with hi | hi
    · have HA := hid (fun w => HXZ.out w hi)
      clear HXZ HXZn
      go_wp2_with fail
      refine (HA.out _).mono ?_
      rintro e w21 ⟨rfl, hb21⟩
      have kb_a_21 := (kb_a_20).under hb21
      have kb_b_21 := (kb_b_20).under hb21
      have kb_c_21 := (kb_c_20).under hb21
      have hw21 := below_two hw20 hb21
      clear kb_a_20 kb_b_20 kb_c_20 hw20 hb21
      clear oa0 oa1 oa2 oa3 oa4 ob0 ob1 ob2 ob3 ob4 oc0 oc1 oc2 oc3 oc4
      obtain ⟨ca0_21, ca1_21, fa0_21, fa1_21, la_21⟩ := kb_a_21.two
      obtain ⟨cb0_21, cb1_21, fb0_21, fb1_21, lb_21⟩ := kb_b_21.two
      obtain ⟨cc0_21, cc1_21, fc0_21, fc1_21, lc_21⟩ := kb_c_21.two
      rcases hin2 with hj | hj
      · have HA2 := hid (fun w => HYZ.out w hj)
        clear HYZ HYZn HA
        go_wp2_with fail
        refine (HA2.out _).mono ?_
        rintro e w22 ⟨rfl, hb22⟩
        have hp22 := below_alloc hw21 (Nat.le_refl _) (oW ph pl)
        have kb_a_22 := (kb_a_21.alloc (oW ph pl)).under hb22
        have kb_b_22 := (kb_b_21.alloc (oW ph pl)).under hb22
        have kb_c_22 := (kb_c_21.alloc (oW ph pl)).under hb22
        have kb_p_22 := (Blk.new w21 24 #[.int .i64 ph, .int .u64 pl]).under hb22
        have hw22 := below_two hp22 hb22
        clear kb_a_21 kb_b_21 kb_c_21 hw21 hp22 hb22
        clear ca0_21 ca1_21 fa0_21 fa1_21 la_21 cb0_21 cb1_21 fb0_21 fb1_21 lb_21 cc0_21 cc1_21 fc0_21 fc1_21 lc_21
        obtain ⟨ca0_22, ca1_22, fa0_22, fa1_22, la_22⟩ := kb_a_22.two
        obtain ⟨cb0_22, cb1_22, fb0_22, fb1_22, lb_22⟩ := kb_b_22.two
        obtain ⟨cc0_22, cc1_22, fc0_22, fc1_22, lc_22⟩ := kb_c_22.two
        obtain ⟨cp0_22, cp1_22, fp0_22, fp1_22, lp_22⟩ := kb_p_22.two
        go_wp2_with fail
        refine (HCS.out _).mono ?_
        rintro e w23 ⟨rfl, hb23⟩
        have hp23 := below_alloc hw22 (Nat.le_refl _) (oW qh ql)
        have kb_a_23 := (kb_a_22.alloc (oW qh ql)).under hb23
        have kb_b_23 := (kb_b_22.alloc (oW qh ql)).under hb23
        have kb_c_23 := (kb_c_22.alloc (oW qh ql)).under hb23
        have kb_p_23 := (kb_p_22.alloc (oW qh ql)).under hb23
        have kb_q_23 := (Blk.new w22 24 #[.int .i64 qh, .int .u64 ql]).under hb23
        have hw23 := below_two hp23 hb23
        clear kb_a_22 kb_b_22 kb_c_22 kb_p_22 hw22 hp23 hb23
        clear ca0_22 ca1_22 fa0_22 fa1_22 la_22 cb0_22 cb1_22 fb0_22 fb1_22 lb_22 cc0_22 cc1_22 fc0_22 fc1_22 lc_22 cp0_22 cp1_22 fp0_22 fp1_22 lp_22
        obtain ⟨ca0_23, ca1_23, fa0_23, fa1_23, la_23⟩ := kb_a_23.two
        obtain ⟨cb0_23, cb1_23, fb0_23, fb1_23, lb_23⟩ := kb_b_23.two
        obtain ⟨cc0_23, cc1_23, fc0_23, fc1_23, lc_23⟩ := kb_c_23.two
        obtain ⟨cp0_23, cp1_23, fp0_23, fp1_23, lp_23⟩ := kb_p_23.two
        obtain ⟨cq0_23, cq1_23, fq0_23, fq1_23, lq_23⟩ := kb_q_23.two
        go_upto_region 10 with fail
        go_quiet (fail)
        have hp := hw23
        have hpq := (show Below w.heap.size w ((w23).drewN nq) from ⟨hp.os, hp.tape, hp.output, hp.size, hp.block⟩)
        clear hp kb_a_23 kb_b_23 kb_c_23 kb_p_23 kb_q_23 hw23 ca0_23 ca1_23 fa0_23 fa1_23 la_23 cb0_23 cb1_23 fb0_23 fb1_23 lb_23 cc0_23 cc1_23 fc0_23 fc1_23 lc_23 cp0_23 cp1_23 fp0_23 fp1_23 lp_23 cq0_23 cq1_23 fq0_23 fq1_23 lq_23
        generalize (w23).drewN nq = wq at *
        go_wp2_with fail
        refine (HOM.out _).mono ?_; rintro e wr ⟨rfl, hr⟩
        go_wp2_with fail
        refine (HON.out _).mono ?_; rintro e ws ⟨rfl, hs⟩
        go_wp2_with fail
        refine (HCM.out _).mono ?_; rintro e wt ⟨rfl, ht⟩
        have hz := below_two (below_two (below_two hpq hr) hs) ht
        clear hpq hr hs ht
        go_wp2_with fail
        go_ret
        exact ⟨by simp, hz⟩
      · have HA2 := hid (fun w => HYZn.out w hj)
        clear HYZ HYZn HA
        go_wp2_with fail
        refine (HA2.out _).mono ?_
        rintro e w22 ⟨rfl, hb22⟩
        have hp22 := below_alloc hw21 (Nat.le_refl _) (oW ph pl)
        have kb_a_22 := (kb_a_21.alloc (oW ph pl)).under hb22
        have kb_b_22 := (kb_b_21.alloc (oW ph pl)).under hb22
        have kb_c_22 := (kb_c_21.alloc (oW ph pl)).under hb22
        have kb_p_22 := (Blk.new w21 24 #[.int .i64 ph, .int .u64 pl]).under hb22
        have hw22 := below_two hp22 hb22
        clear kb_a_21 kb_b_21 kb_c_21 hw21 hp22 hb22
        clear ca0_21 ca1_21 fa0_21 fa1_21 la_21 cb0_21 cb1_21 fb0_21 fb1_21 lb_21 cc0_21 cc1_21 fc0_21 fc1_21 lc_21
        obtain ⟨ca0_22, ca1_22, fa0_22, fa1_22, la_22⟩ := kb_a_22.two
        obtain ⟨cb0_22, cb1_22, fb0_22, fb1_22, lb_22⟩ := kb_b_22.two
        obtain ⟨cc0_22, cc1_22, fc0_22, fc1_22, lc_22⟩ := kb_c_22.two
        obtain ⟨cp0_22, cp1_22, fp0_22, fp1_22, lp_22⟩ := kb_p_22.two
        go_upto_region 10 with fail
        go_quiet (fail)
        have hp := below_alloc hw22 (Nat.le_refl _) (oW 0 0)
        have hpq := (show Below w.heap.size w ((w22.alloc (oW 0 0)).drewN nq) from ⟨hp.os, hp.tape, hp.output, hp.size, hp.block⟩)
        clear hp kb_a_22 kb_b_22 kb_c_22 kb_p_22 hw22 ca0_22 ca1_22 fa0_22 fa1_22 la_22 cb0_22 cb1_22 fb0_22 fb1_22 lb_22 cc0_22 cc1_22 fc0_22 fc1_22 lc_22 cp0_22 cp1_22 fp0_22 fp1_22 lp_22
        generalize (w22.alloc (oW 0 0)).drewN nq = wq at *
        go_wp2_with fail
        refine (HOM.out _).mono ?_; rintro e wr ⟨rfl, hr⟩
        go_wp2_with fail
        refine (HON.out _).mono ?_; rintro e ws ⟨rfl, hs⟩
        go_wp2_with fail
        refine (HCM.out _).mono ?_; rintro e wt ⟨rfl, ht⟩
        have hz := below_two (below_two (below_two hpq hr) hs) ht
        clear hpq hr hs ht
        go_wp2_with fail
        go_ret
        exact ⟨by simp, hz⟩
    · have HA := hid (fun w => HXZn.out w hi)
      clear HXZ HXZn
      go_wp2_with fail
      refine (HA.out _).mono ?_
      rintro e w21 ⟨rfl, hb21⟩
      have kb_a_21 := (kb_a_20).under hb21
      have kb_b_21 := (kb_b_20).under hb21
      have kb_c_21 := (kb_c_20).under hb21
      have hw21 := below_two hw20 hb21
      clear kb_a_20 kb_b_20 kb_c_20 hw20 hb21
      clear oa0 oa1 oa2 oa3 oa4 ob0 ob1 ob2 ob3 ob4 oc0 oc1 oc2 oc3 oc4
      obtain ⟨ca0_21, ca1_21, fa0_21, fa1_21, la_21⟩ := kb_a_21.two
      obtain ⟨cb0_21, cb1_21, fb0_21, fb1_21, lb_21⟩ := kb_b_21.two
      obtain ⟨cc0_21, cc1_21, fc0_21, fc1_21, lc_21⟩ := kb_c_21.two
      rcases hin2 with hj | hj
      · have HA2 := hid (fun w => HYZ.out w hj)
        clear HYZ HYZn HA
        go_wp2_with fail
        refine (HA2.out _).mono ?_
        rintro e w22 ⟨rfl, hb22⟩
        have hp22 := below_alloc hw21 (Nat.le_refl _) (oW 0 0)
        have kb_a_22 := (kb_a_21.alloc (oW 0 0)).under hb22
        have kb_b_22 := (kb_b_21.alloc (oW 0 0)).under hb22
        have kb_c_22 := (kb_c_21.alloc (oW 0 0)).under hb22
        have kb_p_22 := (Blk.new w21 24 #[.int .i64 0, .int .u64 0]).under hb22
        have hw22 := below_two hp22 hb22
        clear kb_a_21 kb_b_21 kb_c_21 hw21 hp22 hb22
        clear ca0_21 ca1_21 fa0_21 fa1_21 la_21 cb0_21 cb1_21 fb0_21 fb1_21 lb_21 cc0_21 cc1_21 fc0_21 fc1_21 lc_21
        obtain ⟨ca0_22, ca1_22, fa0_22, fa1_22, la_22⟩ := kb_a_22.two
        obtain ⟨cb0_22, cb1_22, fb0_22, fb1_22, lb_22⟩ := kb_b_22.two
        obtain ⟨cc0_22, cc1_22, fc0_22, fc1_22, lc_22⟩ := kb_c_22.two
        obtain ⟨cp0_22, cp1_22, fp0_22, fp1_22, lp_22⟩ := kb_p_22.two
        go_upto_region 10 with fail
        go_quiet (fail)
        have hp := below_alloc hw22 (Nat.le_refl _) (oW qh ql)
        have hpq := (show Below w.heap.size w ((w22.alloc (oW qh ql)).drewN nq) from ⟨hp.os, hp.tape, hp.output, hp.size, hp.block⟩)
        clear hp kb_a_22 kb_b_22 kb_c_22 kb_p_22 hw22 ca0_22 ca1_22 fa0_22 fa1_22 la_22 cb0_22 cb1_22 fb0_22 fb1_22 lb_22 cc0_22 cc1_22 fc0_22 fc1_22 lc_22 cp0_22 cp1_22 fp0_22 fp1_22 lp_22
        generalize (w22.alloc (oW qh ql)).drewN nq = wq at *
        go_wp2_with fail
        refine (HOM.out _).mono ?_; rintro e wr ⟨rfl, hr⟩
        go_wp2_with fail
        refine (HON.out _).mono ?_; rintro e ws ⟨rfl, hs⟩
        go_wp2_with fail
        refine (HCM.out _).mono ?_; rintro e wt ⟨rfl, ht⟩
        have hz := below_two (below_two (below_two hpq hr) hs) ht
        clear hpq hr hs ht
        go_wp2_with fail
        go_ret
        exact ⟨by simp, hz⟩
      · have HA2 := hid (fun w => HYZn.out w hj)
        clear HYZ HYZn HA
        go_wp2_with fail
        refine (HA2.out _).mono ?_
        rintro e w22 ⟨rfl, hb22⟩
        have hp22 := below_alloc hw21 (Nat.le_refl _) (oW 0 0)
        have kb_a_22 := (kb_a_21.alloc (oW 0 0)).under hb22
        have kb_b_22 := (kb_b_21.alloc (oW 0 0)).under hb22
        have kb_c_22 := (kb_c_21.alloc (oW 0 0)).under hb22
        have kb_p_22 := (Blk.new w21 24 #[.int .i64 0, .int .u64 0]).under hb22
        have hw22 := below_two hp22 hb22
        clear kb_a_21 kb_b_21 kb_c_21 hw21 hp22 hb22
        clear ca0_21 ca1_21 fa0_21 fa1_21 la_21 cb0_21 cb1_21 fb0_21 fb1_21 lb_21 cc0_21 cc1_21 fc0_21 fc1_21 lc_21
        obtain ⟨ca0_22, ca1_22, fa0_22, fa1_22, la_22⟩ := kb_a_22.two
        obtain ⟨cb0_22, cb1_22, fb0_22, fb1_22, lb_22⟩ := kb_b_22.two
        obtain ⟨cc0_22, cc1_22, fc0_22, fc1_22, lc_22⟩ := kb_c_22.two
        obtain ⟨cp0_22, cp1_22, fp0_22, fp1_22, lp_22⟩ := kb_p_22.two
        go_upto_region 10 with fail
        go_quiet (fail)
        have hp := below_alloc hw22 (Nat.le_refl _) (oW 0 0)
        have hpq := (show Below w.heap.size w ((w22.alloc (oW 0 0)).drewN nq) from ⟨hp.os, hp.tape, hp.output, hp.size, hp.block⟩)
        clear hp kb_a_22 kb_b_22 kb_c_22 kb_p_22 hw22 ca0_22 ca1_22 fa0_22 fa1_22 la_22 cb0_22 cb1_22 fb0_22 fb1_22 lb_22 cc0_22 cc1_22 fc0_22 fc1_22 lc_22 cp0_22 cp1_22 fp0_22 fp1_22 lp_22
        generalize (w22.alloc (oW 0 0)).drewN nq = wq at *
        go_wp2_with fail
        refine (HOM.out _).mono ?_; rintro e wr ⟨rfl, hr⟩
        go_wp2_with fail
        refine (HON.out _).mono ?_; rintro e ws ⟨rfl, hs⟩
        go_wp2_with fail
        refine (HCM.out _).mono ?_; rintro e wt ⟨rfl, ht⟩
        have hz := below_two (below_two (below_two hpq hr) hs) ht
        clear hpq hr hs ht
        go_wp2_with fail
        go_ret
        exact ⟨by simp, hz⟩
end Go.Proofs.YtpomhcclnhddmaaDoor
