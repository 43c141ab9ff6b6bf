/- Walks of the laws over wide: WideTexts. -/
import Derived.Test.YtpomhcclnhddmaaDoorWLawD
import Derived.Deep.QuietTactic
import Derived.BigQuiet
import Derived.Deep.DeepCutAuto
namespace Go.Proofs.YtpomhcclnhddmaaDoor
open Go.RowKit Go.Shelf Go.Lib TX
set_option linter.unusedVariables false
theorem dec_small {u : Nat} (h : u < 10) : decDigits u = [UInt8.ofNat (48 + u)] := by rw [decDigits, dif_pos h]
theorem dec_ne (u : Nat) : 1 ≤ (decDigits u).length := by
  by_cases h : u < 10
  · rw [dec_small h]; exact Nat.le_refl _
  · rw [dec_big h]; simp
theorem dg_inj {a b : Nat} (ha : a < 10) (hb : b < 10) (h : UInt8.ofNat (48 + a) = UInt8.ofNat (48 + b)) : a = b := by
  have := congrArg UInt8.toNat h
  simp only [UInt8.toNat_ofNat'] at this
  omega
theorem dec_inj (a : Nat) : ∀ b, decDigits a = decDigits b → a = b := by
  induction a using Nat.strongRecOn with
  | _ a ih =>
    intro b h
    by_cases ha : a < 10
    · rw [dec_small ha] at h
      by_cases hb : b < 10
      · rw [dec_small hb] at h
        exact dg_inj ha hb (by simpa using h)
      · rw [dec_big hb] at h
        have h1 := congrArg List.length h
        have h2 := dec_ne (b / 10)
        simp only [List.length_append, List.length_cons, List.length_nil] at h1
        omega
    · rw [dec_big ha] at h
      by_cases hb : b < 10
      · rw [dec_small hb] at h
        have h1 := congrArg List.length h
        have h2 := dec_ne (a / 10)
        simp only [List.length_append, List.length_cons, List.length_nil] at h1
        omega
      · rw [dec_big hb] at h
        obtain ⟨h1, h2⟩ := List.append_inj' h rfl
        have h3 := ih (a / 10) (by omega) (b / 10) h1
        have h4 := dg_inj (Nat.mod_lt a (by decide)) (Nat.mod_lt b (by decide)) (by simpa using h2)
        omega
theorem dec_head (u : Nat) : ∃ d l, decDigits u = d :: l ∧ d ≠ 45 := by
  induction u using Nat.strongRecOn with
  | _ u ih =>
    by_cases h : u < 10
    · refine ⟨_, _, dec_small h, fun e => ?_⟩
      have := congrArg UInt8.toNat e
      simp only [UInt8.toNat_ofNat'] at this
      have h45 : (45 : UInt8).toNat = 45 := rfl
      omega
    · obtain ⟨d, l, e, hd⟩ := ih (u / 10) (by omega)
      exact ⟨d, l ++ [UInt8.ofNat (48 + u % 10)], by rw [dec_big h, e]; rfl, hd⟩
theorem itoa_ge {X : Int} (h : 0 ≤ X) : itoa X = decDigits X.natAbs := by
  obtain ⟨u, rfl⟩ := Int.eq_ofNat_of_zero_le h
  exact itoa_nonneg u
theorem itoa_lt {X : Int} (h : X < 0) : itoa X = 45 :: decDigits X.natAbs := by
  obtain ⟨u, hu⟩ := Int.eq_ofNat_of_zero_le (show 0 ≤ -X by omega)
  have e : X = -(u : Int) := by omega
  rw [e, itoa_neg u (by omega), Int.natAbs_neg]
  rfl
theorem itoa_inj {X Y : Int} (h : itoa X = itoa Y) : X = Y := by
  by_cases hx : X < 0
  · rw [itoa_lt hx] at h
    by_cases hy : Y < 0
    · rw [itoa_lt hy] at h
      have := dec_inj _ _ (List.cons.inj h).2
      omega
    · rw [itoa_ge (by omega)] at h
      obtain ⟨d, l, e, hd⟩ := dec_head Y.natAbs
      rw [e] at h
      exact absurd (List.cons.inj h).1.symm hd
  · rw [itoa_ge (by omega)] at h
    by_cases hy : Y < 0
    · rw [itoa_lt hy] at h
      obtain ⟨d, l, e, hd⟩ := dec_head X.natAbs
      rw [e] at h
      exact absurd (List.cons.inj h).1 hd
    · rw [itoa_ge (by omega)] at h
      have := dec_inj _ _ h
      omega
theorem bsS_list (l : List UInt8) : (bsS l).toList = l := ByteArray.toList_mk l
theorem itoa_neg_neg {X : Int} (h : X < 0) : itoa X = 45 :: itoa (-X) := by
  rw [itoa_lt h, itoa_ge (by omega), Int.natAbs_neg]
theorem itoa_len {X : Int} (h : inW X) : (bsS (itoa X)).size ≤ 61 := by
  rw [bsS_size]
  have := dec_len (u := X.natAbs) (by omega)
  by_cases hx : X < 0
  · rw [itoa_lt hx, List.length_cons]; omega
  · rw [itoa_ge (by omega)]; omega
theorem minus_add (l : List UInt8) : (⟨#[45]⟩ : ByteArray) ++ bsS l = bsS (45 :: l) := bsS_add [45] l
theorem text_wv (X : Int) (hX : inW X) (w : World) (htab : Tab w) :
    Calls Tryd.prog 32 #[wv (hiW X) (loW X)] w fun e w' => e = .returned (.string (bsS (itoa X))) ∧ Below w.heap.size w w' := text_c X hX w htab
set_option maxRecDepth 100000 in
set_option maxHeartbeats 8000000 in
theorem wTexts_core (n x1a x1b x2a x2b : Int) (w : World) (w0 : (Lit.int .i64 n).wf = true) (w1a : (Lit.int .i64 x1a).wf = true) (w1b : (Lit.int .u64 x1b).wf = true) (w2a : (Lit.int .i64 x2a).wf = true) (w2b : (Lit.int .u64 x2b).wf = true) (htab : Tab w) :
    Calls Tryd.prog 11 #[.int .i64 n, wv x1a x1b, wv x2a x2b] w fun e w' => e = .returned (.bool true) ∧ Below w.heap.size w w' := by
  obtain ⟨X, hX, rfl, rfl⟩ := wide_in w1a w1b
  obtain ⟨Y, hY, rfl, rfl⟩ := wide_in w2a w2b
  obtain ⟨n0, n1⟩ := i64_wf w0
  clear w0 w1a w1b w2a w2b
  show Calls Tryd.prog 11 #[.int .i64 n, wv (hiW X) (loW X), wv (hiW Y) (loW Y)] w _
  have HTAB := hid htab
  have HWK := hid (fun w h => wakes_c w h)
  clear htab
  have HON := hid (fun w => of_wv n n0 n1 w)
  have HTN := hid (fun w ht => text_wv n (by omega) w ht)
  have HFI := hid (fun w ht => show Calls Tryd.prog 36 #[.int .i64 n, .int .i64 10] w fun e w' => e = .returned (.string (bsS (itoa n))) ∧ Below w.heap.size w w' from FormatInt_c n n0 n1 w ht)
  have HTX := hid (fun w ht => text_wv X hX w ht)
  have HTY := hid (fun w ht => text_wv Y hY w ht)
  have HTM := hid (fun (h : inW (-X)) w ht => text_wv (-X) h w ht)
  have HNY := hid (fun w h => neg_yes X hX w h)
  have HNN := hid (fun w h => neg_no X hX w h)
  have hXY : X = Y ∨ (((bsS (itoa X)).toList == (bsS (itoa Y)).toList) = false ∧ (¬ hiW X = hiW Y ∨ hiW X = hiW Y ∧ ¬ loW X = loW Y)) := by
    by_cases h : X = Y
    · exact .inl h
    · right
      refine ⟨beq_eq_false_iff_ne.2 (fun e => h (itoa_inj (by rw [bsS_list, bsS_list] at e; exact e))), ?_⟩
      by_cases h1 : hiW X = hiW Y
      · exact .inr ⟨h1, fun h2 => h (words_eq h1 h2)⟩
      · exact .inl h1
  have hneg : inW (-X) ∨ ¬ inW (-X) := Decidable.em _
  have hlX := itoa_len hX
  have hlM : inW (-X) → (bsS (itoa (-X))).size ≤ 61 := itoa_len
  have hsg : (hiW X < 0 ∧ (⟨#[45]⟩ : ByteArray) ++ bsS (itoa (-X)) = bsS (itoa X)) ∨ (hiW X = 0 ∧ loW X = 0) ∨ (0 ≤ hiW X ∧ (¬ hiW X = 0 ∨ hiW X = 0 ∧ ¬ loW X = 0) ∧ (⟨#[45]⟩ : ByteArray) ++ bsS (itoa X) = bsS (itoa (-X))) := by
    rcases Int.lt_trichotomy X 0 with h | h | h
    · left
      refine ⟨by unfold hiW; omega, ?_⟩
      rw [minus_add, itoa_neg_neg h]
    · right; left
      rw [h]; decide
    · right; right
      refine ⟨by unfold hiW; omega, by unfold hiW loW; omega, ?_⟩
      rw [minus_add, itoa_neg_neg (show -X < 0 by omega), Int.neg_neg]
  have hsub : X = Y → hiW X = hiW Y ∧ loW X = loW Y ∧ bsS (itoa X) = bsS (itoa Y) := fun h => by rw [h]; exact ⟨rfl, rfl, rfl⟩
  generalize inW (-X) = PM at *
  clear hX hY n0 n1
  generalize bsS (itoa n) = sN at *
  generalize bsS (itoa (-X)) = sM at *
  generalize bsS (itoa X) = sX at *
  generalize bsS (itoa Y) = sY at *
  generalize hiW (-X) = mh at *
  generalize loW (-X) = ml at *
  generalize hiW X = xh at *
  generalize loW X = xl at *
  generalize hiW Y = yh at *
  generalize loW Y = yl at *
  generalize hiW n = nh at *
  generalize loW n = nl at *
  have hXY : (xh = yh ∧ xl = yl ∧ sX = sY) ∨ ((sX.toList == sY.toList) = false ∧ (¬ xh = yh ∨ xh = yh ∧ ¬ xl = yl)) := hXY.imp_left hsub
  clear hsub
  have HH := hid hXY
  have HS := hid (And.intro hneg (And.intro hlX (And.intro hlM hsg)))
  clear hXY hneg hlX hlM hsg
  have kb_a := ((Blk.new_at (g := w.heap.size) w 24 #[.int .i64 xh, .int .u64 xl] (by simp)).alloc (oW yh yl))
  have kb_b := (Blk.new_at (g := w.heap.size + 1) (w.alloc (oW xh xl)) 24 #[.int .i64 yh, .int .u64 yl] (by simp))
  have hw0 := ba2 w (oW xh xl) (oW yh yl)
  go_enter Tryd.func11, Tryd.ntmps11
  have ht1 := HTAB.out.below hw0
  go_wp2_with fail
  refine (HWK.out _ ht1).mono ?_
  rintro e w1 ⟨rfl, hb1⟩
  have kb_a_1 := (kb_a).under hb1
  have kb_b_1 := (kb_b).under hb1
  have hw1 := below_two hw0 hb1
  clear kb_a kb_b hw0 hb1 ht1
  obtain ⟨ca0_1, ca1_1, fa0_1, fa1_1, la_1⟩ := kb_a_1.two
  obtain ⟨cb0_1, cb1_1, fb0_1, fb1_1, lb_1⟩ := kb_b_1.two
  clear HWK
  go_upto_region 3 with fail
  have HB0 := hid (show Blk w1 w.heap.size _ _ ∧ Blk w1 (w.heap.size + 1) _ _ ∧ Below w.heap.size w w1 from ⟨kb_a_1, kb_b_1, hw1⟩)
  clear kb_a_1 kb_b_1 hw1 ca0_1 ca1_1 fa0_1 fa1_1 la_1 cb0_1 cb1_1 fb0_1 fb1_1 lb_1
  go_cut [27] (fun u27 wx => u27 = .bool false ∧ Blk wx w.heap.size 24 #[.int .i64 xh, .int .u64 xl] ∧ Blk wx (w.heap.size + 1) 24 #[.int .i64 yh, .int .u64 yl] ∧ Below w.heap.size w wx)
  case first =>
    obtain ⟨ka, kb, hw⟩ := HB0.out
    have hH := HH.out
    clear HH HB0 HS HTM HNY HNN hXY
    rcases hH with ⟨e1, e2, e3⟩ | ⟨ts, he | ⟨e1, he⟩⟩
    · have te : (xh == yh) = true := beq_iff_eq.2 e1
      have te2 : (xl == yl) = true := beq_iff_eq.2 e2
      have ts : (sX.toList == sY.toList) = true := by rw [e3]; exact beq_self_eq_true _
      clear e1 e2 e3
      refine wp_region_noPanic ?_
      refine wp_region_held_drew (S := (fun w' => Blk w' w.heap.size 24 #[.int .i64 xh, .int .u64 xl] ∧ Blk w' (w.heap.size + 1) 24 #[.int .i64 yh, .int .u64 yl] ∧ Below w.heap.size w w')) (by kernel_rfl) ⟨ka.drew, kb.drew, ⟨hw.os, hw.tape, hw.output, hw.size, hw.block⟩⟩ (fun hHeld => ?_)
      clear ka kb hw
      refine wpAnyH_take (i := 0) (v := ?_) rfl (by kernel_rfl) (by kernel_rfl) (by kernel_rfl) (fun _ _ _ h => h) (Or.inl ⟨by rfl, ?_⟩) (by assumption) ?_
      rotate_left
      · intro W hW
        obtain ⟨kx, ky, kw⟩ := hW
        obtain ⟨x0, x1, x2, x3, x4⟩ := kx.two
        obtain ⟨y0, y1, y2, y3, y4⟩ := ky.two
        go_simp
        try rfl
      simp only [List.getElem_toArray, List.getElem_cons_zero, Act.put, List.setIfInBounds_toArray, List.set_cons_zero, List.set_cons_succ]
      refine wpAnyH_take (i := 3) (v := ?_) rfl (by kernel_rfl) (by kernel_rfl) (by kernel_rfl) (fun _ _ _ h => h) (Or.inl ⟨by rfl, ?_⟩) (by assumption) ?_
      rotate_left
      · intro W hW
        obtain ⟨kx, ky, kw⟩ := hW
        obtain ⟨x0, x1, x2, x3, x4⟩ := kx.two
        obtain ⟨y0, y1, y2, y3, y4⟩ := ky.two
        go_simp
        try rfl
      simp only [List.getElem_toArray, List.getElem_cons_succ, List.getElem_cons_zero, Act.put, List.setIfInBounds_toArray, List.set_cons_zero, List.set_cons_succ]
      refine wpAnyH_ready (rs := [1]) (by kernel_rfl) (by simp) ?_
      refine AllReadyH.cons rfl (fun K hK => ?_) AllReadyH.nil
      go_simp
      refine (HON.out _).mono ?_
      rintro e wc1 ⟨rfl, hbc1⟩
      refine hK.out _ _ ⟨hHeld.1.under hbc1, hHeld.2.1.under hbc1, below_two hHeld.2.2 hbc1⟩ (fun hHeld => ?_)
      clear hK K
      try simp only [List.getElem_toArray, List.getElem_cons_succ, List.getElem_cons_zero, Act.put, List.setIfInBounds_toArray, List.set_cons_zero, List.set_cons_succ]
      refine wpAnyH_ready (rs := [2]) (by kernel_rfl) (by simp) ?_
      refine AllReadyH.cons rfl (fun K hK => ?_) AllReadyH.nil
      go_simp
      refine (HTN.out _ (HTAB.out.below hHeld.2.2)).mono ?_
      rintro e wc2 ⟨rfl, hbc2⟩
      refine hK.out _ _ ⟨hHeld.1.under hbc2, hHeld.2.1.under hbc2, below_two hHeld.2.2 hbc2⟩ (fun hHeld => ?_)
      clear hK K
      try simp only [List.getElem_toArray, List.getElem_cons_succ, List.getElem_cons_zero, Act.put, List.setIfInBounds_toArray, List.set_cons_zero, List.set_cons_succ]
      refine wpAnyH_ready (rs := [4]) (by kernel_rfl) (by simp) ?_
      refine AllReadyH.cons rfl (fun K hK => ?_) AllReadyH.nil
      go_simp
      refine (HFI.out _ (HTAB.out.below hHeld.2.2)).mono ?_
      rintro e wc4 ⟨rfl, hbc4⟩
      refine hK.out _ _ ⟨hHeld.1.under hbc4, hHeld.2.1.under hbc4, below_two hHeld.2.2 hbc4⟩ (fun hHeld => ?_)
      clear hK K
      try simp only [List.getElem_toArray, List.getElem_cons_succ, List.getElem_cons_zero, Act.put, List.setIfInBounds_toArray, List.set_cons_zero, List.set_cons_succ]
      refine wpAnyH_take (i := 5) (v := ?_) rfl (by kernel_rfl) (by kernel_rfl) (by kernel_rfl) (fun _ _ _ h => h) (Or.inl ⟨by rfl, ?_⟩) (by assumption) ?_
      rotate_left
      · intro W hW
        obtain ⟨kx, ky, kw⟩ := hW
        obtain ⟨x0, x1, x2, x3, x4⟩ := kx.two
        obtain ⟨y0, y1, y2, y3, y4⟩ := ky.two
        go_simp
        try rfl
      simp only [List.getElem_toArray, List.getElem_cons_succ, List.getElem_cons_zero, Act.put, List.setIfInBounds_toArray, List.set_cons_zero, List.set_cons_succ]
      refine wpAnyH_take (i := 6) (v := ?_) rfl (by kernel_rfl) (by kernel_rfl) (by kernel_rfl) (fun _ _ _ h => h) (Or.inl ⟨by rfl, ?_⟩) (by assumption) ?_
      rotate_left
      · intro W hW
        obtain ⟨kx, ky, kw⟩ := hW
        obtain ⟨x0, x1, x2, x3, x4⟩ := kx.two
        obtain ⟨y0, y1, y2, y3, y4⟩ := ky.two
        go_simp
        try rfl
      simp only [List.getElem_toArray, List.getElem_cons_succ, List.getElem_cons_zero, Act.put, List.setIfInBounds_toArray, List.set_cons_zero, List.set_cons_succ]
      refine wpAnyH_take (i := 7) (v := ?_) rfl (by kernel_rfl) (by kernel_rfl) (by kernel_rfl) (fun _ _ _ h => h) (Or.inl ⟨by rfl, ?_⟩) (by assumption) ?_
      rotate_left
      · intro W hW
        obtain ⟨kx, ky, kw⟩ := hW
        obtain ⟨x0, x1, x2, x3, x4⟩ := kx.two
        obtain ⟨y0, y1, y2, y3, y4⟩ := ky.two
        go_simp
        try rfl
      simp only [List.getElem_toArray, List.getElem_cons_succ, List.getElem_cons_zero, Act.put, List.setIfInBounds_toArray, List.set_cons_zero, List.set_cons_succ]
      refine wpAnyH_take (i := 9) (v := ?_) rfl (by kernel_rfl) (by kernel_rfl) (by kernel_rfl) (fun _ _ _ h => h) (Or.inl ⟨by rfl, ?_⟩) (by assumption) ?_
      rotate_left
      · intro W hW
        obtain ⟨kx, ky, kw⟩ := hW
        obtain ⟨x0, x1, x2, x3, x4⟩ := kx.two
        obtain ⟨y0, y1, y2, y3, y4⟩ := ky.two
        go_simp
        try rfl
      simp only [List.getElem_toArray, List.getElem_cons_succ, List.getElem_cons_zero, Act.put, List.setIfInBounds_toArray, List.set_cons_zero, List.set_cons_succ]
      refine wpAnyH_take (i := 12) (v := ?_) rfl (by kernel_rfl) (by kernel_rfl) (by kernel_rfl) (fun _ _ _ h => h) (Or.inl ⟨by rfl, ?_⟩) (by assumption) ?_
      rotate_left
      · intro W hW
        obtain ⟨kx, ky, kw⟩ := hW
        obtain ⟨x0, x1, x2, x3, x4⟩ := kx.two
        obtain ⟨y0, y1, y2, y3, y4⟩ := ky.two
        go_simp
        try rfl
      simp only [List.getElem_toArray, List.getElem_cons_succ, List.getElem_cons_zero, Act.put, List.setIfInBounds_toArray, List.set_cons_zero, List.set_cons_succ]
      refine wpAnyH_take (i := 13) (v := ?_) rfl (by kernel_rfl) (by kernel_rfl) (by kernel_rfl) (fun _ _ _ h => h) (Or.inl ⟨by rfl, ?_⟩) (by assumption) ?_
      rotate_left
      · intro W hW
        obtain ⟨kx, ky, kw⟩ := hW
        obtain ⟨x0, x1, x2, x3, x4⟩ := kx.two
        obtain ⟨y0, y1, y2, y3, y4⟩ := ky.two
        go_simp
        try rfl
      simp only [List.getElem_toArray, List.getElem_cons_succ, List.getElem_cons_zero, Act.put, List.setIfInBounds_toArray, List.set_cons_zero, List.set_cons_succ]
      refine wpAnyH_take (i := 14) (v := ?_) rfl (by kernel_rfl) (by kernel_rfl) (by kernel_rfl) (fun _ _ _ h => h) (Or.inl ⟨by rfl, ?_⟩) (by assumption) ?_
      rotate_left
      · intro W hW
        obtain ⟨kx, ky, kw⟩ := hW
        obtain ⟨x0, x1, x2, x3, x4⟩ := kx.two
        obtain ⟨y0, y1, y2, y3, y4⟩ := ky.two
        go_simp
        try rfl
      simp only [List.getElem_toArray, List.getElem_cons_succ, List.getElem_cons_zero, Act.put, List.setIfInBounds_toArray, List.set_cons_zero, List.set_cons_succ]
      refine wpAnyH_ready (rs := [8]) (by kernel_rfl) (by simp) ?_
      refine AllReadyH.cons rfl (fun K hK => ?_) AllReadyH.nil
      go_simp
      refine (HTX.out _ (HTAB.out.below hHeld.2.2)).mono ?_
      rintro e wc8 ⟨rfl, hbc8⟩
      refine hK.out _ _ ⟨hHeld.1.under hbc8, hHeld.2.1.under hbc8, below_two hHeld.2.2 hbc8⟩ (fun hHeld => ?_)
      clear hK K
      try simp only [List.getElem_toArray, List.getElem_cons_succ, List.getElem_cons_zero, Act.put, List.setIfInBounds_toArray, List.set_cons_zero, List.set_cons_succ]
      refine wpAnyH_ready (rs := [10]) (by kernel_rfl) (by simp) ?_
      refine AllReadyH.cons rfl (fun K hK => ?_) AllReadyH.nil
      go_simp
      refine (HTY.out _ (HTAB.out.below hHeld.2.2)).mono ?_
      rintro e wc10 ⟨rfl, hbc10⟩
      refine hK.out _ _ ⟨hHeld.1.under hbc10, hHeld.2.1.under hbc10, below_two hHeld.2.2 hbc10⟩ (fun hHeld => ?_)
      clear hK K
      try simp only [List.getElem_toArray, List.getElem_cons_succ, List.getElem_cons_zero, Act.put, List.setIfInBounds_toArray, List.set_cons_zero, List.set_cons_succ]
      refine wpAnyH_take (i := 11) (v := ?_) rfl (by kernel_rfl) (by kernel_rfl) (by kernel_rfl) (fun _ _ _ h => h) (Or.inl ⟨by rfl, ?_⟩) (by assumption) ?_
      rotate_left
      · intro W hW
        obtain ⟨kx, ky, kw⟩ := hW
        obtain ⟨x0, x1, x2, x3, x4⟩ := kx.two
        obtain ⟨y0, y1, y2, y3, y4⟩ := ky.two
        go_simp
        try rfl
      simp only [List.getElem_toArray, List.getElem_cons_succ, List.getElem_cons_zero, Act.put, List.setIfInBounds_toArray, List.set_cons_zero, List.set_cons_succ]
      refine wpAnyH_take (i := 15) (v := ?_) rfl (by kernel_rfl) (by kernel_rfl) (by kernel_rfl) (fun _ _ _ h => h) (Or.inl ⟨by rfl, ?_⟩) (by assumption) ?_
      rotate_left
      · intro W hW
        obtain ⟨kx, ky, kw⟩ := hW
        obtain ⟨x0, x1, x2, x3, x4⟩ := kx.two
        obtain ⟨y0, y1, y2, y3, y4⟩ := ky.two
        go_simp
        try rfl
      simp only [List.getElem_toArray, List.getElem_cons_succ, List.getElem_cons_zero, Act.put, List.setIfInBounds_toArray, List.set_cons_zero, List.set_cons_succ]
      refine wpAnyH_take (i := 16) (v := ?_) rfl (by kernel_rfl) (by kernel_rfl) (by kernel_rfl) (fun _ _ _ h => h) (Or.inl ⟨by rfl, ?_⟩) (by assumption) ?_
      rotate_left
      · intro W hW
        obtain ⟨kx, ky, kw⟩ := hW
        obtain ⟨x0, x1, x2, x3, x4⟩ := kx.two
        obtain ⟨y0, y1, y2, y3, y4⟩ := ky.two
        go_simp
        try rfl
      simp only [List.getElem_toArray, List.getElem_cons_succ, List.getElem_cons_zero, Act.put, List.setIfInBounds_toArray, List.set_cons_zero, List.set_cons_succ]
      refine wpAnyH_done (by kernel_rfl) ?_ _
      refine NoPanic.normal ?_
      obtain ⟨k8, k9, hw9⟩ := hHeld
      obtain ⟨x0, x1, x2, x3, x4⟩ := k8.two
      go_wp2_with fail
      go_meet
      exact ⟨rfl, k8, k9, hw9⟩
    · have te : (xh == yh) = false := beq_eq_false_iff_ne.2 he
      clear he
      refine wp_region_noPanic ?_
      refine wp_region_held_drew (S := (fun w' => Blk w' w.heap.size 24 #[.int .i64 xh, .int .u64 xl] ∧ Blk w' (w.heap.size + 1) 24 #[.int .i64 yh, .int .u64 yl] ∧ Below w.heap.size w w')) (by kernel_rfl) ⟨ka.drew, kb.drew, ⟨hw.os, hw.tape, hw.output, hw.size, hw.block⟩⟩ (fun hHeld => ?_)
      clear ka kb hw
      refine wpAnyH_take (i := 0) (v := ?_) rfl (by kernel_rfl) (by kernel_rfl) (by kernel_rfl) (fun _ _ _ h => h) (Or.inl ⟨by rfl, ?_⟩) (by assumption) ?_
      rotate_left
      · intro W hW
        obtain ⟨kx, ky, kw⟩ := hW
        obtain ⟨x0, x1, x2, x3, x4⟩ := kx.two
        obtain ⟨y0, y1, y2, y3, y4⟩ := ky.two
        go_simp
        try rfl
      simp only [List.getElem_toArray, List.getElem_cons_zero, Act.put, List.setIfInBounds_toArray, List.set_cons_zero, List.set_cons_succ]
      refine wpAnyH_take (i := 3) (v := ?_) rfl (by kernel_rfl) (by kernel_rfl) (by kernel_rfl) (fun _ _ _ h => h) (Or.inl ⟨by rfl, ?_⟩) (by assumption) ?_
      rotate_left
      · intro W hW
        obtain ⟨kx, ky, kw⟩ := hW
        obtain ⟨x0, x1, x2, x3, x4⟩ := kx.two
        obtain ⟨y0, y1, y2, y3, y4⟩ := ky.two
        go_simp
        try rfl
      simp only [List.getElem_toArray, List.getElem_cons_succ, List.getElem_cons_zero, Act.put, List.setIfInBounds_toArray, List.set_cons_zero, List.set_cons_succ]
      refine wpAnyH_ready (rs := [1]) (by kernel_rfl) (by simp) ?_
      refine AllReadyH.cons rfl (fun K hK => ?_) AllReadyH.nil
      go_simp
      refine (HON.out _).mono ?_
      rintro e wc1 ⟨rfl, hbc1⟩
      refine hK.out _ _ ⟨hHeld.1.under hbc1, hHeld.2.1.under hbc1, below_two hHeld.2.2 hbc1⟩ (fun hHeld => ?_)
      clear hK K
      try simp only [List.getElem_toArray, List.getElem_cons_succ, List.getElem_cons_zero, Act.put, List.setIfInBounds_toArray, List.set_cons_zero, List.set_cons_succ]
      refine wpAnyH_ready (rs := [2]) (by kernel_rfl) (by simp) ?_
      refine AllReadyH.cons rfl (fun K hK => ?_) AllReadyH.nil
      go_simp
      refine (HTN.out _ (HTAB.out.below hHeld.2.2)).mono ?_
      rintro e wc2 ⟨rfl, hbc2⟩
      refine hK.out _ _ ⟨hHeld.1.under hbc2, hHeld.2.1.under hbc2, below_two hHeld.2.2 hbc2⟩ (fun hHeld => ?_)
      clear hK K
      try simp only [List.getElem_toArray, List.getElem_cons_succ, List.getElem_cons_zero, Act.put, List.setIfInBounds_toArray, List.set_cons_zero, List.set_cons_succ]
      refine wpAnyH_ready (rs := [4]) (by kernel_rfl) (by simp) ?_
      refine AllReadyH.cons rfl (fun K hK => ?_) AllReadyH.nil
      go_simp
      refine (HFI.out _ (HTAB.out.below hHeld.2.2)).mono ?_
      rintro e wc4 ⟨rfl, hbc4⟩
      refine hK.out _ _ ⟨hHeld.1.under hbc4, hHeld.2.1.under hbc4, below_two hHeld.2.2 hbc4⟩ (fun hHeld => ?_)
      clear hK K
      try simp only [List.getElem_toArray, List.getElem_cons_succ, List.getElem_cons_zero, Act.put, List.setIfInBounds_toArray, List.set_cons_zero, List.set_cons_succ]
      refine wpAnyH_take (i := 5) (v := ?_) rfl (by kernel_rfl) (by kernel_rfl) (by kernel_rfl) (fun _ _ _ h => h) (Or.inl ⟨by rfl, ?_⟩) (by assumption) ?_
      rotate_left
      · intro W hW
        obtain ⟨kx, ky, kw⟩ := hW
        obtain ⟨x0, x1, x2, x3, x4⟩ := kx.two
        obtain ⟨y0, y1, y2, y3, y4⟩ := ky.two
        go_simp
        try rfl
      simp only [List.getElem_toArray, List.getElem_cons_succ, List.getElem_cons_zero, Act.put, List.setIfInBounds_toArray, List.set_cons_zero, List.set_cons_succ]
      refine wpAnyH_take (i := 6) (v := ?_) rfl (by kernel_rfl) (by kernel_rfl) (by kernel_rfl) (fun _ _ _ h => h) (Or.inl ⟨by rfl, ?_⟩) (by assumption) ?_
      rotate_left
      · intro W hW
        obtain ⟨kx, ky, kw⟩ := hW
        obtain ⟨x0, x1, x2, x3, x4⟩ := kx.two
        obtain ⟨y0, y1, y2, y3, y4⟩ := ky.two
        go_simp
        try rfl
      simp only [List.getElem_toArray, List.getElem_cons_succ, List.getElem_cons_zero, Act.put, List.setIfInBounds_toArray, List.set_cons_zero, List.set_cons_succ]
      refine wpAnyH_take (i := 7) (v := ?_) rfl (by kernel_rfl) (by kernel_rfl) (by kernel_rfl) (fun _ _ _ h => h) (Or.inl ⟨by rfl, ?_⟩) (by assumption) ?_
      rotate_left
      · intro W hW
        obtain ⟨kx, ky, kw⟩ := hW
        obtain ⟨x0, x1, x2, x3, x4⟩ := kx.two
        obtain ⟨y0, y1, y2, y3, y4⟩ := ky.two
        go_simp
        try rfl
      simp only [List.getElem_toArray, List.getElem_cons_succ, List.getElem_cons_zero, Act.put, List.setIfInBounds_toArray, List.set_cons_zero, List.set_cons_succ]
      refine wpAnyH_take (i := 9) (v := ?_) rfl (by kernel_rfl) (by kernel_rfl) (by kernel_rfl) (fun _ _ _ h => h) (Or.inl ⟨by rfl, ?_⟩) (by assumption) ?_
      rotate_left
      · intro W hW
        obtain ⟨kx, ky, kw⟩ := hW
        obtain ⟨x0, x1, x2, x3, x4⟩ := kx.two
        obtain ⟨y0, y1, y2, y3, y4⟩ := ky.two
        go_simp
        try rfl
      simp only [List.getElem_toArray, List.getElem_cons_succ, List.getElem_cons_zero, Act.put, List.setIfInBounds_toArray, List.set_cons_zero, List.set_cons_succ]
      refine wpAnyH_take (i := 12) (v := ?_) rfl (by kernel_rfl) (by kernel_rfl) (by kernel_rfl) (fun _ _ _ h => h) (Or.inl ⟨by rfl, ?_⟩) (by assumption) ?_
      rotate_left
      · intro W hW
        obtain ⟨kx, ky, kw⟩ := hW
        obtain ⟨x0, x1, x2, x3, x4⟩ := kx.two
        obtain ⟨y0, y1, y2, y3, y4⟩ := ky.two
        go_simp
        try rfl
      simp only [List.getElem_toArray, List.getElem_cons_succ, List.getElem_cons_zero, Act.put, List.setIfInBounds_toArray, List.set_cons_zero, List.set_cons_succ]
      refine wpAnyH_take (i := 13) (v := ?_) rfl (by kernel_rfl) (by kernel_rfl) (by kernel_rfl) (fun _ _ _ h => h) (Or.inl ⟨by rfl, ?_⟩) (by assumption) ?_
      rotate_left
      · intro W hW
        obtain ⟨kx, ky, kw⟩ := hW
        obtain ⟨x0, x1, x2, x3, x4⟩ := kx.two
        obtain ⟨y0, y1, y2, y3, y4⟩ := ky.two
        go_simp
        try rfl
      simp only [List.getElem_toArray, List.getElem_cons_succ, List.getElem_cons_zero, Act.put, List.setIfInBounds_toArray, List.set_cons_zero, List.set_cons_succ]
      refine wpAnyH_take (i := 14) (v := ?_) rfl (by kernel_rfl) (by kernel_rfl) (by kernel_rfl) (fun _ _ _ h => h) (Or.inl ⟨by rfl, ?_⟩) (by assumption) ?_
      rotate_left
      · intro W hW
        obtain ⟨kx, ky, kw⟩ := hW
        obtain ⟨x0, x1, x2, x3, x4⟩ := kx.two
        obtain ⟨y0, y1, y2, y3, y4⟩ := ky.two
        go_simp
        try rfl
      simp only [List.getElem_toArray, List.getElem_cons_succ, List.getElem_cons_zero, Act.put, List.setIfInBounds_toArray, List.set_cons_zero, List.set_cons_succ]
      refine wpAnyH_ready (rs := [8]) (by kernel_rfl) (by simp) ?_
      refine AllReadyH.cons rfl (fun K hK => ?_) AllReadyH.nil
      go_simp
      refine (HTX.out _ (HTAB.out.below hHeld.2.2)).mono ?_
      rintro e wc8 ⟨rfl, hbc8⟩
      refine hK.out _ _ ⟨hHeld.1.under hbc8, hHeld.2.1.under hbc8, below_two hHeld.2.2 hbc8⟩ (fun hHeld => ?_)
      clear hK K
      try simp only [List.getElem_toArray, List.getElem_cons_succ, List.getElem_cons_zero, Act.put, List.setIfInBounds_toArray, List.set_cons_zero, List.set_cons_succ]
      refine wpAnyH_ready (rs := [10]) (by kernel_rfl) (by simp) ?_
      refine AllReadyH.cons rfl (fun K hK => ?_) AllReadyH.nil
      go_simp
      refine (HTY.out _ (HTAB.out.below hHeld.2.2)).mono ?_
      rintro e wc10 ⟨rfl, hbc10⟩
      refine hK.out _ _ ⟨hHeld.1.under hbc10, hHeld.2.1.under hbc10, below_two hHeld.2.2 hbc10⟩ (fun hHeld => ?_)
      clear hK K
      try simp only [List.getElem_toArray, List.getElem_cons_succ, List.getElem_cons_zero, Act.put, List.setIfInBounds_toArray, List.set_cons_zero, List.set_cons_succ]
      refine wpAnyH_take (i := 11) (v := ?_) rfl (by kernel_rfl) (by kernel_rfl) (by kernel_rfl) (fun _ _ _ h => h) (Or.inl ⟨by rfl, ?_⟩) (by assumption) ?_
      rotate_left
      · intro W hW
        obtain ⟨kx, ky, kw⟩ := hW
        obtain ⟨x0, x1, x2, x3, x4⟩ := kx.two
        obtain ⟨y0, y1, y2, y3, y4⟩ := ky.two
        go_simp
        try rfl
      simp only [List.getElem_toArray, List.getElem_cons_succ, List.getElem_cons_zero, Act.put, List.setIfInBounds_toArray, List.set_cons_zero, List.set_cons_succ]
      refine wpAnyH_take (i := 15) (v := ?_) rfl (by kernel_rfl) (by kernel_rfl) (by kernel_rfl) (fun _ _ _ h => h) (Or.inl ⟨by rfl, ?_⟩) (by assumption) ?_
      rotate_left
      · intro W hW
        obtain ⟨kx, ky, kw⟩ := hW
        obtain ⟨x0, x1, x2, x3, x4⟩ := kx.two
        obtain ⟨y0, y1, y2, y3, y4⟩ := ky.two
        go_simp
        try rfl
      simp only [List.getElem_toArray, List.getElem_cons_succ, List.getElem_cons_zero, Act.put, List.setIfInBounds_toArray, List.set_cons_zero, List.set_cons_succ]
      refine wpAnyH_take (i := 16) (v := ?_) rfl (by kernel_rfl) (by kernel_rfl) (by kernel_rfl) (fun _ _ _ h => h) (Or.inl ⟨by rfl, ?_⟩) (by assumption) ?_
      rotate_left
      · intro W hW
        obtain ⟨kx, ky, kw⟩ := hW
        obtain ⟨x0, x1, x2, x3, x4⟩ := kx.two
        obtain ⟨y0, y1, y2, y3, y4⟩ := ky.two
        go_simp
        try rfl
      simp only [List.getElem_toArray, List.getElem_cons_succ, List.getElem_cons_zero, Act.put, List.setIfInBounds_toArray, List.set_cons_zero, List.set_cons_succ]
      refine wpAnyH_done (by kernel_rfl) ?_ _
      refine NoPanic.normal ?_
      obtain ⟨k8, k9, hw9⟩ := hHeld
      obtain ⟨x0, x1, x2, x3, x4⟩ := k8.two
      go_wp2_with fail
      go_meet
      exact ⟨rfl, k8, k9, hw9⟩
    · have te : (xh == yh) = true := beq_iff_eq.2 e1
      have te2 : (xl == yl) = false := beq_eq_false_iff_ne.2 he
      clear e1 he
      refine wp_region_noPanic ?_
      refine wp_region_held_drew (S := (fun w' => Blk w' w.heap.size 24 #[.int .i64 xh, .int .u64 xl] ∧ Blk w' (w.heap.size + 1) 24 #[.int .i64 yh, .int .u64 yl] ∧ Below w.heap.size w w')) (by kernel_rfl) ⟨ka.drew, kb.drew, ⟨hw.os, hw.tape, hw.output, hw.size, hw.block⟩⟩ (fun hHeld => ?_)
      clear ka kb hw
      refine wpAnyH_take (i := 0) (v := ?_) rfl (by kernel_rfl) (by kernel_rfl) (by kernel_rfl) (fun _ _ _ h => h) (Or.inl ⟨by rfl, ?_⟩) (by assumption) ?_
      rotate_left
      · intro W hW
        obtain ⟨kx, ky, kw⟩ := hW
        obtain ⟨x0, x1, x2, x3, x4⟩ := kx.two
        obtain ⟨y0, y1, y2, y3, y4⟩ := ky.two
        go_simp
        try rfl
      simp only [List.getElem_toArray, List.getElem_cons_zero, Act.put, List.setIfInBounds_toArray, List.set_cons_zero, List.set_cons_succ]
      refine wpAnyH_take (i := 3) (v := ?_) rfl (by kernel_rfl) (by kernel_rfl) (by kernel_rfl) (fun _ _ _ h => h) (Or.inl ⟨by rfl, ?_⟩) (by assumption) ?_
      rotate_left
      · intro W hW
        obtain ⟨kx, ky, kw⟩ := hW
        obtain ⟨x0, x1, x2, x3, x4⟩ := kx.two
        obtain ⟨y0, y1, y2, y3, y4⟩ := ky.two
        go_simp
        try rfl
      simp only [List.getElem_toArray, List.getElem_cons_succ, List.getElem_cons_zero, Act.put, List.setIfInBounds_toArray, List.set_cons_zero, List.set_cons_succ]
      refine wpAnyH_ready (rs := [1]) (by kernel_rfl) (by simp) ?_
      refine AllReadyH.cons rfl (fun K hK => ?_) AllReadyH.nil
      go_simp
      refine (HON.out _).mono ?_
      rintro e wc1 ⟨rfl, hbc1⟩
      refine hK.out _ _ ⟨hHeld.1.under hbc1, hHeld.2.1.under hbc1, below_two hHeld.2.2 hbc1⟩ (fun hHeld => ?_)
      clear hK K
      try simp only [List.getElem_toArray, List.getElem_cons_succ, List.getElem_cons_zero, Act.put, List.setIfInBounds_toArray, List.set_cons_zero, List.set_cons_succ]
      refine wpAnyH_ready (rs := [2]) (by kernel_rfl) (by simp) ?_
      refine AllReadyH.cons rfl (fun K hK => ?_) AllReadyH.nil
      go_simp
      refine (HTN.out _ (HTAB.out.below hHeld.2.2)).mono ?_
      rintro e wc2 ⟨rfl, hbc2⟩
      refine hK.out _ _ ⟨hHeld.1.under hbc2, hHeld.2.1.under hbc2, below_two hHeld.2.2 hbc2⟩ (fun hHeld => ?_)
      clear hK K
      try simp only [List.getElem_toArray, List.getElem_cons_succ, List.getElem_cons_zero, Act.put, List.setIfInBounds_toArray, List.set_cons_zero, List.set_cons_succ]
      refine wpAnyH_ready (rs := [4]) (by kernel_rfl) (by simp) ?_
      refine AllReadyH.cons rfl (fun K hK => ?_) AllReadyH.nil
      go_simp
      refine (HFI.out _ (HTAB.out.below hHeld.2.2)).mono ?_
      rintro e wc4 ⟨rfl, hbc4⟩
      refine hK.out _ _ ⟨hHeld.1.under hbc4, hHeld.2.1.under hbc4, below_two hHeld.2.2 hbc4⟩ (fun hHeld => ?_)
      clear hK K
      try simp only [List.getElem_toArray, List.getElem_cons_succ, List.getElem_cons_zero, Act.put, List.setIfInBounds_toArray, List.set_cons_zero, List.set_cons_succ]
      refine wpAnyH_take (i := 5) (v := ?_) rfl (by kernel_rfl) (by kernel_rfl) (by kernel_rfl) (fun _ _ _ h => h) (Or.inl ⟨by rfl, ?_⟩) (by assumption) ?_
      rotate_left
      · intro W hW
        obtain ⟨kx, ky, kw⟩ := hW
        obtain ⟨x0, x1, x2, x3, x4⟩ := kx.two
        obtain ⟨y0, y1, y2, y3, y4⟩ := ky.two
        go_simp
        try rfl
      simp only [List.getElem_toArray, List.getElem_cons_succ, List.getElem_cons_zero, Act.put, List.setIfInBounds_toArray, List.set_cons_zero, List.set_cons_succ]
      refine wpAnyH_take (i := 6) (v := ?_) rfl (by kernel_rfl) (by kernel_rfl) (by kernel_rfl) (fun _ _ _ h => h) (Or.inl ⟨by rfl, ?_⟩) (by assumption) ?_
      rotate_left
      · intro W hW
        obtain ⟨kx, ky, kw⟩ := hW
        obtain ⟨x0, x1, x2, x3, x4⟩ := kx.two
        obtain ⟨y0, y1, y2, y3, y4⟩ := ky.two
        go_simp
        try rfl
      simp only [List.getElem_toArray, List.getElem_cons_succ, List.getElem_cons_zero, Act.put, List.setIfInBounds_toArray, List.set_cons_zero, List.set_cons_succ]
      refine wpAnyH_take (i := 7) (v := ?_) rfl (by kernel_rfl) (by kernel_rfl) (by kernel_rfl) (fun _ _ _ h => h) (Or.inl ⟨by rfl, ?_⟩) (by assumption) ?_
      rotate_left
      · intro W hW
        obtain ⟨kx, ky, kw⟩ := hW
        obtain ⟨x0, x1, x2, x3, x4⟩ := kx.two
        obtain ⟨y0, y1, y2, y3, y4⟩ := ky.two
        go_simp
        try rfl
      simp only [List.getElem_toArray, List.getElem_cons_succ, List.getElem_cons_zero, Act.put, List.setIfInBounds_toArray, List.set_cons_zero, List.set_cons_succ]
      refine wpAnyH_take (i := 9) (v := ?_) rfl (by kernel_rfl) (by kernel_rfl) (by kernel_rfl) (fun _ _ _ h => h) (Or.inl ⟨by rfl, ?_⟩) (by assumption) ?_
      rotate_left
      · intro W hW
        obtain ⟨kx, ky, kw⟩ := hW
        obtain ⟨x0, x1, x2, x3, x4⟩ := kx.two
        obtain ⟨y0, y1, y2, y3, y4⟩ := ky.two
        go_simp
        try rfl
      simp only [List.getElem_toArray, List.getElem_cons_succ, List.getElem_cons_zero, Act.put, List.setIfInBounds_toArray, List.set_cons_zero, List.set_cons_succ]
      refine wpAnyH_take (i := 12) (v := ?_) rfl (by kernel_rfl) (by kernel_rfl) (by kernel_rfl) (fun _ _ _ h => h) (Or.inl ⟨by rfl, ?_⟩) (by assumption) ?_
      rotate_left
      · intro W hW
        obtain ⟨kx, ky, kw⟩ := hW
        obtain ⟨x0, x1, x2, x3, x4⟩ := kx.two
        obtain ⟨y0, y1, y2, y3, y4⟩ := ky.two
        go_simp
        try rfl
      simp only [List.getElem_toArray, List.getElem_cons_succ, List.getElem_cons_zero, Act.put, List.setIfInBounds_toArray, List.set_cons_zero, List.set_cons_succ]
      refine wpAnyH_take (i := 13) (v := ?_) rfl (by kernel_rfl) (by kernel_rfl) (by kernel_rfl) (fun _ _ _ h => h) (Or.inl ⟨by rfl, ?_⟩) (by assumption) ?_
      rotate_left
      · intro W hW
        obtain ⟨kx, ky, kw⟩ := hW
        obtain ⟨x0, x1, x2, x3, x4⟩ := kx.two
        obtain ⟨y0, y1, y2, y3, y4⟩ := ky.two
        go_simp
        try rfl
      simp only [List.getElem_toArray, List.getElem_cons_succ, List.getElem_cons_zero, Act.put, List.setIfInBounds_toArray, List.set_cons_zero, List.set_cons_succ]
      refine wpAnyH_take (i := 14) (v := ?_) rfl (by kernel_rfl) (by kernel_rfl) (by kernel_rfl) (fun _ _ _ h => h) (Or.inl ⟨by rfl, ?_⟩) (by assumption) ?_
      rotate_left
      · intro W hW
        obtain ⟨kx, ky, kw⟩ := hW
        obtain ⟨x0, x1, x2, x3, x4⟩ := kx.two
        obtain ⟨y0, y1, y2, y3, y4⟩ := ky.two
        go_simp
        try rfl
      simp only [List.getElem_toArray, List.getElem_cons_succ, List.getElem_cons_zero, Act.put, List.setIfInBounds_toArray, List.set_cons_zero, List.set_cons_succ]
      refine wpAnyH_ready (rs := [8]) (by kernel_rfl) (by simp) ?_
      refine AllReadyH.cons rfl (fun K hK => ?_) AllReadyH.nil
      go_simp
      refine (HTX.out _ (HTAB.out.below hHeld.2.2)).mono ?_
      rintro e wc8 ⟨rfl, hbc8⟩
      refine hK.out _ _ ⟨hHeld.1.under hbc8, hHeld.2.1.under hbc8, below_two hHeld.2.2 hbc8⟩ (fun hHeld => ?_)
      clear hK K
      try simp only [List.getElem_toArray, List.getElem_cons_succ, List.getElem_cons_zero, Act.put, List.setIfInBounds_toArray, List.set_cons_zero, List.set_cons_succ]
      refine wpAnyH_ready (rs := [10]) (by kernel_rfl) (by simp) ?_
      refine AllReadyH.cons rfl (fun K hK => ?_) AllReadyH.nil
      go_simp
      refine (HTY.out _ (HTAB.out.below hHeld.2.2)).mono ?_
      rintro e wc10 ⟨rfl, hbc10⟩
      refine hK.out _ _ ⟨hHeld.1.under hbc10, hHeld.2.1.under hbc10, below_two hHeld.2.2 hbc10⟩ (fun hHeld => ?_)
      clear hK K
      try simp only [List.getElem_toArray, List.getElem_cons_succ, List.getElem_cons_zero, Act.put, List.setIfInBounds_toArray, List.set_cons_zero, List.set_cons_succ]
      refine wpAnyH_take (i := 11) (v := ?_) rfl (by kernel_rfl) (by kernel_rfl) (by kernel_rfl) (fun _ _ _ h => h) (Or.inl ⟨by rfl, ?_⟩) (by assumption) ?_
      rotate_left
      · intro W hW
        obtain ⟨kx, ky, kw⟩ := hW
        obtain ⟨x0, x1, x2, x3, x4⟩ := kx.two
        obtain ⟨y0, y1, y2, y3, y4⟩ := ky.two
        go_simp
        try rfl
      simp only [List.getElem_toArray, List.getElem_cons_succ, List.getElem_cons_zero, Act.put, List.setIfInBounds_toArray, List.set_cons_zero, List.set_cons_succ]
      refine wpAnyH_take (i := 15) (v := ?_) rfl (by kernel_rfl) (by kernel_rfl) (by kernel_rfl) (fun _ _ _ h => h) (Or.inl ⟨by rfl, ?_⟩) (by assumption) ?_
      rotate_left
      · intro W hW
        obtain ⟨kx, ky, kw⟩ := hW
        obtain ⟨x0, x1, x2, x3, x4⟩ := kx.two
        obtain ⟨y0, y1, y2, y3, y4⟩ := ky.two
        go_simp
        try rfl
      simp only [List.getElem_toArray, List.getElem_cons_succ, List.getElem_cons_zero, Act.put, List.setIfInBounds_toArray, List.set_cons_zero, List.set_cons_succ]
      refine wpAnyH_take (i := 16) (v := ?_) rfl (by kernel_rfl) (by kernel_rfl) (by kernel_rfl) (fun _ _ _ h => h) (Or.inl ⟨by rfl, ?_⟩) (by assumption) ?_
      rotate_left
      · intro W hW
        obtain ⟨kx, ky, kw⟩ := hW
        obtain ⟨x0, x1, x2, x3, x4⟩ := kx.two
        obtain ⟨y0, y1, y2, y3, y4⟩ := ky.two
        go_simp
        try rfl
      simp only [List.getElem_toArray, List.getElem_cons_succ, List.getElem_cons_zero, Act.put, List.setIfInBounds_toArray, List.set_cons_zero, List.set_cons_succ]
      refine wpAnyH_done (by kernel_rfl) ?_ _
      refine NoPanic.normal ?_
      obtain ⟨k8, k9, hw9⟩ := hHeld
      obtain ⟨x0, x1, x2, x3, x4⟩ := k8.two
      go_wp2_with fail
      go_meet
      exact ⟨rfl, k8, k9, hw9⟩
  case rest =>
    obtain ⟨rfl, kb_a_20, kb_b_20, hw20⟩ := hcut
    clear HB0 HH HON HTN HFI HTY kb_b_20
    obtain ⟨hneg, hlX, hlM, hsg⟩ := HS.out
    clear HS
    obtain ⟨oa0, oa1, oa2, oa3, oa4⟩ := kb_a_20.two
    rcases hneg with hi | hi
    · have HA := hid (fun w => HNY.out w hi)
      have HTM2 := hid (HTM.out hi)
      have hlM2 := hlM hi
      clear HNY HNN HTM hlM
      have gX : ¬ (9223372036854775807 < (1 : Int) + (sX.size : Int)) := by omega
      have gM : ¬ (9223372036854775807 < (1 : Int) + (sM.size : Int)) := by omega
      go_wp2_with fail
      refine (HA.out _).mono ?_
      rintro e w21 ⟨rfl, hb21⟩
      have kb_a_21 := (kb_a_20).under hb21
      have hw21 := below_two hw20 hb21
      clear kb_a_20 hw20 hb21
      clear oa0 oa1 oa2 oa3 oa4
      obtain ⟨ca0_21, ca1_21, fa0_21, fa1_21, la_21⟩ := kb_a_21.two
      clear HA
      have kA := kb_a_21.alloc (oW mh ml)
      have kP := Blk.new w21 24 #[.int .i64 mh, .int .u64 ml]
      have hwp := below_alloc hw21 (Nat.le_refl _) (oW mh ml)
      rcases hsg with ⟨hs1, hs2⟩ | ⟨hs1, hs2⟩ | ⟨hs1, hs2, hs3⟩
      · have hx0 : ¬ xh = 0 := by omega
        have te : (xh == 0) = false := beq_eq_false_iff_ne.2 hx0
        have tb : ((⟨#[45]⟩ : ByteArray) ++ sM).toList = sX.toList := by rw [hs2]
        clear hx0
        go_upto_region 9 with fail
        clear kb_a_21 hw21 ca0_21 ca1_21 fa0_21 fa1_21 la_21
        generalize w21.alloc (oW mh ml) = wr at *
        generalize w21.heap.size = gp at *
        refine wp_region_noPanic ?_
        refine wp_region_held_drew (S := (fun w' => Blk w' w.heap.size 24 #[.int .i64 xh, .int .u64 xl] ∧ Blk w' gp 24 #[.int .i64 mh, .int .u64 ml] ∧ Below w.heap.size w w')) (by kernel_rfl) ⟨kA.drew, kP.drew, ⟨hwp.os, hwp.tape, hwp.output, hwp.size, hwp.block⟩⟩ (fun hHeld => ?_)
        refine wpAnyH_take (i := 0) (v := ?_) rfl (by kernel_rfl) (by kernel_rfl) (by kernel_rfl) (fun _ _ _ h => h) (Or.inl ⟨by rfl, ?_⟩) (by assumption) ?_
        rotate_left
        · intro W hW
          obtain ⟨kx, ky, kw⟩ := hW
          obtain ⟨x0, x1, x2, x3, x4⟩ := kx.two
          obtain ⟨y0, y1, y2, y3, y4⟩ := ky.two
          go_simp
          try rfl
        simp only [List.getElem_toArray, List.getElem_cons_zero, Act.put, List.setIfInBounds_toArray, List.set_cons_zero, List.set_cons_succ]
        refine wpAnyH_take (i := 2) (v := ?_) rfl (by kernel_rfl) (by kernel_rfl) (by kernel_rfl) (fun _ _ _ h => h) (Or.inl ⟨by rfl, ?_⟩) (by assumption) ?_
        rotate_left
        · intro W hW
          obtain ⟨kx, ky, kw⟩ := hW
          obtain ⟨x0, x1, x2, x3, x4⟩ := kx.two
          obtain ⟨y0, y1, y2, y3, y4⟩ := ky.two
          go_simp
          try rfl
        simp only [List.getElem_toArray, List.getElem_cons_succ, List.getElem_cons_zero, Act.put, List.setIfInBounds_toArray, List.set_cons_zero, List.set_cons_succ]
        refine wpAnyH_ready (rs := [1]) (by kernel_rfl) (by simp) ?_
        refine AllReadyH.cons rfl (fun K hK => ?_) AllReadyH.nil
        go_simp
        refine (HTX.out _ (HTAB.out.below hHeld.2.2)).mono ?_
        rintro e wc31 ⟨rfl, hbc31⟩
        refine hK.out _ _ ⟨hHeld.1.under hbc31, hHeld.2.1.under hbc31, below_two hHeld.2.2 hbc31⟩ (fun hHeld => ?_)
        clear hK K
        try simp only [List.getElem_toArray, List.getElem_cons_succ, List.getElem_cons_zero, Act.put, List.setIfInBounds_toArray, List.set_cons_zero, List.set_cons_succ]
        refine wpAnyH_ready (rs := [3]) (by kernel_rfl) (by simp) ?_
        refine AllReadyH.cons rfl (fun K hK => ?_) AllReadyH.nil
        go_simp
        refine (HTM2.out _ (HTAB.out.below hHeld.2.2)).mono ?_
        rintro e wc33 ⟨rfl, hbc33⟩
        refine hK.out _ _ ⟨hHeld.1.under hbc33, hHeld.2.1.under hbc33, below_two hHeld.2.2 hbc33⟩ (fun hHeld => ?_)
        clear hK K
        try simp only [List.getElem_toArray, List.getElem_cons_succ, List.getElem_cons_zero, Act.put, List.setIfInBounds_toArray, List.set_cons_zero, List.set_cons_succ]
        refine wpAnyH_take (i := 4) (v := ?_) rfl (by kernel_rfl) (by kernel_rfl) (by kernel_rfl) (fun _ _ _ h => h) (Or.inl ⟨by rfl, ?_⟩) (by assumption) ?_
        rotate_left
        · intro W hW
          obtain ⟨kx, ky, kw⟩ := hW
          obtain ⟨x0, x1, x2, x3, x4⟩ := kx.two
          obtain ⟨y0, y1, y2, y3, y4⟩ := ky.two
          go_simp
          try rfl
          try rw [if_neg (show ¬ 9223372036854775807 < 1 + sM.size by omega)]
          try rw [if_neg (show ¬ 9223372036854775807 < 1 + sX.size by omega)]
          try rfl
        simp only [List.getElem_toArray, List.getElem_cons_succ, List.getElem_cons_zero, Act.put, List.setIfInBounds_toArray, List.set_cons_zero, List.set_cons_succ]
        refine wpAnyH_take (i := 5) (v := ?_) rfl (by kernel_rfl) (by kernel_rfl) (by kernel_rfl) (fun _ _ _ h => h) (Or.inl ⟨by rfl, ?_⟩) (by assumption) ?_
        rotate_left
        · intro W hW
          obtain ⟨kx, ky, kw⟩ := hW
          obtain ⟨x0, x1, x2, x3, x4⟩ := kx.two
          obtain ⟨y0, y1, y2, y3, y4⟩ := ky.two
          go_simp
          try rfl
        simp only [List.getElem_toArray, List.getElem_cons_succ, List.getElem_cons_zero, Act.put, List.setIfInBounds_toArray, List.set_cons_zero, List.set_cons_succ]
        refine wpAnyH_take (i := 6) (v := ?_) rfl (by kernel_rfl) (by kernel_rfl) (by kernel_rfl) (fun _ _ _ h => h) (Or.inl ⟨by rfl, ?_⟩) (by assumption) ?_
        rotate_left
        · intro W hW
          obtain ⟨kx, ky, kw⟩ := hW
          obtain ⟨x0, x1, x2, x3, x4⟩ := kx.two
          obtain ⟨y0, y1, y2, y3, y4⟩ := ky.two
          go_simp
          try rfl
        simp only [List.getElem_toArray, List.getElem_cons_succ, List.getElem_cons_zero, Act.put, List.setIfInBounds_toArray, List.set_cons_zero, List.set_cons_succ]
        refine wpAnyH_done (by kernel_rfl) ?_ _
        refine NoPanic.normal ?_
        obtain ⟨kA9, kP9, hw9⟩ := hHeld
        obtain ⟨x0, x1, x2, x3, x4⟩ := kA9.two
        go_wp2
        go_ret
        exact ⟨rfl, hw9⟩
      · subst hs1 hs2
        clear HTX HTM2 gX gM hlX hlM2 kA kP hwp
        go_wp2
        have hpe := below_alloc hw21 (Nat.le_refl _) (oW mh ml)
        go_ret
        exact ⟨rfl, hpe⟩
      · have th : decide (xh < 0) = false := decide_eq_false (by omega)
        have tb : ((⟨#[45]⟩ : ByteArray) ++ sX).toList = sM.toList := by rw [hs3]
        rcases hs2 with he | ⟨hz, he⟩
        · have te : (xh == 0) = false := beq_eq_false_iff_ne.2 he
          clear hs1 he
          go_upto_region 10 with fail
          clear kb_a_21 hw21 ca0_21 ca1_21 fa0_21 fa1_21 la_21
          generalize w21.alloc (oW mh ml) = wr at *
          generalize w21.heap.size = gp at *
          refine wp_region_noPanic ?_
          refine wp_region_held_drew (S := (fun w' => Blk w' w.heap.size 24 #[.int .i64 xh, .int .u64 xl] ∧ Blk w' gp 24 #[.int .i64 mh, .int .u64 ml] ∧ Below w.heap.size w w')) (by kernel_rfl) ⟨kA.drew, kP.drew, ⟨hwp.os, hwp.tape, hwp.output, hwp.size, hwp.block⟩⟩ (fun hHeld => ?_)
          refine wpAnyH_take (i := 0) (v := ?_) rfl (by kernel_rfl) (by kernel_rfl) (by kernel_rfl) (fun _ _ _ h => h) (Or.inl ⟨by rfl, ?_⟩) (by assumption) ?_
          rotate_left
          · intro W hW
            obtain ⟨kx, ky, kw⟩ := hW
            obtain ⟨x0, x1, x2, x3, x4⟩ := kx.two
            obtain ⟨y0, y1, y2, y3, y4⟩ := ky.two
            go_simp
            try rfl
          simp only [List.getElem_toArray, List.getElem_cons_zero, Act.put, List.setIfInBounds_toArray, List.set_cons_zero, List.set_cons_succ]
          refine wpAnyH_take (i := 2) (v := ?_) rfl (by kernel_rfl) (by kernel_rfl) (by kernel_rfl) (fun _ _ _ h => h) (Or.inl ⟨by rfl, ?_⟩) (by assumption) ?_
          rotate_left
          · intro W hW
            obtain ⟨kx, ky, kw⟩ := hW
            obtain ⟨x0, x1, x2, x3, x4⟩ := kx.two
            obtain ⟨y0, y1, y2, y3, y4⟩ := ky.two
            go_simp
            try rfl
          simp only [List.getElem_toArray, List.getElem_cons_succ, List.getElem_cons_zero, Act.put, List.setIfInBounds_toArray, List.set_cons_zero, List.set_cons_succ]
          refine wpAnyH_ready (rs := [1]) (by kernel_rfl) (by simp) ?_
          refine AllReadyH.cons rfl (fun K hK => ?_) AllReadyH.nil
          go_simp
          refine (HTM2.out _ (HTAB.out.below hHeld.2.2)).mono ?_
          rintro e wc31 ⟨rfl, hbc31⟩
          refine hK.out _ _ ⟨hHeld.1.under hbc31, hHeld.2.1.under hbc31, below_two hHeld.2.2 hbc31⟩ (fun hHeld => ?_)
          clear hK K
          try simp only [List.getElem_toArray, List.getElem_cons_succ, List.getElem_cons_zero, Act.put, List.setIfInBounds_toArray, List.set_cons_zero, List.set_cons_succ]
          refine wpAnyH_ready (rs := [3]) (by kernel_rfl) (by simp) ?_
          refine AllReadyH.cons rfl (fun K hK => ?_) AllReadyH.nil
          go_simp
          refine (HTX.out _ (HTAB.out.below hHeld.2.2)).mono ?_
          rintro e wc33 ⟨rfl, hbc33⟩
          refine hK.out _ _ ⟨hHeld.1.under hbc33, hHeld.2.1.under hbc33, below_two hHeld.2.2 hbc33⟩ (fun hHeld => ?_)
          clear hK K
          try simp only [List.getElem_toArray, List.getElem_cons_succ, List.getElem_cons_zero, Act.put, List.setIfInBounds_toArray, List.set_cons_zero, List.set_cons_succ]
          refine wpAnyH_take (i := 4) (v := ?_) rfl (by kernel_rfl) (by kernel_rfl) (by kernel_rfl) (fun _ _ _ h => h) (Or.inl ⟨by rfl, ?_⟩) (by assumption) ?_
          rotate_left
          · intro W hW
            obtain ⟨kx, ky, kw⟩ := hW
            obtain ⟨x0, x1, x2, x3, x4⟩ := kx.two
            obtain ⟨y0, y1, y2, y3, y4⟩ := ky.two
            go_simp
            try rfl
            try rw [if_neg (show ¬ 9223372036854775807 < 1 + sM.size by omega)]
            try rw [if_neg (show ¬ 9223372036854775807 < 1 + sX.size by omega)]
            try rfl
          simp only [List.getElem_toArray, List.getElem_cons_succ, List.getElem_cons_zero, Act.put, List.setIfInBounds_toArray, List.set_cons_zero, List.set_cons_succ]
          refine wpAnyH_take (i := 5) (v := ?_) rfl (by kernel_rfl) (by kernel_rfl) (by kernel_rfl) (fun _ _ _ h => h) (Or.inl ⟨by rfl, ?_⟩) (by assumption) ?_
          rotate_left
          · intro W hW
            obtain ⟨kx, ky, kw⟩ := hW
            obtain ⟨x0, x1, x2, x3, x4⟩ := kx.two
            obtain ⟨y0, y1, y2, y3, y4⟩ := ky.two
            go_simp
            try rfl
          simp only [List.getElem_toArray, List.getElem_cons_succ, List.getElem_cons_zero, Act.put, List.setIfInBounds_toArray, List.set_cons_zero, List.set_cons_succ]
          refine wpAnyH_take (i := 6) (v := ?_) rfl (by kernel_rfl) (by kernel_rfl) (by kernel_rfl) (fun _ _ _ h => h) (Or.inl ⟨by rfl, ?_⟩) (by assumption) ?_
          rotate_left
          · intro W hW
            obtain ⟨kx, ky, kw⟩ := hW
            obtain ⟨x0, x1, x2, x3, x4⟩ := kx.two
            obtain ⟨y0, y1, y2, y3, y4⟩ := ky.two
            go_simp
            try rfl
          simp only [List.getElem_toArray, List.getElem_cons_succ, List.getElem_cons_zero, Act.put, List.setIfInBounds_toArray, List.set_cons_zero, List.set_cons_succ]
          refine wpAnyH_done (by kernel_rfl) ?_ _
          refine NoPanic.normal ?_
          obtain ⟨kA9, kP9, hw9⟩ := hHeld
          obtain ⟨x0, x1, x2, x3, x4⟩ := kA9.two
          go_wp2
          go_ret
          exact ⟨rfl, hw9⟩
        · have te0 : (xh == 0) = true := beq_iff_eq.2 hz
          have te : (xl == 0) = false := beq_eq_false_iff_ne.2 he
          clear hz hs1 he
          go_upto_region 10 with fail
          clear kb_a_21 hw21 ca0_21 ca1_21 fa0_21 fa1_21 la_21
          generalize w21.alloc (oW mh ml) = wr at *
          generalize w21.heap.size = gp at *
          refine wp_region_noPanic ?_
          refine wp_region_held_drew (S := (fun w' => Blk w' w.heap.size 24 #[.int .i64 xh, .int .u64 xl] ∧ Blk w' gp 24 #[.int .i64 mh, .int .u64 ml] ∧ Below w.heap.size w w')) (by kernel_rfl) ⟨kA.drew, kP.drew, ⟨hwp.os, hwp.tape, hwp.output, hwp.size, hwp.block⟩⟩ (fun hHeld => ?_)
          refine wpAnyH_take (i := 0) (v := ?_) rfl (by kernel_rfl) (by kernel_rfl) (by kernel_rfl) (fun _ _ _ h => h) (Or.inl ⟨by rfl, ?_⟩) (by assumption) ?_
          rotate_left
          · intro W hW
            obtain ⟨kx, ky, kw⟩ := hW
            obtain ⟨x0, x1, x2, x3, x4⟩ := kx.two
            obtain ⟨y0, y1, y2, y3, y4⟩ := ky.two
            go_simp
            try rfl
          simp only [List.getElem_toArray, List.getElem_cons_zero, Act.put, List.setIfInBounds_toArray, List.set_cons_zero, List.set_cons_succ]
          refine wpAnyH_take (i := 2) (v := ?_) rfl (by kernel_rfl) (by kernel_rfl) (by kernel_rfl) (fun _ _ _ h => h) (Or.inl ⟨by rfl, ?_⟩) (by assumption) ?_
          rotate_left
          · intro W hW
            obtain ⟨kx, ky, kw⟩ := hW
            obtain ⟨x0, x1, x2, x3, x4⟩ := kx.two
            obtain ⟨y0, y1, y2, y3, y4⟩ := ky.two
            go_simp
            try rfl
          simp only [List.getElem_toArray, List.getElem_cons_succ, List.getElem_cons_zero, Act.put, List.setIfInBounds_toArray, List.set_cons_zero, List.set_cons_succ]
          refine wpAnyH_ready (rs := [1]) (by kernel_rfl) (by simp) ?_
          refine AllReadyH.cons rfl (fun K hK => ?_) AllReadyH.nil
          go_simp
          refine (HTM2.out _ (HTAB.out.below hHeld.2.2)).mono ?_
          rintro e wc31 ⟨rfl, hbc31⟩
          refine hK.out _ _ ⟨hHeld.1.under hbc31, hHeld.2.1.under hbc31, below_two hHeld.2.2 hbc31⟩ (fun hHeld => ?_)
          clear hK K
          try simp only [List.getElem_toArray, List.getElem_cons_succ, List.getElem_cons_zero, Act.put, List.setIfInBounds_toArray, List.set_cons_zero, List.set_cons_succ]
          refine wpAnyH_ready (rs := [3]) (by kernel_rfl) (by simp) ?_
          refine AllReadyH.cons rfl (fun K hK => ?_) AllReadyH.nil
          go_simp
          refine (HTX.out _ (HTAB.out.below hHeld.2.2)).mono ?_
          rintro e wc33 ⟨rfl, hbc33⟩
          refine hK.out _ _ ⟨hHeld.1.under hbc33, hHeld.2.1.under hbc33, below_two hHeld.2.2 hbc33⟩ (fun hHeld => ?_)
          clear hK K
          try simp only [List.getElem_toArray, List.getElem_cons_succ, List.getElem_cons_zero, Act.put, List.setIfInBounds_toArray, List.set_cons_zero, List.set_cons_succ]
          refine wpAnyH_take (i := 4) (v := ?_) rfl (by kernel_rfl) (by kernel_rfl) (by kernel_rfl) (fun _ _ _ h => h) (Or.inl ⟨by rfl, ?_⟩) (by assumption) ?_
          rotate_left
          · intro W hW
            obtain ⟨kx, ky, kw⟩ := hW
            obtain ⟨x0, x1, x2, x3, x4⟩ := kx.two
            obtain ⟨y0, y1, y2, y3, y4⟩ := ky.two
            go_simp
            try rfl
            try rw [if_neg (show ¬ 9223372036854775807 < 1 + sM.size by omega)]
            try rw [if_neg (show ¬ 9223372036854775807 < 1 + sX.size by omega)]
            try rfl
          simp only [List.getElem_toArray, List.getElem_cons_succ, List.getElem_cons_zero, Act.put, List.setIfInBounds_toArray, List.set_cons_zero, List.set_cons_succ]
          refine wpAnyH_take (i := 5) (v := ?_) rfl (by kernel_rfl) (by kernel_rfl) (by kernel_rfl) (fun _ _ _ h => h) (Or.inl ⟨by rfl, ?_⟩) (by assumption) ?_
          rotate_left
          · intro W hW
            obtain ⟨kx, ky, kw⟩ := hW
            obtain ⟨x0, x1, x2, x3, x4⟩ := kx.two
            obtain ⟨y0, y1, y2, y3, y4⟩ := ky.two
            go_simp
            try rfl
          simp only [List.getElem_toArray, List.getElem_cons_succ, List.getElem_cons_zero, Act.put, List.setIfInBounds_toArray, List.set_cons_zero, List.set_cons_succ]
          refine wpAnyH_take (i := 6) (v := ?_) rfl (by kernel_rfl) (by kernel_rfl) (by kernel_rfl) (fun _ _ _ h => h) (Or.inl ⟨by rfl, ?_⟩) (by assumption) ?_
          rotate_left
          · intro W hW
            obtain ⟨kx, ky, kw⟩ := hW
            obtain ⟨x0, x1, x2, x3, x4⟩ := kx.two
            obtain ⟨y0, y1, y2, y3, y4⟩ := ky.two
            go_simp
            try rfl
          simp only [List.getElem_toArray, List.getElem_cons_succ, List.getElem_cons_zero, Act.put, List.setIfInBounds_toArray, List.set_cons_zero, List.set_cons_succ]
          refine wpAnyH_done (by kernel_rfl) ?_ _
          refine NoPanic.normal ?_
          obtain ⟨kA9, kP9, hw9⟩ := hHeld
          obtain ⟨x0, x1, x2, x3, x4⟩ := kA9.two
          go_wp2
          go_ret
          exact ⟨rfl, hw9⟩
    · have HA := hid (fun w => HNN.out w hi)
      clear HNY HNN HTM HTX hlX hlM hsg
      go_wp2_with fail
      refine (HA.out _).mono ?_
      rintro e w21 ⟨rfl, hb21⟩
      have kb_a_21 := (kb_a_20).under hb21
      have hw21 := below_two hw20 hb21
      clear kb_a_20 hw20 hb21
      clear oa0 oa1 oa2 oa3 oa4
      obtain ⟨ca0_21, ca1_21, fa0_21, fa1_21, la_21⟩ := kb_a_21.two
      go_wp2
      have hpe := below_alloc hw21 (Nat.le_refl _) (oW 0 0)
      go_ret
      exact ⟨rfl, hpe⟩
end Go.Proofs.YtpomhcclnhddmaaDoor
