/- Walks of the laws over wide: WideParts. -/
import Derived.Test.YtpomhcclnhddmaaDoorWLawG
namespace Go.Proofs.YtpomhcclnhddmaaDoor
open Go.RowKit Go.Shelf
open Go.Lib (hid)
set_option linter.unusedVariables false
theorem val_in {x : Int} (h : in64 x) : valV x = x := by unfold valV; rw [if_pos (fits64.2 h)]
theorem value_in {x : Int} {b : Bool} {A : Option Addr} {p c : Nat} {w : World} (hx : in64 x) (h : NumIs w x b A p c) (hp : p ≤ 1000000) :
    Calls Tryd.prog 27 #[.agg #[.bool b, .slice A p c]] w fun e w' => e = .returned (.tuple #[.int .i64 x, .bool true]) ∧ Below w.heap.size w w' := by
  have h1 := Value_c h hp
  rw [val_in hx, fits64.2 hx] at h1
  exact h1
theorem int_wv (X : Int) (hX : inW X) (w : World) : ∃ ev : Int, Hid (fitsB X 64 = true ∧ ev = 0 ∨ fitsB X 64 = false ∧ ev = 5) ∧ ∀ w, Calls Tryd.prog 28 #[wv (hiW X) (loW X)] w fun e w' => e = .returned (.tuple #[.int .i64 (valV X), .int .i64 ev]) ∧ Below w.heap.size w w' := by
  refine ⟨if in64 X then 0 else 5, ?_, fun w => ?_⟩
  · refine hid ?_
    by_cases h : in64 X
    · exact .inl ⟨fits64.2 h, if_pos h⟩
    · exact .inr ⟨by rw [← Bool.not_eq_true, fits64]; exact h, if_neg h⟩
  · have h1 := int_w X hX w
    have e : (if in64 X then X else 0) = valV X := by
      unfold valV
      by_cases h : in64 X
      · rw [if_pos h, if_pos (fits64.2 h)]
      · rw [if_neg h, if_neg (by rw [fits64]; exact h)]
    rw [e] at h1
    exact h1
theorem div_bad_wv (X m : Int) (hm : m < 1) (w : World) : Calls Tryd.prog 30 #[wv (hiW X) (loW X), .int .i64 m] w fun e w' => e = .returned (.tuple #[wv 0 0, .int .i64 0, .int .i64 2]) ∧ Below w.heap.size w w' := div_bad X m hm w
theorem ord1 {X Y o : Int} (h : o = if X < Y then -1 else 0) : (X < Y → o = -1) ∧ (¬ X < Y → o = 0) := by
  constructor <;> intro h1
  · rw [h, if_pos h1]
  · rw [h, if_neg h1]
theorem ord2 {X Y o c : Int} (h : o = if X < Y then -1 else 0) (hc : c = cmpV X Y) : (Y < X → c = 1) ∧ (¬ Y < X → c = o) := by
  subst h hc
  unfold cmpV
  constructor <;> intro h1
  · rw [if_neg (by omega), if_neg (by omega)]
  · by_cases h2 : X < Y
    · rw [if_neg (by omega), if_pos h2, if_pos h2]
    · rw [if_pos (by omega), if_neg h2]
set_option maxRecDepth 100000 in
set_option maxHeartbeats 20000000 in
theorem wParts_core (x0a x0b x1a x1b m : Int) (w : World) (w0a : (Lit.int .i64 x0a).wf = true) (w0b : (Lit.int .u64 x0b).wf = true) (w1a : (Lit.int .i64 x1a).wf = true) (w1b : (Lit.int .u64 x1b).wf = true) (w2 : (Lit.int .i64 m).wf = true) (htab : Tab w) :
    Calls Tryd.prog 6 #[wv x0a x0b, wv x1a x1b, .int .i64 m] w fun e w' => e = .returned (.bool true) ∧ Below w.heap.size w w' := by
  obtain ⟨X, hX, rfl, rfl⟩ := wide_in w0a w0b
  obtain ⟨Y, hY, rfl, rfl⟩ := wide_in w1a w1b
  obtain ⟨m0, m1⟩ := i64_wf w2
  clear w0a w0b w1a w1b w2
  show Calls Tryd.prog 6 #[wv (hiW X) (loW X), wv (hiW Y) (loW Y), .int .i64 m] w _
  have HTAB := hid htab
  have HWK := hid (fun w h => wakes_c w h)
  have HOX := hid (fun w => ofn_c X hX w)
  have HOY := hid (fun w => ofn_c Y hY w)
  have HCM := hid (fun w => cmp_wv X Y w)
  obtain ⟨ev, HEV, hint⟩ := int_wv X hX w
  have HINT := hid hint
  have HVAL := hid (fun w b A p c (h : NumIs w X b A p c) hp => Value_c h hp)
  have HIN := hid (And.intro hX (And.intro hY (And.intro m0 m1)))
  have HDB := hid (fun h w => div_bad_wv X m h w)
  have HDV := hid (fun h w => div_wv X m hX h m1 w)
  obtain ⟨o1, ho1⟩ : ∃ o1 : Int, o1 = if X < Y then -1 else 0 := ⟨_, rfl⟩
  obtain ⟨c, hc⟩ : ∃ c : Int, c = cmpV X Y := ⟨_, rfl⟩
  have HO1 := hid (ord1 ho1)
  have HO2 := hid (ord2 ho1 hc)
  rw [← hc] at HCM
  clear htab hX hY m0 m1 hint ho1 hc
  generalize valV X = v at *
  generalize fitsB X 64 = fb at *
  generalize hxh : hiW X = xh at *
  generalize hxl : loW X = xl at *
  generalize hiW Y = yh at *
  generalize loW Y = yl at *
  clear hxh hxl
  have ka1 := (Blk.new_at (g := w.heap.size) w 24 #[.int .i64 xh, .int .u64 xl] rfl).alloc (oW yh yl)
  have kb1 := Blk.new_at (g := w.heap.size + 1) (w.alloc (oW xh xl)) 24 #[.int .i64 yh, .int .u64 yl] (by simp)
  have hw1 := below2 w (oW xh xl) (oW yh yl) (Below.refl _ _)
  have ht := HTAB.out.below hw1
  go_enter Tryd.func6, Tryd.ntmps6
  go_wp2_with fail
  refine (HWK.out _ ht).mono ?_
  rintro e w1 ⟨rfl, hb1⟩
  have ka1 := ka1.under hb1
  have kb1 := kb1.under hb1
  have hw1 := below_two hw1 hb1
  clear ht hb1 HWK HTAB
  go_upto_region 3 with fail
  go_cut [7, 8] (fun u7 u8 wx => ∃ g1 g2 : Nat, u7 = .pointer (some ⟨g1, 0, none⟩) ∧ u8 = .pointer (some ⟨g2, 0, none⟩) ∧ ∃ b1 A1 p1 d1 b2 A2 p2 d2, Blk wx g1 28 #[.bool b1, .slice A1 p1 d1] ∧ Blk wx g2 28 #[.bool b2, .slice A2 p2 d2] ∧ NumIs wx X b1 A1 p1 d1 ∧ NumIs wx Y b2 A2 p2 d2 ∧ Below w1.heap.size w1 wx)
  case first =>
    clear HVAL HINT HDB HDV HCM HO1 HO2
    refine wp_region_noPanic ?_
    refine wp_region_held_drew (S := (fun w' => Below w1.heap.size w1 w')) (by kernel_rfl) (Below.refl w1.heap.size w1).drew (fun hHeld => ?_)
    refine wpAnyH_take (i := 0) (v := ?_) rfl (by kernel_rfl) (by kernel_rfl) (by kernel_rfl) (fun _ _ _ h => h) (Or.inl ⟨by rfl, ?_⟩) (by assumption) ?_
    rotate_left
    · intro W hW
      have kx := ka1.under hW
      obtain ⟨z0, z1, z2, z3, z4⟩ := kx.two
      go_simp
      try rfl
    simp only [List.getElem_toArray, List.getElem_cons_zero, Act.put, List.setIfInBounds_toArray, List.set_cons_zero, List.set_cons_succ]
    refine wpAnyH_take (i := 2) (v := ?_) rfl (by kernel_rfl) (by kernel_rfl) (by kernel_rfl) (fun _ _ _ h => h) (Or.inl ⟨by rfl, ?_⟩) (by assumption) ?_
    rotate_left
    · intro W hW
      have kx := kb1.under hW
      obtain ⟨z0, z1, z2, z3, z4⟩ := kx.two
      go_simp
      try rfl
    simp only [List.getElem_toArray, List.getElem_cons_succ, List.getElem_cons_zero, Act.put, List.setIfInBounds_toArray, List.set_cons_zero, List.set_cons_succ]
    clear hHeld
    have hB : Below w1.heap.size w1 w1.drew := (Below.refl w1.heap.size w1).drew
    generalize w1.drew = wd at *
    refine wpAnyH_ready (rs := [1, 4, 5]) (by kernel_rfl) (by simp) ?_
    refine AllReadyH.cons rfl (fun K hK => ?_) (AllReadyH.cons rfl (fun K hK => ?_) (AllReadyH.cons rfl (fun K hK => ?_) AllReadyH.nil))
    · go_simp
      refine (HOX.out _).mono ?_
      rintro e wn1 ⟨bb1, A1, p1, d1, rfl, hn1, hc1⟩
      have hB_ := below_two hB hc1
      clear hc1 hB 
      have hB := hB_
      clear hB_
      refine hK.out _ _ hB (fun hHeld => ?_)
      clear hK K hHeld
      try simp only [List.getElem_toArray, List.getElem_cons_succ, List.getElem_cons_zero, Act.put, List.setIfInBounds_toArray, List.set_cons_zero, List.set_cons_succ]
      refine wpAnyH_ready (rs := [3, 4, 5]) (by kernel_rfl) (by simp) ?_
      refine AllReadyH.cons rfl (fun K hK => ?_) (AllReadyH.cons rfl (fun K hK => ?_) (AllReadyH.cons rfl (fun K hK => ?_) AllReadyH.nil))
      · go_simp
        refine (HOY.out _).mono ?_
        rintro e wn2 ⟨bb2, A2, p2, d2, rfl, hn2, hc2⟩
        have hn1_ := hn1.below hc2
        have hB_ := below_two hB hc2
        clear hc2 hB hn1
        have hn1 := hn1_
        clear hn1_
        have hB := hB_
        clear hB_
        refine hK.out _ _ hB (fun hHeld => ?_)
        clear hK K hHeld
        try simp only [List.getElem_toArray, List.getElem_cons_succ, List.getElem_cons_zero, Act.put, List.setIfInBounds_toArray, List.set_cons_zero, List.set_cons_succ]
        refine wpAnyH_ready (rs := [4, 5]) (by kernel_rfl) (by simp) ?_
        refine AllReadyH.cons rfl (fun K hK => ?_) (AllReadyH.cons rfl (fun K hK => ?_) AllReadyH.nil)
        · go_simp
          have k1_ := Blk.new wn2 28 #[.bool false, .slice none 0 0]
          have hn1_ := hn1.alloc (.cells #[.bool false, .slice none 0 0] 28)
          have hn2_ := hn2.alloc (.cells #[.bool false, .slice none 0 0] 28)
          have hg1 : w1.heap.size ≤ wn2.heap.size := hB.size
          have hB_ := below_alloc hB (Nat.le_refl _) (.cells #[.bool false, .slice none 0 0] 28)
          clear hB hn1 hn2
          generalize wn2.alloc (.cells #[.bool false, .slice none 0 0] 28) = wn3 at *
          generalize wn2.heap.size = g1 at *
          have hn1 := hn1_
          clear hn1_
          have hn2 := hn2_
          clear hn2_
          have k1 := k1_
          clear k1_
          have hB := hB_
          clear hB_
          refine hK.out _ _ hB (fun hHeld => ?_)
          clear hK K hHeld
          try simp only [List.getElem_toArray, List.getElem_cons_succ, List.getElem_cons_zero, Act.put, List.setIfInBounds_toArray, List.set_cons_zero, List.set_cons_succ]
          refine wpAnyH_ready (rs := [5]) (by kernel_rfl) (by simp) ?_
          refine AllReadyH.cons rfl (fun K hK => ?_) AllReadyH.nil
          go_simp
          have k2_ := Blk.new wn3 28 #[.bool false, .slice none 0 0]
          have hn1_ := hn1.alloc (.cells #[.bool false, .slice none 0 0] 28)
          have hn2_ := hn2.alloc (.cells #[.bool false, .slice none 0 0] 28)
          have k1_ := k1.alloc (.cells #[.bool false, .slice none 0 0] 28)
          have hne : g1 < wn3.heap.size := k1.lt
          have hg2 : w1.heap.size ≤ wn3.heap.size := hB.size
          have hB_ := below_alloc hB (Nat.le_refl _) (.cells #[.bool false, .slice none 0 0] 28)
          clear hB hn1 hn2 k1
          generalize wn3.alloc (.cells #[.bool false, .slice none 0 0] 28) = wn4 at *
          generalize wn3.heap.size = g2 at *
          have hn1 := hn1_
          clear hn1_
          have hn2 := hn2_
          clear hn2_
          have k1 := k1_
          clear k1_
          have k2 := k2_
          clear k2_
          have hB := hB_
          clear hB_
          refine hK.out _ _ hB (fun hHeld => ?_)
          clear hK K hHeld
          try simp only [List.getElem_toArray, List.getElem_cons_succ, List.getElem_cons_zero, Act.put, List.setIfInBounds_toArray, List.set_cons_zero, List.set_cons_succ]
          refine wpAnyH_ready (rs := [6]) (by kernel_rfl) (by simp) ?_
          refine AllReadyH.cons rfl (fun K hK => ?_) AllReadyH.nil
          obtain ⟨z0, z1, z2, z3, z4⟩ := k1.two
          go_simp
          have k1_ := k1.set2 (.bool bb1) (.slice A1 p1 d1)
          have k2_ := (k2.far (p := ⟨g1, 0, none⟩) (by simp; omega) (.bool bb1)).far (p := ⟨g1, 1, none⟩) (by simp; omega) (.slice A1 p1 d1)
          have hn1_ := (hn1.setCell (q := ⟨g1, 0, none⟩) k1.typed (.bool bb1)).setCell (q := ⟨g1, 1, none⟩) (k1.typed.setCell _ _) (.slice A1 p1 d1)
          have hn2_ := (hn2.setCell (q := ⟨g1, 0, none⟩) k1.typed (.bool bb1)).setCell (q := ⟨g1, 1, none⟩) (k1.typed.setCell _ _) (.slice A1 p1 d1)
          have hB_ := (hB.setCell (p := ⟨g1, 0, none⟩) hg1 (.bool bb1)).setCell (p := ⟨g1, 1, none⟩) hg1 (.slice A1 p1 d1)
          clear z0 z1 z2 z3 z4 hB k1 k2 hn1 hn2
          generalize (wn4.setCell ⟨g1, 0, none⟩ (.bool bb1)).setCell ⟨g1, 1, none⟩ (.slice A1 p1 d1) = wn5 at *
          have k1 := k1_
          clear k1_
          have k2 := k2_
          clear k2_
          have hn1 := hn1_
          clear hn1_
          have hn2 := hn2_
          clear hn2_
          have hB := hB_
          clear hB_
          refine hK.out _ _ hB (fun hHeld => ?_)
          clear hK K hHeld
          try simp only [List.getElem_toArray, List.getElem_cons_succ, List.getElem_cons_zero, Act.put, List.setIfInBounds_toArray, List.set_cons_zero, List.set_cons_succ]
          refine wpAnyH_ready (rs := [7]) (by kernel_rfl) (by simp) ?_
          refine AllReadyH.cons rfl (fun K hK => ?_) AllReadyH.nil
          obtain ⟨z0, z1, z2, z3, z4⟩ := k2.two
          go_simp
          have k2_ := k2.set2 (.bool bb2) (.slice A2 p2 d2)
          have k1_ := (k1.far (p := ⟨g2, 0, none⟩) (by simp; omega) (.bool bb2)).far (p := ⟨g2, 1, none⟩) (by simp; omega) (.slice A2 p2 d2)
          have hn1_ := (hn1.setCell (q := ⟨g2, 0, none⟩) k2.typed (.bool bb2)).setCell (q := ⟨g2, 1, none⟩) (k2.typed.setCell _ _) (.slice A2 p2 d2)
          have hn2_ := (hn2.setCell (q := ⟨g2, 0, none⟩) k2.typed (.bool bb2)).setCell (q := ⟨g2, 1, none⟩) (k2.typed.setCell _ _) (.slice A2 p2 d2)
          have hB_ := (hB.setCell (p := ⟨g2, 0, none⟩) hg2 (.bool bb2)).setCell (p := ⟨g2, 1, none⟩) hg2 (.slice A2 p2 d2)
          clear z0 z1 z2 z3 z4 hB k1 k2 hn1 hn2
          generalize (wn5.setCell ⟨g2, 0, none⟩ (.bool bb2)).setCell ⟨g2, 1, none⟩ (.slice A2 p2 d2) = wn6 at *
          have k1 := k1_
          clear k1_
          have k2 := k2_
          clear k2_
          have hn1 := hn1_
          clear hn1_
          have hn2 := hn2_
          clear hn2_
          have hB := hB_
          clear hB_
          refine hK.out _ _ hB (fun hHeld => ?_)
          clear hK K hHeld
          try simp only [List.getElem_toArray, List.getElem_cons_succ, List.getElem_cons_zero, Act.put, List.setIfInBounds_toArray, List.set_cons_zero, List.set_cons_succ]
          refine wpAnyH_done (by kernel_rfl) ?_ _
          refine NoPanic.normal ?_
          go_wp2_with fail
          go_meet
          exact ⟨_, _, rfl, rfl, _, _, _, _, _, _, _, _, k1, k2, hn1, hn2, hB⟩
        · go_simp
          have k2_ := Blk.new wn2 28 #[.bool false, .slice none 0 0]
          have hn1_ := hn1.alloc (.cells #[.bool false, .slice none 0 0] 28)
          have hn2_ := hn2.alloc (.cells #[.bool false, .slice none 0 0] 28)
          have hg2 : w1.heap.size ≤ wn2.heap.size := hB.size
          have hB_ := below_alloc hB (Nat.le_refl _) (.cells #[.bool false, .slice none 0 0] 28)
          clear hB hn1 hn2
          generalize wn2.alloc (.cells #[.bool false, .slice none 0 0] 28) = wn7 at *
          generalize wn2.heap.size = g2 at *
          have hn1 := hn1_
          clear hn1_
          have hn2 := hn2_
          clear hn2_
          have k2 := k2_
          clear k2_
          have hB := hB_
          clear hB_
          refine hK.out _ _ hB (fun hHeld => ?_)
          clear hK K hHeld
          try simp only [List.getElem_toArray, List.getElem_cons_succ, List.getElem_cons_zero, Act.put, List.setIfInBounds_toArray, List.set_cons_zero, List.set_cons_succ]
          refine wpAnyH_ready (rs := [4]) (by kernel_rfl) (by simp) ?_
          refine AllReadyH.cons rfl (fun K hK => ?_) AllReadyH.nil
          go_simp
          have k1_ := Blk.new wn7 28 #[.bool false, .slice none 0 0]
          have hn1_ := hn1.alloc (.cells #[.bool false, .slice none 0 0] 28)
          have hn2_ := hn2.alloc (.cells #[.bool false, .slice none 0 0] 28)
          have k2_ := k2.alloc (.cells #[.bool false, .slice none 0 0] 28)
          have hne : g2 < wn7.heap.size := k2.lt
          have hg1 : w1.heap.size ≤ wn7.heap.size := hB.size
          have hB_ := below_alloc hB (Nat.le_refl _) (.cells #[.bool false, .slice none 0 0] 28)
          clear hB hn1 hn2 k2
          generalize wn7.alloc (.cells #[.bool false, .slice none 0 0] 28) = wn8 at *
          generalize wn7.heap.size = g1 at *
          have hn1 := hn1_
          clear hn1_
          have hn2 := hn2_
          clear hn2_
          have k2 := k2_
          clear k2_
          have k1 := k1_
          clear k1_
          have hB := hB_
          clear hB_
          refine hK.out _ _ hB (fun hHeld => ?_)
          clear hK K hHeld
          try simp only [List.getElem_toArray, List.getElem_cons_succ, List.getElem_cons_zero, Act.put, List.setIfInBounds_toArray, List.set_cons_zero, List.set_cons_succ]
          refine wpAnyH_ready (rs := [6]) (by kernel_rfl) (by simp) ?_
          refine AllReadyH.cons rfl (fun K hK => ?_) AllReadyH.nil
          obtain ⟨z0, z1, z2, z3, z4⟩ := k1.two
          go_simp
          have k1_ := k1.set2 (.bool bb1) (.slice A1 p1 d1)
          have k2_ := (k2.far (p := ⟨g1, 0, none⟩) (by simp; omega) (.bool bb1)).far (p := ⟨g1, 1, none⟩) (by simp; omega) (.slice A1 p1 d1)
          have hn1_ := (hn1.setCell (q := ⟨g1, 0, none⟩) k1.typed (.bool bb1)).setCell (q := ⟨g1, 1, none⟩) (k1.typed.setCell _ _) (.slice A1 p1 d1)
          have hn2_ := (hn2.setCell (q := ⟨g1, 0, none⟩) k1.typed (.bool bb1)).setCell (q := ⟨g1, 1, none⟩) (k1.typed.setCell _ _) (.slice A1 p1 d1)
          have hB_ := (hB.setCell (p := ⟨g1, 0, none⟩) hg1 (.bool bb1)).setCell (p := ⟨g1, 1, none⟩) hg1 (.slice A1 p1 d1)
          clear z0 z1 z2 z3 z4 hB k1 k2 hn1 hn2
          generalize (wn8.setCell ⟨g1, 0, none⟩ (.bool bb1)).setCell ⟨g1, 1, none⟩ (.slice A1 p1 d1) = wn9 at *
          have k1 := k1_
          clear k1_
          have k2 := k2_
          clear k2_
          have hn1 := hn1_
          clear hn1_
          have hn2 := hn2_
          clear hn2_
          have hB := hB_
          clear hB_
          refine hK.out _ _ hB (fun hHeld => ?_)
          clear hK K hHeld
          try simp only [List.getElem_toArray, List.getElem_cons_succ, List.getElem_cons_zero, Act.put, List.setIfInBounds_toArray, List.set_cons_zero, List.set_cons_succ]
          refine wpAnyH_ready (rs := [7]) (by kernel_rfl) (by simp) ?_
          refine AllReadyH.cons rfl (fun K hK => ?_) AllReadyH.nil
          obtain ⟨z0, z1, z2, z3, z4⟩ := k2.two
          go_simp
          have k2_ := k2.set2 (.bool bb2) (.slice A2 p2 d2)
          have k1_ := (k1.far (p := ⟨g2, 0, none⟩) (by simp; omega) (.bool bb2)).far (p := ⟨g2, 1, none⟩) (by simp; omega) (.slice A2 p2 d2)
          have hn1_ := (hn1.setCell (q := ⟨g2, 0, none⟩) k2.typed (.bool bb2)).setCell (q := ⟨g2, 1, none⟩) (k2.typed.setCell _ _) (.slice A2 p2 d2)
          have hn2_ := (hn2.setCell (q := ⟨g2, 0, none⟩) k2.typed (.bool bb2)).setCell (q := ⟨g2, 1, none⟩) (k2.typed.setCell _ _) (.slice A2 p2 d2)
          have hB_ := (hB.setCell (p := ⟨g2, 0, none⟩) hg2 (.bool bb2)).setCell (p := ⟨g2, 1, none⟩) hg2 (.slice A2 p2 d2)
          clear z0 z1 z2 z3 z4 hB k1 k2 hn1 hn2
          generalize (wn9.setCell ⟨g2, 0, none⟩ (.bool bb2)).setCell ⟨g2, 1, none⟩ (.slice A2 p2 d2) = wn10 at *
          have k1 := k1_
          clear k1_
          have k2 := k2_
          clear k2_
          have hn1 := hn1_
          clear hn1_
          have hn2 := hn2_
          clear hn2_
          have hB := hB_
          clear hB_
          refine hK.out _ _ hB (fun hHeld => ?_)
          clear hK K hHeld
          try simp only [List.getElem_toArray, List.getElem_cons_succ, List.getElem_cons_zero, Act.put, List.setIfInBounds_toArray, List.set_cons_zero, List.set_cons_succ]
          refine wpAnyH_done (by kernel_rfl) ?_ _
          refine NoPanic.normal ?_
          go_wp2_with fail
          go_meet
          exact ⟨_, _, rfl, rfl, _, _, _, _, _, _, _, _, k1, k2, hn1, hn2, hB⟩
      · go_simp
        have k1_ := Blk.new wn1 28 #[.bool false, .slice none 0 0]
        have hn1_ := hn1.alloc (.cells #[.bool false, .slice none 0 0] 28)
        have hg1 : w1.heap.size ≤ wn1.heap.size := hB.size
        have hB_ := below_alloc hB (Nat.le_refl _) (.cells #[.bool false, .slice none 0 0] 28)
        clear hB hn1
        generalize wn1.alloc (.cells #[.bool false, .slice none 0 0] 28) = wn11 at *
        generalize wn1.heap.size = g1 at *
        have hn1 := hn1_
        clear hn1_
        have k1 := k1_
        clear k1_
        have hB := hB_
        clear hB_
        refine hK.out _ _ hB (fun hHeld => ?_)
        clear hK K hHeld
        try simp only [List.getElem_toArray, List.getElem_cons_succ, List.getElem_cons_zero, Act.put, List.setIfInBounds_toArray, List.set_cons_zero, List.set_cons_succ]
        refine wpAnyH_ready (rs := [3, 5]) (by kernel_rfl) (by simp) ?_
        refine AllReadyH.cons rfl (fun K hK => ?_) (AllReadyH.cons rfl (fun K hK => ?_) AllReadyH.nil)
        · go_simp
          refine (HOY.out _).mono ?_
          rintro e wn12 ⟨bb2, A2, p2, d2, rfl, hn2, hc12⟩
          have hn1_ := hn1.below hc12
          have k1_ := k1.under hc12
          have hB_ := below_two hB hc12
          clear hc12 hB hn1 k1
          have hn1 := hn1_
          clear hn1_
          have k1 := k1_
          clear k1_
          have hB := hB_
          clear hB_
          refine hK.out _ _ hB (fun hHeld => ?_)
          clear hK K hHeld
          try simp only [List.getElem_toArray, List.getElem_cons_succ, List.getElem_cons_zero, Act.put, List.setIfInBounds_toArray, List.set_cons_zero, List.set_cons_succ]
          refine wpAnyH_ready (rs := [5]) (by kernel_rfl) (by simp) ?_
          refine AllReadyH.cons rfl (fun K hK => ?_) AllReadyH.nil
          go_simp
          have k2_ := Blk.new wn12 28 #[.bool false, .slice none 0 0]
          have hn1_ := hn1.alloc (.cells #[.bool false, .slice none 0 0] 28)
          have k1_ := k1.alloc (.cells #[.bool false, .slice none 0 0] 28)
          have hn2_ := hn2.alloc (.cells #[.bool false, .slice none 0 0] 28)
          have hne : g1 < wn12.heap.size := k1.lt
          have hg2 : w1.heap.size ≤ wn12.heap.size := hB.size
          have hB_ := below_alloc hB (Nat.le_refl _) (.cells #[.bool false, .slice none 0 0] 28)
          clear hB hn1 k1 hn2
          generalize wn12.alloc (.cells #[.bool false, .slice none 0 0] 28) = wn13 at *
          generalize wn12.heap.size = g2 at *
          have hn1 := hn1_
          clear hn1_
          have k1 := k1_
          clear k1_
          have hn2 := hn2_
          clear hn2_
          have k2 := k2_
          clear k2_
          have hB := hB_
          clear hB_
          refine hK.out _ _ hB (fun hHeld => ?_)
          clear hK K hHeld
          try simp only [List.getElem_toArray, List.getElem_cons_succ, List.getElem_cons_zero, Act.put, List.setIfInBounds_toArray, List.set_cons_zero, List.set_cons_succ]
          refine wpAnyH_ready (rs := [6]) (by kernel_rfl) (by simp) ?_
          refine AllReadyH.cons rfl (fun K hK => ?_) AllReadyH.nil
          obtain ⟨z0, z1, z2, z3, z4⟩ := k1.two
          go_simp
          have k1_ := k1.set2 (.bool bb1) (.slice A1 p1 d1)
          have k2_ := (k2.far (p := ⟨g1, 0, none⟩) (by simp; omega) (.bool bb1)).far (p := ⟨g1, 1, none⟩) (by simp; omega) (.slice A1 p1 d1)
          have hn1_ := (hn1.setCell (q := ⟨g1, 0, none⟩) k1.typed (.bool bb1)).setCell (q := ⟨g1, 1, none⟩) (k1.typed.setCell _ _) (.slice A1 p1 d1)
          have hn2_ := (hn2.setCell (q := ⟨g1, 0, none⟩) k1.typed (.bool bb1)).setCell (q := ⟨g1, 1, none⟩) (k1.typed.setCell _ _) (.slice A1 p1 d1)
          have hB_ := (hB.setCell (p := ⟨g1, 0, none⟩) hg1 (.bool bb1)).setCell (p := ⟨g1, 1, none⟩) hg1 (.slice A1 p1 d1)
          clear z0 z1 z2 z3 z4 hB k1 k2 hn1 hn2
          generalize (wn13.setCell ⟨g1, 0, none⟩ (.bool bb1)).setCell ⟨g1, 1, none⟩ (.slice A1 p1 d1) = wn14 at *
          have k1 := k1_
          clear k1_
          have k2 := k2_
          clear k2_
          have hn1 := hn1_
          clear hn1_
          have hn2 := hn2_
          clear hn2_
          have hB := hB_
          clear hB_
          refine hK.out _ _ hB (fun hHeld => ?_)
          clear hK K hHeld
          try simp only [List.getElem_toArray, List.getElem_cons_succ, List.getElem_cons_zero, Act.put, List.setIfInBounds_toArray, List.set_cons_zero, List.set_cons_succ]
          refine wpAnyH_ready (rs := [7]) (by kernel_rfl) (by simp) ?_
          refine AllReadyH.cons rfl (fun K hK => ?_) AllReadyH.nil
          obtain ⟨z0, z1, z2, z3, z4⟩ := k2.two
          go_simp
          have k2_ := k2.set2 (.bool bb2) (.slice A2 p2 d2)
          have k1_ := (k1.far (p := ⟨g2, 0, none⟩) (by simp; omega) (.bool bb2)).far (p := ⟨g2, 1, none⟩) (by simp; omega) (.slice A2 p2 d2)
          have hn1_ := (hn1.setCell (q := ⟨g2, 0, none⟩) k2.typed (.bool bb2)).setCell (q := ⟨g2, 1, none⟩) (k2.typed.setCell _ _) (.slice A2 p2 d2)
          have hn2_ := (hn2.setCell (q := ⟨g2, 0, none⟩) k2.typed (.bool bb2)).setCell (q := ⟨g2, 1, none⟩) (k2.typed.setCell _ _) (.slice A2 p2 d2)
          have hB_ := (hB.setCell (p := ⟨g2, 0, none⟩) hg2 (.bool bb2)).setCell (p := ⟨g2, 1, none⟩) hg2 (.slice A2 p2 d2)
          clear z0 z1 z2 z3 z4 hB k1 k2 hn1 hn2
          generalize (wn14.setCell ⟨g2, 0, none⟩ (.bool bb2)).setCell ⟨g2, 1, none⟩ (.slice A2 p2 d2) = wn15 at *
          have k1 := k1_
          clear k1_
          have k2 := k2_
          clear k2_
          have hn1 := hn1_
          clear hn1_
          have hn2 := hn2_
          clear hn2_
          have hB := hB_
          clear hB_
          refine hK.out _ _ hB (fun hHeld => ?_)
          clear hK K hHeld
          try simp only [List.getElem_toArray, List.getElem_cons_succ, List.getElem_cons_zero, Act.put, List.setIfInBounds_toArray, List.set_cons_zero, List.set_cons_succ]
          refine wpAnyH_done (by kernel_rfl) ?_ _
          refine NoPanic.normal ?_
          go_wp2_with fail
          go_meet
          exact ⟨_, _, rfl, rfl, _, _, _, _, _, _, _, _, k1, k2, hn1, hn2, hB⟩
        · go_simp
          have k2_ := Blk.new wn11 28 #[.bool false, .slice none 0 0]
          have hn1_ := hn1.alloc (.cells #[.bool false, .slice none 0 0] 28)
          have k1_ := k1.alloc (.cells #[.bool false, .slice none 0 0] 28)
          have hne : g1 < wn11.heap.size := k1.lt
          have hg2 : w1.heap.size ≤ wn11.heap.size := hB.size
          have hB_ := below_alloc hB (Nat.le_refl _) (.cells #[.bool false, .slice none 0 0] 28)
          clear hB hn1 k1
          generalize wn11.alloc (.cells #[.bool false, .slice none 0 0] 28) = wn16 at *
          generalize wn11.heap.size = g2 at *
          have hn1 := hn1_
          clear hn1_
          have k1 := k1_
          clear k1_
          have k2 := k2_
          clear k2_
          have hB := hB_
          clear hB_
          refine hK.out _ _ hB (fun hHeld => ?_)
          clear hK K hHeld
          try simp only [List.getElem_toArray, List.getElem_cons_succ, List.getElem_cons_zero, Act.put, List.setIfInBounds_toArray, List.set_cons_zero, List.set_cons_succ]
          refine wpAnyH_ready (rs := [3]) (by kernel_rfl) (by simp) ?_
          refine AllReadyH.cons rfl (fun K hK => ?_) AllReadyH.nil
          go_simp
          refine (HOY.out _).mono ?_
          rintro e wn17 ⟨bb2, A2, p2, d2, rfl, hn2, hc17⟩
          have hn1_ := hn1.below hc17
          have k1_ := k1.under hc17
          have k2_ := k2.under hc17
          have hB_ := below_two hB hc17
          clear hc17 hB hn1 k1 k2
          have hn1 := hn1_
          clear hn1_
          have k1 := k1_
          clear k1_
          have k2 := k2_
          clear k2_
          have hB := hB_
          clear hB_
          refine hK.out _ _ hB (fun hHeld => ?_)
          clear hK K hHeld
          try simp only [List.getElem_toArray, List.getElem_cons_succ, List.getElem_cons_zero, Act.put, List.setIfInBounds_toArray, List.set_cons_zero, List.set_cons_succ]
          refine wpAnyH_ready (rs := [6]) (by kernel_rfl) (by simp) ?_
          refine AllReadyH.cons rfl (fun K hK => ?_) AllReadyH.nil
          obtain ⟨z0, z1, z2, z3, z4⟩ := k1.two
          go_simp
          have k1_ := k1.set2 (.bool bb1) (.slice A1 p1 d1)
          have k2_ := (k2.far (p := ⟨g1, 0, none⟩) (by simp; omega) (.bool bb1)).far (p := ⟨g1, 1, none⟩) (by simp; omega) (.slice A1 p1 d1)
          have hn1_ := (hn1.setCell (q := ⟨g1, 0, none⟩) k1.typed (.bool bb1)).setCell (q := ⟨g1, 1, none⟩) (k1.typed.setCell _ _) (.slice A1 p1 d1)
          have hn2_ := (hn2.setCell (q := ⟨g1, 0, none⟩) k1.typed (.bool bb1)).setCell (q := ⟨g1, 1, none⟩) (k1.typed.setCell _ _) (.slice A1 p1 d1)
          have hB_ := (hB.setCell (p := ⟨g1, 0, none⟩) hg1 (.bool bb1)).setCell (p := ⟨g1, 1, none⟩) hg1 (.slice A1 p1 d1)
          clear z0 z1 z2 z3 z4 hB k1 k2 hn1 hn2
          generalize (wn17.setCell ⟨g1, 0, none⟩ (.bool bb1)).setCell ⟨g1, 1, none⟩ (.slice A1 p1 d1) = wn18 at *
          have k1 := k1_
          clear k1_
          have k2 := k2_
          clear k2_
          have hn1 := hn1_
          clear hn1_
          have hn2 := hn2_
          clear hn2_
          have hB := hB_
          clear hB_
          refine hK.out _ _ hB (fun hHeld => ?_)
          clear hK K hHeld
          try simp only [List.getElem_toArray, List.getElem_cons_succ, List.getElem_cons_zero, Act.put, List.setIfInBounds_toArray, List.set_cons_zero, List.set_cons_succ]
          refine wpAnyH_ready (rs := [7]) (by kernel_rfl) (by simp) ?_
          refine AllReadyH.cons rfl (fun K hK => ?_) AllReadyH.nil
          obtain ⟨z0, z1, z2, z3, z4⟩ := k2.two
          go_simp
          have k2_ := k2.set2 (.bool bb2) (.slice A2 p2 d2)
          have k1_ := (k1.far (p := ⟨g2, 0, none⟩) (by simp; omega) (.bool bb2)).far (p := ⟨g2, 1, none⟩) (by simp; omega) (.slice A2 p2 d2)
          have hn1_ := (hn1.setCell (q := ⟨g2, 0, none⟩) k2.typed (.bool bb2)).setCell (q := ⟨g2, 1, none⟩) (k2.typed.setCell _ _) (.slice A2 p2 d2)
          have hn2_ := (hn2.setCell (q := ⟨g2, 0, none⟩) k2.typed (.bool bb2)).setCell (q := ⟨g2, 1, none⟩) (k2.typed.setCell _ _) (.slice A2 p2 d2)
          have hB_ := (hB.setCell (p := ⟨g2, 0, none⟩) hg2 (.bool bb2)).setCell (p := ⟨g2, 1, none⟩) hg2 (.slice A2 p2 d2)
          clear z0 z1 z2 z3 z4 hB k1 k2 hn1 hn2
          generalize (wn18.setCell ⟨g2, 0, none⟩ (.bool bb2)).setCell ⟨g2, 1, none⟩ (.slice A2 p2 d2) = wn19 at *
          have k1 := k1_
          clear k1_
          have k2 := k2_
          clear k2_
          have hn1 := hn1_
          clear hn1_
          have hn2 := hn2_
          clear hn2_
          have hB := hB_
          clear hB_
          refine hK.out _ _ hB (fun hHeld => ?_)
          clear hK K hHeld
          try simp only [List.getElem_toArray, List.getElem_cons_succ, List.getElem_cons_zero, Act.put, List.setIfInBounds_toArray, List.set_cons_zero, List.set_cons_succ]
          refine wpAnyH_done (by kernel_rfl) ?_ _
          refine NoPanic.normal ?_
          go_wp2_with fail
          go_meet
          exact ⟨_, _, rfl, rfl, _, _, _, _, _, _, _, _, k1, k2, hn1, hn2, hB⟩
      · go_simp
        have k2_ := Blk.new wn1 28 #[.bool false, .slice none 0 0]
        have hn1_ := hn1.alloc (.cells #[.bool false, .slice none 0 0] 28)
        have hg2 : w1.heap.size ≤ wn1.heap.size := hB.size
        have hB_ := below_alloc hB (Nat.le_refl _) (.cells #[.bool false, .slice none 0 0] 28)
        clear hB hn1
        generalize wn1.alloc (.cells #[.bool false, .slice none 0 0] 28) = wn20 at *
        generalize wn1.heap.size = g2 at *
        have hn1 := hn1_
        clear hn1_
        have k2 := k2_
        clear k2_
        have hB := hB_
        clear hB_
        refine hK.out _ _ hB (fun hHeld => ?_)
        clear hK K hHeld
        try simp only [List.getElem_toArray, List.getElem_cons_succ, List.getElem_cons_zero, Act.put, List.setIfInBounds_toArray, List.set_cons_zero, List.set_cons_succ]
        refine wpAnyH_ready (rs := [3, 4]) (by kernel_rfl) (by simp) ?_
        refine AllReadyH.cons rfl (fun K hK => ?_) (AllReadyH.cons rfl (fun K hK => ?_) AllReadyH.nil)
        · go_simp
          refine (HOY.out _).mono ?_
          rintro e wn21 ⟨bb2, A2, p2, d2, rfl, hn2, hc21⟩
          have hn1_ := hn1.below hc21
          have k2_ := k2.under hc21
          have hB_ := below_two hB hc21
          clear hc21 hB hn1 k2
          have hn1 := hn1_
          clear hn1_
          have k2 := k2_
          clear k2_
          have hB := hB_
          clear hB_
          refine hK.out _ _ hB (fun hHeld => ?_)
          clear hK K hHeld
          try simp only [List.getElem_toArray, List.getElem_cons_succ, List.getElem_cons_zero, Act.put, List.setIfInBounds_toArray, List.set_cons_zero, List.set_cons_succ]
          refine wpAnyH_ready (rs := [4]) (by kernel_rfl) (by simp) ?_
          refine AllReadyH.cons rfl (fun K hK => ?_) AllReadyH.nil
          go_simp
          have k1_ := Blk.new wn21 28 #[.bool false, .slice none 0 0]
          have hn1_ := hn1.alloc (.cells #[.bool false, .slice none 0 0] 28)
          have k2_ := k2.alloc (.cells #[.bool false, .slice none 0 0] 28)
          have hn2_ := hn2.alloc (.cells #[.bool false, .slice none 0 0] 28)
          have hne : g2 < wn21.heap.size := k2.lt
          have hg1 : w1.heap.size ≤ wn21.heap.size := hB.size
          have hB_ := below_alloc hB (Nat.le_refl _) (.cells #[.bool false, .slice none 0 0] 28)
          clear hB hn1 k2 hn2
          generalize wn21.alloc (.cells #[.bool false, .slice none 0 0] 28) = wn22 at *
          generalize wn21.heap.size = g1 at *
          have hn1 := hn1_
          clear hn1_
          have k2 := k2_
          clear k2_
          have hn2 := hn2_
          clear hn2_
          have k1 := k1_
          clear k1_
          have hB := hB_
          clear hB_
          refine hK.out _ _ hB (fun hHeld => ?_)
          clear hK K hHeld
          try simp only [List.getElem_toArray, List.getElem_cons_succ, List.getElem_cons_zero, Act.put, List.setIfInBounds_toArray, List.set_cons_zero, List.set_cons_succ]
          refine wpAnyH_ready (rs := [6]) (by kernel_rfl) (by simp) ?_
          refine AllReadyH.cons rfl (fun K hK => ?_) AllReadyH.nil
          obtain ⟨z0, z1, z2, z3, z4⟩ := k1.two
          go_simp
          have k1_ := k1.set2 (.bool bb1) (.slice A1 p1 d1)
          have k2_ := (k2.far (p := ⟨g1, 0, none⟩) (by simp; omega) (.bool bb1)).far (p := ⟨g1, 1, none⟩) (by simp; omega) (.slice A1 p1 d1)
          have hn1_ := (hn1.setCell (q := ⟨g1, 0, none⟩) k1.typed (.bool bb1)).setCell (q := ⟨g1, 1, none⟩) (k1.typed.setCell _ _) (.slice A1 p1 d1)
          have hn2_ := (hn2.setCell (q := ⟨g1, 0, none⟩) k1.typed (.bool bb1)).setCell (q := ⟨g1, 1, none⟩) (k1.typed.setCell _ _) (.slice A1 p1 d1)
          have hB_ := (hB.setCell (p := ⟨g1, 0, none⟩) hg1 (.bool bb1)).setCell (p := ⟨g1, 1, none⟩) hg1 (.slice A1 p1 d1)
          clear z0 z1 z2 z3 z4 hB k1 k2 hn1 hn2
          generalize (wn22.setCell ⟨g1, 0, none⟩ (.bool bb1)).setCell ⟨g1, 1, none⟩ (.slice A1 p1 d1) = wn23 at *
          have k1 := k1_
          clear k1_
          have k2 := k2_
          clear k2_
          have hn1 := hn1_
          clear hn1_
          have hn2 := hn2_
          clear hn2_
          have hB := hB_
          clear hB_
          refine hK.out _ _ hB (fun hHeld => ?_)
          clear hK K hHeld
          try simp only [List.getElem_toArray, List.getElem_cons_succ, List.getElem_cons_zero, Act.put, List.setIfInBounds_toArray, List.set_cons_zero, List.set_cons_succ]
          refine wpAnyH_ready (rs := [7]) (by kernel_rfl) (by simp) ?_
          refine AllReadyH.cons rfl (fun K hK => ?_) AllReadyH.nil
          obtain ⟨z0, z1, z2, z3, z4⟩ := k2.two
          go_simp
          have k2_ := k2.set2 (.bool bb2) (.slice A2 p2 d2)
          have k1_ := (k1.far (p := ⟨g2, 0, none⟩) (by simp; omega) (.bool bb2)).far (p := ⟨g2, 1, none⟩) (by simp; omega) (.slice A2 p2 d2)
          have hn1_ := (hn1.setCell (q := ⟨g2, 0, none⟩) k2.typed (.bool bb2)).setCell (q := ⟨g2, 1, none⟩) (k2.typed.setCell _ _) (.slice A2 p2 d2)
          have hn2_ := (hn2.setCell (q := ⟨g2, 0, none⟩) k2.typed (.bool bb2)).setCell (q := ⟨g2, 1, none⟩) (k2.typed.setCell _ _) (.slice A2 p2 d2)
          have hB_ := (hB.setCell (p := ⟨g2, 0, none⟩) hg2 (.bool bb2)).setCell (p := ⟨g2, 1, none⟩) hg2 (.slice A2 p2 d2)
          clear z0 z1 z2 z3 z4 hB k1 k2 hn1 hn2
          generalize (wn23.setCell ⟨g2, 0, none⟩ (.bool bb2)).setCell ⟨g2, 1, none⟩ (.slice A2 p2 d2) = wn24 at *
          have k1 := k1_
          clear k1_
          have k2 := k2_
          clear k2_
          have hn1 := hn1_
          clear hn1_
          have hn2 := hn2_
          clear hn2_
          have hB := hB_
          clear hB_
          refine hK.out _ _ hB (fun hHeld => ?_)
          clear hK K hHeld
          try simp only [List.getElem_toArray, List.getElem_cons_succ, List.getElem_cons_zero, Act.put, List.setIfInBounds_toArray, List.set_cons_zero, List.set_cons_succ]
          refine wpAnyH_done (by kernel_rfl) ?_ _
          refine NoPanic.normal ?_
          go_wp2_with fail
          go_meet
          exact ⟨_, _, rfl, rfl, _, _, _, _, _, _, _, _, k1, k2, hn1, hn2, hB⟩
        · go_simp
          have k1_ := Blk.new wn20 28 #[.bool false, .slice none 0 0]
          have hn1_ := hn1.alloc (.cells #[.bool false, .slice none 0 0] 28)
          have k2_ := k2.alloc (.cells #[.bool false, .slice none 0 0] 28)
          have hne : g2 < wn20.heap.size := k2.lt
          have hg1 : w1.heap.size ≤ wn20.heap.size := hB.size
          have hB_ := below_alloc hB (Nat.le_refl _) (.cells #[.bool false, .slice none 0 0] 28)
          clear hB hn1 k2
          generalize wn20.alloc (.cells #[.bool false, .slice none 0 0] 28) = wn25 at *
          generalize wn20.heap.size = g1 at *
          have hn1 := hn1_
          clear hn1_
          have k2 := k2_
          clear k2_
          have k1 := k1_
          clear k1_
          have hB := hB_
          clear hB_
          refine hK.out _ _ hB (fun hHeld => ?_)
          clear hK K hHeld
          try simp only [List.getElem_toArray, List.getElem_cons_succ, List.getElem_cons_zero, Act.put, List.setIfInBounds_toArray, List.set_cons_zero, List.set_cons_succ]
          refine wpAnyH_ready (rs := [3]) (by kernel_rfl) (by simp) ?_
          refine AllReadyH.cons rfl (fun K hK => ?_) AllReadyH.nil
          go_simp
          refine (HOY.out _).mono ?_
          rintro e wn26 ⟨bb2, A2, p2, d2, rfl, hn2, hc26⟩
          have hn1_ := hn1.below hc26
          have k2_ := k2.under hc26
          have k1_ := k1.under hc26
          have hB_ := below_two hB hc26
          clear hc26 hB hn1 k2 k1
          have hn1 := hn1_
          clear hn1_
          have k2 := k2_
          clear k2_
          have k1 := k1_
          clear k1_
          have hB := hB_
          clear hB_
          refine hK.out _ _ hB (fun hHeld => ?_)
          clear hK K hHeld
          try simp only [List.getElem_toArray, List.getElem_cons_succ, List.getElem_cons_zero, Act.put, List.setIfInBounds_toArray, List.set_cons_zero, List.set_cons_succ]
          refine wpAnyH_ready (rs := [6]) (by kernel_rfl) (by simp) ?_
          refine AllReadyH.cons rfl (fun K hK => ?_) AllReadyH.nil
          obtain ⟨z0, z1, z2, z3, z4⟩ := k1.two
          go_simp
          have k1_ := k1.set2 (.bool bb1) (.slice A1 p1 d1)
          have k2_ := (k2.far (p := ⟨g1, 0, none⟩) (by simp; omega) (.bool bb1)).far (p := ⟨g1, 1, none⟩) (by simp; omega) (.slice A1 p1 d1)
          have hn1_ := (hn1.setCell (q := ⟨g1, 0, none⟩) k1.typed (.bool bb1)).setCell (q := ⟨g1, 1, none⟩) (k1.typed.setCell _ _) (.slice A1 p1 d1)
          have hn2_ := (hn2.setCell (q := ⟨g1, 0, none⟩) k1.typed (.bool bb1)).setCell (q := ⟨g1, 1, none⟩) (k1.typed.setCell _ _) (.slice A1 p1 d1)
          have hB_ := (hB.setCell (p := ⟨g1, 0, none⟩) hg1 (.bool bb1)).setCell (p := ⟨g1, 1, none⟩) hg1 (.slice A1 p1 d1)
          clear z0 z1 z2 z3 z4 hB k1 k2 hn1 hn2
          generalize (wn26.setCell ⟨g1, 0, none⟩ (.bool bb1)).setCell ⟨g1, 1, none⟩ (.slice A1 p1 d1) = wn27 at *
          have k1 := k1_
          clear k1_
          have k2 := k2_
          clear k2_
          have hn1 := hn1_
          clear hn1_
          have hn2 := hn2_
          clear hn2_
          have hB := hB_
          clear hB_
          refine hK.out _ _ hB (fun hHeld => ?_)
          clear hK K hHeld
          try simp only [List.getElem_toArray, List.getElem_cons_succ, List.getElem_cons_zero, Act.put, List.setIfInBounds_toArray, List.set_cons_zero, List.set_cons_succ]
          refine wpAnyH_ready (rs := [7]) (by kernel_rfl) (by simp) ?_
          refine AllReadyH.cons rfl (fun K hK => ?_) AllReadyH.nil
          obtain ⟨z0, z1, z2, z3, z4⟩ := k2.two
          go_simp
          have k2_ := k2.set2 (.bool bb2) (.slice A2 p2 d2)
          have k1_ := (k1.far (p := ⟨g2, 0, none⟩) (by simp; omega) (.bool bb2)).far (p := ⟨g2, 1, none⟩) (by simp; omega) (.slice A2 p2 d2)
          have hn1_ := (hn1.setCell (q := ⟨g2, 0, none⟩) k2.typed (.bool bb2)).setCell (q := ⟨g2, 1, none⟩) (k2.typed.setCell _ _) (.slice A2 p2 d2)
          have hn2_ := (hn2.setCell (q := ⟨g2, 0, none⟩) k2.typed (.bool bb2)).setCell (q := ⟨g2, 1, none⟩) (k2.typed.setCell _ _) (.slice A2 p2 d2)
          have hB_ := (hB.setCell (p := ⟨g2, 0, none⟩) hg2 (.bool bb2)).setCell (p := ⟨g2, 1, none⟩) hg2 (.slice A2 p2 d2)
          clear z0 z1 z2 z3 z4 hB k1 k2 hn1 hn2
          generalize (wn27.setCell ⟨g2, 0, none⟩ (.bool bb2)).setCell ⟨g2, 1, none⟩ (.slice A2 p2 d2) = wn28 at *
          have k1 := k1_
          clear k1_
          have k2 := k2_
          clear k2_
          have hn1 := hn1_
          clear hn1_
          have hn2 := hn2_
          clear hn2_
          have hB := hB_
          clear hB_
          refine hK.out _ _ hB (fun hHeld => ?_)
          clear hK K hHeld
          try simp only [List.getElem_toArray, List.getElem_cons_succ, List.getElem_cons_zero, Act.put, List.setIfInBounds_toArray, List.set_cons_zero, List.set_cons_succ]
          refine wpAnyH_done (by kernel_rfl) ?_ _
          refine NoPanic.normal ?_
          go_wp2_with fail
          go_meet
          exact ⟨_, _, rfl, rfl, _, _, _, _, _, _, _, _, k1, k2, hn1, hn2, hB⟩
    · go_simp
      have k1_ := Blk.new wd 28 #[.bool false, .slice none 0 0]
      have hg1 : w1.heap.size ≤ wd.heap.size := hB.size
      have hB_ := below_alloc hB (Nat.le_refl _) (.cells #[.bool false, .slice none 0 0] 28)
      clear hB 
      generalize wd.alloc (.cells #[.bool false, .slice none 0 0] 28) = wn29 at *
      generalize wd.heap.size = g1 at *
      have k1 := k1_
      clear k1_
      have hB := hB_
      clear hB_
      refine hK.out _ _ hB (fun hHeld => ?_)
      clear hK K hHeld
      try simp only [List.getElem_toArray, List.getElem_cons_succ, List.getElem_cons_zero, Act.put, List.setIfInBounds_toArray, List.set_cons_zero, List.set_cons_succ]
      refine wpAnyH_ready (rs := [1, 5]) (by kernel_rfl) (by simp) ?_
      refine AllReadyH.cons rfl (fun K hK => ?_) (AllReadyH.cons rfl (fun K hK => ?_) AllReadyH.nil)
      · go_simp
        refine (HOX.out _).mono ?_
        rintro e wn30 ⟨bb1, A1, p1, d1, rfl, hn1, hc30⟩
        have k1_ := k1.under hc30
        have hB_ := below_two hB hc30
        clear hc30 hB k1
        have k1 := k1_
        clear k1_
        have hB := hB_
        clear hB_
        refine hK.out _ _ hB (fun hHeld => ?_)
        clear hK K hHeld
        try simp only [List.getElem_toArray, List.getElem_cons_succ, List.getElem_cons_zero, Act.put, List.setIfInBounds_toArray, List.set_cons_zero, List.set_cons_succ]
        refine wpAnyH_ready (rs := [3, 5]) (by kernel_rfl) (by simp) ?_
        refine AllReadyH.cons rfl (fun K hK => ?_) (AllReadyH.cons rfl (fun K hK => ?_) AllReadyH.nil)
        · go_simp
          refine (HOY.out _).mono ?_
          rintro e wn31 ⟨bb2, A2, p2, d2, rfl, hn2, hc31⟩
          have k1_ := k1.under hc31
          have hn1_ := hn1.below hc31
          have hB_ := below_two hB hc31
          clear hc31 hB k1 hn1
          have k1 := k1_
          clear k1_
          have hn1 := hn1_
          clear hn1_
          have hB := hB_
          clear hB_
          refine hK.out _ _ hB (fun hHeld => ?_)
          clear hK K hHeld
          try simp only [List.getElem_toArray, List.getElem_cons_succ, List.getElem_cons_zero, Act.put, List.setIfInBounds_toArray, List.set_cons_zero, List.set_cons_succ]
          refine wpAnyH_ready (rs := [5]) (by kernel_rfl) (by simp) ?_
          refine AllReadyH.cons rfl (fun K hK => ?_) AllReadyH.nil
          go_simp
          have k2_ := Blk.new wn31 28 #[.bool false, .slice none 0 0]
          have k1_ := k1.alloc (.cells #[.bool false, .slice none 0 0] 28)
          have hn1_ := hn1.alloc (.cells #[.bool false, .slice none 0 0] 28)
          have hn2_ := hn2.alloc (.cells #[.bool false, .slice none 0 0] 28)
          have hne : g1 < wn31.heap.size := k1.lt
          have hg2 : w1.heap.size ≤ wn31.heap.size := hB.size
          have hB_ := below_alloc hB (Nat.le_refl _) (.cells #[.bool false, .slice none 0 0] 28)
          clear hB k1 hn1 hn2
          generalize wn31.alloc (.cells #[.bool false, .slice none 0 0] 28) = wn32 at *
          generalize wn31.heap.size = g2 at *
          have k1 := k1_
          clear k1_
          have hn1 := hn1_
          clear hn1_
          have hn2 := hn2_
          clear hn2_
          have k2 := k2_
          clear k2_
          have hB := hB_
          clear hB_
          refine hK.out _ _ hB (fun hHeld => ?_)
          clear hK K hHeld
          try simp only [List.getElem_toArray, List.getElem_cons_succ, List.getElem_cons_zero, Act.put, List.setIfInBounds_toArray, List.set_cons_zero, List.set_cons_succ]
          refine wpAnyH_ready (rs := [6]) (by kernel_rfl) (by simp) ?_
          refine AllReadyH.cons rfl (fun K hK => ?_) AllReadyH.nil
          obtain ⟨z0, z1, z2, z3, z4⟩ := k1.two
          go_simp
          have k1_ := k1.set2 (.bool bb1) (.slice A1 p1 d1)
          have k2_ := (k2.far (p := ⟨g1, 0, none⟩) (by simp; omega) (.bool bb1)).far (p := ⟨g1, 1, none⟩) (by simp; omega) (.slice A1 p1 d1)
          have hn1_ := (hn1.setCell (q := ⟨g1, 0, none⟩) k1.typed (.bool bb1)).setCell (q := ⟨g1, 1, none⟩) (k1.typed.setCell _ _) (.slice A1 p1 d1)
          have hn2_ := (hn2.setCell (q := ⟨g1, 0, none⟩) k1.typed (.bool bb1)).setCell (q := ⟨g1, 1, none⟩) (k1.typed.setCell _ _) (.slice A1 p1 d1)
          have hB_ := (hB.setCell (p := ⟨g1, 0, none⟩) hg1 (.bool bb1)).setCell (p := ⟨g1, 1, none⟩) hg1 (.slice A1 p1 d1)
          clear z0 z1 z2 z3 z4 hB k1 k2 hn1 hn2
          generalize (wn32.setCell ⟨g1, 0, none⟩ (.bool bb1)).setCell ⟨g1, 1, none⟩ (.slice A1 p1 d1) = wn33 at *
          have k1 := k1_
          clear k1_
          have k2 := k2_
          clear k2_
          have hn1 := hn1_
          clear hn1_
          have hn2 := hn2_
          clear hn2_
          have hB := hB_
          clear hB_
          refine hK.out _ _ hB (fun hHeld => ?_)
          clear hK K hHeld
          try simp only [List.getElem_toArray, List.getElem_cons_succ, List.getElem_cons_zero, Act.put, List.setIfInBounds_toArray, List.set_cons_zero, List.set_cons_succ]
          refine wpAnyH_ready (rs := [7]) (by kernel_rfl) (by simp) ?_
          refine AllReadyH.cons rfl (fun K hK => ?_) AllReadyH.nil
          obtain ⟨z0, z1, z2, z3, z4⟩ := k2.two
          go_simp
          have k2_ := k2.set2 (.bool bb2) (.slice A2 p2 d2)
          have k1_ := (k1.far (p := ⟨g2, 0, none⟩) (by simp; omega) (.bool bb2)).far (p := ⟨g2, 1, none⟩) (by simp; omega) (.slice A2 p2 d2)
          have hn1_ := (hn1.setCell (q := ⟨g2, 0, none⟩) k2.typed (.bool bb2)).setCell (q := ⟨g2, 1, none⟩) (k2.typed.setCell _ _) (.slice A2 p2 d2)
          have hn2_ := (hn2.setCell (q := ⟨g2, 0, none⟩) k2.typed (.bool bb2)).setCell (q := ⟨g2, 1, none⟩) (k2.typed.setCell _ _) (.slice A2 p2 d2)
          have hB_ := (hB.setCell (p := ⟨g2, 0, none⟩) hg2 (.bool bb2)).setCell (p := ⟨g2, 1, none⟩) hg2 (.slice A2 p2 d2)
          clear z0 z1 z2 z3 z4 hB k1 k2 hn1 hn2
          generalize (wn33.setCell ⟨g2, 0, none⟩ (.bool bb2)).setCell ⟨g2, 1, none⟩ (.slice A2 p2 d2) = wn34 at *
          have k1 := k1_
          clear k1_
          have k2 := k2_
          clear k2_
          have hn1 := hn1_
          clear hn1_
          have hn2 := hn2_
          clear hn2_
          have hB := hB_
          clear hB_
          refine hK.out _ _ hB (fun hHeld => ?_)
          clear hK K hHeld
          try simp only [List.getElem_toArray, List.getElem_cons_succ, List.getElem_cons_zero, Act.put, List.setIfInBounds_toArray, List.set_cons_zero, List.set_cons_succ]
          refine wpAnyH_done (by kernel_rfl) ?_ _
          refine NoPanic.normal ?_
          go_wp2_with fail
          go_meet
          exact ⟨_, _, rfl, rfl, _, _, _, _, _, _, _, _, k1, k2, hn1, hn2, hB⟩
        · go_simp
          have k2_ := Blk.new wn30 28 #[.bool false, .slice none 0 0]
          have k1_ := k1.alloc (.cells #[.bool false, .slice none 0 0] 28)
          have hn1_ := hn1.alloc (.cells #[.bool false, .slice none 0 0] 28)
          have hne : g1 < wn30.heap.size := k1.lt
          have hg2 : w1.heap.size ≤ wn30.heap.size := hB.size
          have hB_ := below_alloc hB (Nat.le_refl _) (.cells #[.bool false, .slice none 0 0] 28)
          clear hB k1 hn1
          generalize wn30.alloc (.cells #[.bool false, .slice none 0 0] 28) = wn35 at *
          generalize wn30.heap.size = g2 at *
          have k1 := k1_
          clear k1_
          have hn1 := hn1_
          clear hn1_
          have k2 := k2_
          clear k2_
          have hB := hB_
          clear hB_
          refine hK.out _ _ hB (fun hHeld => ?_)
          clear hK K hHeld
          try simp only [List.getElem_toArray, List.getElem_cons_succ, List.getElem_cons_zero, Act.put, List.setIfInBounds_toArray, List.set_cons_zero, List.set_cons_succ]
          refine wpAnyH_ready (rs := [3]) (by kernel_rfl) (by simp) ?_
          refine AllReadyH.cons rfl (fun K hK => ?_) AllReadyH.nil
          go_simp
          refine (HOY.out _).mono ?_
          rintro e wn36 ⟨bb2, A2, p2, d2, rfl, hn2, hc36⟩
          have k1_ := k1.under hc36
          have hn1_ := hn1.below hc36
          have k2_ := k2.under hc36
          have hB_ := below_two hB hc36
          clear hc36 hB k1 hn1 k2
          have k1 := k1_
          clear k1_
          have hn1 := hn1_
          clear hn1_
          have k2 := k2_
          clear k2_
          have hB := hB_
          clear hB_
          refine hK.out _ _ hB (fun hHeld => ?_)
          clear hK K hHeld
          try simp only [List.getElem_toArray, List.getElem_cons_succ, List.getElem_cons_zero, Act.put, List.setIfInBounds_toArray, List.set_cons_zero, List.set_cons_succ]
          refine wpAnyH_ready (rs := [6]) (by kernel_rfl) (by simp) ?_
          refine AllReadyH.cons rfl (fun K hK => ?_) AllReadyH.nil
          obtain ⟨z0, z1, z2, z3, z4⟩ := k1.two
          go_simp
          have k1_ := k1.set2 (.bool bb1) (.slice A1 p1 d1)
          have k2_ := (k2.far (p := ⟨g1, 0, none⟩) (by simp; omega) (.bool bb1)).far (p := ⟨g1, 1, none⟩) (by simp; omega) (.slice A1 p1 d1)
          have hn1_ := (hn1.setCell (q := ⟨g1, 0, none⟩) k1.typed (.bool bb1)).setCell (q := ⟨g1, 1, none⟩) (k1.typed.setCell _ _) (.slice A1 p1 d1)
          have hn2_ := (hn2.setCell (q := ⟨g1, 0, none⟩) k1.typed (.bool bb1)).setCell (q := ⟨g1, 1, none⟩) (k1.typed.setCell _ _) (.slice A1 p1 d1)
          have hB_ := (hB.setCell (p := ⟨g1, 0, none⟩) hg1 (.bool bb1)).setCell (p := ⟨g1, 1, none⟩) hg1 (.slice A1 p1 d1)
          clear z0 z1 z2 z3 z4 hB k1 k2 hn1 hn2
          generalize (wn36.setCell ⟨g1, 0, none⟩ (.bool bb1)).setCell ⟨g1, 1, none⟩ (.slice A1 p1 d1) = wn37 at *
          have k1 := k1_
          clear k1_
          have k2 := k2_
          clear k2_
          have hn1 := hn1_
          clear hn1_
          have hn2 := hn2_
          clear hn2_
          have hB := hB_
          clear hB_
          refine hK.out _ _ hB (fun hHeld => ?_)
          clear hK K hHeld
          try simp only [List.getElem_toArray, List.getElem_cons_succ, List.getElem_cons_zero, Act.put, List.setIfInBounds_toArray, List.set_cons_zero, List.set_cons_succ]
          refine wpAnyH_ready (rs := [7]) (by kernel_rfl) (by simp) ?_
          refine AllReadyH.cons rfl (fun K hK => ?_) AllReadyH.nil
          obtain ⟨z0, z1, z2, z3, z4⟩ := k2.two
          go_simp
          have k2_ := k2.set2 (.bool bb2) (.slice A2 p2 d2)
          have k1_ := (k1.far (p := ⟨g2, 0, none⟩) (by simp; omega) (.bool bb2)).far (p := ⟨g2, 1, none⟩) (by simp; omega) (.slice A2 p2 d2)
          have hn1_ := (hn1.setCell (q := ⟨g2, 0, none⟩) k2.typed (.bool bb2)).setCell (q := ⟨g2, 1, none⟩) (k2.typed.setCell _ _) (.slice A2 p2 d2)
          have hn2_ := (hn2.setCell (q := ⟨g2, 0, none⟩) k2.typed (.bool bb2)).setCell (q := ⟨g2, 1, none⟩) (k2.typed.setCell _ _) (.slice A2 p2 d2)
          have hB_ := (hB.setCell (p := ⟨g2, 0, none⟩) hg2 (.bool bb2)).setCell (p := ⟨g2, 1, none⟩) hg2 (.slice A2 p2 d2)
          clear z0 z1 z2 z3 z4 hB k1 k2 hn1 hn2
          generalize (wn37.setCell ⟨g2, 0, none⟩ (.bool bb2)).setCell ⟨g2, 1, none⟩ (.slice A2 p2 d2) = wn38 at *
          have k1 := k1_
          clear k1_
          have k2 := k2_
          clear k2_
          have hn1 := hn1_
          clear hn1_
          have hn2 := hn2_
          clear hn2_
          have hB := hB_
          clear hB_
          refine hK.out _ _ hB (fun hHeld => ?_)
          clear hK K hHeld
          try simp only [List.getElem_toArray, List.getElem_cons_succ, List.getElem_cons_zero, Act.put, List.setIfInBounds_toArray, List.set_cons_zero, List.set_cons_succ]
          refine wpAnyH_done (by kernel_rfl) ?_ _
          refine NoPanic.normal ?_
          go_wp2_with fail
          go_meet
          exact ⟨_, _, rfl, rfl, _, _, _, _, _, _, _, _, k1, k2, hn1, hn2, hB⟩
      · go_simp
        have k2_ := Blk.new wn29 28 #[.bool false, .slice none 0 0]
        have k1_ := k1.alloc (.cells #[.bool false, .slice none 0 0] 28)
        have hne : g1 < wn29.heap.size := k1.lt
        have hg2 : w1.heap.size ≤ wn29.heap.size := hB.size
        have hB_ := below_alloc hB (Nat.le_refl _) (.cells #[.bool false, .slice none 0 0] 28)
        clear hB k1
        generalize wn29.alloc (.cells #[.bool false, .slice none 0 0] 28) = wn39 at *
        generalize wn29.heap.size = g2 at *
        have k1 := k1_
        clear k1_
        have k2 := k2_
        clear k2_
        have hB := hB_
        clear hB_
        refine hK.out _ _ hB (fun hHeld => ?_)
        clear hK K hHeld
        try simp only [List.getElem_toArray, List.getElem_cons_succ, List.getElem_cons_zero, Act.put, List.setIfInBounds_toArray, List.set_cons_zero, List.set_cons_succ]
        refine wpAnyH_ready (rs := [1]) (by kernel_rfl) (by simp) ?_
        refine AllReadyH.cons rfl (fun K hK => ?_) AllReadyH.nil
        go_simp
        refine (HOX.out _).mono ?_
        rintro e wn40 ⟨bb1, A1, p1, d1, rfl, hn1, hc40⟩
        have k1_ := k1.under hc40
        have k2_ := k2.under hc40
        have hB_ := below_two hB hc40
        clear hc40 hB k1 k2
        have k1 := k1_
        clear k1_
        have k2 := k2_
        clear k2_
        have hB := hB_
        clear hB_
        refine hK.out _ _ hB (fun hHeld => ?_)
        clear hK K hHeld
        try simp only [List.getElem_toArray, List.getElem_cons_succ, List.getElem_cons_zero, Act.put, List.setIfInBounds_toArray, List.set_cons_zero, List.set_cons_succ]
        refine wpAnyH_ready (rs := [3]) (by kernel_rfl) (by simp) ?_
        refine AllReadyH.cons rfl (fun K hK => ?_) AllReadyH.nil
        go_simp
        refine (HOY.out _).mono ?_
        rintro e wn41 ⟨bb2, A2, p2, d2, rfl, hn2, hc41⟩
        have k1_ := k1.under hc41
        have k2_ := k2.under hc41
        have hn1_ := hn1.below hc41
        have hB_ := below_two hB hc41
        clear hc41 hB k1 k2 hn1
        have k1 := k1_
        clear k1_
        have k2 := k2_
        clear k2_
        have hn1 := hn1_
        clear hn1_
        have hB := hB_
        clear hB_
        refine hK.out _ _ hB (fun hHeld => ?_)
        clear hK K hHeld
        try simp only [List.getElem_toArray, List.getElem_cons_succ, List.getElem_cons_zero, Act.put, List.setIfInBounds_toArray, List.set_cons_zero, List.set_cons_succ]
        refine wpAnyH_ready (rs := [6]) (by kernel_rfl) (by simp) ?_
        refine AllReadyH.cons rfl (fun K hK => ?_) AllReadyH.nil
        obtain ⟨z0, z1, z2, z3, z4⟩ := k1.two
        go_simp
        have k1_ := k1.set2 (.bool bb1) (.slice A1 p1 d1)
        have k2_ := (k2.far (p := ⟨g1, 0, none⟩) (by simp; omega) (.bool bb1)).far (p := ⟨g1, 1, none⟩) (by simp; omega) (.slice A1 p1 d1)
        have hn1_ := (hn1.setCell (q := ⟨g1, 0, none⟩) k1.typed (.bool bb1)).setCell (q := ⟨g1, 1, none⟩) (k1.typed.setCell _ _) (.slice A1 p1 d1)
        have hn2_ := (hn2.setCell (q := ⟨g1, 0, none⟩) k1.typed (.bool bb1)).setCell (q := ⟨g1, 1, none⟩) (k1.typed.setCell _ _) (.slice A1 p1 d1)
        have hB_ := (hB.setCell (p := ⟨g1, 0, none⟩) hg1 (.bool bb1)).setCell (p := ⟨g1, 1, none⟩) hg1 (.slice A1 p1 d1)
        clear z0 z1 z2 z3 z4 hB k1 k2 hn1 hn2
        generalize (wn41.setCell ⟨g1, 0, none⟩ (.bool bb1)).setCell ⟨g1, 1, none⟩ (.slice A1 p1 d1) = wn42 at *
        have k1 := k1_
        clear k1_
        have k2 := k2_
        clear k2_
        have hn1 := hn1_
        clear hn1_
        have hn2 := hn2_
        clear hn2_
        have hB := hB_
        clear hB_
        refine hK.out _ _ hB (fun hHeld => ?_)
        clear hK K hHeld
        try simp only [List.getElem_toArray, List.getElem_cons_succ, List.getElem_cons_zero, Act.put, List.setIfInBounds_toArray, List.set_cons_zero, List.set_cons_succ]
        refine wpAnyH_ready (rs := [7]) (by kernel_rfl) (by simp) ?_
        refine AllReadyH.cons rfl (fun K hK => ?_) AllReadyH.nil
        obtain ⟨z0, z1, z2, z3, z4⟩ := k2.two
        go_simp
        have k2_ := k2.set2 (.bool bb2) (.slice A2 p2 d2)
        have k1_ := (k1.far (p := ⟨g2, 0, none⟩) (by simp; omega) (.bool bb2)).far (p := ⟨g2, 1, none⟩) (by simp; omega) (.slice A2 p2 d2)
        have hn1_ := (hn1.setCell (q := ⟨g2, 0, none⟩) k2.typed (.bool bb2)).setCell (q := ⟨g2, 1, none⟩) (k2.typed.setCell _ _) (.slice A2 p2 d2)
        have hn2_ := (hn2.setCell (q := ⟨g2, 0, none⟩) k2.typed (.bool bb2)).setCell (q := ⟨g2, 1, none⟩) (k2.typed.setCell _ _) (.slice A2 p2 d2)
        have hB_ := (hB.setCell (p := ⟨g2, 0, none⟩) hg2 (.bool bb2)).setCell (p := ⟨g2, 1, none⟩) hg2 (.slice A2 p2 d2)
        clear z0 z1 z2 z3 z4 hB k1 k2 hn1 hn2
        generalize (wn42.setCell ⟨g2, 0, none⟩ (.bool bb2)).setCell ⟨g2, 1, none⟩ (.slice A2 p2 d2) = wn43 at *
        have k1 := k1_
        clear k1_
        have k2 := k2_
        clear k2_
        have hn1 := hn1_
        clear hn1_
        have hn2 := hn2_
        clear hn2_
        have hB := hB_
        clear hB_
        refine hK.out _ _ hB (fun hHeld => ?_)
        clear hK K hHeld
        try simp only [List.getElem_toArray, List.getElem_cons_succ, List.getElem_cons_zero, Act.put, List.setIfInBounds_toArray, List.set_cons_zero, List.set_cons_succ]
        refine wpAnyH_done (by kernel_rfl) ?_ _
        refine NoPanic.normal ?_
        go_wp2_with fail
        go_meet
        exact ⟨_, _, rfl, rfl, _, _, _, _, _, _, _, _, k1, k2, hn1, hn2, hB⟩
    · go_simp
      have k2_ := Blk.new wd 28 #[.bool false, .slice none 0 0]
      have hg2 : w1.heap.size ≤ wd.heap.size := hB.size
      have hB_ := below_alloc hB (Nat.le_refl _) (.cells #[.bool false, .slice none 0 0] 28)
      clear hB 
      generalize wd.alloc (.cells #[.bool false, .slice none 0 0] 28) = wn44 at *
      generalize wd.heap.size = g2 at *
      have k2 := k2_
      clear k2_
      have hB := hB_
      clear hB_
      refine hK.out _ _ hB (fun hHeld => ?_)
      clear hK K hHeld
      try simp only [List.getElem_toArray, List.getElem_cons_succ, List.getElem_cons_zero, Act.put, List.setIfInBounds_toArray, List.set_cons_zero, List.set_cons_succ]
      refine wpAnyH_ready (rs := [1, 4]) (by kernel_rfl) (by simp) ?_
      refine AllReadyH.cons rfl (fun K hK => ?_) (AllReadyH.cons rfl (fun K hK => ?_) AllReadyH.nil)
      · go_simp
        refine (HOX.out _).mono ?_
        rintro e wn45 ⟨bb1, A1, p1, d1, rfl, hn1, hc45⟩
        have k2_ := k2.under hc45
        have hB_ := below_two hB hc45
        clear hc45 hB k2
        have k2 := k2_
        clear k2_
        have hB := hB_
        clear hB_
        refine hK.out _ _ hB (fun hHeld => ?_)
        clear hK K hHeld
        try simp only [List.getElem_toArray, List.getElem_cons_succ, List.getElem_cons_zero, Act.put, List.setIfInBounds_toArray, List.set_cons_zero, List.set_cons_succ]
        refine wpAnyH_ready (rs := [3, 4]) (by kernel_rfl) (by simp) ?_
        refine AllReadyH.cons rfl (fun K hK => ?_) (AllReadyH.cons rfl (fun K hK => ?_) AllReadyH.nil)
        · go_simp
          refine (HOY.out _).mono ?_
          rintro e wn46 ⟨bb2, A2, p2, d2, rfl, hn2, hc46⟩
          have k2_ := k2.under hc46
          have hn1_ := hn1.below hc46
          have hB_ := below_two hB hc46
          clear hc46 hB k2 hn1
          have k2 := k2_
          clear k2_
          have hn1 := hn1_
          clear hn1_
          have hB := hB_
          clear hB_
          refine hK.out _ _ hB (fun hHeld => ?_)
          clear hK K hHeld
          try simp only [List.getElem_toArray, List.getElem_cons_succ, List.getElem_cons_zero, Act.put, List.setIfInBounds_toArray, List.set_cons_zero, List.set_cons_succ]
          refine wpAnyH_ready (rs := [4]) (by kernel_rfl) (by simp) ?_
          refine AllReadyH.cons rfl (fun K hK => ?_) AllReadyH.nil
          go_simp
          have k1_ := Blk.new wn46 28 #[.bool false, .slice none 0 0]
          have k2_ := k2.alloc (.cells #[.bool false, .slice none 0 0] 28)
          have hn1_ := hn1.alloc (.cells #[.bool false, .slice none 0 0] 28)
          have hn2_ := hn2.alloc (.cells #[.bool false, .slice none 0 0] 28)
          have hne : g2 < wn46.heap.size := k2.lt
          have hg1 : w1.heap.size ≤ wn46.heap.size := hB.size
          have hB_ := below_alloc hB (Nat.le_refl _) (.cells #[.bool false, .slice none 0 0] 28)
          clear hB k2 hn1 hn2
          generalize wn46.alloc (.cells #[.bool false, .slice none 0 0] 28) = wn47 at *
          generalize wn46.heap.size = g1 at *
          have k2 := k2_
          clear k2_
          have hn1 := hn1_
          clear hn1_
          have hn2 := hn2_
          clear hn2_
          have k1 := k1_
          clear k1_
          have hB := hB_
          clear hB_
          refine hK.out _ _ hB (fun hHeld => ?_)
          clear hK K hHeld
          try simp only [List.getElem_toArray, List.getElem_cons_succ, List.getElem_cons_zero, Act.put, List.setIfInBounds_toArray, List.set_cons_zero, List.set_cons_succ]
          refine wpAnyH_ready (rs := [6]) (by kernel_rfl) (by simp) ?_
          refine AllReadyH.cons rfl (fun K hK => ?_) AllReadyH.nil
          obtain ⟨z0, z1, z2, z3, z4⟩ := k1.two
          go_simp
          have k1_ := k1.set2 (.bool bb1) (.slice A1 p1 d1)
          have k2_ := (k2.far (p := ⟨g1, 0, none⟩) (by simp; omega) (.bool bb1)).far (p := ⟨g1, 1, none⟩) (by simp; omega) (.slice A1 p1 d1)
          have hn1_ := (hn1.setCell (q := ⟨g1, 0, none⟩) k1.typed (.bool bb1)).setCell (q := ⟨g1, 1, none⟩) (k1.typed.setCell _ _) (.slice A1 p1 d1)
          have hn2_ := (hn2.setCell (q := ⟨g1, 0, none⟩) k1.typed (.bool bb1)).setCell (q := ⟨g1, 1, none⟩) (k1.typed.setCell _ _) (.slice A1 p1 d1)
          have hB_ := (hB.setCell (p := ⟨g1, 0, none⟩) hg1 (.bool bb1)).setCell (p := ⟨g1, 1, none⟩) hg1 (.slice A1 p1 d1)
          clear z0 z1 z2 z3 z4 hB k1 k2 hn1 hn2
          generalize (wn47.setCell ⟨g1, 0, none⟩ (.bool bb1)).setCell ⟨g1, 1, none⟩ (.slice A1 p1 d1) = wn48 at *
          have k1 := k1_
          clear k1_
          have k2 := k2_
          clear k2_
          have hn1 := hn1_
          clear hn1_
          have hn2 := hn2_
          clear hn2_
          have hB := hB_
          clear hB_
          refine hK.out _ _ hB (fun hHeld => ?_)
          clear hK K hHeld
          try simp only [List.getElem_toArray, List.getElem_cons_succ, List.getElem_cons_zero, Act.put, List.setIfInBounds_toArray, List.set_cons_zero, List.set_cons_succ]
          refine wpAnyH_ready (rs := [7]) (by kernel_rfl) (by simp) ?_
          refine AllReadyH.cons rfl (fun K hK => ?_) AllReadyH.nil
          obtain ⟨z0, z1, z2, z3, z4⟩ := k2.two
          go_simp
          have k2_ := k2.set2 (.bool bb2) (.slice A2 p2 d2)
          have k1_ := (k1.far (p := ⟨g2, 0, none⟩) (by simp; omega) (.bool bb2)).far (p := ⟨g2, 1, none⟩) (by simp; omega) (.slice A2 p2 d2)
          have hn1_ := (hn1.setCell (q := ⟨g2, 0, none⟩) k2.typed (.bool bb2)).setCell (q := ⟨g2, 1, none⟩) (k2.typed.setCell _ _) (.slice A2 p2 d2)
          have hn2_ := (hn2.setCell (q := ⟨g2, 0, none⟩) k2.typed (.bool bb2)).setCell (q := ⟨g2, 1, none⟩) (k2.typed.setCell _ _) (.slice A2 p2 d2)
          have hB_ := (hB.setCell (p := ⟨g2, 0, none⟩) hg2 (.bool bb2)).setCell (p := ⟨g2, 1, none⟩) hg2 (.slice A2 p2 d2)
          clear z0 z1 z2 z3 z4 hB k1 k2 hn1 hn2
          generalize (wn48.setCell ⟨g2, 0, none⟩ (.bool bb2)).setCell ⟨g2, 1, none⟩ (.slice A2 p2 d2) = wn49 at *
          have k1 := k1_
          clear k1_
          have k2 := k2_
          clear k2_
          have hn1 := hn1_
          clear hn1_
          have hn2 := hn2_
          clear hn2_
          have hB := hB_
          clear hB_
          refine hK.out _ _ hB (fun hHeld => ?_)
          clear hK K hHeld
          try simp only [List.getElem_toArray, List.getElem_cons_succ, List.getElem_cons_zero, Act.put, List.setIfInBounds_toArray, List.set_cons_zero, List.set_cons_succ]
          refine wpAnyH_done (by kernel_rfl) ?_ _
          refine NoPanic.normal ?_
          go_wp2_with fail
          go_meet
          exact ⟨_, _, rfl, rfl, _, _, _, _, _, _, _, _, k1, k2, hn1, hn2, hB⟩
        · go_simp
          have k1_ := Blk.new wn45 28 #[.bool false, .slice none 0 0]
          have k2_ := k2.alloc (.cells #[.bool false, .slice none 0 0] 28)
          have hn1_ := hn1.alloc (.cells #[.bool false, .slice none 0 0] 28)
          have hne : g2 < wn45.heap.size := k2.lt
          have hg1 : w1.heap.size ≤ wn45.heap.size := hB.size
          have hB_ := below_alloc hB (Nat.le_refl _) (.cells #[.bool false, .slice none 0 0] 28)
          clear hB k2 hn1
          generalize wn45.alloc (.cells #[.bool false, .slice none 0 0] 28) = wn50 at *
          generalize wn45.heap.size = g1 at *
          have k2 := k2_
          clear k2_
          have hn1 := hn1_
          clear hn1_
          have k1 := k1_
          clear k1_
          have hB := hB_
          clear hB_
          refine hK.out _ _ hB (fun hHeld => ?_)
          clear hK K hHeld
          try simp only [List.getElem_toArray, List.getElem_cons_succ, List.getElem_cons_zero, Act.put, List.setIfInBounds_toArray, List.set_cons_zero, List.set_cons_succ]
          refine wpAnyH_ready (rs := [3]) (by kernel_rfl) (by simp) ?_
          refine AllReadyH.cons rfl (fun K hK => ?_) AllReadyH.nil
          go_simp
          refine (HOY.out _).mono ?_
          rintro e wn51 ⟨bb2, A2, p2, d2, rfl, hn2, hc51⟩
          have k2_ := k2.under hc51
          have hn1_ := hn1.below hc51
          have k1_ := k1.under hc51
          have hB_ := below_two hB hc51
          clear hc51 hB k2 hn1 k1
          have k2 := k2_
          clear k2_
          have hn1 := hn1_
          clear hn1_
          have k1 := k1_
          clear k1_
          have hB := hB_
          clear hB_
          refine hK.out _ _ hB (fun hHeld => ?_)
          clear hK K hHeld
          try simp only [List.getElem_toArray, List.getElem_cons_succ, List.getElem_cons_zero, Act.put, List.setIfInBounds_toArray, List.set_cons_zero, List.set_cons_succ]
          refine wpAnyH_ready (rs := [6]) (by kernel_rfl) (by simp) ?_
          refine AllReadyH.cons rfl (fun K hK => ?_) AllReadyH.nil
          obtain ⟨z0, z1, z2, z3, z4⟩ := k1.two
          go_simp
          have k1_ := k1.set2 (.bool bb1) (.slice A1 p1 d1)
          have k2_ := (k2.far (p := ⟨g1, 0, none⟩) (by simp; omega) (.bool bb1)).far (p := ⟨g1, 1, none⟩) (by simp; omega) (.slice A1 p1 d1)
          have hn1_ := (hn1.setCell (q := ⟨g1, 0, none⟩) k1.typed (.bool bb1)).setCell (q := ⟨g1, 1, none⟩) (k1.typed.setCell _ _) (.slice A1 p1 d1)
          have hn2_ := (hn2.setCell (q := ⟨g1, 0, none⟩) k1.typed (.bool bb1)).setCell (q := ⟨g1, 1, none⟩) (k1.typed.setCell _ _) (.slice A1 p1 d1)
          have hB_ := (hB.setCell (p := ⟨g1, 0, none⟩) hg1 (.bool bb1)).setCell (p := ⟨g1, 1, none⟩) hg1 (.slice A1 p1 d1)
          clear z0 z1 z2 z3 z4 hB k1 k2 hn1 hn2
          generalize (wn51.setCell ⟨g1, 0, none⟩ (.bool bb1)).setCell ⟨g1, 1, none⟩ (.slice A1 p1 d1) = wn52 at *
          have k1 := k1_
          clear k1_
          have k2 := k2_
          clear k2_
          have hn1 := hn1_
          clear hn1_
          have hn2 := hn2_
          clear hn2_
          have hB := hB_
          clear hB_
          refine hK.out _ _ hB (fun hHeld => ?_)
          clear hK K hHeld
          try simp only [List.getElem_toArray, List.getElem_cons_succ, List.getElem_cons_zero, Act.put, List.setIfInBounds_toArray, List.set_cons_zero, List.set_cons_succ]
          refine wpAnyH_ready (rs := [7]) (by kernel_rfl) (by simp) ?_
          refine AllReadyH.cons rfl (fun K hK => ?_) AllReadyH.nil
          obtain ⟨z0, z1, z2, z3, z4⟩ := k2.two
          go_simp
          have k2_ := k2.set2 (.bool bb2) (.slice A2 p2 d2)
          have k1_ := (k1.far (p := ⟨g2, 0, none⟩) (by simp; omega) (.bool bb2)).far (p := ⟨g2, 1, none⟩) (by simp; omega) (.slice A2 p2 d2)
          have hn1_ := (hn1.setCell (q := ⟨g2, 0, none⟩) k2.typed (.bool bb2)).setCell (q := ⟨g2, 1, none⟩) (k2.typed.setCell _ _) (.slice A2 p2 d2)
          have hn2_ := (hn2.setCell (q := ⟨g2, 0, none⟩) k2.typed (.bool bb2)).setCell (q := ⟨g2, 1, none⟩) (k2.typed.setCell _ _) (.slice A2 p2 d2)
          have hB_ := (hB.setCell (p := ⟨g2, 0, none⟩) hg2 (.bool bb2)).setCell (p := ⟨g2, 1, none⟩) hg2 (.slice A2 p2 d2)
          clear z0 z1 z2 z3 z4 hB k1 k2 hn1 hn2
          generalize (wn52.setCell ⟨g2, 0, none⟩ (.bool bb2)).setCell ⟨g2, 1, none⟩ (.slice A2 p2 d2) = wn53 at *
          have k1 := k1_
          clear k1_
          have k2 := k2_
          clear k2_
          have hn1 := hn1_
          clear hn1_
          have hn2 := hn2_
          clear hn2_
          have hB := hB_
          clear hB_
          refine hK.out _ _ hB (fun hHeld => ?_)
          clear hK K hHeld
          try simp only [List.getElem_toArray, List.getElem_cons_succ, List.getElem_cons_zero, Act.put, List.setIfInBounds_toArray, List.set_cons_zero, List.set_cons_succ]
          refine wpAnyH_done (by kernel_rfl) ?_ _
          refine NoPanic.normal ?_
          go_wp2_with fail
          go_meet
          exact ⟨_, _, rfl, rfl, _, _, _, _, _, _, _, _, k1, k2, hn1, hn2, hB⟩
      · go_simp
        have k1_ := Blk.new wn44 28 #[.bool false, .slice none 0 0]
        have k2_ := k2.alloc (.cells #[.bool false, .slice none 0 0] 28)
        have hne : g2 < wn44.heap.size := k2.lt
        have hg1 : w1.heap.size ≤ wn44.heap.size := hB.size
        have hB_ := below_alloc hB (Nat.le_refl _) (.cells #[.bool false, .slice none 0 0] 28)
        clear hB k2
        generalize wn44.alloc (.cells #[.bool false, .slice none 0 0] 28) = wn54 at *
        generalize wn44.heap.size = g1 at *
        have k2 := k2_
        clear k2_
        have k1 := k1_
        clear k1_
        have hB := hB_
        clear hB_
        refine hK.out _ _ hB (fun hHeld => ?_)
        clear hK K hHeld
        try simp only [List.getElem_toArray, List.getElem_cons_succ, List.getElem_cons_zero, Act.put, List.setIfInBounds_toArray, List.set_cons_zero, List.set_cons_succ]
        refine wpAnyH_ready (rs := [1]) (by kernel_rfl) (by simp) ?_
        refine AllReadyH.cons rfl (fun K hK => ?_) AllReadyH.nil
        go_simp
        refine (HOX.out _).mono ?_
        rintro e wn55 ⟨bb1, A1, p1, d1, rfl, hn1, hc55⟩
        have k2_ := k2.under hc55
        have k1_ := k1.under hc55
        have hB_ := below_two hB hc55
        clear hc55 hB k2 k1
        have k2 := k2_
        clear k2_
        have k1 := k1_
        clear k1_
        have hB := hB_
        clear hB_
        refine hK.out _ _ hB (fun hHeld => ?_)
        clear hK K hHeld
        try simp only [List.getElem_toArray, List.getElem_cons_succ, List.getElem_cons_zero, Act.put, List.setIfInBounds_toArray, List.set_cons_zero, List.set_cons_succ]
        refine wpAnyH_ready (rs := [3]) (by kernel_rfl) (by simp) ?_
        refine AllReadyH.cons rfl (fun K hK => ?_) AllReadyH.nil
        go_simp
        refine (HOY.out _).mono ?_
        rintro e wn56 ⟨bb2, A2, p2, d2, rfl, hn2, hc56⟩
        have k2_ := k2.under hc56
        have k1_ := k1.under hc56
        have hn1_ := hn1.below hc56
        have hB_ := below_two hB hc56
        clear hc56 hB k2 k1 hn1
        have k2 := k2_
        clear k2_
        have k1 := k1_
        clear k1_
        have hn1 := hn1_
        clear hn1_
        have hB := hB_
        clear hB_
        refine hK.out _ _ hB (fun hHeld => ?_)
        clear hK K hHeld
        try simp only [List.getElem_toArray, List.getElem_cons_succ, List.getElem_cons_zero, Act.put, List.setIfInBounds_toArray, List.set_cons_zero, List.set_cons_succ]
        refine wpAnyH_ready (rs := [6]) (by kernel_rfl) (by simp) ?_
        refine AllReadyH.cons rfl (fun K hK => ?_) AllReadyH.nil
        obtain ⟨z0, z1, z2, z3, z4⟩ := k1.two
        go_simp
        have k1_ := k1.set2 (.bool bb1) (.slice A1 p1 d1)
        have k2_ := (k2.far (p := ⟨g1, 0, none⟩) (by simp; omega) (.bool bb1)).far (p := ⟨g1, 1, none⟩) (by simp; omega) (.slice A1 p1 d1)
        have hn1_ := (hn1.setCell (q := ⟨g1, 0, none⟩) k1.typed (.bool bb1)).setCell (q := ⟨g1, 1, none⟩) (k1.typed.setCell _ _) (.slice A1 p1 d1)
        have hn2_ := (hn2.setCell (q := ⟨g1, 0, none⟩) k1.typed (.bool bb1)).setCell (q := ⟨g1, 1, none⟩) (k1.typed.setCell _ _) (.slice A1 p1 d1)
        have hB_ := (hB.setCell (p := ⟨g1, 0, none⟩) hg1 (.bool bb1)).setCell (p := ⟨g1, 1, none⟩) hg1 (.slice A1 p1 d1)
        clear z0 z1 z2 z3 z4 hB k1 k2 hn1 hn2
        generalize (wn56.setCell ⟨g1, 0, none⟩ (.bool bb1)).setCell ⟨g1, 1, none⟩ (.slice A1 p1 d1) = wn57 at *
        have k1 := k1_
        clear k1_
        have k2 := k2_
        clear k2_
        have hn1 := hn1_
        clear hn1_
        have hn2 := hn2_
        clear hn2_
        have hB := hB_
        clear hB_
        refine hK.out _ _ hB (fun hHeld => ?_)
        clear hK K hHeld
        try simp only [List.getElem_toArray, List.getElem_cons_succ, List.getElem_cons_zero, Act.put, List.setIfInBounds_toArray, List.set_cons_zero, List.set_cons_succ]
        refine wpAnyH_ready (rs := [7]) (by kernel_rfl) (by simp) ?_
        refine AllReadyH.cons rfl (fun K hK => ?_) AllReadyH.nil
        obtain ⟨z0, z1, z2, z3, z4⟩ := k2.two
        go_simp
        have k2_ := k2.set2 (.bool bb2) (.slice A2 p2 d2)
        have k1_ := (k1.far (p := ⟨g2, 0, none⟩) (by simp; omega) (.bool bb2)).far (p := ⟨g2, 1, none⟩) (by simp; omega) (.slice A2 p2 d2)
        have hn1_ := (hn1.setCell (q := ⟨g2, 0, none⟩) k2.typed (.bool bb2)).setCell (q := ⟨g2, 1, none⟩) (k2.typed.setCell _ _) (.slice A2 p2 d2)
        have hn2_ := (hn2.setCell (q := ⟨g2, 0, none⟩) k2.typed (.bool bb2)).setCell (q := ⟨g2, 1, none⟩) (k2.typed.setCell _ _) (.slice A2 p2 d2)
        have hB_ := (hB.setCell (p := ⟨g2, 0, none⟩) hg2 (.bool bb2)).setCell (p := ⟨g2, 1, none⟩) hg2 (.slice A2 p2 d2)
        clear z0 z1 z2 z3 z4 hB k1 k2 hn1 hn2
        generalize (wn57.setCell ⟨g2, 0, none⟩ (.bool bb2)).setCell ⟨g2, 1, none⟩ (.slice A2 p2 d2) = wn58 at *
        have k1 := k1_
        clear k1_
        have k2 := k2_
        clear k2_
        have hn1 := hn1_
        clear hn1_
        have hn2 := hn2_
        clear hn2_
        have hB := hB_
        clear hB_
        refine hK.out _ _ hB (fun hHeld => ?_)
        clear hK K hHeld
        try simp only [List.getElem_toArray, List.getElem_cons_succ, List.getElem_cons_zero, Act.put, List.setIfInBounds_toArray, List.set_cons_zero, List.set_cons_succ]
        refine wpAnyH_done (by kernel_rfl) ?_ _
        refine NoPanic.normal ?_
        go_wp2_with fail
        go_meet
        exact ⟨_, _, rfl, rfl, _, _, _, _, _, _, _, _, k1, k2, hn1, hn2, hB⟩
  case rest =>
    obtain ⟨g1, g2, rfl, rfl, b1, A1, p1, d1, b2, A2, p2, d2, k1, k2, hn1, hn2, hB⟩ := hcut
    have ka := ka1.under hB
    have kb := kb1.under hB
    have hw := below_two hw1 hB
    clear ka1 kb1 hw1 hB HOX HOY
    have hl1 : p1 ≤ 100000 := num_len hn1 (by have := HIN.out; omega)
    have hl2 : p2 ≤ 100000 := num_len hn2 (by have := HIN.out; omega)
    have HL1 := hid hl1
    have HL2 := hid hl2
    clear hl1 hl2
    obtain ⟨cka0_11, cka1_11, cka2_11, cka3_11, cka4_11⟩ := ka.two
    obtain ⟨ckb0_11, ckb1_11, ckb2_11, ckb3_11, ckb4_11⟩ := kb.two
    obtain ⟨ck10_11, ck11_11, ck12_11, ck13_11, ck14_11⟩ := k1.two
    obtain ⟨ck20_11, ck21_11, ck22_11, ck23_11, ck24_11⟩ := k2.two
    go_wp2_with fail
    clear cka0_11 cka1_11 cka2_11 cka3_11 cka4_11 ckb0_11 ckb1_11 ckb2_11 ckb3_11 ckb4_11 ck10_11 ck11_11 ck12_11 ck13_11 ck14_11 ck20_11 ck21_11 ck22_11 ck23_11 ck24_11
    refine (Less_c hn1 hn2 (Nat.le_trans HL1.out (by decide)) (Nat.le_trans HL2.out (by decide))).mono ?_
    rintro e w11 ⟨rfl, hb11⟩
    have ka := ka.under hb11
    have kb := kb.under hb11
    have k1 := k1.under hb11
    have k2 := k2.under hb11
    have hn1 := hn1.below hb11
    have hn2 := hn2.below hb11
    have hw := below_two hw hb11
    clear hb11
    obtain ⟨cka0_12, cka1_12, cka2_12, cka3_12, cka4_12⟩ := ka.two
    obtain ⟨ckb0_12, ckb1_12, ckb2_12, ckb3_12, ckb4_12⟩ := kb.two
    obtain ⟨ck10_12, ck11_12, ck12_12, ck13_12, ck14_12⟩ := k1.two
    obtain ⟨ck20_12, ck21_12, ck22_12, ck23_12, ck24_12⟩ := k2.two
    go_upto_if 28 with fail
    clear cka0_12 cka1_12 cka2_12 cka3_12 cka4_12 ckb0_12 ckb1_12 ckb2_12 ckb3_12 ckb4_12 ck10_12 ck11_12 ck12_12 ck13_12 ck14_12 ck20_12 ck21_12 ck22_12 ck23_12 ck24_12
    go_cut [9] (fun u9 wx => u9 = .int .i64 o1 ∧ wx = w11)
    case first =>
      by_cases hlt : X < Y
      · go_wp2_with fail
        go_meet
        exact ⟨by rw [HO1.out.1 hlt], rfl⟩
      · go_wp2_with fail
        go_meet
        exact ⟨by rw [HO1.out.2 hlt], rfl⟩
    case rest =>
      obtain ⟨rfl, rfl⟩ := hcut
      obtain ⟨cka0_13, cka1_13, cka2_13, cka3_13, cka4_13⟩ := ka.two
      obtain ⟨ckb0_13, ckb1_13, ckb2_13, ckb3_13, ckb4_13⟩ := kb.two
      obtain ⟨ck10_13, ck11_13, ck12_13, ck13_13, ck14_13⟩ := k1.two
      obtain ⟨ck20_13, ck21_13, ck22_13, ck23_13, ck24_13⟩ := k2.two
      go_wp2_with fail
      clear cka0_13 cka1_13 cka2_13 cka3_13 cka4_13 ckb0_13 ckb1_13 ckb2_13 ckb3_13 ckb4_13 ck10_13 ck11_13 ck12_13 ck13_13 ck14_13 ck20_13 ck21_13 ck22_13 ck23_13 ck24_13
      refine (Less_c hn2 hn1 (Nat.le_trans HL2.out (by decide)) (Nat.le_trans HL1.out (by decide))).mono ?_
      rintro e w13 ⟨rfl, hb13⟩
      have ka := ka.under hb13
      have kb := kb.under hb13
      have k1 := k1.under hb13
      have k2 := k2.under hb13
      have hn1 := hn1.below hb13
      have hn2 := hn2.below hb13
      have hw := below_two hw hb13
      clear hb13
      obtain ⟨cka0_14, cka1_14, cka2_14, cka3_14, cka4_14⟩ := ka.two
      obtain ⟨ckb0_14, ckb1_14, ckb2_14, ckb3_14, ckb4_14⟩ := kb.two
      obtain ⟨ck10_14, ck11_14, ck12_14, ck13_14, ck14_14⟩ := k1.two
      obtain ⟨ck20_14, ck21_14, ck22_14, ck23_14, ck24_14⟩ := k2.two
      go_upto_if 31 with fail
      clear cka0_14 cka1_14 cka2_14 cka3_14 cka4_14 ckb0_14 ckb1_14 ckb2_14 ckb3_14 ckb4_14 ck10_14 ck11_14 ck12_14 ck13_14 ck14_14 ck20_14 ck21_14 ck22_14 ck23_14 ck24_14
      go_cut [9] (fun u9 wx => u9 = .int .i64 c ∧ wx = w13)
      case first =>
        by_cases hlt : Y < X
        · go_wp2_with fail
          go_meet
          exact ⟨by rw [HO2.out.1 hlt], rfl⟩
        · go_wp2_with fail
          go_meet
          exact ⟨by rw [HO2.out.2 hlt], rfl⟩
      case rest =>
        obtain ⟨rfl, rfl⟩ := hcut
        clear HO1 HO2
        obtain ⟨cka0_15, cka1_15, cka2_15, cka3_15, cka4_15⟩ := ka.two
        obtain ⟨ckb0_15, ckb1_15, ckb2_15, ckb3_15, ckb4_15⟩ := kb.two
        obtain ⟨ck10_15, ck11_15, ck12_15, ck13_15, ck14_15⟩ := k1.two
        obtain ⟨ck20_15, ck21_15, ck22_15, ck23_15, ck24_15⟩ := k2.two
        go_wp2_with fail
        clear cka0_15 cka1_15 cka2_15 cka3_15 cka4_15 ckb0_15 ckb1_15 ckb2_15 ckb3_15 ckb4_15 ck10_15 ck11_15 ck12_15 ck13_15 ck14_15 ck20_15 ck21_15 ck22_15 ck23_15 ck24_15
        refine (HVAL.out _ _ _ _ _ hn1 (Nat.le_trans HL1.out (by decide))).mono ?_
        rintro e w15 ⟨rfl, hb15⟩
        have ka := ka.under hb15
        have kb := kb.under hb15
        have k1 := k1.under hb15
        have k2 := k2.under hb15
        have hn1 := hn1.below hb15
        have hn2 := hn2.below hb15
        have hw := below_two hw hb15
        clear hb15
        obtain ⟨cka0_16, cka1_16, cka2_16, cka3_16, cka4_16⟩ := ka.two
        obtain ⟨ckb0_16, ckb1_16, ckb2_16, ckb3_16, ckb4_16⟩ := kb.two
        obtain ⟨ck10_16, ck11_16, ck12_16, ck13_16, ck14_16⟩ := k1.two
        obtain ⟨ck20_16, ck21_16, ck22_16, ck23_16, ck24_16⟩ := k2.two
        go_wp2_with fail
        clear cka0_16 cka1_16 cka2_16 cka3_16 cka4_16 ckb0_16 ckb1_16 ckb2_16 ckb3_16 ckb4_16 ck10_16 ck11_16 ck12_16 ck13_16 ck14_16 ck20_16 ck21_16 ck22_16 ck23_16 ck24_16
        refine (HINT.out _).mono ?_
        rintro e w16 ⟨rfl, hb16⟩
        have ka := ka.under hb16
        have kb := kb.under hb16
        have k1 := k1.under hb16
        have k2 := k2.under hb16
        have hn1 := hn1.below hb16
        have hn2 := hn2.below hb16
        have hw := below_two hw hb16
        clear hb16
        obtain ⟨cka0_17, cka1_17, cka2_17, cka3_17, cka4_17⟩ := ka.two
        obtain ⟨ckb0_17, ckb1_17, ckb2_17, ckb3_17, ckb4_17⟩ := kb.two
        obtain ⟨ck10_17, ck11_17, ck12_17, ck13_17, ck14_17⟩ := k1.two
        obtain ⟨ck20_17, ck21_17, ck22_17, ck23_17, ck24_17⟩ := k2.two
        go_upto_region 11 with fail
        go_cut [65] (fun u65 wx => u65 = .bool false ∧ Below w16.heap.size w16 wx)
        case first =>
          rcases HEV.out with ⟨rfl, rfl⟩ | ⟨rfl, rfl⟩
          all_goals
            go_wp2_with fail
            refine (HCM.out _).mono ?_
            rintro e wq ⟨rfl, hbq⟩
            go_wp2_with fail
            go_meet
            exact ⟨rfl, hbq⟩
        case rest =>
          clear cka0_17 cka1_17 cka2_17 cka3_17 cka4_17 ckb0_17 ckb1_17 ckb2_17 ckb3_17 ckb4_17 ck10_17 ck11_17 ck12_17 ck13_17 ck14_17 ck20_17 ck21_17 ck22_17 ck23_17 ck24_17
          obtain ⟨rfl, hbc⟩ := hcut
          have ka := ka.under hbc
          have kb := kb.under hbc
          have k1 := k1.under hbc
          have k2 := k2.under hbc
          have hn1 := hn1.below hbc
          have hn2 := hn2.below hbc
          have hw := below_two hw hbc
          clear hbc
          clear HVAL HINT HCM
          by_cases hm : m < 1
          · have HD := hid (HDB.out hm)
            have tt : decide (m < 1) = true := decide_eq_true hm
            clear hm
            obtain ⟨cka0_18, cka1_18, cka2_18, cka3_18, cka4_18⟩ := ka.two
            obtain ⟨ckb0_18, ckb1_18, ckb2_18, ckb3_18, ckb4_18⟩ := kb.two
            obtain ⟨ck10_18, ck11_18, ck12_18, ck13_18, ck14_18⟩ := k1.two
            obtain ⟨ck20_18, ck21_18, ck22_18, ck23_18, ck24_18⟩ := k2.two
            go_wp2_with fail
            clear cka0_18 cka1_18 cka2_18 cka3_18 cka4_18 ckb0_18 ckb1_18 ckb2_18 ckb3_18 ckb4_18 ck10_18 ck11_18 ck12_18 ck13_18 ck14_18 ck20_18 ck21_18 ck22_18 ck23_18 ck24_18
            refine (HD.out _).mono ?_
            rintro e w18 ⟨rfl, hb18⟩
            have ka := ka.under hb18
            have kb := kb.under hb18
            have k1 := k1.under hb18
            have k2 := k2.under hb18
            have hn1 := hn1.below hb18
            have hn2 := hn2.below hb18
            have hw := below_two hw hb18
            clear hb18
            obtain ⟨cka0_18, cka1_18, cka2_18, cka3_18, cka4_18⟩ := ka.two
            obtain ⟨ckb0_18, ckb1_18, ckb2_18, ckb3_18, ckb4_18⟩ := kb.two
            obtain ⟨ck10_18, ck11_18, ck12_18, ck13_18, ck14_18⟩ := k1.two
            obtain ⟨ck20_18, ck21_18, ck22_18, ck23_18, ck24_18⟩ := k2.two
            go_wp2
            have hw := below_alloc hw (Nat.le_refl _) (oW 0 0)
            go_ret
            exact ⟨rfl, hw⟩
          · obtain ⟨mm, rfl⟩ : ∃ mm : Nat, m = (mm : Int) := ⟨m.toNat, by omega⟩
            have HD := hid (HDV.out (by omega))
            have HIM := hid (fun w => int_c (mm : Int) w (by omega) (by have := HIN.out; omega))
            have HMP := hid (show 0 < mm by omega)
            have hr : in64 (X % (mm : Int)) := by have h1 := Int.emod_nonneg X (show (mm : Int) ≠ 0 by omega); have h2 := Int.emod_lt_of_pos X (show (0 : Int) < mm by omega); have h3 := HIN.out; omega
            have HRV := hid (fun w b A p c (h : NumIs w (X % (mm : Int)) b A p c) hp => value_in hr h hp)
            have HTQ := hid (tw_yes (quo_in HIN.out.1 (show (1 : Int) ≤ mm by omega)))
            have HLR := hid (show -(2 ^ 512 : Int) ≤ X % (mm : Int) ∧ X % (mm : Int) ≤ 2 ^ 512 by omega)
            have HLQ := hid (show -(2 ^ 512 : Int) ≤ X / (mm : Int) ∧ X / (mm : Int) ≤ 2 ^ 512 by have h3 := quo_in HIN.out.1 (show (1 : Int) ≤ mm by omega); omega)
            have HLM := hid (show -(2 ^ 512 : Int) ≤ (mm : Int) ∧ (mm : Int) ≤ 2 ^ 512 by have h3 := HIN.out; omega)
            have HDIV := hid (fun (w : World) b A p c d B r f (h : NumIs w X b A p c) (k : NumIs w (mm : Int) d B r f) (hp : p ≤ 100000) (hr : r ≤ 100000) => Div_c h k HMP.out hp hr)
            have tt : decide ((mm : Int) < 1) = false := decide_eq_false hm
            clear hm hr
            unfold RetN2 at HDIV
            generalize hiW (X / (mm : Int)) = qh at *
            generalize loW (X / (mm : Int)) = ql at *
            generalize X / (mm : Int) = qn at *
            generalize X % (mm : Int) = rn at *
            obtain ⟨cka0_18, cka1_18, cka2_18, cka3_18, cka4_18⟩ := ka.two
            obtain ⟨ckb0_18, ckb1_18, ckb2_18, ckb3_18, ckb4_18⟩ := kb.two
            obtain ⟨ck10_18, ck11_18, ck12_18, ck13_18, ck14_18⟩ := k1.two
            obtain ⟨ck20_18, ck21_18, ck22_18, ck23_18, ck24_18⟩ := k2.two
            go_wp2_with fail
            clear cka0_18 cka1_18 cka2_18 cka3_18 cka4_18 ckb0_18 ckb1_18 ckb2_18 ckb3_18 ckb4_18 ck10_18 ck11_18 ck12_18 ck13_18 ck14_18 ck20_18 ck21_18 ck22_18 ck23_18 ck24_18
            refine (HD.out _).mono ?_
            rintro e w18 ⟨rfl, hb18⟩
            have ka := ka.under hb18
            have kb := kb.under hb18
            have k1 := k1.under hb18
            have k2 := k2.under hb18
            have hn1 := hn1.below hb18
            have hn2 := hn2.below hb18
            have hw := below_two hw hb18
            clear hb18
            obtain ⟨cka0_19, cka1_19, cka2_19, cka3_19, cka4_19⟩ := ka.two
            obtain ⟨ckb0_19, ckb1_19, ckb2_19, ckb3_19, ckb4_19⟩ := kb.two
            obtain ⟨ck10_19, ck11_19, ck12_19, ck13_19, ck14_19⟩ := k1.two
            obtain ⟨ck20_19, ck21_19, ck22_19, ck23_19, ck24_19⟩ := k2.two
            go_upto_region 16 with fail
            clear cka0_19 cka1_19 cka2_19 cka3_19 cka4_19 ckb0_19 ckb1_19 ckb2_19 ckb3_19 ckb4_19 ck10_19 ck11_19 ck12_19 ck13_19 ck14_19 ck20_19 ck21_19 ck22_19 ck23_19 ck24_19
            have ka_ := ka.alloc (oW qh ql)
            have kb_ := kb.alloc (oW qh ql)
            have k1_ := k1.alloc (oW qh ql)
            have k2_ := k2.alloc (oW qh ql)
            have hn1_ := hn1.alloc (oW qh ql)
            have hn2_ := hn2.alloc (oW qh ql)
            have kq_ := Blk.new w18 24 #[.int .i64 qh, .int .u64 ql]
            have hw_ := below_alloc hw (Nat.le_refl _) (oW qh ql)
            clear ka kb k1 k2 hn1 hn2 hw
            generalize w18.heap.size = gkq at *
            generalize w18.alloc (oW qh ql) = wa19 at *
            have ka := ka_
            clear ka_
            have kb := kb_
            clear kb_
            have k1 := k1_
            clear k1_
            have k2 := k2_
            clear k2_
            have kq := kq_
            clear kq_
            have hn1 := hn1_
            clear hn1_
            have hn2 := hn2_
            clear hn2_
            have hw := hw_
            clear hw_
            have hwz := hw
            go_cut [16, 17] (fun u16 u17 wx => ∃ g1 g2 : Nat, u16 = .pointer (some ⟨g1, 0, none⟩) ∧ u17 = .pointer (some ⟨g2, 0, none⟩) ∧ ∃ b1 A1 p1 d1 b2 A2 p2 d2, Blk wx g1 28 #[.bool b1, .slice A1 p1 d1] ∧ Blk wx g2 28 #[.bool b2, .slice A2 p2 d2] ∧ NumIs wx qn b1 A1 p1 d1 ∧ NumIs wx rn b2 A2 p2 d2 ∧ Below wa19.heap.size wa19 wx)
            case first =>
              refine wp_region_noPanic ?_
              refine wp_region_held_drew (S := (fun w' => Below wa19.heap.size wa19 w')) (by kernel_rfl) (Below.refl wa19.heap.size wa19).drew (fun hHeld => ?_)
              refine wpAnyH_take (i := 0) (v := ?_) rfl (by kernel_rfl) (by kernel_rfl) (by kernel_rfl) (fun _ _ _ h => h) (Or.inl ⟨by rfl, ?_⟩) (by assumption) ?_
              rotate_left
              · intro W hW
                have kx := k1.under hW
                obtain ⟨z0, z1, z2, z3, z4⟩ := kx.two
                go_simp
                try rfl
              simp only [List.getElem_toArray, List.getElem_cons_zero, Act.put, List.setIfInBounds_toArray, List.set_cons_zero, List.set_cons_succ]
              refine wpAnyH_take (i := 1) (v := ?_) rfl (by kernel_rfl) (by kernel_rfl) (by kernel_rfl) (fun _ _ _ h => h) (Or.inl ⟨by rfl, ?_⟩) (by assumption) ?_
              rotate_left
              · intro W hW
                go_simp
                try rfl
              simp only [List.getElem_toArray, List.getElem_cons_succ, List.getElem_cons_zero, Act.put, List.setIfInBounds_toArray, List.set_cons_zero, List.set_cons_succ]
              clear hHeld
              have hB : Below wa19.heap.size wa19 wa19.drew := (Below.refl wa19.heap.size wa19).drew
              have hnx := hn1.drew
              clear hn1 hn2
              generalize wa19.drew = wd at *
              refine wpAnyH_ready (rs := [2, 7, 8]) (by kernel_rfl) (by simp) ?_
              refine AllReadyH.cons rfl (fun K hK => ?_) (AllReadyH.cons rfl (fun K hK => ?_) (AllReadyH.cons rfl (fun K hK => ?_) AllReadyH.nil))
              · go_simp
                refine (HIM.out _).mono ?_
                rintro e wn1 ⟨bm, Am, pm, dm, rfl, hnm, hc1⟩
                have hnx_ := hnx.below hc1
                have hB_ := below_two hB hc1
                clear hc1 hB hnx
                have hnx := hnx_
                clear hnx_
                have hB := hB_
                clear hB_
                refine hK.out _ _ hB (fun hHeld => ?_)
                clear hK K hHeld
                try simp only [List.getElem_toArray, List.getElem_cons_succ, List.getElem_cons_zero, Act.put, List.setIfInBounds_toArray, List.set_cons_zero, List.set_cons_succ]
                refine wpAnyH_ready (rs := [3, 7, 8]) (by kernel_rfl) (by simp) ?_
                refine AllReadyH.cons rfl (fun K hK => ?_) (AllReadyH.cons rfl (fun K hK => ?_) (AllReadyH.cons rfl (fun K hK => ?_) AllReadyH.nil))
                · go_simp
                  refine (HDIV.out _ _ _ _ _ _ _ _ _ hnx hnm HL1.out (num_len hnm HLM.out)).mono ?_
                  rintro e wn2 ⟨bb1, A1, p1, d1, bb2, A2, p2, d2, rfl, hn1, hn2, hc2⟩
                  clear hnx
                  clear hnm
                  have hB_ := below_two hB hc2
                  clear hc2 hB 
                  have hB := hB_
                  clear hB_
                  refine hK.out _ _ hB (fun hHeld => ?_)
                  clear hK K hHeld
                  try simp only [List.getElem_toArray, List.getElem_cons_succ, List.getElem_cons_zero, Act.put, List.setIfInBounds_toArray, List.set_cons_zero, List.set_cons_succ]
                  refine wpAnyH_take (i := 4) (v := ?_) rfl (by kernel_rfl) (by kernel_rfl) (by kernel_rfl) (fun _ _ _ h => h) (Or.inl ⟨by rfl, ?_⟩) (by assumption) ?_
                  rotate_left
                  · intro W hW
                    go_simp
                    try rfl
                  simp only [List.getElem_toArray, List.getElem_cons_succ, List.getElem_cons_zero, Act.put, List.setIfInBounds_toArray, List.set_cons_zero, List.set_cons_succ]
                  refine wpAnyH_take (i := 5) (v := ?_) rfl (by kernel_rfl) (by kernel_rfl) (by kernel_rfl) (fun _ _ _ h => h) (Or.inl ⟨by rfl, ?_⟩) (by assumption) ?_
                  rotate_left
                  · intro W hW
                    go_simp
                    try rfl
                  simp only [List.getElem_toArray, List.getElem_cons_succ, List.getElem_cons_zero, Act.put, List.setIfInBounds_toArray, List.set_cons_zero, List.set_cons_succ]
                  refine wpAnyH_take (i := 6) (v := ?_) rfl (by kernel_rfl) (by kernel_rfl) (by kernel_rfl) (fun _ _ _ h => h) (Or.inl ⟨by rfl, ?_⟩) (by assumption) ?_
                  rotate_left
                  · intro W hW
                    go_simp
                    try rfl
                  simp only [List.getElem_toArray, List.getElem_cons_succ, List.getElem_cons_zero, Act.put, List.setIfInBounds_toArray, List.set_cons_zero, List.set_cons_succ]
                  skip
                  refine wpAnyH_ready (rs := [7, 8]) (by kernel_rfl) (by simp) ?_
                  refine AllReadyH.cons rfl (fun K hK => ?_) (AllReadyH.cons rfl (fun K hK => ?_) AllReadyH.nil)
                  · go_simp
                    have k1_ := Blk.new wn2 28 #[.bool false, .slice none 0 0]
                    have hn1_ := hn1.alloc (.cells #[.bool false, .slice none 0 0] 28)
                    have hn2_ := hn2.alloc (.cells #[.bool false, .slice none 0 0] 28)
                    have hg1 : wa19.heap.size ≤ wn2.heap.size := hB.size
                    have hB_ := below_alloc hB (Nat.le_refl _) (.cells #[.bool false, .slice none 0 0] 28)
                    clear hB hn1 hn2
                    generalize wn2.alloc (.cells #[.bool false, .slice none 0 0] 28) = wn3 at *
                    generalize wn2.heap.size = g1 at *
                    have hn1 := hn1_
                    clear hn1_
                    have hn2 := hn2_
                    clear hn2_
                    have k1 := k1_
                    clear k1_
                    have hB := hB_
                    clear hB_
                    refine hK.out _ _ hB (fun hHeld => ?_)
                    clear hK K hHeld
                    try simp only [List.getElem_toArray, List.getElem_cons_succ, List.getElem_cons_zero, Act.put, List.setIfInBounds_toArray, List.set_cons_zero, List.set_cons_succ]
                    refine wpAnyH_ready (rs := [8]) (by kernel_rfl) (by simp) ?_
                    refine AllReadyH.cons rfl (fun K hK => ?_) AllReadyH.nil
                    go_simp
                    have k2_ := Blk.new wn3 28 #[.bool false, .slice none 0 0]
                    have hn1_ := hn1.alloc (.cells #[.bool false, .slice none 0 0] 28)
                    have hn2_ := hn2.alloc (.cells #[.bool false, .slice none 0 0] 28)
                    have k1_ := k1.alloc (.cells #[.bool false, .slice none 0 0] 28)
                    have hne : g1 < wn3.heap.size := k1.lt
                    have hg2 : wa19.heap.size ≤ wn3.heap.size := hB.size
                    have hB_ := below_alloc hB (Nat.le_refl _) (.cells #[.bool false, .slice none 0 0] 28)
                    clear hB hn1 hn2 k1
                    generalize wn3.alloc (.cells #[.bool false, .slice none 0 0] 28) = wn4 at *
                    generalize wn3.heap.size = g2 at *
                    have hn1 := hn1_
                    clear hn1_
                    have hn2 := hn2_
                    clear hn2_
                    have k1 := k1_
                    clear k1_
                    have k2 := k2_
                    clear k2_
                    have hB := hB_
                    clear hB_
                    refine hK.out _ _ hB (fun hHeld => ?_)
                    clear hK K hHeld
                    try simp only [List.getElem_toArray, List.getElem_cons_succ, List.getElem_cons_zero, Act.put, List.setIfInBounds_toArray, List.set_cons_zero, List.set_cons_succ]
                    refine wpAnyH_ready (rs := [9]) (by kernel_rfl) (by simp) ?_
                    refine AllReadyH.cons rfl (fun K hK => ?_) AllReadyH.nil
                    obtain ⟨z0, z1, z2, z3, z4⟩ := k1.two
                    go_simp
                    have k1_ := k1.set2 (.bool bb1) (.slice A1 p1 d1)
                    have k2_ := (k2.far (p := ⟨g1, 0, none⟩) (by simp; omega) (.bool bb1)).far (p := ⟨g1, 1, none⟩) (by simp; omega) (.slice A1 p1 d1)
                    have hn1_ := (hn1.setCell (q := ⟨g1, 0, none⟩) k1.typed (.bool bb1)).setCell (q := ⟨g1, 1, none⟩) (k1.typed.setCell _ _) (.slice A1 p1 d1)
                    have hn2_ := (hn2.setCell (q := ⟨g1, 0, none⟩) k1.typed (.bool bb1)).setCell (q := ⟨g1, 1, none⟩) (k1.typed.setCell _ _) (.slice A1 p1 d1)
                    have hB_ := (hB.setCell (p := ⟨g1, 0, none⟩) hg1 (.bool bb1)).setCell (p := ⟨g1, 1, none⟩) hg1 (.slice A1 p1 d1)
                    clear z0 z1 z2 z3 z4 hB k1 k2 hn1 hn2
                    generalize (wn4.setCell ⟨g1, 0, none⟩ (.bool bb1)).setCell ⟨g1, 1, none⟩ (.slice A1 p1 d1) = wn5 at *
                    have k1 := k1_
                    clear k1_
                    have k2 := k2_
                    clear k2_
                    have hn1 := hn1_
                    clear hn1_
                    have hn2 := hn2_
                    clear hn2_
                    have hB := hB_
                    clear hB_
                    refine hK.out _ _ hB (fun hHeld => ?_)
                    clear hK K hHeld
                    try simp only [List.getElem_toArray, List.getElem_cons_succ, List.getElem_cons_zero, Act.put, List.setIfInBounds_toArray, List.set_cons_zero, List.set_cons_succ]
                    refine wpAnyH_ready (rs := [10]) (by kernel_rfl) (by simp) ?_
                    refine AllReadyH.cons rfl (fun K hK => ?_) AllReadyH.nil
                    obtain ⟨z0, z1, z2, z3, z4⟩ := k2.two
                    go_simp
                    have k2_ := k2.set2 (.bool bb2) (.slice A2 p2 d2)
                    have k1_ := (k1.far (p := ⟨g2, 0, none⟩) (by simp; omega) (.bool bb2)).far (p := ⟨g2, 1, none⟩) (by simp; omega) (.slice A2 p2 d2)
                    have hn1_ := (hn1.setCell (q := ⟨g2, 0, none⟩) k2.typed (.bool bb2)).setCell (q := ⟨g2, 1, none⟩) (k2.typed.setCell _ _) (.slice A2 p2 d2)
                    have hn2_ := (hn2.setCell (q := ⟨g2, 0, none⟩) k2.typed (.bool bb2)).setCell (q := ⟨g2, 1, none⟩) (k2.typed.setCell _ _) (.slice A2 p2 d2)
                    have hB_ := (hB.setCell (p := ⟨g2, 0, none⟩) hg2 (.bool bb2)).setCell (p := ⟨g2, 1, none⟩) hg2 (.slice A2 p2 d2)
                    clear z0 z1 z2 z3 z4 hB k1 k2 hn1 hn2
                    generalize (wn5.setCell ⟨g2, 0, none⟩ (.bool bb2)).setCell ⟨g2, 1, none⟩ (.slice A2 p2 d2) = wn6 at *
                    have k1 := k1_
                    clear k1_
                    have k2 := k2_
                    clear k2_
                    have hn1 := hn1_
                    clear hn1_
                    have hn2 := hn2_
                    clear hn2_
                    have hB := hB_
                    clear hB_
                    refine hK.out _ _ hB (fun hHeld => ?_)
                    clear hK K hHeld
                    try simp only [List.getElem_toArray, List.getElem_cons_succ, List.getElem_cons_zero, Act.put, List.setIfInBounds_toArray, List.set_cons_zero, List.set_cons_succ]
                    refine wpAnyH_done (by kernel_rfl) ?_ _
                    refine NoPanic.normal ?_
                    go_wp2_with fail
                    go_meet
                    exact ⟨_, _, rfl, rfl, _, _, _, _, _, _, _, _, k1, k2, hn1, hn2, hB⟩
                  · go_simp
                    have k2_ := Blk.new wn2 28 #[.bool false, .slice none 0 0]
                    have hn1_ := hn1.alloc (.cells #[.bool false, .slice none 0 0] 28)
                    have hn2_ := hn2.alloc (.cells #[.bool false, .slice none 0 0] 28)
                    have hg2 : wa19.heap.size ≤ wn2.heap.size := hB.size
                    have hB_ := below_alloc hB (Nat.le_refl _) (.cells #[.bool false, .slice none 0 0] 28)
                    clear hB hn1 hn2
                    generalize wn2.alloc (.cells #[.bool false, .slice none 0 0] 28) = wn7 at *
                    generalize wn2.heap.size = g2 at *
                    have hn1 := hn1_
                    clear hn1_
                    have hn2 := hn2_
                    clear hn2_
                    have k2 := k2_
                    clear k2_
                    have hB := hB_
                    clear hB_
                    refine hK.out _ _ hB (fun hHeld => ?_)
                    clear hK K hHeld
                    try simp only [List.getElem_toArray, List.getElem_cons_succ, List.getElem_cons_zero, Act.put, List.setIfInBounds_toArray, List.set_cons_zero, List.set_cons_succ]
                    refine wpAnyH_ready (rs := [7]) (by kernel_rfl) (by simp) ?_
                    refine AllReadyH.cons rfl (fun K hK => ?_) AllReadyH.nil
                    go_simp
                    have k1_ := Blk.new wn7 28 #[.bool false, .slice none 0 0]
                    have hn1_ := hn1.alloc (.cells #[.bool false, .slice none 0 0] 28)
                    have hn2_ := hn2.alloc (.cells #[.bool false, .slice none 0 0] 28)
                    have k2_ := k2.alloc (.cells #[.bool false, .slice none 0 0] 28)
                    have hne : g2 < wn7.heap.size := k2.lt
                    have hg1 : wa19.heap.size ≤ wn7.heap.size := hB.size
                    have hB_ := below_alloc hB (Nat.le_refl _) (.cells #[.bool false, .slice none 0 0] 28)
                    clear hB hn1 hn2 k2
                    generalize wn7.alloc (.cells #[.bool false, .slice none 0 0] 28) = wn8 at *
                    generalize wn7.heap.size = g1 at *
                    have hn1 := hn1_
                    clear hn1_
                    have hn2 := hn2_
                    clear hn2_
                    have k2 := k2_
                    clear k2_
                    have k1 := k1_
                    clear k1_
                    have hB := hB_
                    clear hB_
                    refine hK.out _ _ hB (fun hHeld => ?_)
                    clear hK K hHeld
                    try simp only [List.getElem_toArray, List.getElem_cons_succ, List.getElem_cons_zero, Act.put, List.setIfInBounds_toArray, List.set_cons_zero, List.set_cons_succ]
                    refine wpAnyH_ready (rs := [9]) (by kernel_rfl) (by simp) ?_
                    refine AllReadyH.cons rfl (fun K hK => ?_) AllReadyH.nil
                    obtain ⟨z0, z1, z2, z3, z4⟩ := k1.two
                    go_simp
                    have k1_ := k1.set2 (.bool bb1) (.slice A1 p1 d1)
                    have k2_ := (k2.far (p := ⟨g1, 0, none⟩) (by simp; omega) (.bool bb1)).far (p := ⟨g1, 1, none⟩) (by simp; omega) (.slice A1 p1 d1)
                    have hn1_ := (hn1.setCell (q := ⟨g1, 0, none⟩) k1.typed (.bool bb1)).setCell (q := ⟨g1, 1, none⟩) (k1.typed.setCell _ _) (.slice A1 p1 d1)
                    have hn2_ := (hn2.setCell (q := ⟨g1, 0, none⟩) k1.typed (.bool bb1)).setCell (q := ⟨g1, 1, none⟩) (k1.typed.setCell _ _) (.slice A1 p1 d1)
                    have hB_ := (hB.setCell (p := ⟨g1, 0, none⟩) hg1 (.bool bb1)).setCell (p := ⟨g1, 1, none⟩) hg1 (.slice A1 p1 d1)
                    clear z0 z1 z2 z3 z4 hB k1 k2 hn1 hn2
                    generalize (wn8.setCell ⟨g1, 0, none⟩ (.bool bb1)).setCell ⟨g1, 1, none⟩ (.slice A1 p1 d1) = wn9 at *
                    have k1 := k1_
                    clear k1_
                    have k2 := k2_
                    clear k2_
                    have hn1 := hn1_
                    clear hn1_
                    have hn2 := hn2_
                    clear hn2_
                    have hB := hB_
                    clear hB_
                    refine hK.out _ _ hB (fun hHeld => ?_)
                    clear hK K hHeld
                    try simp only [List.getElem_toArray, List.getElem_cons_succ, List.getElem_cons_zero, Act.put, List.setIfInBounds_toArray, List.set_cons_zero, List.set_cons_succ]
                    refine wpAnyH_ready (rs := [10]) (by kernel_rfl) (by simp) ?_
                    refine AllReadyH.cons rfl (fun K hK => ?_) AllReadyH.nil
                    obtain ⟨z0, z1, z2, z3, z4⟩ := k2.two
                    go_simp
                    have k2_ := k2.set2 (.bool bb2) (.slice A2 p2 d2)
                    have k1_ := (k1.far (p := ⟨g2, 0, none⟩) (by simp; omega) (.bool bb2)).far (p := ⟨g2, 1, none⟩) (by simp; omega) (.slice A2 p2 d2)
                    have hn1_ := (hn1.setCell (q := ⟨g2, 0, none⟩) k2.typed (.bool bb2)).setCell (q := ⟨g2, 1, none⟩) (k2.typed.setCell _ _) (.slice A2 p2 d2)
                    have hn2_ := (hn2.setCell (q := ⟨g2, 0, none⟩) k2.typed (.bool bb2)).setCell (q := ⟨g2, 1, none⟩) (k2.typed.setCell _ _) (.slice A2 p2 d2)
                    have hB_ := (hB.setCell (p := ⟨g2, 0, none⟩) hg2 (.bool bb2)).setCell (p := ⟨g2, 1, none⟩) hg2 (.slice A2 p2 d2)
                    clear z0 z1 z2 z3 z4 hB k1 k2 hn1 hn2
                    generalize (wn9.setCell ⟨g2, 0, none⟩ (.bool bb2)).setCell ⟨g2, 1, none⟩ (.slice A2 p2 d2) = wn10 at *
                    have k1 := k1_
                    clear k1_
                    have k2 := k2_
                    clear k2_
                    have hn1 := hn1_
                    clear hn1_
                    have hn2 := hn2_
                    clear hn2_
                    have hB := hB_
                    clear hB_
                    refine hK.out _ _ hB (fun hHeld => ?_)
                    clear hK K hHeld
                    try simp only [List.getElem_toArray, List.getElem_cons_succ, List.getElem_cons_zero, Act.put, List.setIfInBounds_toArray, List.set_cons_zero, List.set_cons_succ]
                    refine wpAnyH_done (by kernel_rfl) ?_ _
                    refine NoPanic.normal ?_
                    go_wp2_with fail
                    go_meet
                    exact ⟨_, _, rfl, rfl, _, _, _, _, _, _, _, _, k1, k2, hn1, hn2, hB⟩
                · go_simp
                  have k1_ := Blk.new wn1 28 #[.bool false, .slice none 0 0]
                  have hnx_ := hnx.alloc (.cells #[.bool false, .slice none 0 0] 28)
                  have hnm_ := hnm.alloc (.cells #[.bool false, .slice none 0 0] 28)
                  have hg1 : wa19.heap.size ≤ wn1.heap.size := hB.size
                  have hB_ := below_alloc hB (Nat.le_refl _) (.cells #[.bool false, .slice none 0 0] 28)
                  clear hB hnx hnm
                  generalize wn1.alloc (.cells #[.bool false, .slice none 0 0] 28) = wn11 at *
                  generalize wn1.heap.size = g1 at *
                  have hnx := hnx_
                  clear hnx_
                  have hnm := hnm_
                  clear hnm_
                  have k1 := k1_
                  clear k1_
                  have hB := hB_
                  clear hB_
                  refine hK.out _ _ hB (fun hHeld => ?_)
                  clear hK K hHeld
                  try simp only [List.getElem_toArray, List.getElem_cons_succ, List.getElem_cons_zero, Act.put, List.setIfInBounds_toArray, List.set_cons_zero, List.set_cons_succ]
                  refine wpAnyH_ready (rs := [3, 8]) (by kernel_rfl) (by simp) ?_
                  refine AllReadyH.cons rfl (fun K hK => ?_) (AllReadyH.cons rfl (fun K hK => ?_) AllReadyH.nil)
                  · go_simp
                    refine (HDIV.out _ _ _ _ _ _ _ _ _ hnx hnm HL1.out (num_len hnm HLM.out)).mono ?_
                    rintro e wn12 ⟨bb1, A1, p1, d1, bb2, A2, p2, d2, rfl, hn1, hn2, hc12⟩
                    clear hnx
                    clear hnm
                    have k1_ := k1.under hc12
                    have hB_ := below_two hB hc12
                    clear hc12 hB k1
                    have k1 := k1_
                    clear k1_
                    have hB := hB_
                    clear hB_
                    refine hK.out _ _ hB (fun hHeld => ?_)
                    clear hK K hHeld
                    try simp only [List.getElem_toArray, List.getElem_cons_succ, List.getElem_cons_zero, Act.put, List.setIfInBounds_toArray, List.set_cons_zero, List.set_cons_succ]
                    refine wpAnyH_take (i := 4) (v := ?_) rfl (by kernel_rfl) (by kernel_rfl) (by kernel_rfl) (fun _ _ _ h => h) (Or.inl ⟨by rfl, ?_⟩) (by assumption) ?_
                    rotate_left
                    · intro W hW
                      go_simp
                      try rfl
                    simp only [List.getElem_toArray, List.getElem_cons_succ, List.getElem_cons_zero, Act.put, List.setIfInBounds_toArray, List.set_cons_zero, List.set_cons_succ]
                    refine wpAnyH_take (i := 5) (v := ?_) rfl (by kernel_rfl) (by kernel_rfl) (by kernel_rfl) (fun _ _ _ h => h) (Or.inl ⟨by rfl, ?_⟩) (by assumption) ?_
                    rotate_left
                    · intro W hW
                      go_simp
                      try rfl
                    simp only [List.getElem_toArray, List.getElem_cons_succ, List.getElem_cons_zero, Act.put, List.setIfInBounds_toArray, List.set_cons_zero, List.set_cons_succ]
                    refine wpAnyH_take (i := 6) (v := ?_) rfl (by kernel_rfl) (by kernel_rfl) (by kernel_rfl) (fun _ _ _ h => h) (Or.inl ⟨by rfl, ?_⟩) (by assumption) ?_
                    rotate_left
                    · intro W hW
                      go_simp
                      try rfl
                    simp only [List.getElem_toArray, List.getElem_cons_succ, List.getElem_cons_zero, Act.put, List.setIfInBounds_toArray, List.set_cons_zero, List.set_cons_succ]
                    skip
                    refine wpAnyH_ready (rs := [8]) (by kernel_rfl) (by simp) ?_
                    refine AllReadyH.cons rfl (fun K hK => ?_) AllReadyH.nil
                    go_simp
                    have k2_ := Blk.new wn12 28 #[.bool false, .slice none 0 0]
                    have k1_ := k1.alloc (.cells #[.bool false, .slice none 0 0] 28)
                    have hn1_ := hn1.alloc (.cells #[.bool false, .slice none 0 0] 28)
                    have hn2_ := hn2.alloc (.cells #[.bool false, .slice none 0 0] 28)
                    have hne : g1 < wn12.heap.size := k1.lt
                    have hg2 : wa19.heap.size ≤ wn12.heap.size := hB.size
                    have hB_ := below_alloc hB (Nat.le_refl _) (.cells #[.bool false, .slice none 0 0] 28)
                    clear hB k1 hn1 hn2
                    generalize wn12.alloc (.cells #[.bool false, .slice none 0 0] 28) = wn13 at *
                    generalize wn12.heap.size = g2 at *
                    have k1 := k1_
                    clear k1_
                    have hn1 := hn1_
                    clear hn1_
                    have hn2 := hn2_
                    clear hn2_
                    have k2 := k2_
                    clear k2_
                    have hB := hB_
                    clear hB_
                    refine hK.out _ _ hB (fun hHeld => ?_)
                    clear hK K hHeld
                    try simp only [List.getElem_toArray, List.getElem_cons_succ, List.getElem_cons_zero, Act.put, List.setIfInBounds_toArray, List.set_cons_zero, List.set_cons_succ]
                    refine wpAnyH_ready (rs := [9]) (by kernel_rfl) (by simp) ?_
                    refine AllReadyH.cons rfl (fun K hK => ?_) AllReadyH.nil
                    obtain ⟨z0, z1, z2, z3, z4⟩ := k1.two
                    go_simp
                    have k1_ := k1.set2 (.bool bb1) (.slice A1 p1 d1)
                    have k2_ := (k2.far (p := ⟨g1, 0, none⟩) (by simp; omega) (.bool bb1)).far (p := ⟨g1, 1, none⟩) (by simp; omega) (.slice A1 p1 d1)
                    have hn1_ := (hn1.setCell (q := ⟨g1, 0, none⟩) k1.typed (.bool bb1)).setCell (q := ⟨g1, 1, none⟩) (k1.typed.setCell _ _) (.slice A1 p1 d1)
                    have hn2_ := (hn2.setCell (q := ⟨g1, 0, none⟩) k1.typed (.bool bb1)).setCell (q := ⟨g1, 1, none⟩) (k1.typed.setCell _ _) (.slice A1 p1 d1)
                    have hB_ := (hB.setCell (p := ⟨g1, 0, none⟩) hg1 (.bool bb1)).setCell (p := ⟨g1, 1, none⟩) hg1 (.slice A1 p1 d1)
                    clear z0 z1 z2 z3 z4 hB k1 k2 hn1 hn2
                    generalize (wn13.setCell ⟨g1, 0, none⟩ (.bool bb1)).setCell ⟨g1, 1, none⟩ (.slice A1 p1 d1) = wn14 at *
                    have k1 := k1_
                    clear k1_
                    have k2 := k2_
                    clear k2_
                    have hn1 := hn1_
                    clear hn1_
                    have hn2 := hn2_
                    clear hn2_
                    have hB := hB_
                    clear hB_
                    refine hK.out _ _ hB (fun hHeld => ?_)
                    clear hK K hHeld
                    try simp only [List.getElem_toArray, List.getElem_cons_succ, List.getElem_cons_zero, Act.put, List.setIfInBounds_toArray, List.set_cons_zero, List.set_cons_succ]
                    refine wpAnyH_ready (rs := [10]) (by kernel_rfl) (by simp) ?_
                    refine AllReadyH.cons rfl (fun K hK => ?_) AllReadyH.nil
                    obtain ⟨z0, z1, z2, z3, z4⟩ := k2.two
                    go_simp
                    have k2_ := k2.set2 (.bool bb2) (.slice A2 p2 d2)
                    have k1_ := (k1.far (p := ⟨g2, 0, none⟩) (by simp; omega) (.bool bb2)).far (p := ⟨g2, 1, none⟩) (by simp; omega) (.slice A2 p2 d2)
                    have hn1_ := (hn1.setCell (q := ⟨g2, 0, none⟩) k2.typed (.bool bb2)).setCell (q := ⟨g2, 1, none⟩) (k2.typed.setCell _ _) (.slice A2 p2 d2)
                    have hn2_ := (hn2.setCell (q := ⟨g2, 0, none⟩) k2.typed (.bool bb2)).setCell (q := ⟨g2, 1, none⟩) (k2.typed.setCell _ _) (.slice A2 p2 d2)
                    have hB_ := (hB.setCell (p := ⟨g2, 0, none⟩) hg2 (.bool bb2)).setCell (p := ⟨g2, 1, none⟩) hg2 (.slice A2 p2 d2)
                    clear z0 z1 z2 z3 z4 hB k1 k2 hn1 hn2
                    generalize (wn14.setCell ⟨g2, 0, none⟩ (.bool bb2)).setCell ⟨g2, 1, none⟩ (.slice A2 p2 d2) = wn15 at *
                    have k1 := k1_
                    clear k1_
                    have k2 := k2_
                    clear k2_
                    have hn1 := hn1_
                    clear hn1_
                    have hn2 := hn2_
                    clear hn2_
                    have hB := hB_
                    clear hB_
                    refine hK.out _ _ hB (fun hHeld => ?_)
                    clear hK K hHeld
                    try simp only [List.getElem_toArray, List.getElem_cons_succ, List.getElem_cons_zero, Act.put, List.setIfInBounds_toArray, List.set_cons_zero, List.set_cons_succ]
                    refine wpAnyH_done (by kernel_rfl) ?_ _
                    refine NoPanic.normal ?_
                    go_wp2_with fail
                    go_meet
                    exact ⟨_, _, rfl, rfl, _, _, _, _, _, _, _, _, k1, k2, hn1, hn2, hB⟩
                  · go_simp
                    have k2_ := Blk.new wn11 28 #[.bool false, .slice none 0 0]
                    have hnx_ := hnx.alloc (.cells #[.bool false, .slice none 0 0] 28)
                    have hnm_ := hnm.alloc (.cells #[.bool false, .slice none 0 0] 28)
                    have k1_ := k1.alloc (.cells #[.bool false, .slice none 0 0] 28)
                    have hne : g1 < wn11.heap.size := k1.lt
                    have hg2 : wa19.heap.size ≤ wn11.heap.size := hB.size
                    have hB_ := below_alloc hB (Nat.le_refl _) (.cells #[.bool false, .slice none 0 0] 28)
                    clear hB hnx hnm k1
                    generalize wn11.alloc (.cells #[.bool false, .slice none 0 0] 28) = wn16 at *
                    generalize wn11.heap.size = g2 at *
                    have hnx := hnx_
                    clear hnx_
                    have hnm := hnm_
                    clear hnm_
                    have k1 := k1_
                    clear k1_
                    have k2 := k2_
                    clear k2_
                    have hB := hB_
                    clear hB_
                    refine hK.out _ _ hB (fun hHeld => ?_)
                    clear hK K hHeld
                    try simp only [List.getElem_toArray, List.getElem_cons_succ, List.getElem_cons_zero, Act.put, List.setIfInBounds_toArray, List.set_cons_zero, List.set_cons_succ]
                    refine wpAnyH_ready (rs := [3]) (by kernel_rfl) (by simp) ?_
                    refine AllReadyH.cons rfl (fun K hK => ?_) AllReadyH.nil
                    go_simp
                    refine (HDIV.out _ _ _ _ _ _ _ _ _ hnx hnm HL1.out (num_len hnm HLM.out)).mono ?_
                    rintro e wn17 ⟨bb1, A1, p1, d1, bb2, A2, p2, d2, rfl, hn1, hn2, hc17⟩
                    clear hnx
                    clear hnm
                    have k1_ := k1.under hc17
                    have k2_ := k2.under hc17
                    have hB_ := below_two hB hc17
                    clear hc17 hB k1 k2
                    have k1 := k1_
                    clear k1_
                    have k2 := k2_
                    clear k2_
                    have hB := hB_
                    clear hB_
                    refine hK.out _ _ hB (fun hHeld => ?_)
                    clear hK K hHeld
                    try simp only [List.getElem_toArray, List.getElem_cons_succ, List.getElem_cons_zero, Act.put, List.setIfInBounds_toArray, List.set_cons_zero, List.set_cons_succ]
                    refine wpAnyH_take (i := 4) (v := ?_) rfl (by kernel_rfl) (by kernel_rfl) (by kernel_rfl) (fun _ _ _ h => h) (Or.inl ⟨by rfl, ?_⟩) (by assumption) ?_
                    rotate_left
                    · intro W hW
                      go_simp
                      try rfl
                    simp only [List.getElem_toArray, List.getElem_cons_succ, List.getElem_cons_zero, Act.put, List.setIfInBounds_toArray, List.set_cons_zero, List.set_cons_succ]
                    refine wpAnyH_take (i := 5) (v := ?_) rfl (by kernel_rfl) (by kernel_rfl) (by kernel_rfl) (fun _ _ _ h => h) (Or.inl ⟨by rfl, ?_⟩) (by assumption) ?_
                    rotate_left
                    · intro W hW
                      go_simp
                      try rfl
                    simp only [List.getElem_toArray, List.getElem_cons_succ, List.getElem_cons_zero, Act.put, List.setIfInBounds_toArray, List.set_cons_zero, List.set_cons_succ]
                    refine wpAnyH_take (i := 6) (v := ?_) rfl (by kernel_rfl) (by kernel_rfl) (by kernel_rfl) (fun _ _ _ h => h) (Or.inl ⟨by rfl, ?_⟩) (by assumption) ?_
                    rotate_left
                    · intro W hW
                      go_simp
                      try rfl
                    simp only [List.getElem_toArray, List.getElem_cons_succ, List.getElem_cons_zero, Act.put, List.setIfInBounds_toArray, List.set_cons_zero, List.set_cons_succ]
                    skip
                    refine wpAnyH_ready (rs := [9]) (by kernel_rfl) (by simp) ?_
                    refine AllReadyH.cons rfl (fun K hK => ?_) AllReadyH.nil
                    obtain ⟨z0, z1, z2, z3, z4⟩ := k1.two
                    go_simp
                    have k1_ := k1.set2 (.bool bb1) (.slice A1 p1 d1)
                    have k2_ := (k2.far (p := ⟨g1, 0, none⟩) (by simp; omega) (.bool bb1)).far (p := ⟨g1, 1, none⟩) (by simp; omega) (.slice A1 p1 d1)
                    have hn1_ := (hn1.setCell (q := ⟨g1, 0, none⟩) k1.typed (.bool bb1)).setCell (q := ⟨g1, 1, none⟩) (k1.typed.setCell _ _) (.slice A1 p1 d1)
                    have hn2_ := (hn2.setCell (q := ⟨g1, 0, none⟩) k1.typed (.bool bb1)).setCell (q := ⟨g1, 1, none⟩) (k1.typed.setCell _ _) (.slice A1 p1 d1)
                    have hB_ := (hB.setCell (p := ⟨g1, 0, none⟩) hg1 (.bool bb1)).setCell (p := ⟨g1, 1, none⟩) hg1 (.slice A1 p1 d1)
                    clear z0 z1 z2 z3 z4 hB k1 k2 hn1 hn2
                    generalize (wn17.setCell ⟨g1, 0, none⟩ (.bool bb1)).setCell ⟨g1, 1, none⟩ (.slice A1 p1 d1) = wn18 at *
                    have k1 := k1_
                    clear k1_
                    have k2 := k2_
                    clear k2_
                    have hn1 := hn1_
                    clear hn1_
                    have hn2 := hn2_
                    clear hn2_
                    have hB := hB_
                    clear hB_
                    refine hK.out _ _ hB (fun hHeld => ?_)
                    clear hK K hHeld
                    try simp only [List.getElem_toArray, List.getElem_cons_succ, List.getElem_cons_zero, Act.put, List.setIfInBounds_toArray, List.set_cons_zero, List.set_cons_succ]
                    refine wpAnyH_ready (rs := [10]) (by kernel_rfl) (by simp) ?_
                    refine AllReadyH.cons rfl (fun K hK => ?_) AllReadyH.nil
                    obtain ⟨z0, z1, z2, z3, z4⟩ := k2.two
                    go_simp
                    have k2_ := k2.set2 (.bool bb2) (.slice A2 p2 d2)
                    have k1_ := (k1.far (p := ⟨g2, 0, none⟩) (by simp; omega) (.bool bb2)).far (p := ⟨g2, 1, none⟩) (by simp; omega) (.slice A2 p2 d2)
                    have hn1_ := (hn1.setCell (q := ⟨g2, 0, none⟩) k2.typed (.bool bb2)).setCell (q := ⟨g2, 1, none⟩) (k2.typed.setCell _ _) (.slice A2 p2 d2)
                    have hn2_ := (hn2.setCell (q := ⟨g2, 0, none⟩) k2.typed (.bool bb2)).setCell (q := ⟨g2, 1, none⟩) (k2.typed.setCell _ _) (.slice A2 p2 d2)
                    have hB_ := (hB.setCell (p := ⟨g2, 0, none⟩) hg2 (.bool bb2)).setCell (p := ⟨g2, 1, none⟩) hg2 (.slice A2 p2 d2)
                    clear z0 z1 z2 z3 z4 hB k1 k2 hn1 hn2
                    generalize (wn18.setCell ⟨g2, 0, none⟩ (.bool bb2)).setCell ⟨g2, 1, none⟩ (.slice A2 p2 d2) = wn19 at *
                    have k1 := k1_
                    clear k1_
                    have k2 := k2_
                    clear k2_
                    have hn1 := hn1_
                    clear hn1_
                    have hn2 := hn2_
                    clear hn2_
                    have hB := hB_
                    clear hB_
                    refine hK.out _ _ hB (fun hHeld => ?_)
                    clear hK K hHeld
                    try simp only [List.getElem_toArray, List.getElem_cons_succ, List.getElem_cons_zero, Act.put, List.setIfInBounds_toArray, List.set_cons_zero, List.set_cons_succ]
                    refine wpAnyH_done (by kernel_rfl) ?_ _
                    refine NoPanic.normal ?_
                    go_wp2_with fail
                    go_meet
                    exact ⟨_, _, rfl, rfl, _, _, _, _, _, _, _, _, k1, k2, hn1, hn2, hB⟩
                · go_simp
                  have k2_ := Blk.new wn1 28 #[.bool false, .slice none 0 0]
                  have hnx_ := hnx.alloc (.cells #[.bool false, .slice none 0 0] 28)
                  have hnm_ := hnm.alloc (.cells #[.bool false, .slice none 0 0] 28)
                  have hg2 : wa19.heap.size ≤ wn1.heap.size := hB.size
                  have hB_ := below_alloc hB (Nat.le_refl _) (.cells #[.bool false, .slice none 0 0] 28)
                  clear hB hnx hnm
                  generalize wn1.alloc (.cells #[.bool false, .slice none 0 0] 28) = wn20 at *
                  generalize wn1.heap.size = g2 at *
                  have hnx := hnx_
                  clear hnx_
                  have hnm := hnm_
                  clear hnm_
                  have k2 := k2_
                  clear k2_
                  have hB := hB_
                  clear hB_
                  refine hK.out _ _ hB (fun hHeld => ?_)
                  clear hK K hHeld
                  try simp only [List.getElem_toArray, List.getElem_cons_succ, List.getElem_cons_zero, Act.put, List.setIfInBounds_toArray, List.set_cons_zero, List.set_cons_succ]
                  refine wpAnyH_ready (rs := [3, 7]) (by kernel_rfl) (by simp) ?_
                  refine AllReadyH.cons rfl (fun K hK => ?_) (AllReadyH.cons rfl (fun K hK => ?_) AllReadyH.nil)
                  · go_simp
                    refine (HDIV.out _ _ _ _ _ _ _ _ _ hnx hnm HL1.out (num_len hnm HLM.out)).mono ?_
                    rintro e wn21 ⟨bb1, A1, p1, d1, bb2, A2, p2, d2, rfl, hn1, hn2, hc21⟩
                    clear hnx
                    clear hnm
                    have k2_ := k2.under hc21
                    have hB_ := below_two hB hc21
                    clear hc21 hB k2
                    have k2 := k2_
                    clear k2_
                    have hB := hB_
                    clear hB_
                    refine hK.out _ _ hB (fun hHeld => ?_)
                    clear hK K hHeld
                    try simp only [List.getElem_toArray, List.getElem_cons_succ, List.getElem_cons_zero, Act.put, List.setIfInBounds_toArray, List.set_cons_zero, List.set_cons_succ]
                    refine wpAnyH_take (i := 4) (v := ?_) rfl (by kernel_rfl) (by kernel_rfl) (by kernel_rfl) (fun _ _ _ h => h) (Or.inl ⟨by rfl, ?_⟩) (by assumption) ?_
                    rotate_left
                    · intro W hW
                      go_simp
                      try rfl
                    simp only [List.getElem_toArray, List.getElem_cons_succ, List.getElem_cons_zero, Act.put, List.setIfInBounds_toArray, List.set_cons_zero, List.set_cons_succ]
                    refine wpAnyH_take (i := 5) (v := ?_) rfl (by kernel_rfl) (by kernel_rfl) (by kernel_rfl) (fun _ _ _ h => h) (Or.inl ⟨by rfl, ?_⟩) (by assumption) ?_
                    rotate_left
                    · intro W hW
                      go_simp
                      try rfl
                    simp only [List.getElem_toArray, List.getElem_cons_succ, List.getElem_cons_zero, Act.put, List.setIfInBounds_toArray, List.set_cons_zero, List.set_cons_succ]
                    refine wpAnyH_take (i := 6) (v := ?_) rfl (by kernel_rfl) (by kernel_rfl) (by kernel_rfl) (fun _ _ _ h => h) (Or.inl ⟨by rfl, ?_⟩) (by assumption) ?_
                    rotate_left
                    · intro W hW
                      go_simp
                      try rfl
                    simp only [List.getElem_toArray, List.getElem_cons_succ, List.getElem_cons_zero, Act.put, List.setIfInBounds_toArray, List.set_cons_zero, List.set_cons_succ]
                    skip
                    refine wpAnyH_ready (rs := [7]) (by kernel_rfl) (by simp) ?_
                    refine AllReadyH.cons rfl (fun K hK => ?_) AllReadyH.nil
                    go_simp
                    have k1_ := Blk.new wn21 28 #[.bool false, .slice none 0 0]
                    have k2_ := k2.alloc (.cells #[.bool false, .slice none 0 0] 28)
                    have hn1_ := hn1.alloc (.cells #[.bool false, .slice none 0 0] 28)
                    have hn2_ := hn2.alloc (.cells #[.bool false, .slice none 0 0] 28)
                    have hne : g2 < wn21.heap.size := k2.lt
                    have hg1 : wa19.heap.size ≤ wn21.heap.size := hB.size
                    have hB_ := below_alloc hB (Nat.le_refl _) (.cells #[.bool false, .slice none 0 0] 28)
                    clear hB k2 hn1 hn2
                    generalize wn21.alloc (.cells #[.bool false, .slice none 0 0] 28) = wn22 at *
                    generalize wn21.heap.size = g1 at *
                    have k2 := k2_
                    clear k2_
                    have hn1 := hn1_
                    clear hn1_
                    have hn2 := hn2_
                    clear hn2_
                    have k1 := k1_
                    clear k1_
                    have hB := hB_
                    clear hB_
                    refine hK.out _ _ hB (fun hHeld => ?_)
                    clear hK K hHeld
                    try simp only [List.getElem_toArray, List.getElem_cons_succ, List.getElem_cons_zero, Act.put, List.setIfInBounds_toArray, List.set_cons_zero, List.set_cons_succ]
                    refine wpAnyH_ready (rs := [9]) (by kernel_rfl) (by simp) ?_
                    refine AllReadyH.cons rfl (fun K hK => ?_) AllReadyH.nil
                    obtain ⟨z0, z1, z2, z3, z4⟩ := k1.two
                    go_simp
                    have k1_ := k1.set2 (.bool bb1) (.slice A1 p1 d1)
                    have k2_ := (k2.far (p := ⟨g1, 0, none⟩) (by simp; omega) (.bool bb1)).far (p := ⟨g1, 1, none⟩) (by simp; omega) (.slice A1 p1 d1)
                    have hn1_ := (hn1.setCell (q := ⟨g1, 0, none⟩) k1.typed (.bool bb1)).setCell (q := ⟨g1, 1, none⟩) (k1.typed.setCell _ _) (.slice A1 p1 d1)
                    have hn2_ := (hn2.setCell (q := ⟨g1, 0, none⟩) k1.typed (.bool bb1)).setCell (q := ⟨g1, 1, none⟩) (k1.typed.setCell _ _) (.slice A1 p1 d1)
                    have hB_ := (hB.setCell (p := ⟨g1, 0, none⟩) hg1 (.bool bb1)).setCell (p := ⟨g1, 1, none⟩) hg1 (.slice A1 p1 d1)
                    clear z0 z1 z2 z3 z4 hB k1 k2 hn1 hn2
                    generalize (wn22.setCell ⟨g1, 0, none⟩ (.bool bb1)).setCell ⟨g1, 1, none⟩ (.slice A1 p1 d1) = wn23 at *
                    have k1 := k1_
                    clear k1_
                    have k2 := k2_
                    clear k2_
                    have hn1 := hn1_
                    clear hn1_
                    have hn2 := hn2_
                    clear hn2_
                    have hB := hB_
                    clear hB_
                    refine hK.out _ _ hB (fun hHeld => ?_)
                    clear hK K hHeld
                    try simp only [List.getElem_toArray, List.getElem_cons_succ, List.getElem_cons_zero, Act.put, List.setIfInBounds_toArray, List.set_cons_zero, List.set_cons_succ]
                    refine wpAnyH_ready (rs := [10]) (by kernel_rfl) (by simp) ?_
                    refine AllReadyH.cons rfl (fun K hK => ?_) AllReadyH.nil
                    obtain ⟨z0, z1, z2, z3, z4⟩ := k2.two
                    go_simp
                    have k2_ := k2.set2 (.bool bb2) (.slice A2 p2 d2)
                    have k1_ := (k1.far (p := ⟨g2, 0, none⟩) (by simp; omega) (.bool bb2)).far (p := ⟨g2, 1, none⟩) (by simp; omega) (.slice A2 p2 d2)
                    have hn1_ := (hn1.setCell (q := ⟨g2, 0, none⟩) k2.typed (.bool bb2)).setCell (q := ⟨g2, 1, none⟩) (k2.typed.setCell _ _) (.slice A2 p2 d2)
                    have hn2_ := (hn2.setCell (q := ⟨g2, 0, none⟩) k2.typed (.bool bb2)).setCell (q := ⟨g2, 1, none⟩) (k2.typed.setCell _ _) (.slice A2 p2 d2)
                    have hB_ := (hB.setCell (p := ⟨g2, 0, none⟩) hg2 (.bool bb2)).setCell (p := ⟨g2, 1, none⟩) hg2 (.slice A2 p2 d2)
                    clear z0 z1 z2 z3 z4 hB k1 k2 hn1 hn2
                    generalize (wn23.setCell ⟨g2, 0, none⟩ (.bool bb2)).setCell ⟨g2, 1, none⟩ (.slice A2 p2 d2) = wn24 at *
                    have k1 := k1_
                    clear k1_
                    have k2 := k2_
                    clear k2_
                    have hn1 := hn1_
                    clear hn1_
                    have hn2 := hn2_
                    clear hn2_
                    have hB := hB_
                    clear hB_
                    refine hK.out _ _ hB (fun hHeld => ?_)
                    clear hK K hHeld
                    try simp only [List.getElem_toArray, List.getElem_cons_succ, List.getElem_cons_zero, Act.put, List.setIfInBounds_toArray, List.set_cons_zero, List.set_cons_succ]
                    refine wpAnyH_done (by kernel_rfl) ?_ _
                    refine NoPanic.normal ?_
                    go_wp2_with fail
                    go_meet
                    exact ⟨_, _, rfl, rfl, _, _, _, _, _, _, _, _, k1, k2, hn1, hn2, hB⟩
                  · go_simp
                    have k1_ := Blk.new wn20 28 #[.bool false, .slice none 0 0]
                    have hnx_ := hnx.alloc (.cells #[.bool false, .slice none 0 0] 28)
                    have hnm_ := hnm.alloc (.cells #[.bool false, .slice none 0 0] 28)
                    have k2_ := k2.alloc (.cells #[.bool false, .slice none 0 0] 28)
                    have hne : g2 < wn20.heap.size := k2.lt
                    have hg1 : wa19.heap.size ≤ wn20.heap.size := hB.size
                    have hB_ := below_alloc hB (Nat.le_refl _) (.cells #[.bool false, .slice none 0 0] 28)
                    clear hB hnx hnm k2
                    generalize wn20.alloc (.cells #[.bool false, .slice none 0 0] 28) = wn25 at *
                    generalize wn20.heap.size = g1 at *
                    have hnx := hnx_
                    clear hnx_
                    have hnm := hnm_
                    clear hnm_
                    have k2 := k2_
                    clear k2_
                    have k1 := k1_
                    clear k1_
                    have hB := hB_
                    clear hB_
                    refine hK.out _ _ hB (fun hHeld => ?_)
                    clear hK K hHeld
                    try simp only [List.getElem_toArray, List.getElem_cons_succ, List.getElem_cons_zero, Act.put, List.setIfInBounds_toArray, List.set_cons_zero, List.set_cons_succ]
                    refine wpAnyH_ready (rs := [3]) (by kernel_rfl) (by simp) ?_
                    refine AllReadyH.cons rfl (fun K hK => ?_) AllReadyH.nil
                    go_simp
                    refine (HDIV.out _ _ _ _ _ _ _ _ _ hnx hnm HL1.out (num_len hnm HLM.out)).mono ?_
                    rintro e wn26 ⟨bb1, A1, p1, d1, bb2, A2, p2, d2, rfl, hn1, hn2, hc26⟩
                    clear hnx
                    clear hnm
                    have k2_ := k2.under hc26
                    have k1_ := k1.under hc26
                    have hB_ := below_two hB hc26
                    clear hc26 hB k2 k1
                    have k2 := k2_
                    clear k2_
                    have k1 := k1_
                    clear k1_
                    have hB := hB_
                    clear hB_
                    refine hK.out _ _ hB (fun hHeld => ?_)
                    clear hK K hHeld
                    try simp only [List.getElem_toArray, List.getElem_cons_succ, List.getElem_cons_zero, Act.put, List.setIfInBounds_toArray, List.set_cons_zero, List.set_cons_succ]
                    refine wpAnyH_take (i := 4) (v := ?_) rfl (by kernel_rfl) (by kernel_rfl) (by kernel_rfl) (fun _ _ _ h => h) (Or.inl ⟨by rfl, ?_⟩) (by assumption) ?_
                    rotate_left
                    · intro W hW
                      go_simp
                      try rfl
                    simp only [List.getElem_toArray, List.getElem_cons_succ, List.getElem_cons_zero, Act.put, List.setIfInBounds_toArray, List.set_cons_zero, List.set_cons_succ]
                    refine wpAnyH_take (i := 5) (v := ?_) rfl (by kernel_rfl) (by kernel_rfl) (by kernel_rfl) (fun _ _ _ h => h) (Or.inl ⟨by rfl, ?_⟩) (by assumption) ?_
                    rotate_left
                    · intro W hW
                      go_simp
                      try rfl
                    simp only [List.getElem_toArray, List.getElem_cons_succ, List.getElem_cons_zero, Act.put, List.setIfInBounds_toArray, List.set_cons_zero, List.set_cons_succ]
                    refine wpAnyH_take (i := 6) (v := ?_) rfl (by kernel_rfl) (by kernel_rfl) (by kernel_rfl) (fun _ _ _ h => h) (Or.inl ⟨by rfl, ?_⟩) (by assumption) ?_
                    rotate_left
                    · intro W hW
                      go_simp
                      try rfl
                    simp only [List.getElem_toArray, List.getElem_cons_succ, List.getElem_cons_zero, Act.put, List.setIfInBounds_toArray, List.set_cons_zero, List.set_cons_succ]
                    skip
                    refine wpAnyH_ready (rs := [9]) (by kernel_rfl) (by simp) ?_
                    refine AllReadyH.cons rfl (fun K hK => ?_) AllReadyH.nil
                    obtain ⟨z0, z1, z2, z3, z4⟩ := k1.two
                    go_simp
                    have k1_ := k1.set2 (.bool bb1) (.slice A1 p1 d1)
                    have k2_ := (k2.far (p := ⟨g1, 0, none⟩) (by simp; omega) (.bool bb1)).far (p := ⟨g1, 1, none⟩) (by simp; omega) (.slice A1 p1 d1)
                    have hn1_ := (hn1.setCell (q := ⟨g1, 0, none⟩) k1.typed (.bool bb1)).setCell (q := ⟨g1, 1, none⟩) (k1.typed.setCell _ _) (.slice A1 p1 d1)
                    have hn2_ := (hn2.setCell (q := ⟨g1, 0, none⟩) k1.typed (.bool bb1)).setCell (q := ⟨g1, 1, none⟩) (k1.typed.setCell _ _) (.slice A1 p1 d1)
                    have hB_ := (hB.setCell (p := ⟨g1, 0, none⟩) hg1 (.bool bb1)).setCell (p := ⟨g1, 1, none⟩) hg1 (.slice A1 p1 d1)
                    clear z0 z1 z2 z3 z4 hB k1 k2 hn1 hn2
                    generalize (wn26.setCell ⟨g1, 0, none⟩ (.bool bb1)).setCell ⟨g1, 1, none⟩ (.slice A1 p1 d1) = wn27 at *
                    have k1 := k1_
                    clear k1_
                    have k2 := k2_
                    clear k2_
                    have hn1 := hn1_
                    clear hn1_
                    have hn2 := hn2_
                    clear hn2_
                    have hB := hB_
                    clear hB_
                    refine hK.out _ _ hB (fun hHeld => ?_)
                    clear hK K hHeld
                    try simp only [List.getElem_toArray, List.getElem_cons_succ, List.getElem_cons_zero, Act.put, List.setIfInBounds_toArray, List.set_cons_zero, List.set_cons_succ]
                    refine wpAnyH_ready (rs := [10]) (by kernel_rfl) (by simp) ?_
                    refine AllReadyH.cons rfl (fun K hK => ?_) AllReadyH.nil
                    obtain ⟨z0, z1, z2, z3, z4⟩ := k2.two
                    go_simp
                    have k2_ := k2.set2 (.bool bb2) (.slice A2 p2 d2)
                    have k1_ := (k1.far (p := ⟨g2, 0, none⟩) (by simp; omega) (.bool bb2)).far (p := ⟨g2, 1, none⟩) (by simp; omega) (.slice A2 p2 d2)
                    have hn1_ := (hn1.setCell (q := ⟨g2, 0, none⟩) k2.typed (.bool bb2)).setCell (q := ⟨g2, 1, none⟩) (k2.typed.setCell _ _) (.slice A2 p2 d2)
                    have hn2_ := (hn2.setCell (q := ⟨g2, 0, none⟩) k2.typed (.bool bb2)).setCell (q := ⟨g2, 1, none⟩) (k2.typed.setCell _ _) (.slice A2 p2 d2)
                    have hB_ := (hB.setCell (p := ⟨g2, 0, none⟩) hg2 (.bool bb2)).setCell (p := ⟨g2, 1, none⟩) hg2 (.slice A2 p2 d2)
                    clear z0 z1 z2 z3 z4 hB k1 k2 hn1 hn2
                    generalize (wn27.setCell ⟨g2, 0, none⟩ (.bool bb2)).setCell ⟨g2, 1, none⟩ (.slice A2 p2 d2) = wn28 at *
                    have k1 := k1_
                    clear k1_
                    have k2 := k2_
                    clear k2_
                    have hn1 := hn1_
                    clear hn1_
                    have hn2 := hn2_
                    clear hn2_
                    have hB := hB_
                    clear hB_
                    refine hK.out _ _ hB (fun hHeld => ?_)
                    clear hK K hHeld
                    try simp only [List.getElem_toArray, List.getElem_cons_succ, List.getElem_cons_zero, Act.put, List.setIfInBounds_toArray, List.set_cons_zero, List.set_cons_succ]
                    refine wpAnyH_done (by kernel_rfl) ?_ _
                    refine NoPanic.normal ?_
                    go_wp2_with fail
                    go_meet
                    exact ⟨_, _, rfl, rfl, _, _, _, _, _, _, _, _, k1, k2, hn1, hn2, hB⟩
              · go_simp
                have k1_ := Blk.new wd 28 #[.bool false, .slice none 0 0]
                have hnx_ := hnx.alloc (.cells #[.bool false, .slice none 0 0] 28)
                have hg1 : wa19.heap.size ≤ wd.heap.size := hB.size
                have hB_ := below_alloc hB (Nat.le_refl _) (.cells #[.bool false, .slice none 0 0] 28)
                clear hB hnx
                generalize wd.alloc (.cells #[.bool false, .slice none 0 0] 28) = wn29 at *
                generalize wd.heap.size = g1 at *
                have hnx := hnx_
                clear hnx_
                have k1 := k1_
                clear k1_
                have hB := hB_
                clear hB_
                refine hK.out _ _ hB (fun hHeld => ?_)
                clear hK K hHeld
                try simp only [List.getElem_toArray, List.getElem_cons_succ, List.getElem_cons_zero, Act.put, List.setIfInBounds_toArray, List.set_cons_zero, List.set_cons_succ]
                refine wpAnyH_ready (rs := [2, 8]) (by kernel_rfl) (by simp) ?_
                refine AllReadyH.cons rfl (fun K hK => ?_) (AllReadyH.cons rfl (fun K hK => ?_) AllReadyH.nil)
                · go_simp
                  refine (HIM.out _).mono ?_
                  rintro e wn30 ⟨bm, Am, pm, dm, rfl, hnm, hc30⟩
                  have hnx_ := hnx.below hc30
                  have k1_ := k1.under hc30
                  have hB_ := below_two hB hc30
                  clear hc30 hB hnx k1
                  have hnx := hnx_
                  clear hnx_
                  have k1 := k1_
                  clear k1_
                  have hB := hB_
                  clear hB_
                  refine hK.out _ _ hB (fun hHeld => ?_)
                  clear hK K hHeld
                  try simp only [List.getElem_toArray, List.getElem_cons_succ, List.getElem_cons_zero, Act.put, List.setIfInBounds_toArray, List.set_cons_zero, List.set_cons_succ]
                  refine wpAnyH_ready (rs := [3, 8]) (by kernel_rfl) (by simp) ?_
                  refine AllReadyH.cons rfl (fun K hK => ?_) (AllReadyH.cons rfl (fun K hK => ?_) AllReadyH.nil)
                  · go_simp
                    refine (HDIV.out _ _ _ _ _ _ _ _ _ hnx hnm HL1.out (num_len hnm HLM.out)).mono ?_
                    rintro e wn31 ⟨bb1, A1, p1, d1, bb2, A2, p2, d2, rfl, hn1, hn2, hc31⟩
                    clear hnx
                    clear hnm
                    have k1_ := k1.under hc31
                    have hB_ := below_two hB hc31
                    clear hc31 hB k1
                    have k1 := k1_
                    clear k1_
                    have hB := hB_
                    clear hB_
                    refine hK.out _ _ hB (fun hHeld => ?_)
                    clear hK K hHeld
                    try simp only [List.getElem_toArray, List.getElem_cons_succ, List.getElem_cons_zero, Act.put, List.setIfInBounds_toArray, List.set_cons_zero, List.set_cons_succ]
                    refine wpAnyH_take (i := 4) (v := ?_) rfl (by kernel_rfl) (by kernel_rfl) (by kernel_rfl) (fun _ _ _ h => h) (Or.inl ⟨by rfl, ?_⟩) (by assumption) ?_
                    rotate_left
                    · intro W hW
                      go_simp
                      try rfl
                    simp only [List.getElem_toArray, List.getElem_cons_succ, List.getElem_cons_zero, Act.put, List.setIfInBounds_toArray, List.set_cons_zero, List.set_cons_succ]
                    refine wpAnyH_take (i := 5) (v := ?_) rfl (by kernel_rfl) (by kernel_rfl) (by kernel_rfl) (fun _ _ _ h => h) (Or.inl ⟨by rfl, ?_⟩) (by assumption) ?_
                    rotate_left
                    · intro W hW
                      go_simp
                      try rfl
                    simp only [List.getElem_toArray, List.getElem_cons_succ, List.getElem_cons_zero, Act.put, List.setIfInBounds_toArray, List.set_cons_zero, List.set_cons_succ]
                    refine wpAnyH_take (i := 6) (v := ?_) rfl (by kernel_rfl) (by kernel_rfl) (by kernel_rfl) (fun _ _ _ h => h) (Or.inl ⟨by rfl, ?_⟩) (by assumption) ?_
                    rotate_left
                    · intro W hW
                      go_simp
                      try rfl
                    simp only [List.getElem_toArray, List.getElem_cons_succ, List.getElem_cons_zero, Act.put, List.setIfInBounds_toArray, List.set_cons_zero, List.set_cons_succ]
                    skip
                    refine wpAnyH_ready (rs := [8]) (by kernel_rfl) (by simp) ?_
                    refine AllReadyH.cons rfl (fun K hK => ?_) AllReadyH.nil
                    go_simp
                    have k2_ := Blk.new wn31 28 #[.bool false, .slice none 0 0]
                    have k1_ := k1.alloc (.cells #[.bool false, .slice none 0 0] 28)
                    have hn1_ := hn1.alloc (.cells #[.bool false, .slice none 0 0] 28)
                    have hn2_ := hn2.alloc (.cells #[.bool false, .slice none 0 0] 28)
                    have hne : g1 < wn31.heap.size := k1.lt
                    have hg2 : wa19.heap.size ≤ wn31.heap.size := hB.size
                    have hB_ := below_alloc hB (Nat.le_refl _) (.cells #[.bool false, .slice none 0 0] 28)
                    clear hB k1 hn1 hn2
                    generalize wn31.alloc (.cells #[.bool false, .slice none 0 0] 28) = wn32 at *
                    generalize wn31.heap.size = g2 at *
                    have k1 := k1_
                    clear k1_
                    have hn1 := hn1_
                    clear hn1_
                    have hn2 := hn2_
                    clear hn2_
                    have k2 := k2_
                    clear k2_
                    have hB := hB_
                    clear hB_
                    refine hK.out _ _ hB (fun hHeld => ?_)
                    clear hK K hHeld
                    try simp only [List.getElem_toArray, List.getElem_cons_succ, List.getElem_cons_zero, Act.put, List.setIfInBounds_toArray, List.set_cons_zero, List.set_cons_succ]
                    refine wpAnyH_ready (rs := [9]) (by kernel_rfl) (by simp) ?_
                    refine AllReadyH.cons rfl (fun K hK => ?_) AllReadyH.nil
                    obtain ⟨z0, z1, z2, z3, z4⟩ := k1.two
                    go_simp
                    have k1_ := k1.set2 (.bool bb1) (.slice A1 p1 d1)
                    have k2_ := (k2.far (p := ⟨g1, 0, none⟩) (by simp; omega) (.bool bb1)).far (p := ⟨g1, 1, none⟩) (by simp; omega) (.slice A1 p1 d1)
                    have hn1_ := (hn1.setCell (q := ⟨g1, 0, none⟩) k1.typed (.bool bb1)).setCell (q := ⟨g1, 1, none⟩) (k1.typed.setCell _ _) (.slice A1 p1 d1)
                    have hn2_ := (hn2.setCell (q := ⟨g1, 0, none⟩) k1.typed (.bool bb1)).setCell (q := ⟨g1, 1, none⟩) (k1.typed.setCell _ _) (.slice A1 p1 d1)
                    have hB_ := (hB.setCell (p := ⟨g1, 0, none⟩) hg1 (.bool bb1)).setCell (p := ⟨g1, 1, none⟩) hg1 (.slice A1 p1 d1)
                    clear z0 z1 z2 z3 z4 hB k1 k2 hn1 hn2
                    generalize (wn32.setCell ⟨g1, 0, none⟩ (.bool bb1)).setCell ⟨g1, 1, none⟩ (.slice A1 p1 d1) = wn33 at *
                    have k1 := k1_
                    clear k1_
                    have k2 := k2_
                    clear k2_
                    have hn1 := hn1_
                    clear hn1_
                    have hn2 := hn2_
                    clear hn2_
                    have hB := hB_
                    clear hB_
                    refine hK.out _ _ hB (fun hHeld => ?_)
                    clear hK K hHeld
                    try simp only [List.getElem_toArray, List.getElem_cons_succ, List.getElem_cons_zero, Act.put, List.setIfInBounds_toArray, List.set_cons_zero, List.set_cons_succ]
                    refine wpAnyH_ready (rs := [10]) (by kernel_rfl) (by simp) ?_
                    refine AllReadyH.cons rfl (fun K hK => ?_) AllReadyH.nil
                    obtain ⟨z0, z1, z2, z3, z4⟩ := k2.two
                    go_simp
                    have k2_ := k2.set2 (.bool bb2) (.slice A2 p2 d2)
                    have k1_ := (k1.far (p := ⟨g2, 0, none⟩) (by simp; omega) (.bool bb2)).far (p := ⟨g2, 1, none⟩) (by simp; omega) (.slice A2 p2 d2)
                    have hn1_ := (hn1.setCell (q := ⟨g2, 0, none⟩) k2.typed (.bool bb2)).setCell (q := ⟨g2, 1, none⟩) (k2.typed.setCell _ _) (.slice A2 p2 d2)
                    have hn2_ := (hn2.setCell (q := ⟨g2, 0, none⟩) k2.typed (.bool bb2)).setCell (q := ⟨g2, 1, none⟩) (k2.typed.setCell _ _) (.slice A2 p2 d2)
                    have hB_ := (hB.setCell (p := ⟨g2, 0, none⟩) hg2 (.bool bb2)).setCell (p := ⟨g2, 1, none⟩) hg2 (.slice A2 p2 d2)
                    clear z0 z1 z2 z3 z4 hB k1 k2 hn1 hn2
                    generalize (wn33.setCell ⟨g2, 0, none⟩ (.bool bb2)).setCell ⟨g2, 1, none⟩ (.slice A2 p2 d2) = wn34 at *
                    have k1 := k1_
                    clear k1_
                    have k2 := k2_
                    clear k2_
                    have hn1 := hn1_
                    clear hn1_
                    have hn2 := hn2_
                    clear hn2_
                    have hB := hB_
                    clear hB_
                    refine hK.out _ _ hB (fun hHeld => ?_)
                    clear hK K hHeld
                    try simp only [List.getElem_toArray, List.getElem_cons_succ, List.getElem_cons_zero, Act.put, List.setIfInBounds_toArray, List.set_cons_zero, List.set_cons_succ]
                    refine wpAnyH_done (by kernel_rfl) ?_ _
                    refine NoPanic.normal ?_
                    go_wp2_with fail
                    go_meet
                    exact ⟨_, _, rfl, rfl, _, _, _, _, _, _, _, _, k1, k2, hn1, hn2, hB⟩
                  · go_simp
                    have k2_ := Blk.new wn30 28 #[.bool false, .slice none 0 0]
                    have hnx_ := hnx.alloc (.cells #[.bool false, .slice none 0 0] 28)
                    have k1_ := k1.alloc (.cells #[.bool false, .slice none 0 0] 28)
                    have hnm_ := hnm.alloc (.cells #[.bool false, .slice none 0 0] 28)
                    have hne : g1 < wn30.heap.size := k1.lt
                    have hg2 : wa19.heap.size ≤ wn30.heap.size := hB.size
                    have hB_ := below_alloc hB (Nat.le_refl _) (.cells #[.bool false, .slice none 0 0] 28)
                    clear hB hnx k1 hnm
                    generalize wn30.alloc (.cells #[.bool false, .slice none 0 0] 28) = wn35 at *
                    generalize wn30.heap.size = g2 at *
                    have hnx := hnx_
                    clear hnx_
                    have k1 := k1_
                    clear k1_
                    have hnm := hnm_
                    clear hnm_
                    have k2 := k2_
                    clear k2_
                    have hB := hB_
                    clear hB_
                    refine hK.out _ _ hB (fun hHeld => ?_)
                    clear hK K hHeld
                    try simp only [List.getElem_toArray, List.getElem_cons_succ, List.getElem_cons_zero, Act.put, List.setIfInBounds_toArray, List.set_cons_zero, List.set_cons_succ]
                    refine wpAnyH_ready (rs := [3]) (by kernel_rfl) (by simp) ?_
                    refine AllReadyH.cons rfl (fun K hK => ?_) AllReadyH.nil
                    go_simp
                    refine (HDIV.out _ _ _ _ _ _ _ _ _ hnx hnm HL1.out (num_len hnm HLM.out)).mono ?_
                    rintro e wn36 ⟨bb1, A1, p1, d1, bb2, A2, p2, d2, rfl, hn1, hn2, hc36⟩
                    clear hnx
                    clear hnm
                    have k1_ := k1.under hc36
                    have k2_ := k2.under hc36
                    have hB_ := below_two hB hc36
                    clear hc36 hB k1 k2
                    have k1 := k1_
                    clear k1_
                    have k2 := k2_
                    clear k2_
                    have hB := hB_
                    clear hB_
                    refine hK.out _ _ hB (fun hHeld => ?_)
                    clear hK K hHeld
                    try simp only [List.getElem_toArray, List.getElem_cons_succ, List.getElem_cons_zero, Act.put, List.setIfInBounds_toArray, List.set_cons_zero, List.set_cons_succ]
                    refine wpAnyH_take (i := 4) (v := ?_) rfl (by kernel_rfl) (by kernel_rfl) (by kernel_rfl) (fun _ _ _ h => h) (Or.inl ⟨by rfl, ?_⟩) (by assumption) ?_
                    rotate_left
                    · intro W hW
                      go_simp
                      try rfl
                    simp only [List.getElem_toArray, List.getElem_cons_succ, List.getElem_cons_zero, Act.put, List.setIfInBounds_toArray, List.set_cons_zero, List.set_cons_succ]
                    refine wpAnyH_take (i := 5) (v := ?_) rfl (by kernel_rfl) (by kernel_rfl) (by kernel_rfl) (fun _ _ _ h => h) (Or.inl ⟨by rfl, ?_⟩) (by assumption) ?_
                    rotate_left
                    · intro W hW
                      go_simp
                      try rfl
                    simp only [List.getElem_toArray, List.getElem_cons_succ, List.getElem_cons_zero, Act.put, List.setIfInBounds_toArray, List.set_cons_zero, List.set_cons_succ]
                    refine wpAnyH_take (i := 6) (v := ?_) rfl (by kernel_rfl) (by kernel_rfl) (by kernel_rfl) (fun _ _ _ h => h) (Or.inl ⟨by rfl, ?_⟩) (by assumption) ?_
                    rotate_left
                    · intro W hW
                      go_simp
                      try rfl
                    simp only [List.getElem_toArray, List.getElem_cons_succ, List.getElem_cons_zero, Act.put, List.setIfInBounds_toArray, List.set_cons_zero, List.set_cons_succ]
                    skip
                    refine wpAnyH_ready (rs := [9]) (by kernel_rfl) (by simp) ?_
                    refine AllReadyH.cons rfl (fun K hK => ?_) AllReadyH.nil
                    obtain ⟨z0, z1, z2, z3, z4⟩ := k1.two
                    go_simp
                    have k1_ := k1.set2 (.bool bb1) (.slice A1 p1 d1)
                    have k2_ := (k2.far (p := ⟨g1, 0, none⟩) (by simp; omega) (.bool bb1)).far (p := ⟨g1, 1, none⟩) (by simp; omega) (.slice A1 p1 d1)
                    have hn1_ := (hn1.setCell (q := ⟨g1, 0, none⟩) k1.typed (.bool bb1)).setCell (q := ⟨g1, 1, none⟩) (k1.typed.setCell _ _) (.slice A1 p1 d1)
                    have hn2_ := (hn2.setCell (q := ⟨g1, 0, none⟩) k1.typed (.bool bb1)).setCell (q := ⟨g1, 1, none⟩) (k1.typed.setCell _ _) (.slice A1 p1 d1)
                    have hB_ := (hB.setCell (p := ⟨g1, 0, none⟩) hg1 (.bool bb1)).setCell (p := ⟨g1, 1, none⟩) hg1 (.slice A1 p1 d1)
                    clear z0 z1 z2 z3 z4 hB k1 k2 hn1 hn2
                    generalize (wn36.setCell ⟨g1, 0, none⟩ (.bool bb1)).setCell ⟨g1, 1, none⟩ (.slice A1 p1 d1) = wn37 at *
                    have k1 := k1_
                    clear k1_
                    have k2 := k2_
                    clear k2_
                    have hn1 := hn1_
                    clear hn1_
                    have hn2 := hn2_
                    clear hn2_
                    have hB := hB_
                    clear hB_
                    refine hK.out _ _ hB (fun hHeld => ?_)
                    clear hK K hHeld
                    try simp only [List.getElem_toArray, List.getElem_cons_succ, List.getElem_cons_zero, Act.put, List.setIfInBounds_toArray, List.set_cons_zero, List.set_cons_succ]
                    refine wpAnyH_ready (rs := [10]) (by kernel_rfl) (by simp) ?_
                    refine AllReadyH.cons rfl (fun K hK => ?_) AllReadyH.nil
                    obtain ⟨z0, z1, z2, z3, z4⟩ := k2.two
                    go_simp
                    have k2_ := k2.set2 (.bool bb2) (.slice A2 p2 d2)
                    have k1_ := (k1.far (p := ⟨g2, 0, none⟩) (by simp; omega) (.bool bb2)).far (p := ⟨g2, 1, none⟩) (by simp; omega) (.slice A2 p2 d2)
                    have hn1_ := (hn1.setCell (q := ⟨g2, 0, none⟩) k2.typed (.bool bb2)).setCell (q := ⟨g2, 1, none⟩) (k2.typed.setCell _ _) (.slice A2 p2 d2)
                    have hn2_ := (hn2.setCell (q := ⟨g2, 0, none⟩) k2.typed (.bool bb2)).setCell (q := ⟨g2, 1, none⟩) (k2.typed.setCell _ _) (.slice A2 p2 d2)
                    have hB_ := (hB.setCell (p := ⟨g2, 0, none⟩) hg2 (.bool bb2)).setCell (p := ⟨g2, 1, none⟩) hg2 (.slice A2 p2 d2)
                    clear z0 z1 z2 z3 z4 hB k1 k2 hn1 hn2
                    generalize (wn37.setCell ⟨g2, 0, none⟩ (.bool bb2)).setCell ⟨g2, 1, none⟩ (.slice A2 p2 d2) = wn38 at *
                    have k1 := k1_
                    clear k1_
                    have k2 := k2_
                    clear k2_
                    have hn1 := hn1_
                    clear hn1_
                    have hn2 := hn2_
                    clear hn2_
                    have hB := hB_
                    clear hB_
                    refine hK.out _ _ hB (fun hHeld => ?_)
                    clear hK K hHeld
                    try simp only [List.getElem_toArray, List.getElem_cons_succ, List.getElem_cons_zero, Act.put, List.setIfInBounds_toArray, List.set_cons_zero, List.set_cons_succ]
                    refine wpAnyH_done (by kernel_rfl) ?_ _
                    refine NoPanic.normal ?_
                    go_wp2_with fail
                    go_meet
                    exact ⟨_, _, rfl, rfl, _, _, _, _, _, _, _, _, k1, k2, hn1, hn2, hB⟩
                · go_simp
                  have k2_ := Blk.new wn29 28 #[.bool false, .slice none 0 0]
                  have hnx_ := hnx.alloc (.cells #[.bool false, .slice none 0 0] 28)
                  have k1_ := k1.alloc (.cells #[.bool false, .slice none 0 0] 28)
                  have hne : g1 < wn29.heap.size := k1.lt
                  have hg2 : wa19.heap.size ≤ wn29.heap.size := hB.size
                  have hB_ := below_alloc hB (Nat.le_refl _) (.cells #[.bool false, .slice none 0 0] 28)
                  clear hB hnx k1
                  generalize wn29.alloc (.cells #[.bool false, .slice none 0 0] 28) = wn39 at *
                  generalize wn29.heap.size = g2 at *
                  have hnx := hnx_
                  clear hnx_
                  have k1 := k1_
                  clear k1_
                  have k2 := k2_
                  clear k2_
                  have hB := hB_
                  clear hB_
                  refine hK.out _ _ hB (fun hHeld => ?_)
                  clear hK K hHeld
                  try simp only [List.getElem_toArray, List.getElem_cons_succ, List.getElem_cons_zero, Act.put, List.setIfInBounds_toArray, List.set_cons_zero, List.set_cons_succ]
                  refine wpAnyH_ready (rs := [2]) (by kernel_rfl) (by simp) ?_
                  refine AllReadyH.cons rfl (fun K hK => ?_) AllReadyH.nil
                  go_simp
                  refine (HIM.out _).mono ?_
                  rintro e wn40 ⟨bm, Am, pm, dm, rfl, hnm, hc40⟩
                  have hnx_ := hnx.below hc40
                  have k1_ := k1.under hc40
                  have k2_ := k2.under hc40
                  have hB_ := below_two hB hc40
                  clear hc40 hB hnx k1 k2
                  have hnx := hnx_
                  clear hnx_
                  have k1 := k1_
                  clear k1_
                  have k2 := k2_
                  clear k2_
                  have hB := hB_
                  clear hB_
                  refine hK.out _ _ hB (fun hHeld => ?_)
                  clear hK K hHeld
                  try simp only [List.getElem_toArray, List.getElem_cons_succ, List.getElem_cons_zero, Act.put, List.setIfInBounds_toArray, List.set_cons_zero, List.set_cons_succ]
                  refine wpAnyH_ready (rs := [3]) (by kernel_rfl) (by simp) ?_
                  refine AllReadyH.cons rfl (fun K hK => ?_) AllReadyH.nil
                  go_simp
                  refine (HDIV.out _ _ _ _ _ _ _ _ _ hnx hnm HL1.out (num_len hnm HLM.out)).mono ?_
                  rintro e wn41 ⟨bb1, A1, p1, d1, bb2, A2, p2, d2, rfl, hn1, hn2, hc41⟩
                  clear hnx
                  clear hnm
                  have k1_ := k1.under hc41
                  have k2_ := k2.under hc41
                  have hB_ := below_two hB hc41
                  clear hc41 hB k1 k2
                  have k1 := k1_
                  clear k1_
                  have k2 := k2_
                  clear k2_
                  have hB := hB_
                  clear hB_
                  refine hK.out _ _ hB (fun hHeld => ?_)
                  clear hK K hHeld
                  try simp only [List.getElem_toArray, List.getElem_cons_succ, List.getElem_cons_zero, Act.put, List.setIfInBounds_toArray, List.set_cons_zero, List.set_cons_succ]
                  refine wpAnyH_take (i := 4) (v := ?_) rfl (by kernel_rfl) (by kernel_rfl) (by kernel_rfl) (fun _ _ _ h => h) (Or.inl ⟨by rfl, ?_⟩) (by assumption) ?_
                  rotate_left
                  · intro W hW
                    go_simp
                    try rfl
                  simp only [List.getElem_toArray, List.getElem_cons_succ, List.getElem_cons_zero, Act.put, List.setIfInBounds_toArray, List.set_cons_zero, List.set_cons_succ]
                  refine wpAnyH_take (i := 5) (v := ?_) rfl (by kernel_rfl) (by kernel_rfl) (by kernel_rfl) (fun _ _ _ h => h) (Or.inl ⟨by rfl, ?_⟩) (by assumption) ?_
                  rotate_left
                  · intro W hW
                    go_simp
                    try rfl
                  simp only [List.getElem_toArray, List.getElem_cons_succ, List.getElem_cons_zero, Act.put, List.setIfInBounds_toArray, List.set_cons_zero, List.set_cons_succ]
                  refine wpAnyH_take (i := 6) (v := ?_) rfl (by kernel_rfl) (by kernel_rfl) (by kernel_rfl) (fun _ _ _ h => h) (Or.inl ⟨by rfl, ?_⟩) (by assumption) ?_
                  rotate_left
                  · intro W hW
                    go_simp
                    try rfl
                  simp only [List.getElem_toArray, List.getElem_cons_succ, List.getElem_cons_zero, Act.put, List.setIfInBounds_toArray, List.set_cons_zero, List.set_cons_succ]
                  skip
                  refine wpAnyH_ready (rs := [9]) (by kernel_rfl) (by simp) ?_
                  refine AllReadyH.cons rfl (fun K hK => ?_) AllReadyH.nil
                  obtain ⟨z0, z1, z2, z3, z4⟩ := k1.two
                  go_simp
                  have k1_ := k1.set2 (.bool bb1) (.slice A1 p1 d1)
                  have k2_ := (k2.far (p := ⟨g1, 0, none⟩) (by simp; omega) (.bool bb1)).far (p := ⟨g1, 1, none⟩) (by simp; omega) (.slice A1 p1 d1)
                  have hn1_ := (hn1.setCell (q := ⟨g1, 0, none⟩) k1.typed (.bool bb1)).setCell (q := ⟨g1, 1, none⟩) (k1.typed.setCell _ _) (.slice A1 p1 d1)
                  have hn2_ := (hn2.setCell (q := ⟨g1, 0, none⟩) k1.typed (.bool bb1)).setCell (q := ⟨g1, 1, none⟩) (k1.typed.setCell _ _) (.slice A1 p1 d1)
                  have hB_ := (hB.setCell (p := ⟨g1, 0, none⟩) hg1 (.bool bb1)).setCell (p := ⟨g1, 1, none⟩) hg1 (.slice A1 p1 d1)
                  clear z0 z1 z2 z3 z4 hB k1 k2 hn1 hn2
                  generalize (wn41.setCell ⟨g1, 0, none⟩ (.bool bb1)).setCell ⟨g1, 1, none⟩ (.slice A1 p1 d1) = wn42 at *
                  have k1 := k1_
                  clear k1_
                  have k2 := k2_
                  clear k2_
                  have hn1 := hn1_
                  clear hn1_
                  have hn2 := hn2_
                  clear hn2_
                  have hB := hB_
                  clear hB_
                  refine hK.out _ _ hB (fun hHeld => ?_)
                  clear hK K hHeld
                  try simp only [List.getElem_toArray, List.getElem_cons_succ, List.getElem_cons_zero, Act.put, List.setIfInBounds_toArray, List.set_cons_zero, List.set_cons_succ]
                  refine wpAnyH_ready (rs := [10]) (by kernel_rfl) (by simp) ?_
                  refine AllReadyH.cons rfl (fun K hK => ?_) AllReadyH.nil
                  obtain ⟨z0, z1, z2, z3, z4⟩ := k2.two
                  go_simp
                  have k2_ := k2.set2 (.bool bb2) (.slice A2 p2 d2)
                  have k1_ := (k1.far (p := ⟨g2, 0, none⟩) (by simp; omega) (.bool bb2)).far (p := ⟨g2, 1, none⟩) (by simp; omega) (.slice A2 p2 d2)
                  have hn1_ := (hn1.setCell (q := ⟨g2, 0, none⟩) k2.typed (.bool bb2)).setCell (q := ⟨g2, 1, none⟩) (k2.typed.setCell _ _) (.slice A2 p2 d2)
                  have hn2_ := (hn2.setCell (q := ⟨g2, 0, none⟩) k2.typed (.bool bb2)).setCell (q := ⟨g2, 1, none⟩) (k2.typed.setCell _ _) (.slice A2 p2 d2)
                  have hB_ := (hB.setCell (p := ⟨g2, 0, none⟩) hg2 (.bool bb2)).setCell (p := ⟨g2, 1, none⟩) hg2 (.slice A2 p2 d2)
                  clear z0 z1 z2 z3 z4 hB k1 k2 hn1 hn2
                  generalize (wn42.setCell ⟨g2, 0, none⟩ (.bool bb2)).setCell ⟨g2, 1, none⟩ (.slice A2 p2 d2) = wn43 at *
                  have k1 := k1_
                  clear k1_
                  have k2 := k2_
                  clear k2_
                  have hn1 := hn1_
                  clear hn1_
                  have hn2 := hn2_
                  clear hn2_
                  have hB := hB_
                  clear hB_
                  refine hK.out _ _ hB (fun hHeld => ?_)
                  clear hK K hHeld
                  try simp only [List.getElem_toArray, List.getElem_cons_succ, List.getElem_cons_zero, Act.put, List.setIfInBounds_toArray, List.set_cons_zero, List.set_cons_succ]
                  refine wpAnyH_done (by kernel_rfl) ?_ _
                  refine NoPanic.normal ?_
                  go_wp2_with fail
                  go_meet
                  exact ⟨_, _, rfl, rfl, _, _, _, _, _, _, _, _, k1, k2, hn1, hn2, hB⟩
              · go_simp
                have k2_ := Blk.new wd 28 #[.bool false, .slice none 0 0]
                have hnx_ := hnx.alloc (.cells #[.bool false, .slice none 0 0] 28)
                have hg2 : wa19.heap.size ≤ wd.heap.size := hB.size
                have hB_ := below_alloc hB (Nat.le_refl _) (.cells #[.bool false, .slice none 0 0] 28)
                clear hB hnx
                generalize wd.alloc (.cells #[.bool false, .slice none 0 0] 28) = wn44 at *
                generalize wd.heap.size = g2 at *
                have hnx := hnx_
                clear hnx_
                have k2 := k2_
                clear k2_
                have hB := hB_
                clear hB_
                refine hK.out _ _ hB (fun hHeld => ?_)
                clear hK K hHeld
                try simp only [List.getElem_toArray, List.getElem_cons_succ, List.getElem_cons_zero, Act.put, List.setIfInBounds_toArray, List.set_cons_zero, List.set_cons_succ]
                refine wpAnyH_ready (rs := [2, 7]) (by kernel_rfl) (by simp) ?_
                refine AllReadyH.cons rfl (fun K hK => ?_) (AllReadyH.cons rfl (fun K hK => ?_) AllReadyH.nil)
                · go_simp
                  refine (HIM.out _).mono ?_
                  rintro e wn45 ⟨bm, Am, pm, dm, rfl, hnm, hc45⟩
                  have hnx_ := hnx.below hc45
                  have k2_ := k2.under hc45
                  have hB_ := below_two hB hc45
                  clear hc45 hB hnx k2
                  have hnx := hnx_
                  clear hnx_
                  have k2 := k2_
                  clear k2_
                  have hB := hB_
                  clear hB_
                  refine hK.out _ _ hB (fun hHeld => ?_)
                  clear hK K hHeld
                  try simp only [List.getElem_toArray, List.getElem_cons_succ, List.getElem_cons_zero, Act.put, List.setIfInBounds_toArray, List.set_cons_zero, List.set_cons_succ]
                  refine wpAnyH_ready (rs := [3, 7]) (by kernel_rfl) (by simp) ?_
                  refine AllReadyH.cons rfl (fun K hK => ?_) (AllReadyH.cons rfl (fun K hK => ?_) AllReadyH.nil)
                  · go_simp
                    refine (HDIV.out _ _ _ _ _ _ _ _ _ hnx hnm HL1.out (num_len hnm HLM.out)).mono ?_
                    rintro e wn46 ⟨bb1, A1, p1, d1, bb2, A2, p2, d2, rfl, hn1, hn2, hc46⟩
                    clear hnx
                    clear hnm
                    have k2_ := k2.under hc46
                    have hB_ := below_two hB hc46
                    clear hc46 hB k2
                    have k2 := k2_
                    clear k2_
                    have hB := hB_
                    clear hB_
                    refine hK.out _ _ hB (fun hHeld => ?_)
                    clear hK K hHeld
                    try simp only [List.getElem_toArray, List.getElem_cons_succ, List.getElem_cons_zero, Act.put, List.setIfInBounds_toArray, List.set_cons_zero, List.set_cons_succ]
                    refine wpAnyH_take (i := 4) (v := ?_) rfl (by kernel_rfl) (by kernel_rfl) (by kernel_rfl) (fun _ _ _ h => h) (Or.inl ⟨by rfl, ?_⟩) (by assumption) ?_
                    rotate_left
                    · intro W hW
                      go_simp
                      try rfl
                    simp only [List.getElem_toArray, List.getElem_cons_succ, List.getElem_cons_zero, Act.put, List.setIfInBounds_toArray, List.set_cons_zero, List.set_cons_succ]
                    refine wpAnyH_take (i := 5) (v := ?_) rfl (by kernel_rfl) (by kernel_rfl) (by kernel_rfl) (fun _ _ _ h => h) (Or.inl ⟨by rfl, ?_⟩) (by assumption) ?_
                    rotate_left
                    · intro W hW
                      go_simp
                      try rfl
                    simp only [List.getElem_toArray, List.getElem_cons_succ, List.getElem_cons_zero, Act.put, List.setIfInBounds_toArray, List.set_cons_zero, List.set_cons_succ]
                    refine wpAnyH_take (i := 6) (v := ?_) rfl (by kernel_rfl) (by kernel_rfl) (by kernel_rfl) (fun _ _ _ h => h) (Or.inl ⟨by rfl, ?_⟩) (by assumption) ?_
                    rotate_left
                    · intro W hW
                      go_simp
                      try rfl
                    simp only [List.getElem_toArray, List.getElem_cons_succ, List.getElem_cons_zero, Act.put, List.setIfInBounds_toArray, List.set_cons_zero, List.set_cons_succ]
                    skip
                    refine wpAnyH_ready (rs := [7]) (by kernel_rfl) (by simp) ?_
                    refine AllReadyH.cons rfl (fun K hK => ?_) AllReadyH.nil
                    go_simp
                    have k1_ := Blk.new wn46 28 #[.bool false, .slice none 0 0]
                    have k2_ := k2.alloc (.cells #[.bool false, .slice none 0 0] 28)
                    have hn1_ := hn1.alloc (.cells #[.bool false, .slice none 0 0] 28)
                    have hn2_ := hn2.alloc (.cells #[.bool false, .slice none 0 0] 28)
                    have hne : g2 < wn46.heap.size := k2.lt
                    have hg1 : wa19.heap.size ≤ wn46.heap.size := hB.size
                    have hB_ := below_alloc hB (Nat.le_refl _) (.cells #[.bool false, .slice none 0 0] 28)
                    clear hB k2 hn1 hn2
                    generalize wn46.alloc (.cells #[.bool false, .slice none 0 0] 28) = wn47 at *
                    generalize wn46.heap.size = g1 at *
                    have k2 := k2_
                    clear k2_
                    have hn1 := hn1_
                    clear hn1_
                    have hn2 := hn2_
                    clear hn2_
                    have k1 := k1_
                    clear k1_
                    have hB := hB_
                    clear hB_
                    refine hK.out _ _ hB (fun hHeld => ?_)
                    clear hK K hHeld
                    try simp only [List.getElem_toArray, List.getElem_cons_succ, List.getElem_cons_zero, Act.put, List.setIfInBounds_toArray, List.set_cons_zero, List.set_cons_succ]
                    refine wpAnyH_ready (rs := [9]) (by kernel_rfl) (by simp) ?_
                    refine AllReadyH.cons rfl (fun K hK => ?_) AllReadyH.nil
                    obtain ⟨z0, z1, z2, z3, z4⟩ := k1.two
                    go_simp
                    have k1_ := k1.set2 (.bool bb1) (.slice A1 p1 d1)
                    have k2_ := (k2.far (p := ⟨g1, 0, none⟩) (by simp; omega) (.bool bb1)).far (p := ⟨g1, 1, none⟩) (by simp; omega) (.slice A1 p1 d1)
                    have hn1_ := (hn1.setCell (q := ⟨g1, 0, none⟩) k1.typed (.bool bb1)).setCell (q := ⟨g1, 1, none⟩) (k1.typed.setCell _ _) (.slice A1 p1 d1)
                    have hn2_ := (hn2.setCell (q := ⟨g1, 0, none⟩) k1.typed (.bool bb1)).setCell (q := ⟨g1, 1, none⟩) (k1.typed.setCell _ _) (.slice A1 p1 d1)
                    have hB_ := (hB.setCell (p := ⟨g1, 0, none⟩) hg1 (.bool bb1)).setCell (p := ⟨g1, 1, none⟩) hg1 (.slice A1 p1 d1)
                    clear z0 z1 z2 z3 z4 hB k1 k2 hn1 hn2
                    generalize (wn47.setCell ⟨g1, 0, none⟩ (.bool bb1)).setCell ⟨g1, 1, none⟩ (.slice A1 p1 d1) = wn48 at *
                    have k1 := k1_
                    clear k1_
                    have k2 := k2_
                    clear k2_
                    have hn1 := hn1_
                    clear hn1_
                    have hn2 := hn2_
                    clear hn2_
                    have hB := hB_
                    clear hB_
                    refine hK.out _ _ hB (fun hHeld => ?_)
                    clear hK K hHeld
                    try simp only [List.getElem_toArray, List.getElem_cons_succ, List.getElem_cons_zero, Act.put, List.setIfInBounds_toArray, List.set_cons_zero, List.set_cons_succ]
                    refine wpAnyH_ready (rs := [10]) (by kernel_rfl) (by simp) ?_
                    refine AllReadyH.cons rfl (fun K hK => ?_) AllReadyH.nil
                    obtain ⟨z0, z1, z2, z3, z4⟩ := k2.two
                    go_simp
                    have k2_ := k2.set2 (.bool bb2) (.slice A2 p2 d2)
                    have k1_ := (k1.far (p := ⟨g2, 0, none⟩) (by simp; omega) (.bool bb2)).far (p := ⟨g2, 1, none⟩) (by simp; omega) (.slice A2 p2 d2)
                    have hn1_ := (hn1.setCell (q := ⟨g2, 0, none⟩) k2.typed (.bool bb2)).setCell (q := ⟨g2, 1, none⟩) (k2.typed.setCell _ _) (.slice A2 p2 d2)
                    have hn2_ := (hn2.setCell (q := ⟨g2, 0, none⟩) k2.typed (.bool bb2)).setCell (q := ⟨g2, 1, none⟩) (k2.typed.setCell _ _) (.slice A2 p2 d2)
                    have hB_ := (hB.setCell (p := ⟨g2, 0, none⟩) hg2 (.bool bb2)).setCell (p := ⟨g2, 1, none⟩) hg2 (.slice A2 p2 d2)
                    clear z0 z1 z2 z3 z4 hB k1 k2 hn1 hn2
                    generalize (wn48.setCell ⟨g2, 0, none⟩ (.bool bb2)).setCell ⟨g2, 1, none⟩ (.slice A2 p2 d2) = wn49 at *
                    have k1 := k1_
                    clear k1_
                    have k2 := k2_
                    clear k2_
                    have hn1 := hn1_
                    clear hn1_
                    have hn2 := hn2_
                    clear hn2_
                    have hB := hB_
                    clear hB_
                    refine hK.out _ _ hB (fun hHeld => ?_)
                    clear hK K hHeld
                    try simp only [List.getElem_toArray, List.getElem_cons_succ, List.getElem_cons_zero, Act.put, List.setIfInBounds_toArray, List.set_cons_zero, List.set_cons_succ]
                    refine wpAnyH_done (by kernel_rfl) ?_ _
                    refine NoPanic.normal ?_
                    go_wp2_with fail
                    go_meet
                    exact ⟨_, _, rfl, rfl, _, _, _, _, _, _, _, _, k1, k2, hn1, hn2, hB⟩
                  · go_simp
                    have k1_ := Blk.new wn45 28 #[.bool false, .slice none 0 0]
                    have hnx_ := hnx.alloc (.cells #[.bool false, .slice none 0 0] 28)
                    have k2_ := k2.alloc (.cells #[.bool false, .slice none 0 0] 28)
                    have hnm_ := hnm.alloc (.cells #[.bool false, .slice none 0 0] 28)
                    have hne : g2 < wn45.heap.size := k2.lt
                    have hg1 : wa19.heap.size ≤ wn45.heap.size := hB.size
                    have hB_ := below_alloc hB (Nat.le_refl _) (.cells #[.bool false, .slice none 0 0] 28)
                    clear hB hnx k2 hnm
                    generalize wn45.alloc (.cells #[.bool false, .slice none 0 0] 28) = wn50 at *
                    generalize wn45.heap.size = g1 at *
                    have hnx := hnx_
                    clear hnx_
                    have k2 := k2_
                    clear k2_
                    have hnm := hnm_
                    clear hnm_
                    have k1 := k1_
                    clear k1_
                    have hB := hB_
                    clear hB_
                    refine hK.out _ _ hB (fun hHeld => ?_)
                    clear hK K hHeld
                    try simp only [List.getElem_toArray, List.getElem_cons_succ, List.getElem_cons_zero, Act.put, List.setIfInBounds_toArray, List.set_cons_zero, List.set_cons_succ]
                    refine wpAnyH_ready (rs := [3]) (by kernel_rfl) (by simp) ?_
                    refine AllReadyH.cons rfl (fun K hK => ?_) AllReadyH.nil
                    go_simp
                    refine (HDIV.out _ _ _ _ _ _ _ _ _ hnx hnm HL1.out (num_len hnm HLM.out)).mono ?_
                    rintro e wn51 ⟨bb1, A1, p1, d1, bb2, A2, p2, d2, rfl, hn1, hn2, hc51⟩
                    clear hnx
                    clear hnm
                    have k2_ := k2.under hc51
                    have k1_ := k1.under hc51
                    have hB_ := below_two hB hc51
                    clear hc51 hB k2 k1
                    have k2 := k2_
                    clear k2_
                    have k1 := k1_
                    clear k1_
                    have hB := hB_
                    clear hB_
                    refine hK.out _ _ hB (fun hHeld => ?_)
                    clear hK K hHeld
                    try simp only [List.getElem_toArray, List.getElem_cons_succ, List.getElem_cons_zero, Act.put, List.setIfInBounds_toArray, List.set_cons_zero, List.set_cons_succ]
                    refine wpAnyH_take (i := 4) (v := ?_) rfl (by kernel_rfl) (by kernel_rfl) (by kernel_rfl) (fun _ _ _ h => h) (Or.inl ⟨by rfl, ?_⟩) (by assumption) ?_
                    rotate_left
                    · intro W hW
                      go_simp
                      try rfl
                    simp only [List.getElem_toArray, List.getElem_cons_succ, List.getElem_cons_zero, Act.put, List.setIfInBounds_toArray, List.set_cons_zero, List.set_cons_succ]
                    refine wpAnyH_take (i := 5) (v := ?_) rfl (by kernel_rfl) (by kernel_rfl) (by kernel_rfl) (fun _ _ _ h => h) (Or.inl ⟨by rfl, ?_⟩) (by assumption) ?_
                    rotate_left
                    · intro W hW
                      go_simp
                      try rfl
                    simp only [List.getElem_toArray, List.getElem_cons_succ, List.getElem_cons_zero, Act.put, List.setIfInBounds_toArray, List.set_cons_zero, List.set_cons_succ]
                    refine wpAnyH_take (i := 6) (v := ?_) rfl (by kernel_rfl) (by kernel_rfl) (by kernel_rfl) (fun _ _ _ h => h) (Or.inl ⟨by rfl, ?_⟩) (by assumption) ?_
                    rotate_left
                    · intro W hW
                      go_simp
                      try rfl
                    simp only [List.getElem_toArray, List.getElem_cons_succ, List.getElem_cons_zero, Act.put, List.setIfInBounds_toArray, List.set_cons_zero, List.set_cons_succ]
                    skip
                    refine wpAnyH_ready (rs := [9]) (by kernel_rfl) (by simp) ?_
                    refine AllReadyH.cons rfl (fun K hK => ?_) AllReadyH.nil
                    obtain ⟨z0, z1, z2, z3, z4⟩ := k1.two
                    go_simp
                    have k1_ := k1.set2 (.bool bb1) (.slice A1 p1 d1)
                    have k2_ := (k2.far (p := ⟨g1, 0, none⟩) (by simp; omega) (.bool bb1)).far (p := ⟨g1, 1, none⟩) (by simp; omega) (.slice A1 p1 d1)
                    have hn1_ := (hn1.setCell (q := ⟨g1, 0, none⟩) k1.typed (.bool bb1)).setCell (q := ⟨g1, 1, none⟩) (k1.typed.setCell _ _) (.slice A1 p1 d1)
                    have hn2_ := (hn2.setCell (q := ⟨g1, 0, none⟩) k1.typed (.bool bb1)).setCell (q := ⟨g1, 1, none⟩) (k1.typed.setCell _ _) (.slice A1 p1 d1)
                    have hB_ := (hB.setCell (p := ⟨g1, 0, none⟩) hg1 (.bool bb1)).setCell (p := ⟨g1, 1, none⟩) hg1 (.slice A1 p1 d1)
                    clear z0 z1 z2 z3 z4 hB k1 k2 hn1 hn2
                    generalize (wn51.setCell ⟨g1, 0, none⟩ (.bool bb1)).setCell ⟨g1, 1, none⟩ (.slice A1 p1 d1) = wn52 at *
                    have k1 := k1_
                    clear k1_
                    have k2 := k2_
                    clear k2_
                    have hn1 := hn1_
                    clear hn1_
                    have hn2 := hn2_
                    clear hn2_
                    have hB := hB_
                    clear hB_
                    refine hK.out _ _ hB (fun hHeld => ?_)
                    clear hK K hHeld
                    try simp only [List.getElem_toArray, List.getElem_cons_succ, List.getElem_cons_zero, Act.put, List.setIfInBounds_toArray, List.set_cons_zero, List.set_cons_succ]
                    refine wpAnyH_ready (rs := [10]) (by kernel_rfl) (by simp) ?_
                    refine AllReadyH.cons rfl (fun K hK => ?_) AllReadyH.nil
                    obtain ⟨z0, z1, z2, z3, z4⟩ := k2.two
                    go_simp
                    have k2_ := k2.set2 (.bool bb2) (.slice A2 p2 d2)
                    have k1_ := (k1.far (p := ⟨g2, 0, none⟩) (by simp; omega) (.bool bb2)).far (p := ⟨g2, 1, none⟩) (by simp; omega) (.slice A2 p2 d2)
                    have hn1_ := (hn1.setCell (q := ⟨g2, 0, none⟩) k2.typed (.bool bb2)).setCell (q := ⟨g2, 1, none⟩) (k2.typed.setCell _ _) (.slice A2 p2 d2)
                    have hn2_ := (hn2.setCell (q := ⟨g2, 0, none⟩) k2.typed (.bool bb2)).setCell (q := ⟨g2, 1, none⟩) (k2.typed.setCell _ _) (.slice A2 p2 d2)
                    have hB_ := (hB.setCell (p := ⟨g2, 0, none⟩) hg2 (.bool bb2)).setCell (p := ⟨g2, 1, none⟩) hg2 (.slice A2 p2 d2)
                    clear z0 z1 z2 z3 z4 hB k1 k2 hn1 hn2
                    generalize (wn52.setCell ⟨g2, 0, none⟩ (.bool bb2)).setCell ⟨g2, 1, none⟩ (.slice A2 p2 d2) = wn53 at *
                    have k1 := k1_
                    clear k1_
                    have k2 := k2_
                    clear k2_
                    have hn1 := hn1_
                    clear hn1_
                    have hn2 := hn2_
                    clear hn2_
                    have hB := hB_
                    clear hB_
                    refine hK.out _ _ hB (fun hHeld => ?_)
                    clear hK K hHeld
                    try simp only [List.getElem_toArray, List.getElem_cons_succ, List.getElem_cons_zero, Act.put, List.setIfInBounds_toArray, List.set_cons_zero, List.set_cons_succ]
                    refine wpAnyH_done (by kernel_rfl) ?_ _
                    refine NoPanic.normal ?_
                    go_wp2_with fail
                    go_meet
                    exact ⟨_, _, rfl, rfl, _, _, _, _, _, _, _, _, k1, k2, hn1, hn2, hB⟩
                · go_simp
                  have k1_ := Blk.new wn44 28 #[.bool false, .slice none 0 0]
                  have hnx_ := hnx.alloc (.cells #[.bool false, .slice none 0 0] 28)
                  have k2_ := k2.alloc (.cells #[.bool false, .slice none 0 0] 28)
                  have hne : g2 < wn44.heap.size := k2.lt
                  have hg1 : wa19.heap.size ≤ wn44.heap.size := hB.size
                  have hB_ := below_alloc hB (Nat.le_refl _) (.cells #[.bool false, .slice none 0 0] 28)
                  clear hB hnx k2
                  generalize wn44.alloc (.cells #[.bool false, .slice none 0 0] 28) = wn54 at *
                  generalize wn44.heap.size = g1 at *
                  have hnx := hnx_
                  clear hnx_
                  have k2 := k2_
                  clear k2_
                  have k1 := k1_
                  clear k1_
                  have hB := hB_
                  clear hB_
                  refine hK.out _ _ hB (fun hHeld => ?_)
                  clear hK K hHeld
                  try simp only [List.getElem_toArray, List.getElem_cons_succ, List.getElem_cons_zero, Act.put, List.setIfInBounds_toArray, List.set_cons_zero, List.set_cons_succ]
                  refine wpAnyH_ready (rs := [2]) (by kernel_rfl) (by simp) ?_
                  refine AllReadyH.cons rfl (fun K hK => ?_) AllReadyH.nil
                  go_simp
                  refine (HIM.out _).mono ?_
                  rintro e wn55 ⟨bm, Am, pm, dm, rfl, hnm, hc55⟩
                  have hnx_ := hnx.below hc55
                  have k2_ := k2.under hc55
                  have k1_ := k1.under hc55
                  have hB_ := below_two hB hc55
                  clear hc55 hB hnx k2 k1
                  have hnx := hnx_
                  clear hnx_
                  have k2 := k2_
                  clear k2_
                  have k1 := k1_
                  clear k1_
                  have hB := hB_
                  clear hB_
                  refine hK.out _ _ hB (fun hHeld => ?_)
                  clear hK K hHeld
                  try simp only [List.getElem_toArray, List.getElem_cons_succ, List.getElem_cons_zero, Act.put, List.setIfInBounds_toArray, List.set_cons_zero, List.set_cons_succ]
                  refine wpAnyH_ready (rs := [3]) (by kernel_rfl) (by simp) ?_
                  refine AllReadyH.cons rfl (fun K hK => ?_) AllReadyH.nil
                  go_simp
                  refine (HDIV.out _ _ _ _ _ _ _ _ _ hnx hnm HL1.out (num_len hnm HLM.out)).mono ?_
                  rintro e wn56 ⟨bb1, A1, p1, d1, bb2, A2, p2, d2, rfl, hn1, hn2, hc56⟩
                  clear hnx
                  clear hnm
                  have k2_ := k2.under hc56
                  have k1_ := k1.under hc56
                  have hB_ := below_two hB hc56
                  clear hc56 hB k2 k1
                  have k2 := k2_
                  clear k2_
                  have k1 := k1_
                  clear k1_
                  have hB := hB_
                  clear hB_
                  refine hK.out _ _ hB (fun hHeld => ?_)
                  clear hK K hHeld
                  try simp only [List.getElem_toArray, List.getElem_cons_succ, List.getElem_cons_zero, Act.put, List.setIfInBounds_toArray, List.set_cons_zero, List.set_cons_succ]
                  refine wpAnyH_take (i := 4) (v := ?_) rfl (by kernel_rfl) (by kernel_rfl) (by kernel_rfl) (fun _ _ _ h => h) (Or.inl ⟨by rfl, ?_⟩) (by assumption) ?_
                  rotate_left
                  · intro W hW
                    go_simp
                    try rfl
                  simp only [List.getElem_toArray, List.getElem_cons_succ, List.getElem_cons_zero, Act.put, List.setIfInBounds_toArray, List.set_cons_zero, List.set_cons_succ]
                  refine wpAnyH_take (i := 5) (v := ?_) rfl (by kernel_rfl) (by kernel_rfl) (by kernel_rfl) (fun _ _ _ h => h) (Or.inl ⟨by rfl, ?_⟩) (by assumption) ?_
                  rotate_left
                  · intro W hW
                    go_simp
                    try rfl
                  simp only [List.getElem_toArray, List.getElem_cons_succ, List.getElem_cons_zero, Act.put, List.setIfInBounds_toArray, List.set_cons_zero, List.set_cons_succ]
                  refine wpAnyH_take (i := 6) (v := ?_) rfl (by kernel_rfl) (by kernel_rfl) (by kernel_rfl) (fun _ _ _ h => h) (Or.inl ⟨by rfl, ?_⟩) (by assumption) ?_
                  rotate_left
                  · intro W hW
                    go_simp
                    try rfl
                  simp only [List.getElem_toArray, List.getElem_cons_succ, List.getElem_cons_zero, Act.put, List.setIfInBounds_toArray, List.set_cons_zero, List.set_cons_succ]
                  skip
                  refine wpAnyH_ready (rs := [9]) (by kernel_rfl) (by simp) ?_
                  refine AllReadyH.cons rfl (fun K hK => ?_) AllReadyH.nil
                  obtain ⟨z0, z1, z2, z3, z4⟩ := k1.two
                  go_simp
                  have k1_ := k1.set2 (.bool bb1) (.slice A1 p1 d1)
                  have k2_ := (k2.far (p := ⟨g1, 0, none⟩) (by simp; omega) (.bool bb1)).far (p := ⟨g1, 1, none⟩) (by simp; omega) (.slice A1 p1 d1)
                  have hn1_ := (hn1.setCell (q := ⟨g1, 0, none⟩) k1.typed (.bool bb1)).setCell (q := ⟨g1, 1, none⟩) (k1.typed.setCell _ _) (.slice A1 p1 d1)
                  have hn2_ := (hn2.setCell (q := ⟨g1, 0, none⟩) k1.typed (.bool bb1)).setCell (q := ⟨g1, 1, none⟩) (k1.typed.setCell _ _) (.slice A1 p1 d1)
                  have hB_ := (hB.setCell (p := ⟨g1, 0, none⟩) hg1 (.bool bb1)).setCell (p := ⟨g1, 1, none⟩) hg1 (.slice A1 p1 d1)
                  clear z0 z1 z2 z3 z4 hB k1 k2 hn1 hn2
                  generalize (wn56.setCell ⟨g1, 0, none⟩ (.bool bb1)).setCell ⟨g1, 1, none⟩ (.slice A1 p1 d1) = wn57 at *
                  have k1 := k1_
                  clear k1_
                  have k2 := k2_
                  clear k2_
                  have hn1 := hn1_
                  clear hn1_
                  have hn2 := hn2_
                  clear hn2_
                  have hB := hB_
                  clear hB_
                  refine hK.out _ _ hB (fun hHeld => ?_)
                  clear hK K hHeld
                  try simp only [List.getElem_toArray, List.getElem_cons_succ, List.getElem_cons_zero, Act.put, List.setIfInBounds_toArray, List.set_cons_zero, List.set_cons_succ]
                  refine wpAnyH_ready (rs := [10]) (by kernel_rfl) (by simp) ?_
                  refine AllReadyH.cons rfl (fun K hK => ?_) AllReadyH.nil
                  obtain ⟨z0, z1, z2, z3, z4⟩ := k2.two
                  go_simp
                  have k2_ := k2.set2 (.bool bb2) (.slice A2 p2 d2)
                  have k1_ := (k1.far (p := ⟨g2, 0, none⟩) (by simp; omega) (.bool bb2)).far (p := ⟨g2, 1, none⟩) (by simp; omega) (.slice A2 p2 d2)
                  have hn1_ := (hn1.setCell (q := ⟨g2, 0, none⟩) k2.typed (.bool bb2)).setCell (q := ⟨g2, 1, none⟩) (k2.typed.setCell _ _) (.slice A2 p2 d2)
                  have hn2_ := (hn2.setCell (q := ⟨g2, 0, none⟩) k2.typed (.bool bb2)).setCell (q := ⟨g2, 1, none⟩) (k2.typed.setCell _ _) (.slice A2 p2 d2)
                  have hB_ := (hB.setCell (p := ⟨g2, 0, none⟩) hg2 (.bool bb2)).setCell (p := ⟨g2, 1, none⟩) hg2 (.slice A2 p2 d2)
                  clear z0 z1 z2 z3 z4 hB k1 k2 hn1 hn2
                  generalize (wn57.setCell ⟨g2, 0, none⟩ (.bool bb2)).setCell ⟨g2, 1, none⟩ (.slice A2 p2 d2) = wn58 at *
                  have k1 := k1_
                  clear k1_
                  have k2 := k2_
                  clear k2_
                  have hn1 := hn1_
                  clear hn1_
                  have hn2 := hn2_
                  clear hn2_
                  have hB := hB_
                  clear hB_
                  refine hK.out _ _ hB (fun hHeld => ?_)
                  clear hK K hHeld
                  try simp only [List.getElem_toArray, List.getElem_cons_succ, List.getElem_cons_zero, Act.put, List.setIfInBounds_toArray, List.set_cons_zero, List.set_cons_succ]
                  refine wpAnyH_done (by kernel_rfl) ?_ _
                  refine NoPanic.normal ?_
                  go_wp2_with fail
                  go_meet
                  exact ⟨_, _, rfl, rfl, _, _, _, _, _, _, _, _, k1, k2, hn1, hn2, hB⟩
            case rest =>
              have kq9 := kq
              obtain ⟨g3, g4, rfl, rfl, b3, A3, p3, d3, b4, A4, p4, d4, k3, k4, hn3, hn4, hB⟩ := hcut
              have kq := kq9.under hB
              have hw := below_two hw hB
              clear hB kq9
              obtain ⟨ckq0_20, ckq1_20, ckq2_20, ckq3_20, ckq4_20⟩ := kq.two
              obtain ⟨ck30_20, ck31_20, ck32_20, ck33_20, ck34_20⟩ := k3.two
              obtain ⟨ck40_20, ck41_20, ck42_20, ck43_20, ck44_20⟩ := k4.two
              go_wp2_with fail
              clear ckq0_20 ckq1_20 ckq2_20 ckq3_20 ckq4_20 ck30_20 ck31_20 ck32_20 ck33_20 ck34_20 ck40_20 ck41_20 ck42_20 ck43_20 ck44_20
              refine (HRV.out _ _ _ _ _ hn4 (Nat.le_trans (num_len hn4 HLR.out) (by decide))).mono ?_
              rintro e w20 ⟨rfl, hb20⟩
              have kq := kq.under hb20
              have k3 := k3.under hb20
              have k4 := k4.under hb20
              have hn3 := hn3.below hb20
              have hn4 := hn4.below hb20
              have hw := below_two hw hb20
              clear hb20
              obtain ⟨ckq0_21, ckq1_21, ckq2_21, ckq3_21, ckq4_21⟩ := kq.two
              obtain ⟨ck30_21, ck31_21, ck32_21, ck33_21, ck34_21⟩ := k3.two
              obtain ⟨ck40_21, ck41_21, ck42_21, ck43_21, ck44_21⟩ := k4.two
              go_wp2_with fail
              clear ckq0_21 ckq1_21 ckq2_21 ckq3_21 ckq4_21 ck30_21 ck31_21 ck32_21 ck33_21 ck34_21 ck40_21 ck41_21 ck42_21 ck43_21 ck44_21
              refine (is_c HTQ.out hn3 (num_len hn3 HLQ.out)).mono ?_
              rintro e w21 ⟨rfl, hb21⟩
              have kq := kq.under hb21
              have k3 := k3.under hb21
              have k4 := k4.under hb21
              have hn3 := hn3.below hb21
              have hn4 := hn4.below hb21
              have hw := below_two hw hb21
              clear hb21
              go_wp2
              go_ret
              exact ⟨rfl, hw⟩
end Go.Proofs.YtpomhcclnhddmaaDoor
