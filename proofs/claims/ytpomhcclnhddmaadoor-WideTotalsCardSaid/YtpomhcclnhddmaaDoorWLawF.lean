/- Walks of the laws over wide: WideSums. -/
import Derived.Test.YtpomhcclnhddmaaDoorWLawD
import Derived.Test.YtpomhcclnhddmaaDoorWidR
import Derived.Deep.QuietTactic
import Derived.BigQuiet
import Derived.Deep.DeepCutAuto
namespace Go.Proofs.YtpomhcclnhddmaaDoor
open Go.RowKit Go.Shelf
open Go.Lib (hid)
set_option linter.unusedVariables false
def RetTW (x : Int) (w : World) (e : Ending) (w' : World) : Prop := ∃ h l k, e = .returned (.tuple #[wv h l, .int .i64 k]) ∧ Hid (TW x h l k) ∧ Below w.heap.size w w'
theorem tw_of {x : Int} {f : Nat} {args : Array Value} {w : World} (h : Calls Tryd.prog f args w fun e w' => e = .returned (tW x) ∧ Below w.heap.size w w') : Calls Tryd.prog f args w (RetTW x w) := by
  refine h.mono ?_
  rintro e w1 ⟨rfl, hb⟩
  by_cases hi : inW x
  · exact ⟨hiW x, loW x, 0, by rw [tW_yes hi]; rfl, hid (.inl ⟨hi, rfl, rfl, rfl⟩), hb⟩
  · exact ⟨0, 0, 5, by rw [tW_no hi], hid (.inr ⟨hi, rfl, rfl, rfl⟩), hb⟩
theorem add_tw (X Y : Int) (hX : inW X) (hY : inW Y) (w : World) : Calls Tryd.prog 14 #[wv (hiW X) (loW X), wv (hiW Y) (loW Y)] w (RetTW (X + Y) w) := tw_of (add_w X Y hX hY w)
theorem sub_tw (X Y : Int) (hX : inW X) (hY : inW Y) (w : World) : Calls Tryd.prog 15 #[wv (hiW X) (loW X), wv (hiW Y) (loW Y)] w (RetTW (X - Y) w) := tw_of (sub_w X Y hX hY w)
theorem neg_tw (X : Int) (hX : inW X) (w : World) : Calls Tryd.prog 16 #[wv (hiW X) (loW X)] w (RetTW (-X) w) := tw_of (neg_w X hX w)
theorem num_len {X : Int} {w : World} {b : Bool} {A : Option Addr} {p c : Nat} (h : NumIs w X b A p c) (hX : -(2 ^ 512 : Int) ≤ X ∧ X ≤ 2 ^ 512) : p ≤ 100000 := by
  rw [h.dig.len]
  exact Nat.le_trans ((NB.nb_le_iff _ 513).2 (by omega)) (by decide)
set_option maxRecDepth 100000 in
set_option maxHeartbeats 1000000 in
theorem wSums_core (x0a x0b x1a x1b : Int) (w : World) (w0a : (Lit.int .i64 x0a).wf = true) (w0b : (Lit.int .u64 x0b).wf = true) (w1a : (Lit.int .i64 x1a).wf = true) (w1b : (Lit.int .u64 x1b).wf = true) (htab : Tab w) :
    Calls Tryd.prog 3 #[wv x0a x0b, wv x1a x1b] w fun e w' => e = .returned (.bool true) ∧ Below w.heap.size w w' := by
  obtain ⟨X, hX, rfl, rfl⟩ := wide_in w0a w0b
  obtain ⟨Y, hY, rfl, rfl⟩ := wide_in w1a w1b
  clear w0a w0b w1a w1b
  show Calls Tryd.prog 3 #[wv (hiW X) (loW X), wv (hiW Y) (loW Y)] w _
  have HTAB := hid htab
  have HWK := hid (fun w h => wakes_c w h)
  have HOX := hid (fun w => ofn_c X hX w)
  have HOY := hid (fun w => ofn_c Y hY w)
  have HAD := hid (fun w => add_tw X Y hX hY w)
  have HSU := hid (fun w => sub_tw X Y hX hY w)
  have HNE := hid (fun w => neg_tw X hX w)
  have HIN := hid (And.intro hX hY)
  clear htab hX hY
  generalize hiW X = xh at *
  generalize loW X = xl at *
  generalize hiW Y = yh at *
  generalize loW Y = yl at *
  have ka := (Blk.new_at (g := w.heap.size) w 24 #[.int .i64 xh, .int .u64 xl] rfl).alloc (oW yh yl)
  have kb := Blk.new_at (g := w.heap.size + 1) (w.alloc (oW xh xl)) 24 #[.int .i64 yh, .int .u64 yl] (by simp)
  have hw0 := below2 w (oW xh xl) (oW yh yl) (Below.refl _ _)
  have ht := HTAB.out.below hw0
  go_enter Tryd.func3, Tryd.ntmps3
  go_wp2_with fail
  refine (HWK.out _ ht).mono ?_
  rintro e w1 ⟨rfl, hb1⟩
  have ka1 := ka.under hb1
  have kb1 := kb.under hb1
  have hw1 := below_two hw0 hb1
  clear ka kb hw0 ht hb1 HWK HTAB
  obtain ⟨a0, a1, a2, a3, a4⟩ := ka1.two
  obtain ⟨b0, b1, b2, b3, b4⟩ := kb1.two
  go_upto_region 3 with fail
  go_cut [5, 6] (fun u5 u6 wx => ∃ g1 g2 : Nat, u5 = .pointer (some ⟨g1, 0, none⟩) ∧ u6 = .pointer (some ⟨g2, 0, none⟩) ∧ ∃ b1 A1 p1 d1 b2 A2 p2 d2, Blk wx g1 28 #[.bool b1, .slice A1 p1 d1] ∧ Blk wx g2 28 #[.bool b2, .slice A2 p2 d2] ∧ NumIs wx X b1 A1 p1 d1 ∧ NumIs wx Y b2 A2 p2 d2 ∧ Below w1.heap.size w1 wx)
  case first =>
    clear HAD HSU HNE a0 a1 a2 a3 a4 b0 b1 b2 b3 b4
    refine wp_region_noPanic ?_
    refine wp_region_held_drew (S := (fun w' => Below w1.heap.size w1 w')) (by kernel_rfl) (Below.refl w1.heap.size w1).drew (fun hHeld => ?_)
    refine wpAnyH_take (i := 0) (v := ?_) rfl (by kernel_rfl) (by kernel_rfl) (by kernel_rfl) (fun _ _ _ h => h) (Or.inl ⟨by rfl, ?_⟩) (by assumption) ?_
    rotate_left
    · intro W hW
      have kx := ka1.under hW
      obtain ⟨z0, z1, z2, z3, z4⟩ := kx.two
      go_simp
      try rfl
    simp only [List.getElem_toArray, List.getElem_cons_zero, Act.put, List.setIfInBounds_toArray, List.set_cons_zero, List.set_cons_succ]
    refine wpAnyH_take (i := 2) (v := ?_) rfl (by kernel_rfl) (by kernel_rfl) (by kernel_rfl) (fun _ _ _ h => h) (Or.inl ⟨by rfl, ?_⟩) (by assumption) ?_
    rotate_left
    · intro W hW
      have kx := kb1.under hW
      obtain ⟨z0, z1, z2, z3, z4⟩ := kx.two
      go_simp
      try rfl
    simp only [List.getElem_toArray, List.getElem_cons_succ, List.getElem_cons_zero, Act.put, List.setIfInBounds_toArray, List.set_cons_zero, List.set_cons_succ]
    clear hHeld
    have hB : Below w1.heap.size w1 w1.drew := (Below.refl w1.heap.size w1).drew
    generalize w1.drew = wd at *
    refine wpAnyH_ready (rs := [1, 4, 5]) (by kernel_rfl) (by simp) ?_
    refine AllReadyH.cons rfl (fun K hK => ?_) (AllReadyH.cons rfl (fun K hK => ?_) (AllReadyH.cons rfl (fun K hK => ?_) AllReadyH.nil))
    · go_simp
      refine (HOX.out _).mono ?_
      rintro e wn1 ⟨bb1, A1, p1, d1, rfl, hn1, hc1⟩
      have hB_ := below_two hB hc1
      clear hc1 hB 
      have hB := hB_
      clear hB_
      refine hK.out _ _ hB (fun hHeld => ?_)
      clear hK K hHeld
      try simp only [List.getElem_toArray, List.getElem_cons_succ, List.getElem_cons_zero, Act.put, List.setIfInBounds_toArray, List.set_cons_zero, List.set_cons_succ]
      refine wpAnyH_ready (rs := [3, 4, 5]) (by kernel_rfl) (by simp) ?_
      refine AllReadyH.cons rfl (fun K hK => ?_) (AllReadyH.cons rfl (fun K hK => ?_) (AllReadyH.cons rfl (fun K hK => ?_) AllReadyH.nil))
      · go_simp
        refine (HOY.out _).mono ?_
        rintro e wn2 ⟨bb2, A2, p2, d2, rfl, hn2, hc2⟩
        have hn1_ := hn1.below hc2
        have hB_ := below_two hB hc2
        clear hc2 hB hn1
        have hn1 := hn1_
        clear hn1_
        have hB := hB_
        clear hB_
        refine hK.out _ _ hB (fun hHeld => ?_)
        clear hK K hHeld
        try simp only [List.getElem_toArray, List.getElem_cons_succ, List.getElem_cons_zero, Act.put, List.setIfInBounds_toArray, List.set_cons_zero, List.set_cons_succ]
        refine wpAnyH_ready (rs := [4, 5]) (by kernel_rfl) (by simp) ?_
        refine AllReadyH.cons rfl (fun K hK => ?_) (AllReadyH.cons rfl (fun K hK => ?_) AllReadyH.nil)
        · go_simp
          have k1_ := Blk.new wn2 28 #[.bool false, .slice none 0 0]
          have hn1_ := hn1.alloc (.cells #[.bool false, .slice none 0 0] 28)
          have hn2_ := hn2.alloc (.cells #[.bool false, .slice none 0 0] 28)
          have hg1 : w1.heap.size ≤ wn2.heap.size := hB.size
          have hB_ := below_alloc hB (Nat.le_refl _) (.cells #[.bool false, .slice none 0 0] 28)
          clear hB hn1 hn2
          generalize wn2.alloc (.cells #[.bool false, .slice none 0 0] 28) = wn3 at *
          generalize wn2.heap.size = g1 at *
          have hn1 := hn1_
          clear hn1_
          have hn2 := hn2_
          clear hn2_
          have k1 := k1_
          clear k1_
          have hB := hB_
          clear hB_
          refine hK.out _ _ hB (fun hHeld => ?_)
          clear hK K hHeld
          try simp only [List.getElem_toArray, List.getElem_cons_succ, List.getElem_cons_zero, Act.put, List.setIfInBounds_toArray, List.set_cons_zero, List.set_cons_succ]
          refine wpAnyH_ready (rs := [5]) (by kernel_rfl) (by simp) ?_
          refine AllReadyH.cons rfl (fun K hK => ?_) AllReadyH.nil
          go_simp
          have k2_ := Blk.new wn3 28 #[.bool false, .slice none 0 0]
          have hn1_ := hn1.alloc (.cells #[.bool false, .slice none 0 0] 28)
          have hn2_ := hn2.alloc (.cells #[.bool false, .slice none 0 0] 28)
          have k1_ := k1.alloc (.cells #[.bool false, .slice none 0 0] 28)
          have hne : g1 < wn3.heap.size := k1.lt
          have hg2 : w1.heap.size ≤ wn3.heap.size := hB.size
          have hB_ := below_alloc hB (Nat.le_refl _) (.cells #[.bool false, .slice none 0 0] 28)
          clear hB hn1 hn2 k1
          generalize wn3.alloc (.cells #[.bool false, .slice none 0 0] 28) = wn4 at *
          generalize wn3.heap.size = g2 at *
          have hn1 := hn1_
          clear hn1_
          have hn2 := hn2_
          clear hn2_
          have k1 := k1_
          clear k1_
          have k2 := k2_
          clear k2_
          have hB := hB_
          clear hB_
          refine hK.out _ _ hB (fun hHeld => ?_)
          clear hK K hHeld
          try simp only [List.getElem_toArray, List.getElem_cons_succ, List.getElem_cons_zero, Act.put, List.setIfInBounds_toArray, List.set_cons_zero, List.set_cons_succ]
          refine wpAnyH_ready (rs := [6]) (by kernel_rfl) (by simp) ?_
          refine AllReadyH.cons rfl (fun K hK => ?_) AllReadyH.nil
          obtain ⟨z0, z1, z2, z3, z4⟩ := k1.two
          go_simp
          have k1_ := k1.set2 (.bool bb1) (.slice A1 p1 d1)
          have k2_ := (k2.far (p := ⟨g1, 0, none⟩) (by simp; omega) (.bool bb1)).far (p := ⟨g1, 1, none⟩) (by simp; omega) (.slice A1 p1 d1)
          have hn1_ := (hn1.setCell (q := ⟨g1, 0, none⟩) k1.typed (.bool bb1)).setCell (q := ⟨g1, 1, none⟩) (k1.typed.setCell _ _) (.slice A1 p1 d1)
          have hn2_ := (hn2.setCell (q := ⟨g1, 0, none⟩) k1.typed (.bool bb1)).setCell (q := ⟨g1, 1, none⟩) (k1.typed.setCell _ _) (.slice A1 p1 d1)
          have hB_ := (hB.setCell (p := ⟨g1, 0, none⟩) hg1 (.bool bb1)).setCell (p := ⟨g1, 1, none⟩) hg1 (.slice A1 p1 d1)
          clear z0 z1 z2 z3 z4 hB k1 k2 hn1 hn2
          generalize (wn4.setCell ⟨g1, 0, none⟩ (.bool bb1)).setCell ⟨g1, 1, none⟩ (.slice A1 p1 d1) = wn5 at *
          have k1 := k1_
          clear k1_
          have k2 := k2_
          clear k2_
          have hn1 := hn1_
          clear hn1_
          have hn2 := hn2_
          clear hn2_
          have hB := hB_
          clear hB_
          refine hK.out _ _ hB (fun hHeld => ?_)
          clear hK K hHeld
          try simp only [List.getElem_toArray, List.getElem_cons_succ, List.getElem_cons_zero, Act.put, List.setIfInBounds_toArray, List.set_cons_zero, List.set_cons_succ]
          refine wpAnyH_ready (rs := [7]) (by kernel_rfl) (by simp) ?_
          refine AllReadyH.cons rfl (fun K hK => ?_) AllReadyH.nil
          obtain ⟨z0, z1, z2, z3, z4⟩ := k2.two
          go_simp
          have k2_ := k2.set2 (.bool bb2) (.slice A2 p2 d2)
          have k1_ := (k1.far (p := ⟨g2, 0, none⟩) (by simp; omega) (.bool bb2)).far (p := ⟨g2, 1, none⟩) (by simp; omega) (.slice A2 p2 d2)
          have hn1_ := (hn1.setCell (q := ⟨g2, 0, none⟩) k2.typed (.bool bb2)).setCell (q := ⟨g2, 1, none⟩) (k2.typed.setCell _ _) (.slice A2 p2 d2)
          have hn2_ := (hn2.setCell (q := ⟨g2, 0, none⟩) k2.typed (.bool bb2)).setCell (q := ⟨g2, 1, none⟩) (k2.typed.setCell _ _) (.slice A2 p2 d2)
          have hB_ := (hB.setCell (p := ⟨g2, 0, none⟩) hg2 (.bool bb2)).setCell (p := ⟨g2, 1, none⟩) hg2 (.slice A2 p2 d2)
          clear z0 z1 z2 z3 z4 hB k1 k2 hn1 hn2
          generalize (wn5.setCell ⟨g2, 0, none⟩ (.bool bb2)).setCell ⟨g2, 1, none⟩ (.slice A2 p2 d2) = wn6 at *
          have k1 := k1_
          clear k1_
          have k2 := k2_
          clear k2_
          have hn1 := hn1_
          clear hn1_
          have hn2 := hn2_
          clear hn2_
          have hB := hB_
          clear hB_
          refine hK.out _ _ hB (fun hHeld => ?_)
          clear hK K hHeld
          try simp only [List.getElem_toArray, List.getElem_cons_succ, List.getElem_cons_zero, Act.put, List.setIfInBounds_toArray, List.set_cons_zero, List.set_cons_succ]
          refine wpAnyH_done (by kernel_rfl) ?_ _
          refine NoPanic.normal ?_
          go_wp2_with fail
          go_meet
          exact ⟨_, _, rfl, rfl, _, _, _, _, _, _, _, _, k1, k2, hn1, hn2, hB⟩
        · go_simp
          have k2_ := Blk.new wn2 28 #[.bool false, .slice none 0 0]
          have hn1_ := hn1.alloc (.cells #[.bool false, .slice none 0 0] 28)
          have hn2_ := hn2.alloc (.cells #[.bool false, .slice none 0 0] 28)
          have hg2 : w1.heap.size ≤ wn2.heap.size := hB.size
          have hB_ := below_alloc hB (Nat.le_refl _) (.cells #[.bool false, .slice none 0 0] 28)
          clear hB hn1 hn2
          generalize wn2.alloc (.cells #[.bool false, .slice none 0 0] 28) = wn7 at *
          generalize wn2.heap.size = g2 at *
          have hn1 := hn1_
          clear hn1_
          have hn2 := hn2_
          clear hn2_
          have k2 := k2_
          clear k2_
          have hB := hB_
          clear hB_
          refine hK.out _ _ hB (fun hHeld => ?_)
          clear hK K hHeld
          try simp only [List.getElem_toArray, List.getElem_cons_succ, List.getElem_cons_zero, Act.put, List.setIfInBounds_toArray, List.set_cons_zero, List.set_cons_succ]
          refine wpAnyH_ready (rs := [4]) (by kernel_rfl) (by simp) ?_
          refine AllReadyH.cons rfl (fun K hK => ?_) AllReadyH.nil
          go_simp
          have k1_ := Blk.new wn7 28 #[.bool false, .slice none 0 0]
          have hn1_ := hn1.alloc (.cells #[.bool false, .slice none 0 0] 28)
          have hn2_ := hn2.alloc (.cells #[.bool false, .slice none 0 0] 28)
          have k2_ := k2.alloc (.cells #[.bool false, .slice none 0 0] 28)
          have hne : g2 < wn7.heap.size := k2.lt
          have hg1 : w1.heap.size ≤ wn7.heap.size := hB.size
          have hB_ := below_alloc hB (Nat.le_refl _) (.cells #[.bool false, .slice none 0 0] 28)
          clear hB hn1 hn2 k2
          generalize wn7.alloc (.cells #[.bool false, .slice none 0 0] 28) = wn8 at *
          generalize wn7.heap.size = g1 at *
          have hn1 := hn1_
          clear hn1_
          have hn2 := hn2_
          clear hn2_
          have k2 := k2_
          clear k2_
          have k1 := k1_
          clear k1_
          have hB := hB_
          clear hB_
          refine hK.out _ _ hB (fun hHeld => ?_)
          clear hK K hHeld
          try simp only [List.getElem_toArray, List.getElem_cons_succ, List.getElem_cons_zero, Act.put, List.setIfInBounds_toArray, List.set_cons_zero, List.set_cons_succ]
          refine wpAnyH_ready (rs := [6]) (by kernel_rfl) (by simp) ?_
          refine AllReadyH.cons rfl (fun K hK => ?_) AllReadyH.nil
          obtain ⟨z0, z1, z2, z3, z4⟩ := k1.two
          go_simp
          have k1_ := k1.set2 (.bool bb1) (.slice A1 p1 d1)
          have k2_ := (k2.far (p := ⟨g1, 0, none⟩) (by simp; omega) (.bool bb1)).far (p := ⟨g1, 1, none⟩) (by simp; omega) (.slice A1 p1 d1)
          have hn1_ := (hn1.setCell (q := ⟨g1, 0, none⟩) k1.typed (.bool bb1)).setCell (q := ⟨g1, 1, none⟩) (k1.typed.setCell _ _) (.slice A1 p1 d1)
          have hn2_ := (hn2.setCell (q := ⟨g1, 0, none⟩) k1.typed (.bool bb1)).setCell (q := ⟨g1, 1, none⟩) (k1.typed.setCell _ _) (.slice A1 p1 d1)
          have hB_ := (hB.setCell (p := ⟨g1, 0, none⟩) hg1 (.bool bb1)).setCell (p := ⟨g1, 1, none⟩) hg1 (.slice A1 p1 d1)
          clear z0 z1 z2 z3 z4 hB k1 k2 hn1 hn2
          generalize (wn8.setCell ⟨g1, 0, none⟩ (.bool bb1)).setCell ⟨g1, 1, none⟩ (.slice A1 p1 d1) = wn9 at *
          have k1 := k1_
          clear k1_
          have k2 := k2_
          clear k2_
          have hn1 := hn1_
          clear hn1_
          have hn2 := hn2_
          clear hn2_
          have hB := hB_
          clear hB_
          refine hK.out _ _ hB (fun hHeld => ?_)
          clear hK K hHeld
          try simp only [List.getElem_toArray, List.getElem_cons_succ, List.getElem_cons_zero, Act.put, List.setIfInBounds_toArray, List.set_cons_zero, List.set_cons_succ]
          refine wpAnyH_ready (rs := [7]) (by kernel_rfl) (by simp) ?_
          refine AllReadyH.cons rfl (fun K hK => ?_) AllReadyH.nil
          obtain ⟨z0, z1, z2, z3, z4⟩ := k2.two
          go_simp
          have k2_ := k2.set2 (.bool bb2) (.slice A2 p2 d2)
          have k1_ := (k1.far (p := ⟨g2, 0, none⟩) (by simp; omega) (.bool bb2)).far (p := ⟨g2, 1, none⟩) (by simp; omega) (.slice A2 p2 d2)
          have hn1_ := (hn1.setCell (q := ⟨g2, 0, none⟩) k2.typed (.bool bb2)).setCell (q := ⟨g2, 1, none⟩) (k2.typed.setCell _ _) (.slice A2 p2 d2)
          have hn2_ := (hn2.setCell (q := ⟨g2, 0, none⟩) k2.typed (.bool bb2)).setCell (q := ⟨g2, 1, none⟩) (k2.typed.setCell _ _) (.slice A2 p2 d2)
          have hB_ := (hB.setCell (p := ⟨g2, 0, none⟩) hg2 (.bool bb2)).setCell (p := ⟨g2, 1, none⟩) hg2 (.slice A2 p2 d2)
          clear z0 z1 z2 z3 z4 hB k1 k2 hn1 hn2
          generalize (wn9.setCell ⟨g2, 0, none⟩ (.bool bb2)).setCell ⟨g2, 1, none⟩ (.slice A2 p2 d2) = wn10 at *
          have k1 := k1_
          clear k1_
          have k2 := k2_
          clear k2_
          have hn1 := hn1_
          clear hn1_
          have hn2 := hn2_
          clear hn2_
          have hB := hB_
          clear hB_
          refine hK.out _ _ hB (fun hHeld => ?_)
          clear hK K hHeld
          try simp only [List.getElem_toArray, List.getElem_cons_succ, List.getElem_cons_zero, Act.put, List.setIfInBounds_toArray, List.set_cons_zero, List.set_cons_succ]
          refine wpAnyH_done (by kernel_rfl) ?_ _
          refine NoPanic.normal ?_
          go_wp2_with fail
          go_meet
          exact ⟨_, _, rfl, rfl, _, _, _, _, _, _, _, _, k1, k2, hn1, hn2, hB⟩
      · go_simp
        have k1_ := Blk.new wn1 28 #[.bool false, .slice none 0 0]
        have hn1_ := hn1.alloc (.cells #[.bool false, .slice none 0 0] 28)
        have hg1 : w1.heap.size ≤ wn1.heap.size := hB.size
        have hB_ := below_alloc hB (Nat.le_refl _) (.cells #[.bool false, .slice none 0 0] 28)
        clear hB hn1
        generalize wn1.alloc (.cells #[.bool false, .slice none 0 0] 28) = wn11 at *
        generalize wn1.heap.size = g1 at *
        have hn1 := hn1_
        clear hn1_
        have k1 := k1_
        clear k1_
        have hB := hB_
        clear hB_
        refine hK.out _ _ hB (fun hHeld => ?_)
        clear hK K hHeld
        try simp only [List.getElem_toArray, List.getElem_cons_succ, List.getElem_cons_zero, Act.put, List.setIfInBounds_toArray, List.set_cons_zero, List.set_cons_succ]
        refine wpAnyH_ready (rs := [3, 5]) (by kernel_rfl) (by simp) ?_
        refine AllReadyH.cons rfl (fun K hK => ?_) (AllReadyH.cons rfl (fun K hK => ?_) AllReadyH.nil)
        · go_simp
          refine (HOY.out _).mono ?_
          rintro e wn12 ⟨bb2, A2, p2, d2, rfl, hn2, hc12⟩
          have hn1_ := hn1.below hc12
          have k1_ := k1.under hc12
          have hB_ := below_two hB hc12
          clear hc12 hB hn1 k1
          have hn1 := hn1_
          clear hn1_
          have k1 := k1_
          clear k1_
          have hB := hB_
          clear hB_
          refine hK.out _ _ hB (fun hHeld => ?_)
          clear hK K hHeld
          try simp only [List.getElem_toArray, List.getElem_cons_succ, List.getElem_cons_zero, Act.put, List.setIfInBounds_toArray, List.set_cons_zero, List.set_cons_succ]
          refine wpAnyH_ready (rs := [5]) (by kernel_rfl) (by simp) ?_
          refine AllReadyH.cons rfl (fun K hK => ?_) AllReadyH.nil
          go_simp
          have k2_ := Blk.new wn12 28 #[.bool false, .slice none 0 0]
          have hn1_ := hn1.alloc (.cells #[.bool false, .slice none 0 0] 28)
          have k1_ := k1.alloc (.cells #[.bool false, .slice none 0 0] 28)
          have hn2_ := hn2.alloc (.cells #[.bool false, .slice none 0 0] 28)
          have hne : g1 < wn12.heap.size := k1.lt
          have hg2 : w1.heap.size ≤ wn12.heap.size := hB.size
          have hB_ := below_alloc hB (Nat.le_refl _) (.cells #[.bool false, .slice none 0 0] 28)
          clear hB hn1 k1 hn2
          generalize wn12.alloc (.cells #[.bool false, .slice none 0 0] 28) = wn13 at *
          generalize wn12.heap.size = g2 at *
          have hn1 := hn1_
          clear hn1_
          have k1 := k1_
          clear k1_
          have hn2 := hn2_
          clear hn2_
          have k2 := k2_
          clear k2_
          have hB := hB_
          clear hB_
          refine hK.out _ _ hB (fun hHeld => ?_)
          clear hK K hHeld
          try simp only [List.getElem_toArray, List.getElem_cons_succ, List.getElem_cons_zero, Act.put, List.setIfInBounds_toArray, List.set_cons_zero, List.set_cons_succ]
          refine wpAnyH_ready (rs := [6]) (by kernel_rfl) (by simp) ?_
          refine AllReadyH.cons rfl (fun K hK => ?_) AllReadyH.nil
          obtain ⟨z0, z1, z2, z3, z4⟩ := k1.two
          go_simp
          have k1_ := k1.set2 (.bool bb1) (.slice A1 p1 d1)
          have k2_ := (k2.far (p := ⟨g1, 0, none⟩) (by simp; omega) (.bool bb1)).far (p := ⟨g1, 1, none⟩) (by simp; omega) (.slice A1 p1 d1)
          have hn1_ := (hn1.setCell (q := ⟨g1, 0, none⟩) k1.typed (.bool bb1)).setCell (q := ⟨g1, 1, none⟩) (k1.typed.setCell _ _) (.slice A1 p1 d1)
          have hn2_ := (hn2.setCell (q := ⟨g1, 0, none⟩) k1.typed (.bool bb1)).setCell (q := ⟨g1, 1, none⟩) (k1.typed.setCell _ _) (.slice A1 p1 d1)
          have hB_ := (hB.setCell (p := ⟨g1, 0, none⟩) hg1 (.bool bb1)).setCell (p := ⟨g1, 1, none⟩) hg1 (.slice A1 p1 d1)
          clear z0 z1 z2 z3 z4 hB k1 k2 hn1 hn2
          generalize (wn13.setCell ⟨g1, 0, none⟩ (.bool bb1)).setCell ⟨g1, 1, none⟩ (.slice A1 p1 d1) = wn14 at *
          have k1 := k1_
          clear k1_
          have k2 := k2_
          clear k2_
          have hn1 := hn1_
          clear hn1_
          have hn2 := hn2_
          clear hn2_
          have hB := hB_
          clear hB_
          refine hK.out _ _ hB (fun hHeld => ?_)
          clear hK K hHeld
          try simp only [List.getElem_toArray, List.getElem_cons_succ, List.getElem_cons_zero, Act.put, List.setIfInBounds_toArray, List.set_cons_zero, List.set_cons_succ]
          refine wpAnyH_ready (rs := [7]) (by kernel_rfl) (by simp) ?_
          refine AllReadyH.cons rfl (fun K hK => ?_) AllReadyH.nil
          obtain ⟨z0, z1, z2, z3, z4⟩ := k2.two
          go_simp
          have k2_ := k2.set2 (.bool bb2) (.slice A2 p2 d2)
          have k1_ := (k1.far (p := ⟨g2, 0, none⟩) (by simp; omega) (.bool bb2)).far (p := ⟨g2, 1, none⟩) (by simp; omega) (.slice A2 p2 d2)
          have hn1_ := (hn1.setCell (q := ⟨g2, 0, none⟩) k2.typed (.bool bb2)).setCell (q := ⟨g2, 1, none⟩) (k2.typed.setCell _ _) (.slice A2 p2 d2)
          have hn2_ := (hn2.setCell (q := ⟨g2, 0, none⟩) k2.typed (.bool bb2)).setCell (q := ⟨g2, 1, none⟩) (k2.typed.setCell _ _) (.slice A2 p2 d2)
          have hB_ := (hB.setCell (p := ⟨g2, 0, none⟩) hg2 (.bool bb2)).setCell (p := ⟨g2, 1, none⟩) hg2 (.slice A2 p2 d2)
          clear z0 z1 z2 z3 z4 hB k1 k2 hn1 hn2
          generalize (wn14.setCell ⟨g2, 0, none⟩ (.bool bb2)).setCell ⟨g2, 1, none⟩ (.slice A2 p2 d2) = wn15 at *
          have k1 := k1_
          clear k1_
          have k2 := k2_
          clear k2_
          have hn1 := hn1_
          clear hn1_
          have hn2 := hn2_
          clear hn2_
          have hB := hB_
          clear hB_
          refine hK.out _ _ hB (fun hHeld => ?_)
          clear hK K hHeld
          try simp only [List.getElem_toArray, List.getElem_cons_succ, List.getElem_cons_zero, Act.put, List.setIfInBounds_toArray, List.set_cons_zero, List.set_cons_succ]
          refine wpAnyH_done (by kernel_rfl) ?_ _
          refine NoPanic.normal ?_
          go_wp2_with fail
          go_meet
          exact ⟨_, _, rfl, rfl, _, _, _, _, _, _, _, _, k1, k2, hn1, hn2, hB⟩
        · go_simp
          have k2_ := Blk.new wn11 28 #[.bool false, .slice none 0 0]
          have hn1_ := hn1.alloc (.cells #[.bool false, .slice none 0 0] 28)
          have k1_ := k1.alloc (.cells #[.bool false, .slice none 0 0] 28)
          have hne : g1 < wn11.heap.size := k1.lt
          have hg2 : w1.heap.size ≤ wn11.heap.size := hB.size
          have hB_ := below_alloc hB (Nat.le_refl _) (.cells #[.bool false, .slice none 0 0] 28)
          clear hB hn1 k1
          generalize wn11.alloc (.cells #[.bool false, .slice none 0 0] 28) = wn16 at *
          generalize wn11.heap.size = g2 at *
          have hn1 := hn1_
          clear hn1_
          have k1 := k1_
          clear k1_
          have k2 := k2_
          clear k2_
          have hB := hB_
          clear hB_
          refine hK.out _ _ hB (fun hHeld => ?_)
          clear hK K hHeld
          try simp only [List.getElem_toArray, List.getElem_cons_succ, List.getElem_cons_zero, Act.put, List.setIfInBounds_toArray, List.set_cons_zero, List.set_cons_succ]
          refine wpAnyH_ready (rs := [3]) (by kernel_rfl) (by simp) ?_
          refine AllReadyH.cons rfl (fun K hK => ?_) AllReadyH.nil
          go_simp
          refine (HOY.out _).mono ?_
          rintro e wn17 ⟨bb2, A2, p2, d2, rfl, hn2, hc17⟩
          have hn1_ := hn1.below hc17
          have k1_ := k1.under hc17
          have k2_ := k2.under hc17
          have hB_ := below_two hB hc17
          clear hc17 hB hn1 k1 k2
          have hn1 := hn1_
          clear hn1_
          have k1 := k1_
          clear k1_
          have k2 := k2_
          clear k2_
          have hB := hB_
          clear hB_
          refine hK.out _ _ hB (fun hHeld => ?_)
          clear hK K hHeld
          try simp only [List.getElem_toArray, List.getElem_cons_succ, List.getElem_cons_zero, Act.put, List.setIfInBounds_toArray, List.set_cons_zero, List.set_cons_succ]
          refine wpAnyH_ready (rs := [6]) (by kernel_rfl) (by simp) ?_
          refine AllReadyH.cons rfl (fun K hK => ?_) AllReadyH.nil
          obtain ⟨z0, z1, z2, z3, z4⟩ := k1.two
          go_simp
          have k1_ := k1.set2 (.bool bb1) (.slice A1 p1 d1)
          have k2_ := (k2.far (p := ⟨g1, 0, none⟩) (by simp; omega) (.bool bb1)).far (p := ⟨g1, 1, none⟩) (by simp; omega) (.slice A1 p1 d1)
          have hn1_ := (hn1.setCell (q := ⟨g1, 0, none⟩) k1.typed (.bool bb1)).setCell (q := ⟨g1, 1, none⟩) (k1.typed.setCell _ _) (.slice A1 p1 d1)
          have hn2_ := (hn2.setCell (q := ⟨g1, 0, none⟩) k1.typed (.bool bb1)).setCell (q := ⟨g1, 1, none⟩) (k1.typed.setCell _ _) (.slice A1 p1 d1)
          have hB_ := (hB.setCell (p := ⟨g1, 0, none⟩) hg1 (.bool bb1)).setCell (p := ⟨g1, 1, none⟩) hg1 (.slice A1 p1 d1)
          clear z0 z1 z2 z3 z4 hB k1 k2 hn1 hn2
          generalize (wn17.setCell ⟨g1, 0, none⟩ (.bool bb1)).setCell ⟨g1, 1, none⟩ (.slice A1 p1 d1) = wn18 at *
          have k1 := k1_
          clear k1_
          have k2 := k2_
          clear k2_
          have hn1 := hn1_
          clear hn1_
          have hn2 := hn2_
          clear hn2_
          have hB := hB_
          clear hB_
          refine hK.out _ _ hB (fun hHeld => ?_)
          clear hK K hHeld
          try simp only [List.getElem_toArray, List.getElem_cons_succ, List.getElem_cons_zero, Act.put, List.setIfInBounds_toArray, List.set_cons_zero, List.set_cons_succ]
          refine wpAnyH_ready (rs := [7]) (by kernel_rfl) (by simp) ?_
          refine AllReadyH.cons rfl (fun K hK => ?_) AllReadyH.nil
          obtain ⟨z0, z1, z2, z3, z4⟩ := k2.two
          go_simp
          have k2_ := k2.set2 (.bool bb2) (.slice A2 p2 d2)
          have k1_ := (k1.far (p := ⟨g2, 0, none⟩) (by simp; omega) (.bool bb2)).far (p := ⟨g2, 1, none⟩) (by simp; omega) (.slice A2 p2 d2)
          have hn1_ := (hn1.setCell (q := ⟨g2, 0, none⟩) k2.typed (.bool bb2)).setCell (q := ⟨g2, 1, none⟩) (k2.typed.setCell _ _) (.slice A2 p2 d2)
          have hn2_ := (hn2.setCell (q := ⟨g2, 0, none⟩) k2.typed (.bool bb2)).setCell (q := ⟨g2, 1, none⟩) (k2.typed.setCell _ _) (.slice A2 p2 d2)
          have hB_ := (hB.setCell (p := ⟨g2, 0, none⟩) hg2 (.bool bb2)).setCell (p := ⟨g2, 1, none⟩) hg2 (.slice A2 p2 d2)
          clear z0 z1 z2 z3 z4 hB k1 k2 hn1 hn2
          generalize (wn18.setCell ⟨g2, 0, none⟩ (.bool bb2)).setCell ⟨g2, 1, none⟩ (.slice A2 p2 d2) = wn19 at *
          have k1 := k1_
          clear k1_
          have k2 := k2_
          clear k2_
          have hn1 := hn1_
          clear hn1_
          have hn2 := hn2_
          clear hn2_
          have hB := hB_
          clear hB_
          refine hK.out _ _ hB (fun hHeld => ?_)
          clear hK K hHeld
          try simp only [List.getElem_toArray, List.getElem_cons_succ, List.getElem_cons_zero, Act.put, List.setIfInBounds_toArray, List.set_cons_zero, List.set_cons_succ]
          refine wpAnyH_done (by kernel_rfl) ?_ _
          refine NoPanic.normal ?_
          go_wp2_with fail
          go_meet
          exact ⟨_, _, rfl, rfl, _, _, _, _, _, _, _, _, k1, k2, hn1, hn2, hB⟩
      · go_simp
        have k2_ := Blk.new wn1 28 #[.bool false, .slice none 0 0]
        have hn1_ := hn1.alloc (.cells #[.bool false, .slice none 0 0] 28)
        have hg2 : w1.heap.size ≤ wn1.heap.size := hB.size
        have hB_ := below_alloc hB (Nat.le_refl _) (.cells #[.bool false, .slice none 0 0] 28)
        clear hB hn1
        generalize wn1.alloc (.cells #[.bool false, .slice none 0 0] 28) = wn20 at *
        generalize wn1.heap.size = g2 at *
        have hn1 := hn1_
        clear hn1_
        have k2 := k2_
        clear k2_
        have hB := hB_
        clear hB_
        refine hK.out _ _ hB (fun hHeld => ?_)
        clear hK K hHeld
        try simp only [List.getElem_toArray, List.getElem_cons_succ, List.getElem_cons_zero, Act.put, List.setIfInBounds_toArray, List.set_cons_zero, List.set_cons_succ]
        refine wpAnyH_ready (rs := [3, 4]) (by kernel_rfl) (by simp) ?_
        refine AllReadyH.cons rfl (fun K hK => ?_) (AllReadyH.cons rfl (fun K hK => ?_) AllReadyH.nil)
        · go_simp
          refine (HOY.out _).mono ?_
          rintro e wn21 ⟨bb2, A2, p2, d2, rfl, hn2, hc21⟩
          have hn1_ := hn1.below hc21
          have k2_ := k2.under hc21
          have hB_ := below_two hB hc21
          clear hc21 hB hn1 k2
          have hn1 := hn1_
          clear hn1_
          have k2 := k2_
          clear k2_
          have hB := hB_
          clear hB_
          refine hK.out _ _ hB (fun hHeld => ?_)
          clear hK K hHeld
          try simp only [List.getElem_toArray, List.getElem_cons_succ, List.getElem_cons_zero, Act.put, List.setIfInBounds_toArray, List.set_cons_zero, List.set_cons_succ]
          refine wpAnyH_ready (rs := [4]) (by kernel_rfl) (by simp) ?_
          refine AllReadyH.cons rfl (fun K hK => ?_) AllReadyH.nil
          go_simp
          have k1_ := Blk.new wn21 28 #[.bool false, .slice none 0 0]
          have hn1_ := hn1.alloc (.cells #[.bool false, .slice none 0 0] 28)
          have k2_ := k2.alloc (.cells #[.bool false, .slice none 0 0] 28)
          have hn2_ := hn2.alloc (.cells #[.bool false, .slice none 0 0] 28)
          have hne : g2 < wn21.heap.size := k2.lt
          have hg1 : w1.heap.size ≤ wn21.heap.size := hB.size
          have hB_ := below_alloc hB (Nat.le_refl _) (.cells #[.bool false, .slice none 0 0] 28)
          clear hB hn1 k2 hn2
          generalize wn21.alloc (.cells #[.bool false, .slice none 0 0] 28) = wn22 at *
          generalize wn21.heap.size = g1 at *
          have hn1 := hn1_
          clear hn1_
          have k2 := k2_
          clear k2_
          have hn2 := hn2_
          clear hn2_
          have k1 := k1_
          clear k1_
          have hB := hB_
          clear hB_
          refine hK.out _ _ hB (fun hHeld => ?_)
          clear hK K hHeld
          try simp only [List.getElem_toArray, List.getElem_cons_succ, List.getElem_cons_zero, Act.put, List.setIfInBounds_toArray, List.set_cons_zero, List.set_cons_succ]
          refine wpAnyH_ready (rs := [6]) (by kernel_rfl) (by simp) ?_
          refine AllReadyH.cons rfl (fun K hK => ?_) AllReadyH.nil
          obtain ⟨z0, z1, z2, z3, z4⟩ := k1.two
          go_simp
          have k1_ := k1.set2 (.bool bb1) (.slice A1 p1 d1)
          have k2_ := (k2.far (p := ⟨g1, 0, none⟩) (by simp; omega) (.bool bb1)).far (p := ⟨g1, 1, none⟩) (by simp; omega) (.slice A1 p1 d1)
          have hn1_ := (hn1.setCell (q := ⟨g1, 0, none⟩) k1.typed (.bool bb1)).setCell (q := ⟨g1, 1, none⟩) (k1.typed.setCell _ _) (.slice A1 p1 d1)
          have hn2_ := (hn2.setCell (q := ⟨g1, 0, none⟩) k1.typed (.bool bb1)).setCell (q := ⟨g1, 1, none⟩) (k1.typed.setCell _ _) (.slice A1 p1 d1)
          have hB_ := (hB.setCell (p := ⟨g1, 0, none⟩) hg1 (.bool bb1)).setCell (p := ⟨g1, 1, none⟩) hg1 (.slice A1 p1 d1)
          clear z0 z1 z2 z3 z4 hB k1 k2 hn1 hn2
          generalize (wn22.setCell ⟨g1, 0, none⟩ (.bool bb1)).setCell ⟨g1, 1, none⟩ (.slice A1 p1 d1) = wn23 at *
          have k1 := k1_
          clear k1_
          have k2 := k2_
          clear k2_
          have hn1 := hn1_
          clear hn1_
          have hn2 := hn2_
          clear hn2_
          have hB := hB_
          clear hB_
          refine hK.out _ _ hB (fun hHeld => ?_)
          clear hK K hHeld
          try simp only [List.getElem_toArray, List.getElem_cons_succ, List.getElem_cons_zero, Act.put, List.setIfInBounds_toArray, List.set_cons_zero, List.set_cons_succ]
          refine wpAnyH_ready (rs := [7]) (by kernel_rfl) (by simp) ?_
          refine AllReadyH.cons rfl (fun K hK => ?_) AllReadyH.nil
          obtain ⟨z0, z1, z2, z3, z4⟩ := k2.two
          go_simp
          have k2_ := k2.set2 (.bool bb2) (.slice A2 p2 d2)
          have k1_ := (k1.far (p := ⟨g2, 0, none⟩) (by simp; omega) (.bool bb2)).far (p := ⟨g2, 1, none⟩) (by simp; omega) (.slice A2 p2 d2)
          have hn1_ := (hn1.setCell (q := ⟨g2, 0, none⟩) k2.typed (.bool bb2)).setCell (q := ⟨g2, 1, none⟩) (k2.typed.setCell _ _) (.slice A2 p2 d2)
          have hn2_ := (hn2.setCell (q := ⟨g2, 0, none⟩) k2.typed (.bool bb2)).setCell (q := ⟨g2, 1, none⟩) (k2.typed.setCell _ _) (.slice A2 p2 d2)
          have hB_ := (hB.setCell (p := ⟨g2, 0, none⟩) hg2 (.bool bb2)).setCell (p := ⟨g2, 1, none⟩) hg2 (.slice A2 p2 d2)
          clear z0 z1 z2 z3 z4 hB k1 k2 hn1 hn2
          generalize (wn23.setCell ⟨g2, 0, none⟩ (.bool bb2)).setCell ⟨g2, 1, none⟩ (.slice A2 p2 d2) = wn24 at *
          have k1 := k1_
          clear k1_
          have k2 := k2_
          clear k2_
          have hn1 := hn1_
          clear hn1_
          have hn2 := hn2_
          clear hn2_
          have hB := hB_
          clear hB_
          refine hK.out _ _ hB (fun hHeld => ?_)
          clear hK K hHeld
          try simp only [List.getElem_toArray, List.getElem_cons_succ, List.getElem_cons_zero, Act.put, List.setIfInBounds_toArray, List.set_cons_zero, List.set_cons_succ]
          refine wpAnyH_done (by kernel_rfl) ?_ _
          refine NoPanic.normal ?_
          go_wp2_with fail
          go_meet
          exact ⟨_, _, rfl, rfl, _, _, _, _, _, _, _, _, k1, k2, hn1, hn2, hB⟩
        · go_simp
          have k1_ := Blk.new wn20 28 #[.bool false, .slice none 0 0]
          have hn1_ := hn1.alloc (.cells #[.bool false, .slice none 0 0] 28)
          have k2_ := k2.alloc (.cells #[.bool false, .slice none 0 0] 28)
          have hne : g2 < wn20.heap.size := k2.lt
          have hg1 : w1.heap.size ≤ wn20.heap.size := hB.size
          have hB_ := below_alloc hB (Nat.le_refl _) (.cells #[.bool false, .slice none 0 0] 28)
          clear hB hn1 k2
          generalize wn20.alloc (.cells #[.bool false, .slice none 0 0] 28) = wn25 at *
          generalize wn20.heap.size = g1 at *
          have hn1 := hn1_
          clear hn1_
          have k2 := k2_
          clear k2_
          have k1 := k1_
          clear k1_
          have hB := hB_
          clear hB_
          refine hK.out _ _ hB (fun hHeld => ?_)
          clear hK K hHeld
          try simp only [List.getElem_toArray, List.getElem_cons_succ, List.getElem_cons_zero, Act.put, List.setIfInBounds_toArray, List.set_cons_zero, List.set_cons_succ]
          refine wpAnyH_ready (rs := [3]) (by kernel_rfl) (by simp) ?_
          refine AllReadyH.cons rfl (fun K hK => ?_) AllReadyH.nil
          go_simp
          refine (HOY.out _).mono ?_
          rintro e wn26 ⟨bb2, A2, p2, d2, rfl, hn2, hc26⟩
          have hn1_ := hn1.below hc26
          have k2_ := k2.under hc26
          have k1_ := k1.under hc26
          have hB_ := below_two hB hc26
          clear hc26 hB hn1 k2 k1
          have hn1 := hn1_
          clear hn1_
          have k2 := k2_
          clear k2_
          have k1 := k1_
          clear k1_
          have hB := hB_
          clear hB_
          refine hK.out _ _ hB (fun hHeld => ?_)
          clear hK K hHeld
          try simp only [List.getElem_toArray, List.getElem_cons_succ, List.getElem_cons_zero, Act.put, List.setIfInBounds_toArray, List.set_cons_zero, List.set_cons_succ]
          refine wpAnyH_ready (rs := [6]) (by kernel_rfl) (by simp) ?_
          refine AllReadyH.cons rfl (fun K hK => ?_) AllReadyH.nil
          obtain ⟨z0, z1, z2, z3, z4⟩ := k1.two
          go_simp
          have k1_ := k1.set2 (.bool bb1) (.slice A1 p1 d1)
          have k2_ := (k2.far (p := ⟨g1, 0, none⟩) (by simp; omega) (.bool bb1)).far (p := ⟨g1, 1, none⟩) (by simp; omega) (.slice A1 p1 d1)
          have hn1_ := (hn1.setCell (q := ⟨g1, 0, none⟩) k1.typed (.bool bb1)).setCell (q := ⟨g1, 1, none⟩) (k1.typed.setCell _ _) (.slice A1 p1 d1)
          have hn2_ := (hn2.setCell (q := ⟨g1, 0, none⟩) k1.typed (.bool bb1)).setCell (q := ⟨g1, 1, none⟩) (k1.typed.setCell _ _) (.slice A1 p1 d1)
          have hB_ := (hB.setCell (p := ⟨g1, 0, none⟩) hg1 (.bool bb1)).setCell (p := ⟨g1, 1, none⟩) hg1 (.slice A1 p1 d1)
          clear z0 z1 z2 z3 z4 hB k1 k2 hn1 hn2
          generalize (wn26.setCell ⟨g1, 0, none⟩ (.bool bb1)).setCell ⟨g1, 1, none⟩ (.slice A1 p1 d1) = wn27 at *
          have k1 := k1_
          clear k1_
          have k2 := k2_
          clear k2_
          have hn1 := hn1_
          clear hn1_
          have hn2 := hn2_
          clear hn2_
          have hB := hB_
          clear hB_
          refine hK.out _ _ hB (fun hHeld => ?_)
          clear hK K hHeld
          try simp only [List.getElem_toArray, List.getElem_cons_succ, List.getElem_cons_zero, Act.put, List.setIfInBounds_toArray, List.set_cons_zero, List.set_cons_succ]
          refine wpAnyH_ready (rs := [7]) (by kernel_rfl) (by simp) ?_
          refine AllReadyH.cons rfl (fun K hK => ?_) AllReadyH.nil
          obtain ⟨z0, z1, z2, z3, z4⟩ := k2.two
          go_simp
          have k2_ := k2.set2 (.bool bb2) (.slice A2 p2 d2)
          have k1_ := (k1.far (p := ⟨g2, 0, none⟩) (by simp; omega) (.bool bb2)).far (p := ⟨g2, 1, none⟩) (by simp; omega) (.slice A2 p2 d2)
          have hn1_ := (hn1.setCell (q := ⟨g2, 0, none⟩) k2.typed (.bool bb2)).setCell (q := ⟨g2, 1, none⟩) (k2.typed.setCell _ _) (.slice A2 p2 d2)
          have hn2_ := (hn2.setCell (q := ⟨g2, 0, none⟩) k2.typed (.bool bb2)).setCell (q := ⟨g2, 1, none⟩) (k2.typed.setCell _ _) (.slice A2 p2 d2)
          have hB_ := (hB.setCell (p := ⟨g2, 0, none⟩) hg2 (.bool bb2)).setCell (p := ⟨g2, 1, none⟩) hg2 (.slice A2 p2 d2)
          clear z0 z1 z2 z3 z4 hB k1 k2 hn1 hn2
          generalize (wn27.setCell ⟨g2, 0, none⟩ (.bool bb2)).setCell ⟨g2, 1, none⟩ (.slice A2 p2 d2) = wn28 at *
          have k1 := k1_
          clear k1_
          have k2 := k2_
          clear k2_
          have hn1 := hn1_
          clear hn1_
          have hn2 := hn2_
          clear hn2_
          have hB := hB_
          clear hB_
          refine hK.out _ _ hB (fun hHeld => ?_)
          clear hK K hHeld
          try simp only [List.getElem_toArray, List.getElem_cons_succ, List.getElem_cons_zero, Act.put, List.setIfInBounds_toArray, List.set_cons_zero, List.set_cons_succ]
          refine wpAnyH_done (by kernel_rfl) ?_ _
          refine NoPanic.normal ?_
          go_wp2_with fail
          go_meet
          exact ⟨_, _, rfl, rfl, _, _, _, _, _, _, _, _, k1, k2, hn1, hn2, hB⟩
    · go_simp
      have k1_ := Blk.new wd 28 #[.bool false, .slice none 0 0]
      have hg1 : w1.heap.size ≤ wd.heap.size := hB.size
      have hB_ := below_alloc hB (Nat.le_refl _) (.cells #[.bool false, .slice none 0 0] 28)
      clear hB 
      generalize wd.alloc (.cells #[.bool false, .slice none 0 0] 28) = wn29 at *
      generalize wd.heap.size = g1 at *
      have k1 := k1_
      clear k1_
      have hB := hB_
      clear hB_
      refine hK.out _ _ hB (fun hHeld => ?_)
      clear hK K hHeld
      try simp only [List.getElem_toArray, List.getElem_cons_succ, List.getElem_cons_zero, Act.put, List.setIfInBounds_toArray, List.set_cons_zero, List.set_cons_succ]
      refine wpAnyH_ready (rs := [1, 5]) (by kernel_rfl) (by simp) ?_
      refine AllReadyH.cons rfl (fun K hK => ?_) (AllReadyH.cons rfl (fun K hK => ?_) AllReadyH.nil)
      · go_simp
        refine (HOX.out _).mono ?_
        rintro e wn30 ⟨bb1, A1, p1, d1, rfl, hn1, hc30⟩
        have k1_ := k1.under hc30
        have hB_ := below_two hB hc30
        clear hc30 hB k1
        have k1 := k1_
        clear k1_
        have hB := hB_
        clear hB_
        refine hK.out _ _ hB (fun hHeld => ?_)
        clear hK K hHeld
        try simp only [List.getElem_toArray, List.getElem_cons_succ, List.getElem_cons_zero, Act.put, List.setIfInBounds_toArray, List.set_cons_zero, List.set_cons_succ]
        refine wpAnyH_ready (rs := [3, 5]) (by kernel_rfl) (by simp) ?_
        refine AllReadyH.cons rfl (fun K hK => ?_) (AllReadyH.cons rfl (fun K hK => ?_) AllReadyH.nil)
        · go_simp
          refine (HOY.out _).mono ?_
          rintro e wn31 ⟨bb2, A2, p2, d2, rfl, hn2, hc31⟩
          have k1_ := k1.under hc31
          have hn1_ := hn1.below hc31
          have hB_ := below_two hB hc31
          clear hc31 hB k1 hn1
          have k1 := k1_
          clear k1_
          have hn1 := hn1_
          clear hn1_
          have hB := hB_
          clear hB_
          refine hK.out _ _ hB (fun hHeld => ?_)
          clear hK K hHeld
          try simp only [List.getElem_toArray, List.getElem_cons_succ, List.getElem_cons_zero, Act.put, List.setIfInBounds_toArray, List.set_cons_zero, List.set_cons_succ]
          refine wpAnyH_ready (rs := [5]) (by kernel_rfl) (by simp) ?_
          refine AllReadyH.cons rfl (fun K hK => ?_) AllReadyH.nil
          go_simp
          have k2_ := Blk.new wn31 28 #[.bool false, .slice none 0 0]
          have k1_ := k1.alloc (.cells #[.bool false, .slice none 0 0] 28)
          have hn1_ := hn1.alloc (.cells #[.bool false, .slice none 0 0] 28)
          have hn2_ := hn2.alloc (.cells #[.bool false, .slice none 0 0] 28)
          have hne : g1 < wn31.heap.size := k1.lt
          have hg2 : w1.heap.size ≤ wn31.heap.size := hB.size
          have hB_ := below_alloc hB (Nat.le_refl _) (.cells #[.bool false, .slice none 0 0] 28)
          clear hB k1 hn1 hn2
          generalize wn31.alloc (.cells #[.bool false, .slice none 0 0] 28) = wn32 at *
          generalize wn31.heap.size = g2 at *
          have k1 := k1_
          clear k1_
          have hn1 := hn1_
          clear hn1_
          have hn2 := hn2_
          clear hn2_
          have k2 := k2_
          clear k2_
          have hB := hB_
          clear hB_
          refine hK.out _ _ hB (fun hHeld => ?_)
          clear hK K hHeld
          try simp only [List.getElem_toArray, List.getElem_cons_succ, List.getElem_cons_zero, Act.put, List.setIfInBounds_toArray, List.set_cons_zero, List.set_cons_succ]
          refine wpAnyH_ready (rs := [6]) (by kernel_rfl) (by simp) ?_
          refine AllReadyH.cons rfl (fun K hK => ?_) AllReadyH.nil
          obtain ⟨z0, z1, z2, z3, z4⟩ := k1.two
          go_simp
          have k1_ := k1.set2 (.bool bb1) (.slice A1 p1 d1)
          have k2_ := (k2.far (p := ⟨g1, 0, none⟩) (by simp; omega) (.bool bb1)).far (p := ⟨g1, 1, none⟩) (by simp; omega) (.slice A1 p1 d1)
          have hn1_ := (hn1.setCell (q := ⟨g1, 0, none⟩) k1.typed (.bool bb1)).setCell (q := ⟨g1, 1, none⟩) (k1.typed.setCell _ _) (.slice A1 p1 d1)
          have hn2_ := (hn2.setCell (q := ⟨g1, 0, none⟩) k1.typed (.bool bb1)).setCell (q := ⟨g1, 1, none⟩) (k1.typed.setCell _ _) (.slice A1 p1 d1)
          have hB_ := (hB.setCell (p := ⟨g1, 0, none⟩) hg1 (.bool bb1)).setCell (p := ⟨g1, 1, none⟩) hg1 (.slice A1 p1 d1)
          clear z0 z1 z2 z3 z4 hB k1 k2 hn1 hn2
          generalize (wn32.setCell ⟨g1, 0, none⟩ (.bool bb1)).setCell ⟨g1, 1, none⟩ (.slice A1 p1 d1) = wn33 at *
          have k1 := k1_
          clear k1_
          have k2 := k2_
          clear k2_
          have hn1 := hn1_
          clear hn1_
          have hn2 := hn2_
          clear hn2_
          have hB := hB_
          clear hB_
          refine hK.out _ _ hB (fun hHeld => ?_)
          clear hK K hHeld
          try simp only [List.getElem_toArray, List.getElem_cons_succ, List.getElem_cons_zero, Act.put, List.setIfInBounds_toArray, List.set_cons_zero, List.set_cons_succ]
          refine wpAnyH_ready (rs := [7]) (by kernel_rfl) (by simp) ?_
          refine AllReadyH.cons rfl (fun K hK => ?_) AllReadyH.nil
          obtain ⟨z0, z1, z2, z3, z4⟩ := k2.two
          go_simp
          have k2_ := k2.set2 (.bool bb2) (.slice A2 p2 d2)
          have k1_ := (k1.far (p := ⟨g2, 0, none⟩) (by simp; omega) (.bool bb2)).far (p := ⟨g2, 1, none⟩) (by simp; omega) (.slice A2 p2 d2)
          have hn1_ := (hn1.setCell (q := ⟨g2, 0, none⟩) k2.typed (.bool bb2)).setCell (q := ⟨g2, 1, none⟩) (k2.typed.setCell _ _) (.slice A2 p2 d2)
          have hn2_ := (hn2.setCell (q := ⟨g2, 0, none⟩) k2.typed (.bool bb2)).setCell (q := ⟨g2, 1, none⟩) (k2.typed.setCell _ _) (.slice A2 p2 d2)
          have hB_ := (hB.setCell (p := ⟨g2, 0, none⟩) hg2 (.bool bb2)).setCell (p := ⟨g2, 1, none⟩) hg2 (.slice A2 p2 d2)
          clear z0 z1 z2 z3 z4 hB k1 k2 hn1 hn2
          generalize (wn33.setCell ⟨g2, 0, none⟩ (.bool bb2)).setCell ⟨g2, 1, none⟩ (.slice A2 p2 d2) = wn34 at *
          have k1 := k1_
          clear k1_
          have k2 := k2_
          clear k2_
          have hn1 := hn1_
          clear hn1_
          have hn2 := hn2_
          clear hn2_
          have hB := hB_
          clear hB_
          refine hK.out _ _ hB (fun hHeld => ?_)
          clear hK K hHeld
          try simp only [List.getElem_toArray, List.getElem_cons_succ, List.getElem_cons_zero, Act.put, List.setIfInBounds_toArray, List.set_cons_zero, List.set_cons_succ]
          refine wpAnyH_done (by kernel_rfl) ?_ _
          refine NoPanic.normal ?_
          go_wp2_with fail
          go_meet
          exact ⟨_, _, rfl, rfl, _, _, _, _, _, _, _, _, k1, k2, hn1, hn2, hB⟩
        · go_simp
          have k2_ := Blk.new wn30 28 #[.bool false, .slice none 0 0]
          have k1_ := k1.alloc (.cells #[.bool false, .slice none 0 0] 28)
          have hn1_ := hn1.alloc (.cells #[.bool false, .slice none 0 0] 28)
          have hne : g1 < wn30.heap.size := k1.lt
          have hg2 : w1.heap.size ≤ wn30.heap.size := hB.size
          have hB_ := below_alloc hB (Nat.le_refl _) (.cells #[.bool false, .slice none 0 0] 28)
          clear hB k1 hn1
          generalize wn30.alloc (.cells #[.bool false, .slice none 0 0] 28) = wn35 at *
          generalize wn30.heap.size = g2 at *
          have k1 := k1_
          clear k1_
          have hn1 := hn1_
          clear hn1_
          have k2 := k2_
          clear k2_
          have hB := hB_
          clear hB_
          refine hK.out _ _ hB (fun hHeld => ?_)
          clear hK K hHeld
          try simp only [List.getElem_toArray, List.getElem_cons_succ, List.getElem_cons_zero, Act.put, List.setIfInBounds_toArray, List.set_cons_zero, List.set_cons_succ]
          refine wpAnyH_ready (rs := [3]) (by kernel_rfl) (by simp) ?_
          refine AllReadyH.cons rfl (fun K hK => ?_) AllReadyH.nil
          go_simp
          refine (HOY.out _).mono ?_
          rintro e wn36 ⟨bb2, A2, p2, d2, rfl, hn2, hc36⟩
          have k1_ := k1.under hc36
          have hn1_ := hn1.below hc36
          have k2_ := k2.under hc36
          have hB_ := below_two hB hc36
          clear hc36 hB k1 hn1 k2
          have k1 := k1_
          clear k1_
          have hn1 := hn1_
          clear hn1_
          have k2 := k2_
          clear k2_
          have hB := hB_
          clear hB_
          refine hK.out _ _ hB (fun hHeld => ?_)
          clear hK K hHeld
          try simp only [List.getElem_toArray, List.getElem_cons_succ, List.getElem_cons_zero, Act.put, List.setIfInBounds_toArray, List.set_cons_zero, List.set_cons_succ]
          refine wpAnyH_ready (rs := [6]) (by kernel_rfl) (by simp) ?_
          refine AllReadyH.cons rfl (fun K hK => ?_) AllReadyH.nil
          obtain ⟨z0, z1, z2, z3, z4⟩ := k1.two
          go_simp
          have k1_ := k1.set2 (.bool bb1) (.slice A1 p1 d1)
          have k2_ := (k2.far (p := ⟨g1, 0, none⟩) (by simp; omega) (.bool bb1)).far (p := ⟨g1, 1, none⟩) (by simp; omega) (.slice A1 p1 d1)
          have hn1_ := (hn1.setCell (q := ⟨g1, 0, none⟩) k1.typed (.bool bb1)).setCell (q := ⟨g1, 1, none⟩) (k1.typed.setCell _ _) (.slice A1 p1 d1)
          have hn2_ := (hn2.setCell (q := ⟨g1, 0, none⟩) k1.typed (.bool bb1)).setCell (q := ⟨g1, 1, none⟩) (k1.typed.setCell _ _) (.slice A1 p1 d1)
          have hB_ := (hB.setCell (p := ⟨g1, 0, none⟩) hg1 (.bool bb1)).setCell (p := ⟨g1, 1, none⟩) hg1 (.slice A1 p1 d1)
          clear z0 z1 z2 z3 z4 hB k1 k2 hn1 hn2
          generalize (wn36.setCell ⟨g1, 0, none⟩ (.bool bb1)).setCell ⟨g1, 1, none⟩ (.slice A1 p1 d1) = wn37 at *
          have k1 := k1_
          clear k1_
          have k2 := k2_
          clear k2_
          have hn1 := hn1_
          clear hn1_
          have hn2 := hn2_
          clear hn2_
          have hB := hB_
          clear hB_
          refine hK.out _ _ hB (fun hHeld => ?_)
          clear hK K hHeld
          try simp only [List.getElem_toArray, List.getElem_cons_succ, List.getElem_cons_zero, Act.put, List.setIfInBounds_toArray, List.set_cons_zero, List.set_cons_succ]
          refine wpAnyH_ready (rs := [7]) (by kernel_rfl) (by simp) ?_
          refine AllReadyH.cons rfl (fun K hK => ?_) AllReadyH.nil
          obtain ⟨z0, z1, z2, z3, z4⟩ := k2.two
          go_simp
          have k2_ := k2.set2 (.bool bb2) (.slice A2 p2 d2)
          have k1_ := (k1.far (p := ⟨g2, 0, none⟩) (by simp; omega) (.bool bb2)).far (p := ⟨g2, 1, none⟩) (by simp; omega) (.slice A2 p2 d2)
          have hn1_ := (hn1.setCell (q := ⟨g2, 0, none⟩) k2.typed (.bool bb2)).setCell (q := ⟨g2, 1, none⟩) (k2.typed.setCell _ _) (.slice A2 p2 d2)
          have hn2_ := (hn2.setCell (q := ⟨g2, 0, none⟩) k2.typed (.bool bb2)).setCell (q := ⟨g2, 1, none⟩) (k2.typed.setCell _ _) (.slice A2 p2 d2)
          have hB_ := (hB.setCell (p := ⟨g2, 0, none⟩) hg2 (.bool bb2)).setCell (p := ⟨g2, 1, none⟩) hg2 (.slice A2 p2 d2)
          clear z0 z1 z2 z3 z4 hB k1 k2 hn1 hn2
          generalize (wn37.setCell ⟨g2, 0, none⟩ (.bool bb2)).setCell ⟨g2, 1, none⟩ (.slice A2 p2 d2) = wn38 at *
          have k1 := k1_
          clear k1_
          have k2 := k2_
          clear k2_
          have hn1 := hn1_
          clear hn1_
          have hn2 := hn2_
          clear hn2_
          have hB := hB_
          clear hB_
          refine hK.out _ _ hB (fun hHeld => ?_)
          clear hK K hHeld
          try simp only [List.getElem_toArray, List.getElem_cons_succ, List.getElem_cons_zero, Act.put, List.setIfInBounds_toArray, List.set_cons_zero, List.set_cons_succ]
          refine wpAnyH_done (by kernel_rfl) ?_ _
          refine NoPanic.normal ?_
          go_wp2_with fail
          go_meet
          exact ⟨_, _, rfl, rfl, _, _, _, _, _, _, _, _, k1, k2, hn1, hn2, hB⟩
      · go_simp
        have k2_ := Blk.new wn29 28 #[.bool false, .slice none 0 0]
        have k1_ := k1.alloc (.cells #[.bool false, .slice none 0 0] 28)
        have hne : g1 < wn29.heap.size := k1.lt
        have hg2 : w1.heap.size ≤ wn29.heap.size := hB.size
        have hB_ := below_alloc hB (Nat.le_refl _) (.cells #[.bool false, .slice none 0 0] 28)
        clear hB k1
        generalize wn29.alloc (.cells #[.bool false, .slice none 0 0] 28) = wn39 at *
        generalize wn29.heap.size = g2 at *
        have k1 := k1_
        clear k1_
        have k2 := k2_
        clear k2_
        have hB := hB_
        clear hB_
        refine hK.out _ _ hB (fun hHeld => ?_)
        clear hK K hHeld
        try simp only [List.getElem_toArray, List.getElem_cons_succ, List.getElem_cons_zero, Act.put, List.setIfInBounds_toArray, List.set_cons_zero, List.set_cons_succ]
        refine wpAnyH_ready (rs := [1]) (by kernel_rfl) (by simp) ?_
        refine AllReadyH.cons rfl (fun K hK => ?_) AllReadyH.nil
        go_simp
        refine (HOX.out _).mono ?_
        rintro e wn40 ⟨bb1, A1, p1, d1, rfl, hn1, hc40⟩
        have k1_ := k1.under hc40
        have k2_ := k2.under hc40
        have hB_ := below_two hB hc40
        clear hc40 hB k1 k2
        have k1 := k1_
        clear k1_
        have k2 := k2_
        clear k2_
        have hB := hB_
        clear hB_
        refine hK.out _ _ hB (fun hHeld => ?_)
        clear hK K hHeld
        try simp only [List.getElem_toArray, List.getElem_cons_succ, List.getElem_cons_zero, Act.put, List.setIfInBounds_toArray, List.set_cons_zero, List.set_cons_succ]
        refine wpAnyH_ready (rs := [3]) (by kernel_rfl) (by simp) ?_
        refine AllReadyH.cons rfl (fun K hK => ?_) AllReadyH.nil
        go_simp
        refine (HOY.out _).mono ?_
        rintro e wn41 ⟨bb2, A2, p2, d2, rfl, hn2, hc41⟩
        have k1_ := k1.under hc41
        have k2_ := k2.under hc41
        have hn1_ := hn1.below hc41
        have hB_ := below_two hB hc41
        clear hc41 hB k1 k2 hn1
        have k1 := k1_
        clear k1_
        have k2 := k2_
        clear k2_
        have hn1 := hn1_
        clear hn1_
        have hB := hB_
        clear hB_
        refine hK.out _ _ hB (fun hHeld => ?_)
        clear hK K hHeld
        try simp only [List.getElem_toArray, List.getElem_cons_succ, List.getElem_cons_zero, Act.put, List.setIfInBounds_toArray, List.set_cons_zero, List.set_cons_succ]
        refine wpAnyH_ready (rs := [6]) (by kernel_rfl) (by simp) ?_
        refine AllReadyH.cons rfl (fun K hK => ?_) AllReadyH.nil
        obtain ⟨z0, z1, z2, z3, z4⟩ := k1.two
        go_simp
        have k1_ := k1.set2 (.bool bb1) (.slice A1 p1 d1)
        have k2_ := (k2.far (p := ⟨g1, 0, none⟩) (by simp; omega) (.bool bb1)).far (p := ⟨g1, 1, none⟩) (by simp; omega) (.slice A1 p1 d1)
        have hn1_ := (hn1.setCell (q := ⟨g1, 0, none⟩) k1.typed (.bool bb1)).setCell (q := ⟨g1, 1, none⟩) (k1.typed.setCell _ _) (.slice A1 p1 d1)
        have hn2_ := (hn2.setCell (q := ⟨g1, 0, none⟩) k1.typed (.bool bb1)).setCell (q := ⟨g1, 1, none⟩) (k1.typed.setCell _ _) (.slice A1 p1 d1)
        have hB_ := (hB.setCell (p := ⟨g1, 0, none⟩) hg1 (.bool bb1)).setCell (p := ⟨g1, 1, none⟩) hg1 (.slice A1 p1 d1)
        clear z0 z1 z2 z3 z4 hB k1 k2 hn1 hn2
        generalize (wn41.setCell ⟨g1, 0, none⟩ (.bool bb1)).setCell ⟨g1, 1, none⟩ (.slice A1 p1 d1) = wn42 at *
        have k1 := k1_
        clear k1_
        have k2 := k2_
        clear k2_
        have hn1 := hn1_
        clear hn1_
        have hn2 := hn2_
        clear hn2_
        have hB := hB_
        clear hB_
        refine hK.out _ _ hB (fun hHeld => ?_)
        clear hK K hHeld
        try simp only [List.getElem_toArray, List.getElem_cons_succ, List.getElem_cons_zero, Act.put, List.setIfInBounds_toArray, List.set_cons_zero, List.set_cons_succ]
        refine wpAnyH_ready (rs := [7]) (by kernel_rfl) (by simp) ?_
        refine AllReadyH.cons rfl (fun K hK => ?_) AllReadyH.nil
        obtain ⟨z0, z1, z2, z3, z4⟩ := k2.two
        go_simp
        have k2_ := k2.set2 (.bool bb2) (.slice A2 p2 d2)
        have k1_ := (k1.far (p := ⟨g2, 0, none⟩) (by simp; omega) (.bool bb2)).far (p := ⟨g2, 1, none⟩) (by simp; omega) (.slice A2 p2 d2)
        have hn1_ := (hn1.setCell (q := ⟨g2, 0, none⟩) k2.typed (.bool bb2)).setCell (q := ⟨g2, 1, none⟩) (k2.typed.setCell _ _) (.slice A2 p2 d2)
        have hn2_ := (hn2.setCell (q := ⟨g2, 0, none⟩) k2.typed (.bool bb2)).setCell (q := ⟨g2, 1, none⟩) (k2.typed.setCell _ _) (.slice A2 p2 d2)
        have hB_ := (hB.setCell (p := ⟨g2, 0, none⟩) hg2 (.bool bb2)).setCell (p := ⟨g2, 1, none⟩) hg2 (.slice A2 p2 d2)
        clear z0 z1 z2 z3 z4 hB k1 k2 hn1 hn2
        generalize (wn42.setCell ⟨g2, 0, none⟩ (.bool bb2)).setCell ⟨g2, 1, none⟩ (.slice A2 p2 d2) = wn43 at *
        have k1 := k1_
        clear k1_
        have k2 := k2_
        clear k2_
        have hn1 := hn1_
        clear hn1_
        have hn2 := hn2_
        clear hn2_
        have hB := hB_
        clear hB_
        refine hK.out _ _ hB (fun hHeld => ?_)
        clear hK K hHeld
        try simp only [List.getElem_toArray, List.getElem_cons_succ, List.getElem_cons_zero, Act.put, List.setIfInBounds_toArray, List.set_cons_zero, List.set_cons_succ]
        refine wpAnyH_done (by kernel_rfl) ?_ _
        refine NoPanic.normal ?_
        go_wp2_with fail
        go_meet
        exact ⟨_, _, rfl, rfl, _, _, _, _, _, _, _, _, k1, k2, hn1, hn2, hB⟩
    · go_simp
      have k2_ := Blk.new wd 28 #[.bool false, .slice none 0 0]
      have hg2 : w1.heap.size ≤ wd.heap.size := hB.size
      have hB_ := below_alloc hB (Nat.le_refl _) (.cells #[.bool false, .slice none 0 0] 28)
      clear hB 
      generalize wd.alloc (.cells #[.bool false, .slice none 0 0] 28) = wn44 at *
      generalize wd.heap.size = g2 at *
      have k2 := k2_
      clear k2_
      have hB := hB_
      clear hB_
      refine hK.out _ _ hB (fun hHeld => ?_)
      clear hK K hHeld
      try simp only [List.getElem_toArray, List.getElem_cons_succ, List.getElem_cons_zero, Act.put, List.setIfInBounds_toArray, List.set_cons_zero, List.set_cons_succ]
      refine wpAnyH_ready (rs := [1, 4]) (by kernel_rfl) (by simp) ?_
      refine AllReadyH.cons rfl (fun K hK => ?_) (AllReadyH.cons rfl (fun K hK => ?_) AllReadyH.nil)
      · go_simp
        refine (HOX.out _).mono ?_
        rintro e wn45 ⟨bb1, A1, p1, d1, rfl, hn1, hc45⟩
        have k2_ := k2.under hc45
        have hB_ := below_two hB hc45
        clear hc45 hB k2
        have k2 := k2_
        clear k2_
        have hB := hB_
        clear hB_
        refine hK.out _ _ hB (fun hHeld => ?_)
        clear hK K hHeld
        try simp only [List.getElem_toArray, List.getElem_cons_succ, List.getElem_cons_zero, Act.put, List.setIfInBounds_toArray, List.set_cons_zero, List.set_cons_succ]
        refine wpAnyH_ready (rs := [3, 4]) (by kernel_rfl) (by simp) ?_
        refine AllReadyH.cons rfl (fun K hK => ?_) (AllReadyH.cons rfl (fun K hK => ?_) AllReadyH.nil)
        · go_simp
          refine (HOY.out _).mono ?_
          rintro e wn46 ⟨bb2, A2, p2, d2, rfl, hn2, hc46⟩
          have k2_ := k2.under hc46
          have hn1_ := hn1.below hc46
          have hB_ := below_two hB hc46
          clear hc46 hB k2 hn1
          have k2 := k2_
          clear k2_
          have hn1 := hn1_
          clear hn1_
          have hB := hB_
          clear hB_
          refine hK.out _ _ hB (fun hHeld => ?_)
          clear hK K hHeld
          try simp only [List.getElem_toArray, List.getElem_cons_succ, List.getElem_cons_zero, Act.put, List.setIfInBounds_toArray, List.set_cons_zero, List.set_cons_succ]
          refine wpAnyH_ready (rs := [4]) (by kernel_rfl) (by simp) ?_
          refine AllReadyH.cons rfl (fun K hK => ?_) AllReadyH.nil
          go_simp
          have k1_ := Blk.new wn46 28 #[.bool false, .slice none 0 0]
          have k2_ := k2.alloc (.cells #[.bool false, .slice none 0 0] 28)
          have hn1_ := hn1.alloc (.cells #[.bool false, .slice none 0 0] 28)
          have hn2_ := hn2.alloc (.cells #[.bool false, .slice none 0 0] 28)
          have hne : g2 < wn46.heap.size := k2.lt
          have hg1 : w1.heap.size ≤ wn46.heap.size := hB.size
          have hB_ := below_alloc hB (Nat.le_refl _) (.cells #[.bool false, .slice none 0 0] 28)
          clear hB k2 hn1 hn2
          generalize wn46.alloc (.cells #[.bool false, .slice none 0 0] 28) = wn47 at *
          generalize wn46.heap.size = g1 at *
          have k2 := k2_
          clear k2_
          have hn1 := hn1_
          clear hn1_
          have hn2 := hn2_
          clear hn2_
          have k1 := k1_
          clear k1_
          have hB := hB_
          clear hB_
          refine hK.out _ _ hB (fun hHeld => ?_)
          clear hK K hHeld
          try simp only [List.getElem_toArray, List.getElem_cons_succ, List.getElem_cons_zero, Act.put, List.setIfInBounds_toArray, List.set_cons_zero, List.set_cons_succ]
          refine wpAnyH_ready (rs := [6]) (by kernel_rfl) (by simp) ?_
          refine AllReadyH.cons rfl (fun K hK => ?_) AllReadyH.nil
          obtain ⟨z0, z1, z2, z3, z4⟩ := k1.two
          go_simp
          have k1_ := k1.set2 (.bool bb1) (.slice A1 p1 d1)
          have k2_ := (k2.far (p := ⟨g1, 0, none⟩) (by simp; omega) (.bool bb1)).far (p := ⟨g1, 1, none⟩) (by simp; omega) (.slice A1 p1 d1)
          have hn1_ := (hn1.setCell (q := ⟨g1, 0, none⟩) k1.typed (.bool bb1)).setCell (q := ⟨g1, 1, none⟩) (k1.typed.setCell _ _) (.slice A1 p1 d1)
          have hn2_ := (hn2.setCell (q := ⟨g1, 0, none⟩) k1.typed (.bool bb1)).setCell (q := ⟨g1, 1, none⟩) (k1.typed.setCell _ _) (.slice A1 p1 d1)
          have hB_ := (hB.setCell (p := ⟨g1, 0, none⟩) hg1 (.bool bb1)).setCell (p := ⟨g1, 1, none⟩) hg1 (.slice A1 p1 d1)
          clear z0 z1 z2 z3 z4 hB k1 k2 hn1 hn2
          generalize (wn47.setCell ⟨g1, 0, none⟩ (.bool bb1)).setCell ⟨g1, 1, none⟩ (.slice A1 p1 d1) = wn48 at *
          have k1 := k1_
          clear k1_
          have k2 := k2_
          clear k2_
          have hn1 := hn1_
          clear hn1_
          have hn2 := hn2_
          clear hn2_
          have hB := hB_
          clear hB_
          refine hK.out _ _ hB (fun hHeld => ?_)
          clear hK K hHeld
          try simp only [List.getElem_toArray, List.getElem_cons_succ, List.getElem_cons_zero, Act.put, List.setIfInBounds_toArray, List.set_cons_zero, List.set_cons_succ]
          refine wpAnyH_ready (rs := [7]) (by kernel_rfl) (by simp) ?_
          refine AllReadyH.cons rfl (fun K hK => ?_) AllReadyH.nil
          obtain ⟨z0, z1, z2, z3, z4⟩ := k2.two
          go_simp
          have k2_ := k2.set2 (.bool bb2) (.slice A2 p2 d2)
          have k1_ := (k1.far (p := ⟨g2, 0, none⟩) (by simp; omega) (.bool bb2)).far (p := ⟨g2, 1, none⟩) (by simp; omega) (.slice A2 p2 d2)
          have hn1_ := (hn1.setCell (q := ⟨g2, 0, none⟩) k2.typed (.bool bb2)).setCell (q := ⟨g2, 1, none⟩) (k2.typed.setCell _ _) (.slice A2 p2 d2)
          have hn2_ := (hn2.setCell (q := ⟨g2, 0, none⟩) k2.typed (.bool bb2)).setCell (q := ⟨g2, 1, none⟩) (k2.typed.setCell _ _) (.slice A2 p2 d2)
          have hB_ := (hB.setCell (p := ⟨g2, 0, none⟩) hg2 (.bool bb2)).setCell (p := ⟨g2, 1, none⟩) hg2 (.slice A2 p2 d2)
          clear z0 z1 z2 z3 z4 hB k1 k2 hn1 hn2
          generalize (wn48.setCell ⟨g2, 0, none⟩ (.bool bb2)).setCell ⟨g2, 1, none⟩ (.slice A2 p2 d2) = wn49 at *
          have k1 := k1_
          clear k1_
          have k2 := k2_
          clear k2_
          have hn1 := hn1_
          clear hn1_
          have hn2 := hn2_
          clear hn2_
          have hB := hB_
          clear hB_
          refine hK.out _ _ hB (fun hHeld => ?_)
          clear hK K hHeld
          try simp only [List.getElem_toArray, List.getElem_cons_succ, List.getElem_cons_zero, Act.put, List.setIfInBounds_toArray, List.set_cons_zero, List.set_cons_succ]
          refine wpAnyH_done (by kernel_rfl) ?_ _
          refine NoPanic.normal ?_
          go_wp2_with fail
          go_meet
          exact ⟨_, _, rfl, rfl, _, _, _, _, _, _, _, _, k1, k2, hn1, hn2, hB⟩
        · go_simp
          have k1_ := Blk.new wn45 28 #[.bool false, .slice none 0 0]
          have k2_ := k2.alloc (.cells #[.bool false, .slice none 0 0] 28)
          have hn1_ := hn1.alloc (.cells #[.bool false, .slice none 0 0] 28)
          have hne : g2 < wn45.heap.size := k2.lt
          have hg1 : w1.heap.size ≤ wn45.heap.size := hB.size
          have hB_ := below_alloc hB (Nat.le_refl _) (.cells #[.bool false, .slice none 0 0] 28)
          clear hB k2 hn1
          generalize wn45.alloc (.cells #[.bool false, .slice none 0 0] 28) = wn50 at *
          generalize wn45.heap.size = g1 at *
          have k2 := k2_
          clear k2_
          have hn1 := hn1_
          clear hn1_
          have k1 := k1_
          clear k1_
          have hB := hB_
          clear hB_
          refine hK.out _ _ hB (fun hHeld => ?_)
          clear hK K hHeld
          try simp only [List.getElem_toArray, List.getElem_cons_succ, List.getElem_cons_zero, Act.put, List.setIfInBounds_toArray, List.set_cons_zero, List.set_cons_succ]
          refine wpAnyH_ready (rs := [3]) (by kernel_rfl) (by simp) ?_
          refine AllReadyH.cons rfl (fun K hK => ?_) AllReadyH.nil
          go_simp
          refine (HOY.out _).mono ?_
          rintro e wn51 ⟨bb2, A2, p2, d2, rfl, hn2, hc51⟩
          have k2_ := k2.under hc51
          have hn1_ := hn1.below hc51
          have k1_ := k1.under hc51
          have hB_ := below_two hB hc51
          clear hc51 hB k2 hn1 k1
          have k2 := k2_
          clear k2_
          have hn1 := hn1_
          clear hn1_
          have k1 := k1_
          clear k1_
          have hB := hB_
          clear hB_
          refine hK.out _ _ hB (fun hHeld => ?_)
          clear hK K hHeld
          try simp only [List.getElem_toArray, List.getElem_cons_succ, List.getElem_cons_zero, Act.put, List.setIfInBounds_toArray, List.set_cons_zero, List.set_cons_succ]
          refine wpAnyH_ready (rs := [6]) (by kernel_rfl) (by simp) ?_
          refine AllReadyH.cons rfl (fun K hK => ?_) AllReadyH.nil
          obtain ⟨z0, z1, z2, z3, z4⟩ := k1.two
          go_simp
          have k1_ := k1.set2 (.bool bb1) (.slice A1 p1 d1)
          have k2_ := (k2.far (p := ⟨g1, 0, none⟩) (by simp; omega) (.bool bb1)).far (p := ⟨g1, 1, none⟩) (by simp; omega) (.slice A1 p1 d1)
          have hn1_ := (hn1.setCell (q := ⟨g1, 0, none⟩) k1.typed (.bool bb1)).setCell (q := ⟨g1, 1, none⟩) (k1.typed.setCell _ _) (.slice A1 p1 d1)
          have hn2_ := (hn2.setCell (q := ⟨g1, 0, none⟩) k1.typed (.bool bb1)).setCell (q := ⟨g1, 1, none⟩) (k1.typed.setCell _ _) (.slice A1 p1 d1)
          have hB_ := (hB.setCell (p := ⟨g1, 0, none⟩) hg1 (.bool bb1)).setCell (p := ⟨g1, 1, none⟩) hg1 (.slice A1 p1 d1)
          clear z0 z1 z2 z3 z4 hB k1 k2 hn1 hn2
          generalize (wn51.setCell ⟨g1, 0, none⟩ (.bool bb1)).setCell ⟨g1, 1, none⟩ (.slice A1 p1 d1) = wn52 at *
          have k1 := k1_
          clear k1_
          have k2 := k2_
          clear k2_
          have hn1 := hn1_
          clear hn1_
          have hn2 := hn2_
          clear hn2_
          have hB := hB_
          clear hB_
          refine hK.out _ _ hB (fun hHeld => ?_)
          clear hK K hHeld
          try simp only [List.getElem_toArray, List.getElem_cons_succ, List.getElem_cons_zero, Act.put, List.setIfInBounds_toArray, List.set_cons_zero, List.set_cons_succ]
          refine wpAnyH_ready (rs := [7]) (by kernel_rfl) (by simp) ?_
          refine AllReadyH.cons rfl (fun K hK => ?_) AllReadyH.nil
          obtain ⟨z0, z1, z2, z3, z4⟩ := k2.two
          go_simp
          have k2_ := k2.set2 (.bool bb2) (.slice A2 p2 d2)
          have k1_ := (k1.far (p := ⟨g2, 0, none⟩) (by simp; omega) (.bool bb2)).far (p := ⟨g2, 1, none⟩) (by simp; omega) (.slice A2 p2 d2)
          have hn1_ := (hn1.setCell (q := ⟨g2, 0, none⟩) k2.typed (.bool bb2)).setCell (q := ⟨g2, 1, none⟩) (k2.typed.setCell _ _) (.slice A2 p2 d2)
          have hn2_ := (hn2.setCell (q := ⟨g2, 0, none⟩) k2.typed (.bool bb2)).setCell (q := ⟨g2, 1, none⟩) (k2.typed.setCell _ _) (.slice A2 p2 d2)
          have hB_ := (hB.setCell (p := ⟨g2, 0, none⟩) hg2 (.bool bb2)).setCell (p := ⟨g2, 1, none⟩) hg2 (.slice A2 p2 d2)
          clear z0 z1 z2 z3 z4 hB k1 k2 hn1 hn2
          generalize (wn52.setCell ⟨g2, 0, none⟩ (.bool bb2)).setCell ⟨g2, 1, none⟩ (.slice A2 p2 d2) = wn53 at *
          have k1 := k1_
          clear k1_
          have k2 := k2_
          clear k2_
          have hn1 := hn1_
          clear hn1_
          have hn2 := hn2_
          clear hn2_
          have hB := hB_
          clear hB_
          refine hK.out _ _ hB (fun hHeld => ?_)
          clear hK K hHeld
          try simp only [List.getElem_toArray, List.getElem_cons_succ, List.getElem_cons_zero, Act.put, List.setIfInBounds_toArray, List.set_cons_zero, List.set_cons_succ]
          refine wpAnyH_done (by kernel_rfl) ?_ _
          refine NoPanic.normal ?_
          go_wp2_with fail
          go_meet
          exact ⟨_, _, rfl, rfl, _, _, _, _, _, _, _, _, k1, k2, hn1, hn2, hB⟩
      · go_simp
        have k1_ := Blk.new wn44 28 #[.bool false, .slice none 0 0]
        have k2_ := k2.alloc (.cells #[.bool false, .slice none 0 0] 28)
        have hne : g2 < wn44.heap.size := k2.lt
        have hg1 : w1.heap.size ≤ wn44.heap.size := hB.size
        have hB_ := below_alloc hB (Nat.le_refl _) (.cells #[.bool false, .slice none 0 0] 28)
        clear hB k2
        generalize wn44.alloc (.cells #[.bool false, .slice none 0 0] 28) = wn54 at *
        generalize wn44.heap.size = g1 at *
        have k2 := k2_
        clear k2_
        have k1 := k1_
        clear k1_
        have hB := hB_
        clear hB_
        refine hK.out _ _ hB (fun hHeld => ?_)
        clear hK K hHeld
        try simp only [List.getElem_toArray, List.getElem_cons_succ, List.getElem_cons_zero, Act.put, List.setIfInBounds_toArray, List.set_cons_zero, List.set_cons_succ]
        refine wpAnyH_ready (rs := [1]) (by kernel_rfl) (by simp) ?_
        refine AllReadyH.cons rfl (fun K hK => ?_) AllReadyH.nil
        go_simp
        refine (HOX.out _).mono ?_
        rintro e wn55 ⟨bb1, A1, p1, d1, rfl, hn1, hc55⟩
        have k2_ := k2.under hc55
        have k1_ := k1.under hc55
        have hB_ := below_two hB hc55
        clear hc55 hB k2 k1
        have k2 := k2_
        clear k2_
        have k1 := k1_
        clear k1_
        have hB := hB_
        clear hB_
        refine hK.out _ _ hB (fun hHeld => ?_)
        clear hK K hHeld
        try simp only [List.getElem_toArray, List.getElem_cons_succ, List.getElem_cons_zero, Act.put, List.setIfInBounds_toArray, List.set_cons_zero, List.set_cons_succ]
        refine wpAnyH_ready (rs := [3]) (by kernel_rfl) (by simp) ?_
        refine AllReadyH.cons rfl (fun K hK => ?_) AllReadyH.nil
        go_simp
        refine (HOY.out _).mono ?_
        rintro e wn56 ⟨bb2, A2, p2, d2, rfl, hn2, hc56⟩
        have k2_ := k2.under hc56
        have k1_ := k1.under hc56
        have hn1_ := hn1.below hc56
        have hB_ := below_two hB hc56
        clear hc56 hB k2 k1 hn1
        have k2 := k2_
        clear k2_
        have k1 := k1_
        clear k1_
        have hn1 := hn1_
        clear hn1_
        have hB := hB_
        clear hB_
        refine hK.out _ _ hB (fun hHeld => ?_)
        clear hK K hHeld
        try simp only [List.getElem_toArray, List.getElem_cons_succ, List.getElem_cons_zero, Act.put, List.setIfInBounds_toArray, List.set_cons_zero, List.set_cons_succ]
        refine wpAnyH_ready (rs := [6]) (by kernel_rfl) (by simp) ?_
        refine AllReadyH.cons rfl (fun K hK => ?_) AllReadyH.nil
        obtain ⟨z0, z1, z2, z3, z4⟩ := k1.two
        go_simp
        have k1_ := k1.set2 (.bool bb1) (.slice A1 p1 d1)
        have k2_ := (k2.far (p := ⟨g1, 0, none⟩) (by simp; omega) (.bool bb1)).far (p := ⟨g1, 1, none⟩) (by simp; omega) (.slice A1 p1 d1)
        have hn1_ := (hn1.setCell (q := ⟨g1, 0, none⟩) k1.typed (.bool bb1)).setCell (q := ⟨g1, 1, none⟩) (k1.typed.setCell _ _) (.slice A1 p1 d1)
        have hn2_ := (hn2.setCell (q := ⟨g1, 0, none⟩) k1.typed (.bool bb1)).setCell (q := ⟨g1, 1, none⟩) (k1.typed.setCell _ _) (.slice A1 p1 d1)
        have hB_ := (hB.setCell (p := ⟨g1, 0, none⟩) hg1 (.bool bb1)).setCell (p := ⟨g1, 1, none⟩) hg1 (.slice A1 p1 d1)
        clear z0 z1 z2 z3 z4 hB k1 k2 hn1 hn2
        generalize (wn56.setCell ⟨g1, 0, none⟩ (.bool bb1)).setCell ⟨g1, 1, none⟩ (.slice A1 p1 d1) = wn57 at *
        have k1 := k1_
        clear k1_
        have k2 := k2_
        clear k2_
        have hn1 := hn1_
        clear hn1_
        have hn2 := hn2_
        clear hn2_
        have hB := hB_
        clear hB_
        refine hK.out _ _ hB (fun hHeld => ?_)
        clear hK K hHeld
        try simp only [List.getElem_toArray, List.getElem_cons_succ, List.getElem_cons_zero, Act.put, List.setIfInBounds_toArray, List.set_cons_zero, List.set_cons_succ]
        refine wpAnyH_ready (rs := [7]) (by kernel_rfl) (by simp) ?_
        refine AllReadyH.cons rfl (fun K hK => ?_) AllReadyH.nil
        obtain ⟨z0, z1, z2, z3, z4⟩ := k2.two
        go_simp
        have k2_ := k2.set2 (.bool bb2) (.slice A2 p2 d2)
        have k1_ := (k1.far (p := ⟨g2, 0, none⟩) (by simp; omega) (.bool bb2)).far (p := ⟨g2, 1, none⟩) (by simp; omega) (.slice A2 p2 d2)
        have hn1_ := (hn1.setCell (q := ⟨g2, 0, none⟩) k2.typed (.bool bb2)).setCell (q := ⟨g2, 1, none⟩) (k2.typed.setCell _ _) (.slice A2 p2 d2)
        have hn2_ := (hn2.setCell (q := ⟨g2, 0, none⟩) k2.typed (.bool bb2)).setCell (q := ⟨g2, 1, none⟩) (k2.typed.setCell _ _) (.slice A2 p2 d2)
        have hB_ := (hB.setCell (p := ⟨g2, 0, none⟩) hg2 (.bool bb2)).setCell (p := ⟨g2, 1, none⟩) hg2 (.slice A2 p2 d2)
        clear z0 z1 z2 z3 z4 hB k1 k2 hn1 hn2
        generalize (wn57.setCell ⟨g2, 0, none⟩ (.bool bb2)).setCell ⟨g2, 1, none⟩ (.slice A2 p2 d2) = wn58 at *
        have k1 := k1_
        clear k1_
        have k2 := k2_
        clear k2_
        have hn1 := hn1_
        clear hn1_
        have hn2 := hn2_
        clear hn2_
        have hB := hB_
        clear hB_
        refine hK.out _ _ hB (fun hHeld => ?_)
        clear hK K hHeld
        try simp only [List.getElem_toArray, List.getElem_cons_succ, List.getElem_cons_zero, Act.put, List.setIfInBounds_toArray, List.set_cons_zero, List.set_cons_succ]
        refine wpAnyH_done (by kernel_rfl) ?_ _
        refine NoPanic.normal ?_
        go_wp2_with fail
        go_meet
        exact ⟨_, _, rfl, rfl, _, _, _, _, _, _, _, _, k1, k2, hn1, hn2, hB⟩
  case rest =>
    obtain ⟨g1, g2, rfl, rfl, b1, A1, p1, d1, b2, A2, p2, d2, k1, k2, hn1, hn2, hB⟩ := hcut
    have ka := ka1.under hB
    have kb := kb1.under hB
    have hw := below_two hw1 hB
    clear a0 a1 a2 a3 a4 b0 b3 b4 ka1 kb1 hw1 hB HOX HOY
    obtain ⟨cka0_11, cka1_11, cka2_11, cka3_11, cka4_11⟩ := ka.two
    obtain ⟨ckb0_11, ckb1_11, ckb2_11, ckb3_11, ckb4_11⟩ := kb.two
    obtain ⟨ck10_11, ck11_11, ck12_11, ck13_11, ck14_11⟩ := k1.two
    obtain ⟨ck20_11, ck21_11, ck22_11, ck23_11, ck24_11⟩ := k2.two
    go_wp2_with fail
    clear cka0_11 cka1_11 cka2_11 cka3_11 cka4_11 ckb0_11 ckb1_11 ckb2_11 ckb3_11 ckb4_11 ck10_11 ck11_11 ck12_11 ck13_11 ck14_11 ck20_11 ck21_11 ck22_11 ck23_11 ck24_11
    refine (HAD.out _).mono ?_
    rintro e w11 ⟨ph, pl, pe, rfl, HP, hb11⟩
    have ka := ka.under hb11
    have kb := kb.under hb11
    have k1 := k1.under hb11
    have k2 := k2.under hb11
    have hn1 := hn1.below hb11
    have hn2 := hn2.below hb11
    have hw := below_two hw hb11
    clear hb11
    obtain ⟨cka0_12, cka1_12, cka2_12, cka3_12, cka4_12⟩ := ka.two
    obtain ⟨ckb0_12, ckb1_12, ckb2_12, ckb3_12, ckb4_12⟩ := kb.two
    obtain ⟨ck10_12, ck11_12, ck12_12, ck13_12, ck14_12⟩ := k1.two
    obtain ⟨ck20_12, ck21_12, ck22_12, ck23_12, ck24_12⟩ := k2.two
    go_wp2_with fail
    clear cka0_12 cka1_12 cka2_12 cka3_12 cka4_12 ckb0_12 ckb1_12 ckb2_12 ckb3_12 ckb4_12 ck10_12 ck11_12 ck12_12 ck13_12 ck14_12 ck20_12 ck21_12 ck22_12 ck23_12 ck24_12
    have ka_ := ka.alloc (oW ph pl)
    have kb_ := kb.alloc (oW ph pl)
    have k1_ := k1.alloc (oW ph pl)
    have k2_ := k2.alloc (oW ph pl)
    have hn1_ := hn1.alloc (oW ph pl)
    have hn2_ := hn2.alloc (oW ph pl)
    have kp_ := Blk.new w11 24 #[.int .i64 ph, .int .u64 pl]
    have hw_ := below_alloc hw (Nat.le_refl _) (oW ph pl)
    clear ka kb k1 k2 hn1 hn2 hw
    generalize w11.heap.size = gkp at *
    generalize w11.alloc (oW ph pl) = wa12 at *
    have ka := ka_
    clear ka_
    have kb := kb_
    clear kb_
    have k1 := k1_
    clear k1_
    have k2 := k2_
    clear k2_
    have kp := kp_
    clear kp_
    have hn1 := hn1_
    clear hn1_
    have hn2 := hn2_
    clear hn2_
    have hw := hw_
    clear hw_
    refine (HSU.out _).mono ?_
    rintro e w12 ⟨qh, ql, qe, rfl, HQ, hb12⟩
    have ka := ka.under hb12
    have kb := kb.under hb12
    have k1 := k1.under hb12
    have k2 := k2.under hb12
    have kp := kp.under hb12
    have hn1 := hn1.below hb12
    have hn2 := hn2.below hb12
    have hw := below_two hw hb12
    clear hb12
    obtain ⟨cka0_13, cka1_13, cka2_13, cka3_13, cka4_13⟩ := ka.two
    obtain ⟨ckb0_13, ckb1_13, ckb2_13, ckb3_13, ckb4_13⟩ := kb.two
    obtain ⟨ck10_13, ck11_13, ck12_13, ck13_13, ck14_13⟩ := k1.two
    obtain ⟨ck20_13, ck21_13, ck22_13, ck23_13, ck24_13⟩ := k2.two
    obtain ⟨ckp0_13, ckp1_13, ckp2_13, ckp3_13, ckp4_13⟩ := kp.two
    go_wp2_with fail
    clear cka0_13 cka1_13 cka2_13 cka3_13 cka4_13 ckb0_13 ckb1_13 ckb2_13 ckb3_13 ckb4_13 ck10_13 ck11_13 ck12_13 ck13_13 ck14_13 ck20_13 ck21_13 ck22_13 ck23_13 ck24_13 ckp0_13 ckp1_13 ckp2_13 ckp3_13 ckp4_13
    have ka_ := ka.alloc (oW qh ql)
    have kb_ := kb.alloc (oW qh ql)
    have k1_ := k1.alloc (oW qh ql)
    have k2_ := k2.alloc (oW qh ql)
    have kp_ := kp.alloc (oW qh ql)
    have hn1_ := hn1.alloc (oW qh ql)
    have hn2_ := hn2.alloc (oW qh ql)
    have kq_ := Blk.new w12 24 #[.int .i64 qh, .int .u64 ql]
    have hw_ := below_alloc hw (Nat.le_refl _) (oW qh ql)
    clear ka kb k1 k2 kp hn1 hn2 hw
    generalize w12.heap.size = gkq at *
    generalize w12.alloc (oW qh ql) = wa13 at *
    have ka := ka_
    clear ka_
    have kb := kb_
    clear kb_
    have k1 := k1_
    clear k1_
    have k2 := k2_
    clear k2_
    have kp := kp_
    clear kp_
    have kq := kq_
    clear kq_
    have hn1 := hn1_
    clear hn1_
    have hn2 := hn2_
    clear hn2_
    have hw := hw_
    clear hw_
    refine (HNE.out _).mono ?_
    rintro e w13 ⟨rh, rl, re, rfl, HR, hb13⟩
    have ka := ka.under hb13
    have kb := kb.under hb13
    have k1 := k1.under hb13
    have k2 := k2.under hb13
    have kp := kp.under hb13
    have kq := kq.under hb13
    have hn1 := hn1.below hb13
    have hn2 := hn2.below hb13
    have hw := below_two hw hb13
    clear hb13
    obtain ⟨cka0_14, cka1_14, cka2_14, cka3_14, cka4_14⟩ := ka.two
    obtain ⟨ckb0_14, ckb1_14, ckb2_14, ckb3_14, ckb4_14⟩ := kb.two
    obtain ⟨ck10_14, ck11_14, ck12_14, ck13_14, ck14_14⟩ := k1.two
    obtain ⟨ck20_14, ck21_14, ck22_14, ck23_14, ck24_14⟩ := k2.two
    obtain ⟨ckp0_14, ckp1_14, ckp2_14, ckp3_14, ckp4_14⟩ := kp.two
    obtain ⟨ckq0_14, ckq1_14, ckq2_14, ckq3_14, ckq4_14⟩ := kq.two
    go_upto_region 7 with fail
    clear cka0_14 cka1_14 cka2_14 cka3_14 cka4_14 ckb0_14 ckb1_14 ckb2_14 ckb3_14 ckb4_14 ck10_14 ck11_14 ck12_14 ck13_14 ck14_14 ck20_14 ck21_14 ck22_14 ck23_14 ck24_14 ckp0_14 ckp1_14 ckp2_14 ckp3_14 ckp4_14 ckq0_14 ckq1_14 ckq2_14 ckq3_14 ckq4_14
    have ka_ := ka.alloc (oW rh rl)
    have kb_ := kb.alloc (oW rh rl)
    have k1_ := k1.alloc (oW rh rl)
    have k2_ := k2.alloc (oW rh rl)
    have kp_ := kp.alloc (oW rh rl)
    have kq_ := kq.alloc (oW rh rl)
    have hn1_ := hn1.alloc (oW rh rl)
    have hn2_ := hn2.alloc (oW rh rl)
    have kr_ := Blk.new w13 24 #[.int .i64 rh, .int .u64 rl]
    have hw_ := below_alloc hw (Nat.le_refl _) (oW rh rl)
    clear ka kb k1 k2 kp kq hn1 hn2 hw
    generalize w13.heap.size = gkr at *
    generalize w13.alloc (oW rh rl) = wa14 at *
    have ka := ka_
    clear ka_
    have kb := kb_
    clear kb_
    have k1 := k1_
    clear k1_
    have k2 := k2_
    clear k2_
    have kp := kp_
    clear kp_
    have kq := kq_
    clear kq_
    have kr := kr_
    clear kr_
    have hn1 := hn1_
    clear hn1_
    have hn2 := hn2_
    clear hn2_
    have hw := hw_
    clear hw_
    refine wp_region_noPanic ?_
    refine wp_region_held_drew (S := (fun w' => Below wa14.heap.size wa14 w')) (by kernel_rfl) (Below.refl wa14.heap.size wa14).drew (fun hHeld => ?_)
    clear hHeld
    have hB : Below wa14.heap.size wa14 wa14.drew := (Below.refl wa14.heap.size wa14).drew
    refine wpAnyH_take (i := 0) (v := ?_) rfl (by kernel_rfl) (by kernel_rfl) (by kernel_rfl) (fun _ _ _ h => h) (Or.inl ⟨by rfl, ?_⟩) (by assumption) ?_
    rotate_left
    · intro W hW
      have kx := kp.under hW
      obtain ⟨z0, z1, z2, z3, z4⟩ := kx.two
      go_simp
      try rfl
    simp only [List.getElem_toArray, List.getElem_cons_zero, Act.put, List.setIfInBounds_toArray, List.set_cons_zero, List.set_cons_succ]
    refine wpAnyH_take (i := 1) (v := ?_) rfl (by kernel_rfl) (by kernel_rfl) (by kernel_rfl) (fun _ _ _ h => h) (Or.inl ⟨by rfl, ?_⟩) (by assumption) ?_
    rotate_left
    · intro W hW
      go_simp
      try rfl
    simp only [List.getElem_toArray, List.getElem_cons_succ, List.getElem_cons_zero, Act.put, List.setIfInBounds_toArray, List.set_cons_zero, List.set_cons_succ]
    refine wpAnyH_take (i := 2) (v := ?_) rfl (by kernel_rfl) (by kernel_rfl) (by kernel_rfl) (fun _ _ _ h => h) (Or.inl ⟨by rfl, ?_⟩) (by assumption) ?_
    rotate_left
    · intro W hW
      have kx := k1.under hW
      obtain ⟨z0, z1, z2, z3, z4⟩ := kx.two
      go_simp
      try rfl
    simp only [List.getElem_toArray, List.getElem_cons_succ, List.getElem_cons_zero, Act.put, List.setIfInBounds_toArray, List.set_cons_zero, List.set_cons_succ]
    refine wpAnyH_take (i := 3) (v := ?_) rfl (by kernel_rfl) (by kernel_rfl) (by kernel_rfl) (fun _ _ _ h => h) (Or.inl ⟨by rfl, ?_⟩) (by assumption) ?_
    rotate_left
    · intro W hW
      have kx := k2.under hW
      obtain ⟨z0, z1, z2, z3, z4⟩ := kx.two
      go_simp
      try rfl
    simp only [List.getElem_toArray, List.getElem_cons_succ, List.getElem_cons_zero, Act.put, List.setIfInBounds_toArray, List.set_cons_zero, List.set_cons_succ]
    refine wpAnyH_ready (rs := [4]) (by kernel_rfl) (by simp) ?_
    refine AllReadyH.cons rfl (fun K hK => ?_) AllReadyH.nil
    go_simp
    refine (add_c (hn1.below hB) (hn2.below hB) (Nat.le_trans (num_len hn1 (by have := HIN.out; omega)) (by decide)) (Nat.le_trans (num_len hn2 (by have := HIN.out; omega)) (by decide))).mono ?_
    rintro e wc4 ⟨c4, C4, q4, r4, rfl, hm4, hc4⟩
    have hB := below_two hB hc4
    refine hK.out _ _ hB (fun hHeld => ?_)
    clear hK K
    try simp only [List.getElem_toArray, List.getElem_cons_succ, List.getElem_cons_zero, Act.put, List.setIfInBounds_toArray, List.set_cons_zero, List.set_cons_succ]
    clear hHeld
    refine wpAnyH_ready (rs := [5]) (by kernel_rfl) (by simp) ?_
    refine AllReadyH.cons rfl (fun K hK => ?_) AllReadyH.nil
    go_simp
    refine (is_c HP.out hm4 (num_len hm4 (by have := HIN.out; omega))).mono ?_
    rintro e wc5 ⟨rfl, hc5⟩
    have hB := below_two hB hc5
    refine hK.out _ _ hB (fun hHeld => ?_)
    clear hK K
    try simp only [List.getElem_toArray, List.getElem_cons_succ, List.getElem_cons_zero, Act.put, List.setIfInBounds_toArray, List.set_cons_zero, List.set_cons_succ]
    clear hHeld
    refine wpAnyH_take (i := 6) (v := ?_) rfl (by kernel_rfl) (by kernel_rfl) (by kernel_rfl) (fun _ _ _ h => h) (Or.inl ⟨by rfl, ?_⟩) (by assumption) ?_
    rotate_left
    · intro W hW
      go_simp
      try rfl
    simp only [List.getElem_toArray, List.getElem_cons_succ, List.getElem_cons_zero, Act.put, List.setIfInBounds_toArray, List.set_cons_zero, List.set_cons_succ]
    refine wpAnyH_take (i := 7) (v := ?_) rfl (by kernel_rfl) (by kernel_rfl) (by kernel_rfl) (fun _ _ _ h => h) (Or.inl ⟨by rfl, ?_⟩) (by assumption) ?_
    rotate_left
    · intro W hW
      have kx := kq.under hW
      obtain ⟨z0, z1, z2, z3, z4⟩ := kx.two
      go_simp
      try rfl
    simp only [List.getElem_toArray, List.getElem_cons_succ, List.getElem_cons_zero, Act.put, List.setIfInBounds_toArray, List.set_cons_zero, List.set_cons_succ]
    refine wpAnyH_take (i := 8) (v := ?_) rfl (by kernel_rfl) (by kernel_rfl) (by kernel_rfl) (fun _ _ _ h => h) (Or.inl ⟨by rfl, ?_⟩) (by assumption) ?_
    rotate_left
    · intro W hW
      go_simp
      try rfl
    simp only [List.getElem_toArray, List.getElem_cons_succ, List.getElem_cons_zero, Act.put, List.setIfInBounds_toArray, List.set_cons_zero, List.set_cons_succ]
    refine wpAnyH_take (i := 9) (v := ?_) rfl (by kernel_rfl) (by kernel_rfl) (by kernel_rfl) (fun _ _ _ h => h) (Or.inl ⟨by rfl, ?_⟩) (by assumption) ?_
    rotate_left
    · intro W hW
      have kx := k1.under hW
      obtain ⟨z0, z1, z2, z3, z4⟩ := kx.two
      go_simp
      try rfl
    simp only [List.getElem_toArray, List.getElem_cons_succ, List.getElem_cons_zero, Act.put, List.setIfInBounds_toArray, List.set_cons_zero, List.set_cons_succ]
    refine wpAnyH_take (i := 10) (v := ?_) rfl (by kernel_rfl) (by kernel_rfl) (by kernel_rfl) (fun _ _ _ h => h) (Or.inl ⟨by rfl, ?_⟩) (by assumption) ?_
    rotate_left
    · intro W hW
      have kx := k2.under hW
      obtain ⟨z0, z1, z2, z3, z4⟩ := kx.two
      go_simp
      try rfl
    simp only [List.getElem_toArray, List.getElem_cons_succ, List.getElem_cons_zero, Act.put, List.setIfInBounds_toArray, List.set_cons_zero, List.set_cons_succ]
    refine wpAnyH_ready (rs := [11]) (by kernel_rfl) (by simp) ?_
    refine AllReadyH.cons rfl (fun K hK => ?_) AllReadyH.nil
    go_simp
    refine (subn_c (hn1.below hB) (hn2.below hB) (Nat.le_trans (num_len hn1 (by have := HIN.out; omega)) (by decide)) (Nat.le_trans (num_len hn2 (by have := HIN.out; omega)) (by decide))).mono ?_
    rintro e wc11 ⟨c11, C11, q11, r11, rfl, hm11, hc11⟩
    have hB := below_two hB hc11
    refine hK.out _ _ hB (fun hHeld => ?_)
    clear hK K
    try simp only [List.getElem_toArray, List.getElem_cons_succ, List.getElem_cons_zero, Act.put, List.setIfInBounds_toArray, List.set_cons_zero, List.set_cons_succ]
    clear hHeld
    refine wpAnyH_ready (rs := [12]) (by kernel_rfl) (by simp) ?_
    refine AllReadyH.cons rfl (fun K hK => ?_) AllReadyH.nil
    go_simp
    refine (is_c HQ.out hm11 (num_len hm11 (by have := HIN.out; omega))).mono ?_
    rintro e wc12 ⟨rfl, hc12⟩
    have hB := below_two hB hc12
    refine hK.out _ _ hB (fun hHeld => ?_)
    clear hK K
    try simp only [List.getElem_toArray, List.getElem_cons_succ, List.getElem_cons_zero, Act.put, List.setIfInBounds_toArray, List.set_cons_zero, List.set_cons_succ]
    clear hHeld
    refine wpAnyH_take (i := 13) (v := ?_) rfl (by kernel_rfl) (by kernel_rfl) (by kernel_rfl) (fun _ _ _ h => h) (Or.inl ⟨by rfl, ?_⟩) (by assumption) ?_
    rotate_left
    · intro W hW
      go_simp
      try rfl
    simp only [List.getElem_toArray, List.getElem_cons_succ, List.getElem_cons_zero, Act.put, List.setIfInBounds_toArray, List.set_cons_zero, List.set_cons_succ]
    refine wpAnyH_take (i := 14) (v := ?_) rfl (by kernel_rfl) (by kernel_rfl) (by kernel_rfl) (fun _ _ _ h => h) (Or.inl ⟨by rfl, ?_⟩) (by assumption) ?_
    rotate_left
    · intro W hW
      go_simp
      try rfl
    simp only [List.getElem_toArray, List.getElem_cons_succ, List.getElem_cons_zero, Act.put, List.setIfInBounds_toArray, List.set_cons_zero, List.set_cons_succ]
    refine wpAnyH_take (i := 15) (v := ?_) rfl (by kernel_rfl) (by kernel_rfl) (by kernel_rfl) (fun _ _ _ h => h) (Or.inl ⟨by rfl, ?_⟩) (by assumption) ?_
    rotate_left
    · intro W hW
      have kx := kr.under hW
      obtain ⟨z0, z1, z2, z3, z4⟩ := kx.two
      go_simp
      try rfl
    simp only [List.getElem_toArray, List.getElem_cons_succ, List.getElem_cons_zero, Act.put, List.setIfInBounds_toArray, List.set_cons_zero, List.set_cons_succ]
    refine wpAnyH_take (i := 16) (v := ?_) rfl (by kernel_rfl) (by kernel_rfl) (by kernel_rfl) (fun _ _ _ h => h) (Or.inl ⟨by rfl, ?_⟩) (by assumption) ?_
    rotate_left
    · intro W hW
      go_simp
      try rfl
    simp only [List.getElem_toArray, List.getElem_cons_succ, List.getElem_cons_zero, Act.put, List.setIfInBounds_toArray, List.set_cons_zero, List.set_cons_succ]
    refine wpAnyH_take (i := 17) (v := ?_) rfl (by kernel_rfl) (by kernel_rfl) (by kernel_rfl) (fun _ _ _ h => h) (Or.inl ⟨by rfl, ?_⟩) (by assumption) ?_
    rotate_left
    · intro W hW
      have kx := k1.under hW
      obtain ⟨z0, z1, z2, z3, z4⟩ := kx.two
      go_simp
      try rfl
    simp only [List.getElem_toArray, List.getElem_cons_succ, List.getElem_cons_zero, Act.put, List.setIfInBounds_toArray, List.set_cons_zero, List.set_cons_succ]
    refine wpAnyH_ready (rs := [18]) (by kernel_rfl) (by simp) ?_
    refine AllReadyH.cons rfl (fun K hK => ?_) AllReadyH.nil
    go_simp
    refine (neg_c (hn1.below hB)).mono ?_
    rintro e wc18 ⟨c18, C18, q18, r18, rfl, hm18, hc18⟩
    have hB := below_two hB hc18
    refine hK.out _ _ hB (fun hHeld => ?_)
    clear hK K
    try simp only [List.getElem_toArray, List.getElem_cons_succ, List.getElem_cons_zero, Act.put, List.setIfInBounds_toArray, List.set_cons_zero, List.set_cons_succ]
    clear hHeld
    refine wpAnyH_ready (rs := [19]) (by kernel_rfl) (by simp) ?_
    refine AllReadyH.cons rfl (fun K hK => ?_) AllReadyH.nil
    go_simp
    refine (is_c HR.out hm18 (num_len hm18 (by have := HIN.out; omega))).mono ?_
    rintro e wc19 ⟨rfl, hc19⟩
    have hB := below_two hB hc19
    refine hK.out _ _ hB (fun hHeld => ?_)
    clear hK K
    try simp only [List.getElem_toArray, List.getElem_cons_succ, List.getElem_cons_zero, Act.put, List.setIfInBounds_toArray, List.set_cons_zero, List.set_cons_succ]
    clear hHeld
    refine wpAnyH_take (i := 20) (v := ?_) rfl (by kernel_rfl) (by kernel_rfl) (by kernel_rfl) (fun _ _ _ h => h) (Or.inl ⟨by rfl, ?_⟩) (by assumption) ?_
    rotate_left
    · intro W hW
      go_simp
      try rfl
    simp only [List.getElem_toArray, List.getElem_cons_succ, List.getElem_cons_zero, Act.put, List.setIfInBounds_toArray, List.set_cons_zero, List.set_cons_succ]
    refine wpAnyH_take (i := 21) (v := ?_) rfl (by kernel_rfl) (by kernel_rfl) (by kernel_rfl) (fun _ _ _ h => h) (Or.inl ⟨by rfl, ?_⟩) (by assumption) ?_
    rotate_left
    · intro W hW
      go_simp
      try rfl
    simp only [List.getElem_toArray, List.getElem_cons_succ, List.getElem_cons_zero, Act.put, List.setIfInBounds_toArray, List.set_cons_zero, List.set_cons_succ]
    refine wpAnyH_done (by kernel_rfl) ?_ _
    refine NoPanic.normal ?_
    go_wp2
    go_ret
    exact ⟨rfl, below_two hw hB⟩
end Go.Proofs.YtpomhcclnhddmaaDoor
