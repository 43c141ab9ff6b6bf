/- Manifest laws: a manifest in memory of its own types (MH); own and the document's Right by it. ManifestTells: the walk. -/
import Derived.Test.YtgdnpmjmkcccoaaZMArg
import Derived.Test.YtgdnpmjmkcccoaaZRefT
namespace Go.Proofs.Ytgdnpmjmkcccoaa
open Go.RowKit Go.Shelf VB
open Go.Lib (hid)
set_option linter.unusedVariables false
set_option linter.unusedSimpArgs false
/-- a manifest in memory of its own types -/
structure MH (w : World) (C : Option Addr) (k : Nat) (xs : List RoA) : Prop where
  rd : Reads w 42 7 C k (xs.flatMap cellsR)
  fr : ∀ x ∈ xs, RoFr w x
  k9 : k ≤ 9
theorem MH.below {w w' : World} {C : Option Addr} {k : Nat} {xs : List RoA} (h : MH w C k xs) (hb : Below w.heap.size w w') : MH w' C k xs :=
  ⟨h.rd.below hb, fun x hx => (h.fr x hx).below hb, h.k9⟩
theorem MH.alloc {w : World} {C : Option Addr} {k : Nat} {xs : List RoA} (h : MH w C k xs) (o : Obj) : MH (w.alloc o) C k xs :=
  h.below ((Below.refl _ _).alloc (Nat.le_refl _) o)
theorem MH.set {w : World} {C : Option Addr} {k g i : Nat} {t : TypeId} {cs : Array Value} {xs : List RoA} (h : MH w C k xs) (b : Blk w g t cs) (ht : t ≠ 42 ∧ t ≠ 45 ∧ t ≠ 3 ∧ t ≠ 47) (u : Value) : MH (w.setCell ⟨g, i, none⟩ u) C k xs :=
  ⟨h.rd.setCell (p := ⟨g, i, none⟩) b.typed ht.1 u, fun x hx => (h.fr x hx).set b ht.2 u, h.k9⟩
theorem MH.man {w : World} {C : Option Addr} {k : Nat} {xs : List RoA} (h : MH w C k xs) (f : Nat) : ManIn w C k f xs :=
  ⟨⟨_, h.rd⟩, fun x hx => (h.fr x hx).inn, by have := h.k9; omega⟩
def RetOw (l : List Ro) (w : World) (e : Ending) (w' : World) : Prop :=
  ∃ (xs : List RoA) (C : Option Addr) (k f : Nat), e = .returned (.agg #[.slice C k f]) ∧ xs.map RoA.d = l ∧ MH w' C k xs ∧ Below w.heap.size w w'
theorem own_h (A : Option Addr) (n c : Nat) (rows : List RoA) (w : World) (h : MArg w A n c rows) :
    Calls Try.prog 11 #[.agg #[.slice A n c]] w (RetOw (ownL (rows.map RoA.d) 9) w) :=
  (own_22 A n c rows w h).mono fun e w' h => by
    obtain ⟨ns, k, C, f, h1, h2, h3, h4, ⟨h5, h6⟩, h7⟩ := ownN h
    exact ⟨ns, C, k, f, h2, h1, ⟨Reads.of_own h5, h6, h7⟩, h4⟩
theorem right_h (A : Option Addr) (n c : Nat) (rows : List RoA) (w : World) {l : List Ro} (h : MH w A n rows) (hl : rows.map RoA.d = l) :
    Calls Try.prog 12 #[.agg #[.slice A n c]] w fun e w' => e = .returned (.bool (manOk l)) ∧ Below w.heap.size w w' :=
  (Right22_d A n c rows w (h.man c) h.fr).mono fun e w' h2 => by
    obtain ⟨b, h3, h4, h5⟩ := h2
    have h6 := right_iff (h.man c).fs
    rw [hl] at h4 h6
    have : b = manOk l := by
      rw [Bool.eq_iff_iff, h4, h6]
    exact ⟨by rw [h3, this], h5⟩
end Go.Proofs.Ytgdnpmjmkcccoaa
namespace Go.Proofs.Ytgdnpmjmkcccoaa
open Go.RowKit Go.Shelf VB
open Go.Lib (hid)
set_option linter.unusedVariables false
set_option linter.unusedSimpArgs false
/-- the two manifests of ManifestTells, in memory of their own -/
def TwoM (w0 wx : World) (lx ly : List Ro) (gm go : Nat) : Prop :=
  ∃ xs ys D1 k1 f1 D2 k2 f2, Blk wx gm 24 #[.slice D1 k1 f1] ∧ Blk wx go 24 #[.slice D2 k2 f2] ∧ MH wx D1 k1 xs ∧ MH wx D2 k2 ys ∧ xs.map RoA.d = lx ∧ ys.map RoA.d = ly ∧ Below w0.heap.size w0 wx
set_option maxRecDepth 100000 in
set_option maxHeartbeats 8000000 in
theorem mtells_core (A : Option Addr) (n c : Nat) (rx : List RoA) (B : Option Addr) (m d : Nat) (ry : List RoA) (w : World) (hx : MArg w A n c rx) (hy : MArg w B m d ry) :
    Calls Try.prog 3 #[.agg #[.slice A n c], .agg #[.slice B m d]] w fun e w' => e = .returned (.bool true) ∧ Below w.heap.size w w' := by
  obtain ⟨lx, hlx⟩ : ∃ l, l = ownL (rx.map RoA.d) 9 := ⟨_, rfl⟩
  obtain ⟨ly, hly⟩ : ∃ l, l = ownL (ry.map RoA.d) 9 := ⟨_, rfl⟩
  have HOX := hid (fun w' (h : Below w.heap.size w w') => (own_h A n c rx w' (MArg.below hx h)))
  have HOY := hid (fun w' (h : Below w.heap.size w w') => (own_h B m d ry w' (MArg.below hy h)))
  rw [← hlx] at HOX
  rw [← hly] at HOY
  have KX := hid ((Blk.new w 24 #[.slice A n c]).alloc (.cells #[.slice B m d] 24))
  have KY := hid (Blk.new_at (g := w.heap.size + 1) (w.alloc (.cells #[.slice A n c] 24)) 24 #[.slice B m d] (by simp))
  have HB := hid (below2' w (.cells #[.slice A n c] 24) (.cells #[.slice B m d] 24) (Below.refl _ _))
  clear hx hy hlx hly
  go_enter Try.func3, Try.ntmps3
  go_upto_region 1 with fail
  generalize (w.alloc (.cells #[.slice A n c] 24)).alloc (.cells #[.slice B m d] 24) = w0 at *
  go_wp2_with fail
  refine (wakes_22 _).mono ?_
  rintro e w2 ⟨rfl, hb1⟩
  replace KX := hid (KX.out.under hb1)
  replace KY := hid (KY.out.under hb1)
  replace HB := hid (HB.out.trans (hb1.mono HB.out.size))
  clear hb1
  have c0 : w2.cell? ⟨w.heap.size, 0, none⟩ = some (.slice A n c) := KX.out.cell 0
  have d0 : w2.cell? ⟨w.heap.size + 1, 0, none⟩ = some (.slice B m d) := KY.out.cell 0
  have HO1 := hid (fun W (h : Below w2.heap.size w2 W) => HOX.out W (HB.out.trans (h.mono HB.out.size)))
  have HO2 := hid (fun W (h : Below w2.heap.size w2 W) => HOY.out W (HB.out.trans (h.mono HB.out.size)))
  unfold RetOw at HO1 HO2
  clear HOX HOY
  go_upto_region 3 with fail
  go_cut [5, 6] (fun u5 u6 wx => ∃ gm go : Nat, u5 = .pointer (some ⟨gm, 0, none⟩) ∧ u6 = .pointer (some ⟨go, 0, none⟩) ∧ Hid (TwoM w2 wx lx ly gm go))
  case first =>
    refine wp_region_noPanic ?_
    refine wp_region_held_drew (S := (fun W => Below w2.heap.size w2 W)) (by kernel_rfl) (below_dn (Below.refl w2.heap.size w2) 1) (fun hHeld => ?_)
    refine wpAnyH_take (i := 0) (v := ?_) rfl (by kernel_rfl) (by kernel_rfl) (by kernel_rfl) (fun _ _ _ h => h) (Or.inl ⟨by rfl, ?_⟩) (by assumption) ?_
    rotate_left
    · intro W hW
      have y0 := below_cell hW c0
      go_simp
      try rfl
    simp only [List.getElem_toArray, List.getElem_cons_zero, Act.put, List.setIfInBounds_toArray, List.set_cons_zero, List.set_cons_succ]
    refine wpAnyH_take (i := 2) (v := ?_) rfl (by kernel_rfl) (by kernel_rfl) (by kernel_rfl) (fun _ _ _ h => h) (Or.inl ⟨by rfl, ?_⟩) (by assumption) ?_
    rotate_left
    · intro W hW
      have y0 := below_cell hW d0
      go_simp
      try rfl
    simp only [List.getElem_toArray, List.getElem_cons_succ, List.getElem_cons_zero, Act.put, List.setIfInBounds_toArray, List.set_cons_zero, List.set_cons_succ]
    clear c0 d0 hHeld
    have hB := below_dn (Below.refl w2.heap.size w2) 1
    change Below w2.heap.size w2 w2.drew at hB
    generalize w2.drew = wd at *
    refine wpAnyH_ready (rs := [1, 4, 5]) (by kernel_rfl) (by simp) ?_
    refine AllReadyH.cons rfl (fun K hK => ?_) (AllReadyH.cons rfl (fun K hK => ?_) (AllReadyH.cons rfl (fun K hK => ?_) AllReadyH.nil))
    · go_simp
      refine (HO1.out _ hB).mono ?_
      rintro e wn1 ⟨xs1, D1, k1, f1, rfl, q1, n1, hb1⟩
      replace hB := hB.trans (hb1.mono hB.size)
      clear hb1
      refine hK.out _ _ hB (fun hHeld => ?_)
      clear hK K hHeld
      try simp only [List.getElem_toArray, List.getElem_cons_succ, List.getElem_cons_zero, Act.put, List.setIfInBounds_toArray, List.set_cons_zero, List.set_cons_succ]
      refine wpAnyH_ready (rs := [3, 4, 5]) (by kernel_rfl) (by simp) ?_
      refine AllReadyH.cons rfl (fun K hK => ?_) (AllReadyH.cons rfl (fun K hK => ?_) (AllReadyH.cons rfl (fun K hK => ?_) AllReadyH.nil))
      · go_simp
        refine (HO2.out _ hB).mono ?_
        rintro e wn2 ⟨xs2, D2, k2, f2, rfl, q2, n2, hb1⟩
        replace n1 := n1.below hb1
        replace hB := hB.trans (hb1.mono hB.size)
        clear hb1
        refine hK.out _ _ hB (fun hHeld => ?_)
        clear hK K hHeld
        try simp only [List.getElem_toArray, List.getElem_cons_succ, List.getElem_cons_zero, Act.put, List.setIfInBounds_toArray, List.set_cons_zero, List.set_cons_succ]
        refine wpAnyH_ready (rs := [4, 5]) (by kernel_rfl) (by simp) ?_
        refine AllReadyH.cons rfl (fun K hK => ?_) (AllReadyH.cons rfl (fun K hK => ?_) AllReadyH.nil)
        · go_simp
          have b1_ := Blk.new wn2 24 #[.slice none 0 0]
          have n1_ := n1.alloc (.cells #[.slice none 0 0] 24)
          have n2_ := n2.alloc (.cells #[.slice none 0 0] 24)
          have hg1 : w2.heap.size ≤ wn2.heap.size := hB.size
          have hB_ := hB.alloc hB.size (.cells #[.slice none 0 0] 24)
          clear hB n1 n2
          generalize wn2.alloc (.cells #[.slice none 0 0] 24) = wn3 at *
          generalize wn2.heap.size = g1 at *
          have n1 := n1_
          clear n1_
          have n2 := n2_
          clear n2_
          have b1 := b1_
          clear b1_
          have hB := hB_
          clear hB_
          refine hK.out _ _ hB (fun hHeld => ?_)
          clear hK K hHeld
          try simp only [List.getElem_toArray, List.getElem_cons_succ, List.getElem_cons_zero, Act.put, List.setIfInBounds_toArray, List.set_cons_zero, List.set_cons_succ]
          refine wpAnyH_ready (rs := [5]) (by kernel_rfl) (by simp) ?_
          refine AllReadyH.cons rfl (fun K hK => ?_) AllReadyH.nil
          go_simp
          have b2_ := Blk.new wn3 24 #[.slice none 0 0]
          have n1_ := n1.alloc (.cells #[.slice none 0 0] 24)
          have n2_ := n2.alloc (.cells #[.slice none 0 0] 24)
          have b1_ := b1.alloc (.cells #[.slice none 0 0] 24)
          have hne : g1 < wn3.heap.size := b1.lt
          have hg2 : w2.heap.size ≤ wn3.heap.size := hB.size
          have hB_ := hB.alloc hB.size (.cells #[.slice none 0 0] 24)
          clear hB n1 n2 b1
          generalize wn3.alloc (.cells #[.slice none 0 0] 24) = wn4 at *
          generalize wn3.heap.size = g2 at *
          have n1 := n1_
          clear n1_
          have n2 := n2_
          clear n2_
          have b1 := b1_
          clear b1_
          have b2 := b2_
          clear b2_
          have hB := hB_
          clear hB_
          refine hK.out _ _ hB (fun hHeld => ?_)
          clear hK K hHeld
          try simp only [List.getElem_toArray, List.getElem_cons_succ, List.getElem_cons_zero, Act.put, List.setIfInBounds_toArray, List.set_cons_zero, List.set_cons_succ]
          refine wpAnyH_ready (rs := [6]) (by kernel_rfl) (by simp) ?_
          refine AllReadyH.cons rfl (fun K hK => ?_) AllReadyH.nil
          have x0 : wn4.cell? ⟨g1, 0, none⟩ = some _ := b1.cell 0
          have y0 := b1.frozen 0
          have y6 := b1.lt
          go_simp
          have b1_ : Blk (wn4.setCell ⟨g1, 0, none⟩ (.slice D1 k1 f1)) g1 24 #[(.slice D1 k1 f1)] := b1.set_ 0 _
          have b2_ : Blk (wn4.setCell ⟨g1, 0, none⟩ (.slice D1 k1 f1)) g2 24 _ := b2.far (p := ⟨g1, 0, none⟩) (by simp; omega) (.slice D1 k1 f1)
          have n1_ := MH.set (g := g1) (i := 0) n1 b1 (by decide) (.slice D1 k1 f1)
          have n2_ := MH.set (g := g1) (i := 0) n2 b1 (by decide) (.slice D1 k1 f1)
          have hB_ : Below w2.heap.size w2 (wn4.setCell ⟨g1, 0, none⟩ (.slice D1 k1 f1)) := hB.setCell (p := ⟨g1, 0, none⟩) hg1 (.slice D1 k1 f1)
          clear hB b1 b2 n1 n2 x0 y0 y6
          generalize (wn4.setCell ⟨g1, 0, none⟩ (.slice D1 k1 f1)) = wn5 at *
          have n1 := n1_
          clear n1_
          have n2 := n2_
          clear n2_
          have b1 := b1_
          clear b1_
          have b2 := b2_
          clear b2_
          have hB := hB_
          clear hB_
          refine hK.out _ _ hB (fun hHeld => ?_)
          clear hK K hHeld
          try simp only [List.getElem_toArray, List.getElem_cons_succ, List.getElem_cons_zero, Act.put, List.setIfInBounds_toArray, List.set_cons_zero, List.set_cons_succ]
          refine wpAnyH_ready (rs := [7]) (by kernel_rfl) (by simp) ?_
          refine AllReadyH.cons rfl (fun K hK => ?_) AllReadyH.nil
          have x0 : wn5.cell? ⟨g2, 0, none⟩ = some _ := b2.cell 0
          have y0 := b2.frozen 0
          have y6 := b2.lt
          go_simp
          have b2_ : Blk (wn5.setCell ⟨g2, 0, none⟩ (.slice D2 k2 f2)) g2 24 #[(.slice D2 k2 f2)] := b2.set_ 0 _
          have b1_ : Blk (wn5.setCell ⟨g2, 0, none⟩ (.slice D2 k2 f2)) g1 24 _ := b1.far (p := ⟨g2, 0, none⟩) (by simp; omega) (.slice D2 k2 f2)
          have n1_ := MH.set (g := g2) (i := 0) n1 b2 (by decide) (.slice D2 k2 f2)
          have n2_ := MH.set (g := g2) (i := 0) n2 b2 (by decide) (.slice D2 k2 f2)
          have hB_ : Below w2.heap.size w2 (wn5.setCell ⟨g2, 0, none⟩ (.slice D2 k2 f2)) := hB.setCell (p := ⟨g2, 0, none⟩) hg2 (.slice D2 k2 f2)
          clear hB b1 b2 n1 n2 x0 y0 y6
          generalize (wn5.setCell ⟨g2, 0, none⟩ (.slice D2 k2 f2)) = wn6 at *
          have n1 := n1_
          clear n1_
          have n2 := n2_
          clear n2_
          have b1 := b1_
          clear b1_
          have b2 := b2_
          clear b2_
          have hB := hB_
          clear hB_
          refine hK.out _ _ hB (fun hHeld => ?_)
          clear hK K hHeld
          try simp only [List.getElem_toArray, List.getElem_cons_succ, List.getElem_cons_zero, Act.put, List.setIfInBounds_toArray, List.set_cons_zero, List.set_cons_succ]
          refine wpAnyH_done (by kernel_rfl) ?_ _
          refine NoPanic.normal ?_
          go_wp2_with fail
          go_meet
          exact ⟨g1, g2, rfl, rfl, hid ⟨xs1, xs2, D1, k1, f1, D2, k2, f2, b1, b2, n1, n2, q1, q2, hB⟩⟩
        · go_simp
          have b2_ := Blk.new wn2 24 #[.slice none 0 0]
          have n1_ := n1.alloc (.cells #[.slice none 0 0] 24)
          have n2_ := n2.alloc (.cells #[.slice none 0 0] 24)
          have hg2 : w2.heap.size ≤ wn2.heap.size := hB.size
          have hB_ := hB.alloc hB.size (.cells #[.slice none 0 0] 24)
          clear hB n1 n2
          generalize wn2.alloc (.cells #[.slice none 0 0] 24) = wn7 at *
          generalize wn2.heap.size = g2 at *
          have n1 := n1_
          clear n1_
          have n2 := n2_
          clear n2_
          have b2 := b2_
          clear b2_
          have hB := hB_
          clear hB_
          refine hK.out _ _ hB (fun hHeld => ?_)
          clear hK K hHeld
          try simp only [List.getElem_toArray, List.getElem_cons_succ, List.getElem_cons_zero, Act.put, List.setIfInBounds_toArray, List.set_cons_zero, List.set_cons_succ]
          refine wpAnyH_ready (rs := [4]) (by kernel_rfl) (by simp) ?_
          refine AllReadyH.cons rfl (fun K hK => ?_) AllReadyH.nil
          go_simp
          have b1_ := Blk.new wn7 24 #[.slice none 0 0]
          have n1_ := n1.alloc (.cells #[.slice none 0 0] 24)
          have n2_ := n2.alloc (.cells #[.slice none 0 0] 24)
          have b2_ := b2.alloc (.cells #[.slice none 0 0] 24)
          have hne : g2 < wn7.heap.size := b2.lt
          have hg1 : w2.heap.size ≤ wn7.heap.size := hB.size
          have hB_ := hB.alloc hB.size (.cells #[.slice none 0 0] 24)
          clear hB n1 n2 b2
          generalize wn7.alloc (.cells #[.slice none 0 0] 24) = wn8 at *
          generalize wn7.heap.size = g1 at *
          have n1 := n1_
          clear n1_
          have n2 := n2_
          clear n2_
          have b2 := b2_
          clear b2_
          have b1 := b1_
          clear b1_
          have hB := hB_
          clear hB_
          refine hK.out _ _ hB (fun hHeld => ?_)
          clear hK K hHeld
          try simp only [List.getElem_toArray, List.getElem_cons_succ, List.getElem_cons_zero, Act.put, List.setIfInBounds_toArray, List.set_cons_zero, List.set_cons_succ]
          refine wpAnyH_ready (rs := [6]) (by kernel_rfl) (by simp) ?_
          refine AllReadyH.cons rfl (fun K hK => ?_) AllReadyH.nil
          have x0 : wn8.cell? ⟨g1, 0, none⟩ = some _ := b1.cell 0
          have y0 := b1.frozen 0
          have y6 := b1.lt
          go_simp
          have b1_ : Blk (wn8.setCell ⟨g1, 0, none⟩ (.slice D1 k1 f1)) g1 24 #[(.slice D1 k1 f1)] := b1.set_ 0 _
          have b2_ : Blk (wn8.setCell ⟨g1, 0, none⟩ (.slice D1 k1 f1)) g2 24 _ := b2.far (p := ⟨g1, 0, none⟩) (by simp; omega) (.slice D1 k1 f1)
          have n1_ := MH.set (g := g1) (i := 0) n1 b1 (by decide) (.slice D1 k1 f1)
          have n2_ := MH.set (g := g1) (i := 0) n2 b1 (by decide) (.slice D1 k1 f1)
          have hB_ : Below w2.heap.size w2 (wn8.setCell ⟨g1, 0, none⟩ (.slice D1 k1 f1)) := hB.setCell (p := ⟨g1, 0, none⟩) hg1 (.slice D1 k1 f1)
          clear hB b1 b2 n1 n2 x0 y0 y6
          generalize (wn8.setCell ⟨g1, 0, none⟩ (.slice D1 k1 f1)) = wn9 at *
          have n1 := n1_
          clear n1_
          have n2 := n2_
          clear n2_
          have b1 := b1_
          clear b1_
          have b2 := b2_
          clear b2_
          have hB := hB_
          clear hB_
          refine hK.out _ _ hB (fun hHeld => ?_)
          clear hK K hHeld
          try simp only [List.getElem_toArray, List.getElem_cons_succ, List.getElem_cons_zero, Act.put, List.setIfInBounds_toArray, List.set_cons_zero, List.set_cons_succ]
          refine wpAnyH_ready (rs := [7]) (by kernel_rfl) (by simp) ?_
          refine AllReadyH.cons rfl (fun K hK => ?_) AllReadyH.nil
          have x0 : wn9.cell? ⟨g2, 0, none⟩ = some _ := b2.cell 0
          have y0 := b2.frozen 0
          have y6 := b2.lt
          go_simp
          have b2_ : Blk (wn9.setCell ⟨g2, 0, none⟩ (.slice D2 k2 f2)) g2 24 #[(.slice D2 k2 f2)] := b2.set_ 0 _
          have b1_ : Blk (wn9.setCell ⟨g2, 0, none⟩ (.slice D2 k2 f2)) g1 24 _ := b1.far (p := ⟨g2, 0, none⟩) (by simp; omega) (.slice D2 k2 f2)
          have n1_ := MH.set (g := g2) (i := 0) n1 b2 (by decide) (.slice D2 k2 f2)
          have n2_ := MH.set (g := g2) (i := 0) n2 b2 (by decide) (.slice D2 k2 f2)
          have hB_ : Below w2.heap.size w2 (wn9.setCell ⟨g2, 0, none⟩ (.slice D2 k2 f2)) := hB.setCell (p := ⟨g2, 0, none⟩) hg2 (.slice D2 k2 f2)
          clear hB b1 b2 n1 n2 x0 y0 y6
          generalize (wn9.setCell ⟨g2, 0, none⟩ (.slice D2 k2 f2)) = wn10 at *
          have n1 := n1_
          clear n1_
          have n2 := n2_
          clear n2_
          have b1 := b1_
          clear b1_
          have b2 := b2_
          clear b2_
          have hB := hB_
          clear hB_
          refine hK.out _ _ hB (fun hHeld => ?_)
          clear hK K hHeld
          try simp only [List.getElem_toArray, List.getElem_cons_succ, List.getElem_cons_zero, Act.put, List.setIfInBounds_toArray, List.set_cons_zero, List.set_cons_succ]
          refine wpAnyH_done (by kernel_rfl) ?_ _
          refine NoPanic.normal ?_
          go_wp2_with fail
          go_meet
          exact ⟨g1, g2, rfl, rfl, hid ⟨xs1, xs2, D1, k1, f1, D2, k2, f2, b1, b2, n1, n2, q1, q2, hB⟩⟩
      · go_simp
        have b1_ := Blk.new wn1 24 #[.slice none 0 0]
        have n1_ := n1.alloc (.cells #[.slice none 0 0] 24)
        have hg1 : w2.heap.size ≤ wn1.heap.size := hB.size
        have hB_ := hB.alloc hB.size (.cells #[.slice none 0 0] 24)
        clear hB n1
        generalize wn1.alloc (.cells #[.slice none 0 0] 24) = wn11 at *
        generalize wn1.heap.size = g1 at *
        have n1 := n1_
        clear n1_
        have b1 := b1_
        clear b1_
        have hB := hB_
        clear hB_
        refine hK.out _ _ hB (fun hHeld => ?_)
        clear hK K hHeld
        try simp only [List.getElem_toArray, List.getElem_cons_succ, List.getElem_cons_zero, Act.put, List.setIfInBounds_toArray, List.set_cons_zero, List.set_cons_succ]
        refine wpAnyH_ready (rs := [3, 5]) (by kernel_rfl) (by simp) ?_
        refine AllReadyH.cons rfl (fun K hK => ?_) (AllReadyH.cons rfl (fun K hK => ?_) AllReadyH.nil)
        · go_simp
          refine (HO2.out _ hB).mono ?_
          rintro e wn12 ⟨xs2, D2, k2, f2, rfl, q2, n2, hb1⟩
          replace n1 := n1.below hb1
          replace b1 := b1.under hb1
          replace hB := hB.trans (hb1.mono hB.size)
          clear hb1
          refine hK.out _ _ hB (fun hHeld => ?_)
          clear hK K hHeld
          try simp only [List.getElem_toArray, List.getElem_cons_succ, List.getElem_cons_zero, Act.put, List.setIfInBounds_toArray, List.set_cons_zero, List.set_cons_succ]
          refine wpAnyH_ready (rs := [5]) (by kernel_rfl) (by simp) ?_
          refine AllReadyH.cons rfl (fun K hK => ?_) AllReadyH.nil
          go_simp
          have b2_ := Blk.new wn12 24 #[.slice none 0 0]
          have n1_ := n1.alloc (.cells #[.slice none 0 0] 24)
          have n2_ := n2.alloc (.cells #[.slice none 0 0] 24)
          have b1_ := b1.alloc (.cells #[.slice none 0 0] 24)
          have hne : g1 < wn12.heap.size := b1.lt
          have hg2 : w2.heap.size ≤ wn12.heap.size := hB.size
          have hB_ := hB.alloc hB.size (.cells #[.slice none 0 0] 24)
          clear hB n1 n2 b1
          generalize wn12.alloc (.cells #[.slice none 0 0] 24) = wn13 at *
          generalize wn12.heap.size = g2 at *
          have n1 := n1_
          clear n1_
          have n2 := n2_
          clear n2_
          have b1 := b1_
          clear b1_
          have b2 := b2_
          clear b2_
          have hB := hB_
          clear hB_
          refine hK.out _ _ hB (fun hHeld => ?_)
          clear hK K hHeld
          try simp only [List.getElem_toArray, List.getElem_cons_succ, List.getElem_cons_zero, Act.put, List.setIfInBounds_toArray, List.set_cons_zero, List.set_cons_succ]
          refine wpAnyH_ready (rs := [6]) (by kernel_rfl) (by simp) ?_
          refine AllReadyH.cons rfl (fun K hK => ?_) AllReadyH.nil
          have x0 : wn13.cell? ⟨g1, 0, none⟩ = some _ := b1.cell 0
          have y0 := b1.frozen 0
          have y6 := b1.lt
          go_simp
          have b1_ : Blk (wn13.setCell ⟨g1, 0, none⟩ (.slice D1 k1 f1)) g1 24 #[(.slice D1 k1 f1)] := b1.set_ 0 _
          have b2_ : Blk (wn13.setCell ⟨g1, 0, none⟩ (.slice D1 k1 f1)) g2 24 _ := b2.far (p := ⟨g1, 0, none⟩) (by simp; omega) (.slice D1 k1 f1)
          have n1_ := MH.set (g := g1) (i := 0) n1 b1 (by decide) (.slice D1 k1 f1)
          have n2_ := MH.set (g := g1) (i := 0) n2 b1 (by decide) (.slice D1 k1 f1)
          have hB_ : Below w2.heap.size w2 (wn13.setCell ⟨g1, 0, none⟩ (.slice D1 k1 f1)) := hB.setCell (p := ⟨g1, 0, none⟩) hg1 (.slice D1 k1 f1)
          clear hB b1 b2 n1 n2 x0 y0 y6
          generalize (wn13.setCell ⟨g1, 0, none⟩ (.slice D1 k1 f1)) = wn14 at *
          have n1 := n1_
          clear n1_
          have n2 := n2_
          clear n2_
          have b1 := b1_
          clear b1_
          have b2 := b2_
          clear b2_
          have hB := hB_
          clear hB_
          refine hK.out _ _ hB (fun hHeld => ?_)
          clear hK K hHeld
          try simp only [List.getElem_toArray, List.getElem_cons_succ, List.getElem_cons_zero, Act.put, List.setIfInBounds_toArray, List.set_cons_zero, List.set_cons_succ]
          refine wpAnyH_ready (rs := [7]) (by kernel_rfl) (by simp) ?_
          refine AllReadyH.cons rfl (fun K hK => ?_) AllReadyH.nil
          have x0 : wn14.cell? ⟨g2, 0, none⟩ = some _ := b2.cell 0
          have y0 := b2.frozen 0
          have y6 := b2.lt
          go_simp
          have b2_ : Blk (wn14.setCell ⟨g2, 0, none⟩ (.slice D2 k2 f2)) g2 24 #[(.slice D2 k2 f2)] := b2.set_ 0 _
          have b1_ : Blk (wn14.setCell ⟨g2, 0, none⟩ (.slice D2 k2 f2)) g1 24 _ := b1.far (p := ⟨g2, 0, none⟩) (by simp; omega) (.slice D2 k2 f2)
          have n1_ := MH.set (g := g2) (i := 0) n1 b2 (by decide) (.slice D2 k2 f2)
          have n2_ := MH.set (g := g2) (i := 0) n2 b2 (by decide) (.slice D2 k2 f2)
          have hB_ : Below w2.heap.size w2 (wn14.setCell ⟨g2, 0, none⟩ (.slice D2 k2 f2)) := hB.setCell (p := ⟨g2, 0, none⟩) hg2 (.slice D2 k2 f2)
          clear hB b1 b2 n1 n2 x0 y0 y6
          generalize (wn14.setCell ⟨g2, 0, none⟩ (.slice D2 k2 f2)) = wn15 at *
          have n1 := n1_
          clear n1_
          have n2 := n2_
          clear n2_
          have b1 := b1_
          clear b1_
          have b2 := b2_
          clear b2_
          have hB := hB_
          clear hB_
          refine hK.out _ _ hB (fun hHeld => ?_)
          clear hK K hHeld
          try simp only [List.getElem_toArray, List.getElem_cons_succ, List.getElem_cons_zero, Act.put, List.setIfInBounds_toArray, List.set_cons_zero, List.set_cons_succ]
          refine wpAnyH_done (by kernel_rfl) ?_ _
          refine NoPanic.normal ?_
          go_wp2_with fail
          go_meet
          exact ⟨g1, g2, rfl, rfl, hid ⟨xs1, xs2, D1, k1, f1, D2, k2, f2, b1, b2, n1, n2, q1, q2, hB⟩⟩
        · go_simp
          have b2_ := Blk.new wn11 24 #[.slice none 0 0]
          have n1_ := n1.alloc (.cells #[.slice none 0 0] 24)
          have b1_ := b1.alloc (.cells #[.slice none 0 0] 24)
          have hne : g1 < wn11.heap.size := b1.lt
          have hg2 : w2.heap.size ≤ wn11.heap.size := hB.size
          have hB_ := hB.alloc hB.size (.cells #[.slice none 0 0] 24)
          clear hB n1 b1
          generalize wn11.alloc (.cells #[.slice none 0 0] 24) = wn16 at *
          generalize wn11.heap.size = g2 at *
          have n1 := n1_
          clear n1_
          have b1 := b1_
          clear b1_
          have b2 := b2_
          clear b2_
          have hB := hB_
          clear hB_
          refine hK.out _ _ hB (fun hHeld => ?_)
          clear hK K hHeld
          try simp only [List.getElem_toArray, List.getElem_cons_succ, List.getElem_cons_zero, Act.put, List.setIfInBounds_toArray, List.set_cons_zero, List.set_cons_succ]
          refine wpAnyH_ready (rs := [3]) (by kernel_rfl) (by simp) ?_
          refine AllReadyH.cons rfl (fun K hK => ?_) AllReadyH.nil
          go_simp
          refine (HO2.out _ hB).mono ?_
          rintro e wn17 ⟨xs2, D2, k2, f2, rfl, q2, n2, hb1⟩
          replace n1 := n1.below hb1
          replace b1 := b1.under hb1
          replace b2 := b2.under hb1
          replace hB := hB.trans (hb1.mono hB.size)
          clear hb1
          refine hK.out _ _ hB (fun hHeld => ?_)
          clear hK K hHeld
          try simp only [List.getElem_toArray, List.getElem_cons_succ, List.getElem_cons_zero, Act.put, List.setIfInBounds_toArray, List.set_cons_zero, List.set_cons_succ]
          refine wpAnyH_ready (rs := [6]) (by kernel_rfl) (by simp) ?_
          refine AllReadyH.cons rfl (fun K hK => ?_) AllReadyH.nil
          have x0 : wn17.cell? ⟨g1, 0, none⟩ = some _ := b1.cell 0
          have y0 := b1.frozen 0
          have y6 := b1.lt
          go_simp
          have b1_ : Blk (wn17.setCell ⟨g1, 0, none⟩ (.slice D1 k1 f1)) g1 24 #[(.slice D1 k1 f1)] := b1.set_ 0 _
          have b2_ : Blk (wn17.setCell ⟨g1, 0, none⟩ (.slice D1 k1 f1)) g2 24 _ := b2.far (p := ⟨g1, 0, none⟩) (by simp; omega) (.slice D1 k1 f1)
          have n1_ := MH.set (g := g1) (i := 0) n1 b1 (by decide) (.slice D1 k1 f1)
          have n2_ := MH.set (g := g1) (i := 0) n2 b1 (by decide) (.slice D1 k1 f1)
          have hB_ : Below w2.heap.size w2 (wn17.setCell ⟨g1, 0, none⟩ (.slice D1 k1 f1)) := hB.setCell (p := ⟨g1, 0, none⟩) hg1 (.slice D1 k1 f1)
          clear hB b1 b2 n1 n2 x0 y0 y6
          generalize (wn17.setCell ⟨g1, 0, none⟩ (.slice D1 k1 f1)) = wn18 at *
          have n1 := n1_
          clear n1_
          have n2 := n2_
          clear n2_
          have b1 := b1_
          clear b1_
          have b2 := b2_
          clear b2_
          have hB := hB_
          clear hB_
          refine hK.out _ _ hB (fun hHeld => ?_)
          clear hK K hHeld
          try simp only [List.getElem_toArray, List.getElem_cons_succ, List.getElem_cons_zero, Act.put, List.setIfInBounds_toArray, List.set_cons_zero, List.set_cons_succ]
          refine wpAnyH_ready (rs := [7]) (by kernel_rfl) (by simp) ?_
          refine AllReadyH.cons rfl (fun K hK => ?_) AllReadyH.nil
          have x0 : wn18.cell? ⟨g2, 0, none⟩ = some _ := b2.cell 0
          have y0 := b2.frozen 0
          have y6 := b2.lt
          go_simp
          have b2_ : Blk (wn18.setCell ⟨g2, 0, none⟩ (.slice D2 k2 f2)) g2 24 #[(.slice D2 k2 f2)] := b2.set_ 0 _
          have b1_ : Blk (wn18.setCell ⟨g2, 0, none⟩ (.slice D2 k2 f2)) g1 24 _ := b1.far (p := ⟨g2, 0, none⟩) (by simp; omega) (.slice D2 k2 f2)
          have n1_ := MH.set (g := g2) (i := 0) n1 b2 (by decide) (.slice D2 k2 f2)
          have n2_ := MH.set (g := g2) (i := 0) n2 b2 (by decide) (.slice D2 k2 f2)
          have hB_ : Below w2.heap.size w2 (wn18.setCell ⟨g2, 0, none⟩ (.slice D2 k2 f2)) := hB.setCell (p := ⟨g2, 0, none⟩) hg2 (.slice D2 k2 f2)
          clear hB b1 b2 n1 n2 x0 y0 y6
          generalize (wn18.setCell ⟨g2, 0, none⟩ (.slice D2 k2 f2)) = wn19 at *
          have n1 := n1_
          clear n1_
          have n2 := n2_
          clear n2_
          have b1 := b1_
          clear b1_
          have b2 := b2_
          clear b2_
          have hB := hB_
          clear hB_
          refine hK.out _ _ hB (fun hHeld => ?_)
          clear hK K hHeld
          try simp only [List.getElem_toArray, List.getElem_cons_succ, List.getElem_cons_zero, Act.put, List.setIfInBounds_toArray, List.set_cons_zero, List.set_cons_succ]
          refine wpAnyH_done (by kernel_rfl) ?_ _
          refine NoPanic.normal ?_
          go_wp2_with fail
          go_meet
          exact ⟨g1, g2, rfl, rfl, hid ⟨xs1, xs2, D1, k1, f1, D2, k2, f2, b1, b2, n1, n2, q1, q2, hB⟩⟩
      · go_simp
        have b2_ := Blk.new wn1 24 #[.slice none 0 0]
        have n1_ := n1.alloc (.cells #[.slice none 0 0] 24)
        have hg2 : w2.heap.size ≤ wn1.heap.size := hB.size
        have hB_ := hB.alloc hB.size (.cells #[.slice none 0 0] 24)
        clear hB n1
        generalize wn1.alloc (.cells #[.slice none 0 0] 24) = wn20 at *
        generalize wn1.heap.size = g2 at *
        have n1 := n1_
        clear n1_
        have b2 := b2_
        clear b2_
        have hB := hB_
        clear hB_
        refine hK.out _ _ hB (fun hHeld => ?_)
        clear hK K hHeld
        try simp only [List.getElem_toArray, List.getElem_cons_succ, List.getElem_cons_zero, Act.put, List.setIfInBounds_toArray, List.set_cons_zero, List.set_cons_succ]
        refine wpAnyH_ready (rs := [3, 4]) (by kernel_rfl) (by simp) ?_
        refine AllReadyH.cons rfl (fun K hK => ?_) (AllReadyH.cons rfl (fun K hK => ?_) AllReadyH.nil)
        · go_simp
          refine (HO2.out _ hB).mono ?_
          rintro e wn21 ⟨xs2, D2, k2, f2, rfl, q2, n2, hb1⟩
          replace n1 := n1.below hb1
          replace b2 := b2.under hb1
          replace hB := hB.trans (hb1.mono hB.size)
          clear hb1
          refine hK.out _ _ hB (fun hHeld => ?_)
          clear hK K hHeld
          try simp only [List.getElem_toArray, List.getElem_cons_succ, List.getElem_cons_zero, Act.put, List.setIfInBounds_toArray, List.set_cons_zero, List.set_cons_succ]
          refine wpAnyH_ready (rs := [4]) (by kernel_rfl) (by simp) ?_
          refine AllReadyH.cons rfl (fun K hK => ?_) AllReadyH.nil
          go_simp
          have b1_ := Blk.new wn21 24 #[.slice none 0 0]
          have n1_ := n1.alloc (.cells #[.slice none 0 0] 24)
          have n2_ := n2.alloc (.cells #[.slice none 0 0] 24)
          have b2_ := b2.alloc (.cells #[.slice none 0 0] 24)
          have hne : g2 < wn21.heap.size := b2.lt
          have hg1 : w2.heap.size ≤ wn21.heap.size := hB.size
          have hB_ := hB.alloc hB.size (.cells #[.slice none 0 0] 24)
          clear hB n1 n2 b2
          generalize wn21.alloc (.cells #[.slice none 0 0] 24) = wn22 at *
          generalize wn21.heap.size = g1 at *
          have n1 := n1_
          clear n1_
          have n2 := n2_
          clear n2_
          have b2 := b2_
          clear b2_
          have b1 := b1_
          clear b1_
          have hB := hB_
          clear hB_
          refine hK.out _ _ hB (fun hHeld => ?_)
          clear hK K hHeld
          try simp only [List.getElem_toArray, List.getElem_cons_succ, List.getElem_cons_zero, Act.put, List.setIfInBounds_toArray, List.set_cons_zero, List.set_cons_succ]
          refine wpAnyH_ready (rs := [6]) (by kernel_rfl) (by simp) ?_
          refine AllReadyH.cons rfl (fun K hK => ?_) AllReadyH.nil
          have x0 : wn22.cell? ⟨g1, 0, none⟩ = some _ := b1.cell 0
          have y0 := b1.frozen 0
          have y6 := b1.lt
          go_simp
          have b1_ : Blk (wn22.setCell ⟨g1, 0, none⟩ (.slice D1 k1 f1)) g1 24 #[(.slice D1 k1 f1)] := b1.set_ 0 _
          have b2_ : Blk (wn22.setCell ⟨g1, 0, none⟩ (.slice D1 k1 f1)) g2 24 _ := b2.far (p := ⟨g1, 0, none⟩) (by simp; omega) (.slice D1 k1 f1)
          have n1_ := MH.set (g := g1) (i := 0) n1 b1 (by decide) (.slice D1 k1 f1)
          have n2_ := MH.set (g := g1) (i := 0) n2 b1 (by decide) (.slice D1 k1 f1)
          have hB_ : Below w2.heap.size w2 (wn22.setCell ⟨g1, 0, none⟩ (.slice D1 k1 f1)) := hB.setCell (p := ⟨g1, 0, none⟩) hg1 (.slice D1 k1 f1)
          clear hB b1 b2 n1 n2 x0 y0 y6
          generalize (wn22.setCell ⟨g1, 0, none⟩ (.slice D1 k1 f1)) = wn23 at *
          have n1 := n1_
          clear n1_
          have n2 := n2_
          clear n2_
          have b1 := b1_
          clear b1_
          have b2 := b2_
          clear b2_
          have hB := hB_
          clear hB_
          refine hK.out _ _ hB (fun hHeld => ?_)
          clear hK K hHeld
          try simp only [List.getElem_toArray, List.getElem_cons_succ, List.getElem_cons_zero, Act.put, List.setIfInBounds_toArray, List.set_cons_zero, List.set_cons_succ]
          refine wpAnyH_ready (rs := [7]) (by kernel_rfl) (by simp) ?_
          refine AllReadyH.cons rfl (fun K hK => ?_) AllReadyH.nil
          have x0 : wn23.cell? ⟨g2, 0, none⟩ = some _ := b2.cell 0
          have y0 := b2.frozen 0
          have y6 := b2.lt
          go_simp
          have b2_ : Blk (wn23.setCell ⟨g2, 0, none⟩ (.slice D2 k2 f2)) g2 24 #[(.slice D2 k2 f2)] := b2.set_ 0 _
          have b1_ : Blk (wn23.setCell ⟨g2, 0, none⟩ (.slice D2 k2 f2)) g1 24 _ := b1.far (p := ⟨g2, 0, none⟩) (by simp; omega) (.slice D2 k2 f2)
          have n1_ := MH.set (g := g2) (i := 0) n1 b2 (by decide) (.slice D2 k2 f2)
          have n2_ := MH.set (g := g2) (i := 0) n2 b2 (by decide) (.slice D2 k2 f2)
          have hB_ : Below w2.heap.size w2 (wn23.setCell ⟨g2, 0, none⟩ (.slice D2 k2 f2)) := hB.setCell (p := ⟨g2, 0, none⟩) hg2 (.slice D2 k2 f2)
          clear hB b1 b2 n1 n2 x0 y0 y6
          generalize (wn23.setCell ⟨g2, 0, none⟩ (.slice D2 k2 f2)) = wn24 at *
          have n1 := n1_
          clear n1_
          have n2 := n2_
          clear n2_
          have b1 := b1_
          clear b1_
          have b2 := b2_
          clear b2_
          have hB := hB_
          clear hB_
          refine hK.out _ _ hB (fun hHeld => ?_)
          clear hK K hHeld
          try simp only [List.getElem_toArray, List.getElem_cons_succ, List.getElem_cons_zero, Act.put, List.setIfInBounds_toArray, List.set_cons_zero, List.set_cons_succ]
          refine wpAnyH_done (by kernel_rfl) ?_ _
          refine NoPanic.normal ?_
          go_wp2_with fail
          go_meet
          exact ⟨g1, g2, rfl, rfl, hid ⟨xs1, xs2, D1, k1, f1, D2, k2, f2, b1, b2, n1, n2, q1, q2, hB⟩⟩
        · go_simp
          have b1_ := Blk.new wn20 24 #[.slice none 0 0]
          have n1_ := n1.alloc (.cells #[.slice none 0 0] 24)
          have b2_ := b2.alloc (.cells #[.slice none 0 0] 24)
          have hne : g2 < wn20.heap.size := b2.lt
          have hg1 : w2.heap.size ≤ wn20.heap.size := hB.size
          have hB_ := hB.alloc hB.size (.cells #[.slice none 0 0] 24)
          clear hB n1 b2
          generalize wn20.alloc (.cells #[.slice none 0 0] 24) = wn25 at *
          generalize wn20.heap.size = g1 at *
          have n1 := n1_
          clear n1_
          have b2 := b2_
          clear b2_
          have b1 := b1_
          clear b1_
          have hB := hB_
          clear hB_
          refine hK.out _ _ hB (fun hHeld => ?_)
          clear hK K hHeld
          try simp only [List.getElem_toArray, List.getElem_cons_succ, List.getElem_cons_zero, Act.put, List.setIfInBounds_toArray, List.set_cons_zero, List.set_cons_succ]
          refine wpAnyH_ready (rs := [3]) (by kernel_rfl) (by simp) ?_
          refine AllReadyH.cons rfl (fun K hK => ?_) AllReadyH.nil
          go_simp
          refine (HO2.out _ hB).mono ?_
          rintro e wn26 ⟨xs2, D2, k2, f2, rfl, q2, n2, hb1⟩
          replace n1 := n1.below hb1
          replace b1 := b1.under hb1
          replace b2 := b2.under hb1
          replace hB := hB.trans (hb1.mono hB.size)
          clear hb1
          refine hK.out _ _ hB (fun hHeld => ?_)
          clear hK K hHeld
          try simp only [List.getElem_toArray, List.getElem_cons_succ, List.getElem_cons_zero, Act.put, List.setIfInBounds_toArray, List.set_cons_zero, List.set_cons_succ]
          refine wpAnyH_ready (rs := [6]) (by kernel_rfl) (by simp) ?_
          refine AllReadyH.cons rfl (fun K hK => ?_) AllReadyH.nil
          have x0 : wn26.cell? ⟨g1, 0, none⟩ = some _ := b1.cell 0
          have y0 := b1.frozen 0
          have y6 := b1.lt
          go_simp
          have b1_ : Blk (wn26.setCell ⟨g1, 0, none⟩ (.slice D1 k1 f1)) g1 24 #[(.slice D1 k1 f1)] := b1.set_ 0 _
          have b2_ : Blk (wn26.setCell ⟨g1, 0, none⟩ (.slice D1 k1 f1)) g2 24 _ := b2.far (p := ⟨g1, 0, none⟩) (by simp; omega) (.slice D1 k1 f1)
          have n1_ := MH.set (g := g1) (i := 0) n1 b1 (by decide) (.slice D1 k1 f1)
          have n2_ := MH.set (g := g1) (i := 0) n2 b1 (by decide) (.slice D1 k1 f1)
          have hB_ : Below w2.heap.size w2 (wn26.setCell ⟨g1, 0, none⟩ (.slice D1 k1 f1)) := hB.setCell (p := ⟨g1, 0, none⟩) hg1 (.slice D1 k1 f1)
          clear hB b1 b2 n1 n2 x0 y0 y6
          generalize (wn26.setCell ⟨g1, 0, none⟩ (.slice D1 k1 f1)) = wn27 at *
          have n1 := n1_
          clear n1_
          have n2 := n2_
          clear n2_
          have b1 := b1_
          clear b1_
          have b2 := b2_
          clear b2_
          have hB := hB_
          clear hB_
          refine hK.out _ _ hB (fun hHeld => ?_)
          clear hK K hHeld
          try simp only [List.getElem_toArray, List.getElem_cons_succ, List.getElem_cons_zero, Act.put, List.setIfInBounds_toArray, List.set_cons_zero, List.set_cons_succ]
          refine wpAnyH_ready (rs := [7]) (by kernel_rfl) (by simp) ?_
          refine AllReadyH.cons rfl (fun K hK => ?_) AllReadyH.nil
          have x0 : wn27.cell? ⟨g2, 0, none⟩ = some _ := b2.cell 0
          have y0 := b2.frozen 0
          have y6 := b2.lt
          go_simp
          have b2_ : Blk (wn27.setCell ⟨g2, 0, none⟩ (.slice D2 k2 f2)) g2 24 #[(.slice D2 k2 f2)] := b2.set_ 0 _
          have b1_ : Blk (wn27.setCell ⟨g2, 0, none⟩ (.slice D2 k2 f2)) g1 24 _ := b1.far (p := ⟨g2, 0, none⟩) (by simp; omega) (.slice D2 k2 f2)
          have n1_ := MH.set (g := g2) (i := 0) n1 b2 (by decide) (.slice D2 k2 f2)
          have n2_ := MH.set (g := g2) (i := 0) n2 b2 (by decide) (.slice D2 k2 f2)
          have hB_ : Below w2.heap.size w2 (wn27.setCell ⟨g2, 0, none⟩ (.slice D2 k2 f2)) := hB.setCell (p := ⟨g2, 0, none⟩) hg2 (.slice D2 k2 f2)
          clear hB b1 b2 n1 n2 x0 y0 y6
          generalize (wn27.setCell ⟨g2, 0, none⟩ (.slice D2 k2 f2)) = wn28 at *
          have n1 := n1_
          clear n1_
          have n2 := n2_
          clear n2_
          have b1 := b1_
          clear b1_
          have b2 := b2_
          clear b2_
          have hB := hB_
          clear hB_
          refine hK.out _ _ hB (fun hHeld => ?_)
          clear hK K hHeld
          try simp only [List.getElem_toArray, List.getElem_cons_succ, List.getElem_cons_zero, Act.put, List.setIfInBounds_toArray, List.set_cons_zero, List.set_cons_succ]
          refine wpAnyH_done (by kernel_rfl) ?_ _
          refine NoPanic.normal ?_
          go_wp2_with fail
          go_meet
          exact ⟨g1, g2, rfl, rfl, hid ⟨xs1, xs2, D1, k1, f1, D2, k2, f2, b1, b2, n1, n2, q1, q2, hB⟩⟩
    · go_simp
      have b1_ := Blk.new wd 24 #[.slice none 0 0]
      have hg1 : w2.heap.size ≤ wd.heap.size := hB.size
      have hB_ := hB.alloc hB.size (.cells #[.slice none 0 0] 24)
      clear hB 
      generalize wd.alloc (.cells #[.slice none 0 0] 24) = wn29 at *
      generalize wd.heap.size = g1 at *
      have b1 := b1_
      clear b1_
      have hB := hB_
      clear hB_
      refine hK.out _ _ hB (fun hHeld => ?_)
      clear hK K hHeld
      try simp only [List.getElem_toArray, List.getElem_cons_succ, List.getElem_cons_zero, Act.put, List.setIfInBounds_toArray, List.set_cons_zero, List.set_cons_succ]
      refine wpAnyH_ready (rs := [1, 5]) (by kernel_rfl) (by simp) ?_
      refine AllReadyH.cons rfl (fun K hK => ?_) (AllReadyH.cons rfl (fun K hK => ?_) AllReadyH.nil)
      · go_simp
        refine (HO1.out _ hB).mono ?_
        rintro e wn30 ⟨xs1, D1, k1, f1, rfl, q1, n1, hb1⟩
        replace b1 := b1.under hb1
        replace hB := hB.trans (hb1.mono hB.size)
        clear hb1
        refine hK.out _ _ hB (fun hHeld => ?_)
        clear hK K hHeld
        try simp only [List.getElem_toArray, List.getElem_cons_succ, List.getElem_cons_zero, Act.put, List.setIfInBounds_toArray, List.set_cons_zero, List.set_cons_succ]
        refine wpAnyH_ready (rs := [3, 5]) (by kernel_rfl) (by simp) ?_
        refine AllReadyH.cons rfl (fun K hK => ?_) (AllReadyH.cons rfl (fun K hK => ?_) AllReadyH.nil)
        · go_simp
          refine (HO2.out _ hB).mono ?_
          rintro e wn31 ⟨xs2, D2, k2, f2, rfl, q2, n2, hb1⟩
          replace n1 := n1.below hb1
          replace b1 := b1.under hb1
          replace hB := hB.trans (hb1.mono hB.size)
          clear hb1
          refine hK.out _ _ hB (fun hHeld => ?_)
          clear hK K hHeld
          try simp only [List.getElem_toArray, List.getElem_cons_succ, List.getElem_cons_zero, Act.put, List.setIfInBounds_toArray, List.set_cons_zero, List.set_cons_succ]
          refine wpAnyH_ready (rs := [5]) (by kernel_rfl) (by simp) ?_
          refine AllReadyH.cons rfl (fun K hK => ?_) AllReadyH.nil
          go_simp
          have b2_ := Blk.new wn31 24 #[.slice none 0 0]
          have n1_ := n1.alloc (.cells #[.slice none 0 0] 24)
          have n2_ := n2.alloc (.cells #[.slice none 0 0] 24)
          have b1_ := b1.alloc (.cells #[.slice none 0 0] 24)
          have hne : g1 < wn31.heap.size := b1.lt
          have hg2 : w2.heap.size ≤ wn31.heap.size := hB.size
          have hB_ := hB.alloc hB.size (.cells #[.slice none 0 0] 24)
          clear hB n1 n2 b1
          generalize wn31.alloc (.cells #[.slice none 0 0] 24) = wn32 at *
          generalize wn31.heap.size = g2 at *
          have n1 := n1_
          clear n1_
          have n2 := n2_
          clear n2_
          have b1 := b1_
          clear b1_
          have b2 := b2_
          clear b2_
          have hB := hB_
          clear hB_
          refine hK.out _ _ hB (fun hHeld => ?_)
          clear hK K hHeld
          try simp only [List.getElem_toArray, List.getElem_cons_succ, List.getElem_cons_zero, Act.put, List.setIfInBounds_toArray, List.set_cons_zero, List.set_cons_succ]
          refine wpAnyH_ready (rs := [6]) (by kernel_rfl) (by simp) ?_
          refine AllReadyH.cons rfl (fun K hK => ?_) AllReadyH.nil
          have x0 : wn32.cell? ⟨g1, 0, none⟩ = some _ := b1.cell 0
          have y0 := b1.frozen 0
          have y6 := b1.lt
          go_simp
          have b1_ : Blk (wn32.setCell ⟨g1, 0, none⟩ (.slice D1 k1 f1)) g1 24 #[(.slice D1 k1 f1)] := b1.set_ 0 _
          have b2_ : Blk (wn32.setCell ⟨g1, 0, none⟩ (.slice D1 k1 f1)) g2 24 _ := b2.far (p := ⟨g1, 0, none⟩) (by simp; omega) (.slice D1 k1 f1)
          have n1_ := MH.set (g := g1) (i := 0) n1 b1 (by decide) (.slice D1 k1 f1)
          have n2_ := MH.set (g := g1) (i := 0) n2 b1 (by decide) (.slice D1 k1 f1)
          have hB_ : Below w2.heap.size w2 (wn32.setCell ⟨g1, 0, none⟩ (.slice D1 k1 f1)) := hB.setCell (p := ⟨g1, 0, none⟩) hg1 (.slice D1 k1 f1)
          clear hB b1 b2 n1 n2 x0 y0 y6
          generalize (wn32.setCell ⟨g1, 0, none⟩ (.slice D1 k1 f1)) = wn33 at *
          have n1 := n1_
          clear n1_
          have n2 := n2_
          clear n2_
          have b1 := b1_
          clear b1_
          have b2 := b2_
          clear b2_
          have hB := hB_
          clear hB_
          refine hK.out _ _ hB (fun hHeld => ?_)
          clear hK K hHeld
          try simp only [List.getElem_toArray, List.getElem_cons_succ, List.getElem_cons_zero, Act.put, List.setIfInBounds_toArray, List.set_cons_zero, List.set_cons_succ]
          refine wpAnyH_ready (rs := [7]) (by kernel_rfl) (by simp) ?_
          refine AllReadyH.cons rfl (fun K hK => ?_) AllReadyH.nil
          have x0 : wn33.cell? ⟨g2, 0, none⟩ = some _ := b2.cell 0
          have y0 := b2.frozen 0
          have y6 := b2.lt
          go_simp
          have b2_ : Blk (wn33.setCell ⟨g2, 0, none⟩ (.slice D2 k2 f2)) g2 24 #[(.slice D2 k2 f2)] := b2.set_ 0 _
          have b1_ : Blk (wn33.setCell ⟨g2, 0, none⟩ (.slice D2 k2 f2)) g1 24 _ := b1.far (p := ⟨g2, 0, none⟩) (by simp; omega) (.slice D2 k2 f2)
          have n1_ := MH.set (g := g2) (i := 0) n1 b2 (by decide) (.slice D2 k2 f2)
          have n2_ := MH.set (g := g2) (i := 0) n2 b2 (by decide) (.slice D2 k2 f2)
          have hB_ : Below w2.heap.size w2 (wn33.setCell ⟨g2, 0, none⟩ (.slice D2 k2 f2)) := hB.setCell (p := ⟨g2, 0, none⟩) hg2 (.slice D2 k2 f2)
          clear hB b1 b2 n1 n2 x0 y0 y6
          generalize (wn33.setCell ⟨g2, 0, none⟩ (.slice D2 k2 f2)) = wn34 at *
          have n1 := n1_
          clear n1_
          have n2 := n2_
          clear n2_
          have b1 := b1_
          clear b1_
          have b2 := b2_
          clear b2_
          have hB := hB_
          clear hB_
          refine hK.out _ _ hB (fun hHeld => ?_)
          clear hK K hHeld
          try simp only [List.getElem_toArray, List.getElem_cons_succ, List.getElem_cons_zero, Act.put, List.setIfInBounds_toArray, List.set_cons_zero, List.set_cons_succ]
          refine wpAnyH_done (by kernel_rfl) ?_ _
          refine NoPanic.normal ?_
          go_wp2_with fail
          go_meet
          exact ⟨g1, g2, rfl, rfl, hid ⟨xs1, xs2, D1, k1, f1, D2, k2, f2, b1, b2, n1, n2, q1, q2, hB⟩⟩
        · go_simp
          have b2_ := Blk.new wn30 24 #[.slice none 0 0]
          have n1_ := n1.alloc (.cells #[.slice none 0 0] 24)
          have b1_ := b1.alloc (.cells #[.slice none 0 0] 24)
          have hne : g1 < wn30.heap.size := b1.lt
          have hg2 : w2.heap.size ≤ wn30.heap.size := hB.size
          have hB_ := hB.alloc hB.size (.cells #[.slice none 0 0] 24)
          clear hB n1 b1
          generalize wn30.alloc (.cells #[.slice none 0 0] 24) = wn35 at *
          generalize wn30.heap.size = g2 at *
          have n1 := n1_
          clear n1_
          have b1 := b1_
          clear b1_
          have b2 := b2_
          clear b2_
          have hB := hB_
          clear hB_
          refine hK.out _ _ hB (fun hHeld => ?_)
          clear hK K hHeld
          try simp only [List.getElem_toArray, List.getElem_cons_succ, List.getElem_cons_zero, Act.put, List.setIfInBounds_toArray, List.set_cons_zero, List.set_cons_succ]
          refine wpAnyH_ready (rs := [3]) (by kernel_rfl) (by simp) ?_
          refine AllReadyH.cons rfl (fun K hK => ?_) AllReadyH.nil
          go_simp
          refine (HO2.out _ hB).mono ?_
          rintro e wn36 ⟨xs2, D2, k2, f2, rfl, q2, n2, hb1⟩
          replace n1 := n1.below hb1
          replace b1 := b1.under hb1
          replace b2 := b2.under hb1
          replace hB := hB.trans (hb1.mono hB.size)
          clear hb1
          refine hK.out _ _ hB (fun hHeld => ?_)
          clear hK K hHeld
          try simp only [List.getElem_toArray, List.getElem_cons_succ, List.getElem_cons_zero, Act.put, List.setIfInBounds_toArray, List.set_cons_zero, List.set_cons_succ]
          refine wpAnyH_ready (rs := [6]) (by kernel_rfl) (by simp) ?_
          refine AllReadyH.cons rfl (fun K hK => ?_) AllReadyH.nil
          have x0 : wn36.cell? ⟨g1, 0, none⟩ = some _ := b1.cell 0
          have y0 := b1.frozen 0
          have y6 := b1.lt
          go_simp
          have b1_ : Blk (wn36.setCell ⟨g1, 0, none⟩ (.slice D1 k1 f1)) g1 24 #[(.slice D1 k1 f1)] := b1.set_ 0 _
          have b2_ : Blk (wn36.setCell ⟨g1, 0, none⟩ (.slice D1 k1 f1)) g2 24 _ := b2.far (p := ⟨g1, 0, none⟩) (by simp; omega) (.slice D1 k1 f1)
          have n1_ := MH.set (g := g1) (i := 0) n1 b1 (by decide) (.slice D1 k1 f1)
          have n2_ := MH.set (g := g1) (i := 0) n2 b1 (by decide) (.slice D1 k1 f1)
          have hB_ : Below w2.heap.size w2 (wn36.setCell ⟨g1, 0, none⟩ (.slice D1 k1 f1)) := hB.setCell (p := ⟨g1, 0, none⟩) hg1 (.slice D1 k1 f1)
          clear hB b1 b2 n1 n2 x0 y0 y6
          generalize (wn36.setCell ⟨g1, 0, none⟩ (.slice D1 k1 f1)) = wn37 at *
          have n1 := n1_
          clear n1_
          have n2 := n2_
          clear n2_
          have b1 := b1_
          clear b1_
          have b2 := b2_
          clear b2_
          have hB := hB_
          clear hB_
          refine hK.out _ _ hB (fun hHeld => ?_)
          clear hK K hHeld
          try simp only [List.getElem_toArray, List.getElem_cons_succ, List.getElem_cons_zero, Act.put, List.setIfInBounds_toArray, List.set_cons_zero, List.set_cons_succ]
          refine wpAnyH_ready (rs := [7]) (by kernel_rfl) (by simp) ?_
          refine AllReadyH.cons rfl (fun K hK => ?_) AllReadyH.nil
          have x0 : wn37.cell? ⟨g2, 0, none⟩ = some _ := b2.cell 0
          have y0 := b2.frozen 0
          have y6 := b2.lt
          go_simp
          have b2_ : Blk (wn37.setCell ⟨g2, 0, none⟩ (.slice D2 k2 f2)) g2 24 #[(.slice D2 k2 f2)] := b2.set_ 0 _
          have b1_ : Blk (wn37.setCell ⟨g2, 0, none⟩ (.slice D2 k2 f2)) g1 24 _ := b1.far (p := ⟨g2, 0, none⟩) (by simp; omega) (.slice D2 k2 f2)
          have n1_ := MH.set (g := g2) (i := 0) n1 b2 (by decide) (.slice D2 k2 f2)
          have n2_ := MH.set (g := g2) (i := 0) n2 b2 (by decide) (.slice D2 k2 f2)
          have hB_ : Below w2.heap.size w2 (wn37.setCell ⟨g2, 0, none⟩ (.slice D2 k2 f2)) := hB.setCell (p := ⟨g2, 0, none⟩) hg2 (.slice D2 k2 f2)
          clear hB b1 b2 n1 n2 x0 y0 y6
          generalize (wn37.setCell ⟨g2, 0, none⟩ (.slice D2 k2 f2)) = wn38 at *
          have n1 := n1_
          clear n1_
          have n2 := n2_
          clear n2_
          have b1 := b1_
          clear b1_
          have b2 := b2_
          clear b2_
          have hB := hB_
          clear hB_
          refine hK.out _ _ hB (fun hHeld => ?_)
          clear hK K hHeld
          try simp only [List.getElem_toArray, List.getElem_cons_succ, List.getElem_cons_zero, Act.put, List.setIfInBounds_toArray, List.set_cons_zero, List.set_cons_succ]
          refine wpAnyH_done (by kernel_rfl) ?_ _
          refine NoPanic.normal ?_
          go_wp2_with fail
          go_meet
          exact ⟨g1, g2, rfl, rfl, hid ⟨xs1, xs2, D1, k1, f1, D2, k2, f2, b1, b2, n1, n2, q1, q2, hB⟩⟩
      · go_simp
        have b2_ := Blk.new wn29 24 #[.slice none 0 0]
        have b1_ := b1.alloc (.cells #[.slice none 0 0] 24)
        have hne : g1 < wn29.heap.size := b1.lt
        have hg2 : w2.heap.size ≤ wn29.heap.size := hB.size
        have hB_ := hB.alloc hB.size (.cells #[.slice none 0 0] 24)
        clear hB b1
        generalize wn29.alloc (.cells #[.slice none 0 0] 24) = wn39 at *
        generalize wn29.heap.size = g2 at *
        have b1 := b1_
        clear b1_
        have b2 := b2_
        clear b2_
        have hB := hB_
        clear hB_
        refine hK.out _ _ hB (fun hHeld => ?_)
        clear hK K hHeld
        try simp only [List.getElem_toArray, List.getElem_cons_succ, List.getElem_cons_zero, Act.put, List.setIfInBounds_toArray, List.set_cons_zero, List.set_cons_succ]
        refine wpAnyH_ready (rs := [1]) (by kernel_rfl) (by simp) ?_
        refine AllReadyH.cons rfl (fun K hK => ?_) AllReadyH.nil
        go_simp
        refine (HO1.out _ hB).mono ?_
        rintro e wn40 ⟨xs1, D1, k1, f1, rfl, q1, n1, hb1⟩
        replace b1 := b1.under hb1
        replace b2 := b2.under hb1
        replace hB := hB.trans (hb1.mono hB.size)
        clear hb1
        refine hK.out _ _ hB (fun hHeld => ?_)
        clear hK K hHeld
        try simp only [List.getElem_toArray, List.getElem_cons_succ, List.getElem_cons_zero, Act.put, List.setIfInBounds_toArray, List.set_cons_zero, List.set_cons_succ]
        refine wpAnyH_ready (rs := [3]) (by kernel_rfl) (by simp) ?_
        refine AllReadyH.cons rfl (fun K hK => ?_) AllReadyH.nil
        go_simp
        refine (HO2.out _ hB).mono ?_
        rintro e wn41 ⟨xs2, D2, k2, f2, rfl, q2, n2, hb1⟩
        replace n1 := n1.below hb1
        replace b1 := b1.under hb1
        replace b2 := b2.under hb1
        replace hB := hB.trans (hb1.mono hB.size)
        clear hb1
        refine hK.out _ _ hB (fun hHeld => ?_)
        clear hK K hHeld
        try simp only [List.getElem_toArray, List.getElem_cons_succ, List.getElem_cons_zero, Act.put, List.setIfInBounds_toArray, List.set_cons_zero, List.set_cons_succ]
        refine wpAnyH_ready (rs := [6]) (by kernel_rfl) (by simp) ?_
        refine AllReadyH.cons rfl (fun K hK => ?_) AllReadyH.nil
        have x0 : wn41.cell? ⟨g1, 0, none⟩ = some _ := b1.cell 0
        have y0 := b1.frozen 0
        have y6 := b1.lt
        go_simp
        have b1_ : Blk (wn41.setCell ⟨g1, 0, none⟩ (.slice D1 k1 f1)) g1 24 #[(.slice D1 k1 f1)] := b1.set_ 0 _
        have b2_ : Blk (wn41.setCell ⟨g1, 0, none⟩ (.slice D1 k1 f1)) g2 24 _ := b2.far (p := ⟨g1, 0, none⟩) (by simp; omega) (.slice D1 k1 f1)
        have n1_ := MH.set (g := g1) (i := 0) n1 b1 (by decide) (.slice D1 k1 f1)
        have n2_ := MH.set (g := g1) (i := 0) n2 b1 (by decide) (.slice D1 k1 f1)
        have hB_ : Below w2.heap.size w2 (wn41.setCell ⟨g1, 0, none⟩ (.slice D1 k1 f1)) := hB.setCell (p := ⟨g1, 0, none⟩) hg1 (.slice D1 k1 f1)
        clear hB b1 b2 n1 n2 x0 y0 y6
        generalize (wn41.setCell ⟨g1, 0, none⟩ (.slice D1 k1 f1)) = wn42 at *
        have n1 := n1_
        clear n1_
        have n2 := n2_
        clear n2_
        have b1 := b1_
        clear b1_
        have b2 := b2_
        clear b2_
        have hB := hB_
        clear hB_
        refine hK.out _ _ hB (fun hHeld => ?_)
        clear hK K hHeld
        try simp only [List.getElem_toArray, List.getElem_cons_succ, List.getElem_cons_zero, Act.put, List.setIfInBounds_toArray, List.set_cons_zero, List.set_cons_succ]
        refine wpAnyH_ready (rs := [7]) (by kernel_rfl) (by simp) ?_
        refine AllReadyH.cons rfl (fun K hK => ?_) AllReadyH.nil
        have x0 : wn42.cell? ⟨g2, 0, none⟩ = some _ := b2.cell 0
        have y0 := b2.frozen 0
        have y6 := b2.lt
        go_simp
        have b2_ : Blk (wn42.setCell ⟨g2, 0, none⟩ (.slice D2 k2 f2)) g2 24 #[(.slice D2 k2 f2)] := b2.set_ 0 _
        have b1_ : Blk (wn42.setCell ⟨g2, 0, none⟩ (.slice D2 k2 f2)) g1 24 _ := b1.far (p := ⟨g2, 0, none⟩) (by simp; omega) (.slice D2 k2 f2)
        have n1_ := MH.set (g := g2) (i := 0) n1 b2 (by decide) (.slice D2 k2 f2)
        have n2_ := MH.set (g := g2) (i := 0) n2 b2 (by decide) (.slice D2 k2 f2)
        have hB_ : Below w2.heap.size w2 (wn42.setCell ⟨g2, 0, none⟩ (.slice D2 k2 f2)) := hB.setCell (p := ⟨g2, 0, none⟩) hg2 (.slice D2 k2 f2)
        clear hB b1 b2 n1 n2 x0 y0 y6
        generalize (wn42.setCell ⟨g2, 0, none⟩ (.slice D2 k2 f2)) = wn43 at *
        have n1 := n1_
        clear n1_
        have n2 := n2_
        clear n2_
        have b1 := b1_
        clear b1_
        have b2 := b2_
        clear b2_
        have hB := hB_
        clear hB_
        refine hK.out _ _ hB (fun hHeld => ?_)
        clear hK K hHeld
        try simp only [List.getElem_toArray, List.getElem_cons_succ, List.getElem_cons_zero, Act.put, List.setIfInBounds_toArray, List.set_cons_zero, List.set_cons_succ]
        refine wpAnyH_done (by kernel_rfl) ?_ _
        refine NoPanic.normal ?_
        go_wp2_with fail
        go_meet
        exact ⟨g1, g2, rfl, rfl, hid ⟨xs1, xs2, D1, k1, f1, D2, k2, f2, b1, b2, n1, n2, q1, q2, hB⟩⟩
    · go_simp
      have b2_ := Blk.new wd 24 #[.slice none 0 0]
      have hg2 : w2.heap.size ≤ wd.heap.size := hB.size
      have hB_ := hB.alloc hB.size (.cells #[.slice none 0 0] 24)
      clear hB 
      generalize wd.alloc (.cells #[.slice none 0 0] 24) = wn44 at *
      generalize wd.heap.size = g2 at *
      have b2 := b2_
      clear b2_
      have hB := hB_
      clear hB_
      refine hK.out _ _ hB (fun hHeld => ?_)
      clear hK K hHeld
      try simp only [List.getElem_toArray, List.getElem_cons_succ, List.getElem_cons_zero, Act.put, List.setIfInBounds_toArray, List.set_cons_zero, List.set_cons_succ]
      refine wpAnyH_ready (rs := [1, 4]) (by kernel_rfl) (by simp) ?_
      refine AllReadyH.cons rfl (fun K hK => ?_) (AllReadyH.cons rfl (fun K hK => ?_) AllReadyH.nil)
      · go_simp
        refine (HO1.out _ hB).mono ?_
        rintro e wn45 ⟨xs1, D1, k1, f1, rfl, q1, n1, hb1⟩
        replace b2 := b2.under hb1
        replace hB := hB.trans (hb1.mono hB.size)
        clear hb1
        refine hK.out _ _ hB (fun hHeld => ?_)
        clear hK K hHeld
        try simp only [List.getElem_toArray, List.getElem_cons_succ, List.getElem_cons_zero, Act.put, List.setIfInBounds_toArray, List.set_cons_zero, List.set_cons_succ]
        refine wpAnyH_ready (rs := [3, 4]) (by kernel_rfl) (by simp) ?_
        refine AllReadyH.cons rfl (fun K hK => ?_) (AllReadyH.cons rfl (fun K hK => ?_) AllReadyH.nil)
        · go_simp
          refine (HO2.out _ hB).mono ?_
          rintro e wn46 ⟨xs2, D2, k2, f2, rfl, q2, n2, hb1⟩
          replace n1 := n1.below hb1
          replace b2 := b2.under hb1
          replace hB := hB.trans (hb1.mono hB.size)
          clear hb1
          refine hK.out _ _ hB (fun hHeld => ?_)
          clear hK K hHeld
          try simp only [List.getElem_toArray, List.getElem_cons_succ, List.getElem_cons_zero, Act.put, List.setIfInBounds_toArray, List.set_cons_zero, List.set_cons_succ]
          refine wpAnyH_ready (rs := [4]) (by kernel_rfl) (by simp) ?_
          refine AllReadyH.cons rfl (fun K hK => ?_) AllReadyH.nil
          go_simp
          have b1_ := Blk.new wn46 24 #[.slice none 0 0]
          have n1_ := n1.alloc (.cells #[.slice none 0 0] 24)
          have n2_ := n2.alloc (.cells #[.slice none 0 0] 24)
          have b2_ := b2.alloc (.cells #[.slice none 0 0] 24)
          have hne : g2 < wn46.heap.size := b2.lt
          have hg1 : w2.heap.size ≤ wn46.heap.size := hB.size
          have hB_ := hB.alloc hB.size (.cells #[.slice none 0 0] 24)
          clear hB n1 n2 b2
          generalize wn46.alloc (.cells #[.slice none 0 0] 24) = wn47 at *
          generalize wn46.heap.size = g1 at *
          have n1 := n1_
          clear n1_
          have n2 := n2_
          clear n2_
          have b2 := b2_
          clear b2_
          have b1 := b1_
          clear b1_
          have hB := hB_
          clear hB_
          refine hK.out _ _ hB (fun hHeld => ?_)
          clear hK K hHeld
          try simp only [List.getElem_toArray, List.getElem_cons_succ, List.getElem_cons_zero, Act.put, List.setIfInBounds_toArray, List.set_cons_zero, List.set_cons_succ]
          refine wpAnyH_ready (rs := [6]) (by kernel_rfl) (by simp) ?_
          refine AllReadyH.cons rfl (fun K hK => ?_) AllReadyH.nil
          have x0 : wn47.cell? ⟨g1, 0, none⟩ = some _ := b1.cell 0
          have y0 := b1.frozen 0
          have y6 := b1.lt
          go_simp
          have b1_ : Blk (wn47.setCell ⟨g1, 0, none⟩ (.slice D1 k1 f1)) g1 24 #[(.slice D1 k1 f1)] := b1.set_ 0 _
          have b2_ : Blk (wn47.setCell ⟨g1, 0, none⟩ (.slice D1 k1 f1)) g2 24 _ := b2.far (p := ⟨g1, 0, none⟩) (by simp; omega) (.slice D1 k1 f1)
          have n1_ := MH.set (g := g1) (i := 0) n1 b1 (by decide) (.slice D1 k1 f1)
          have n2_ := MH.set (g := g1) (i := 0) n2 b1 (by decide) (.slice D1 k1 f1)
          have hB_ : Below w2.heap.size w2 (wn47.setCell ⟨g1, 0, none⟩ (.slice D1 k1 f1)) := hB.setCell (p := ⟨g1, 0, none⟩) hg1 (.slice D1 k1 f1)
          clear hB b1 b2 n1 n2 x0 y0 y6
          generalize (wn47.setCell ⟨g1, 0, none⟩ (.slice D1 k1 f1)) = wn48 at *
          have n1 := n1_
          clear n1_
          have n2 := n2_
          clear n2_
          have b1 := b1_
          clear b1_
          have b2 := b2_
          clear b2_
          have hB := hB_
          clear hB_
          refine hK.out _ _ hB (fun hHeld => ?_)
          clear hK K hHeld
          try simp only [List.getElem_toArray, List.getElem_cons_succ, List.getElem_cons_zero, Act.put, List.setIfInBounds_toArray, List.set_cons_zero, List.set_cons_succ]
          refine wpAnyH_ready (rs := [7]) (by kernel_rfl) (by simp) ?_
          refine AllReadyH.cons rfl (fun K hK => ?_) AllReadyH.nil
          have x0 : wn48.cell? ⟨g2, 0, none⟩ = some _ := b2.cell 0
          have y0 := b2.frozen 0
          have y6 := b2.lt
          go_simp
          have b2_ : Blk (wn48.setCell ⟨g2, 0, none⟩ (.slice D2 k2 f2)) g2 24 #[(.slice D2 k2 f2)] := b2.set_ 0 _
          have b1_ : Blk (wn48.setCell ⟨g2, 0, none⟩ (.slice D2 k2 f2)) g1 24 _ := b1.far (p := ⟨g2, 0, none⟩) (by simp; omega) (.slice D2 k2 f2)
          have n1_ := MH.set (g := g2) (i := 0) n1 b2 (by decide) (.slice D2 k2 f2)
          have n2_ := MH.set (g := g2) (i := 0) n2 b2 (by decide) (.slice D2 k2 f2)
          have hB_ : Below w2.heap.size w2 (wn48.setCell ⟨g2, 0, none⟩ (.slice D2 k2 f2)) := hB.setCell (p := ⟨g2, 0, none⟩) hg2 (.slice D2 k2 f2)
          clear hB b1 b2 n1 n2 x0 y0 y6
          generalize (wn48.setCell ⟨g2, 0, none⟩ (.slice D2 k2 f2)) = wn49 at *
          have n1 := n1_
          clear n1_
          have n2 := n2_
          clear n2_
          have b1 := b1_
          clear b1_
          have b2 := b2_
          clear b2_
          have hB := hB_
          clear hB_
          refine hK.out _ _ hB (fun hHeld => ?_)
          clear hK K hHeld
          try simp only [List.getElem_toArray, List.getElem_cons_succ, List.getElem_cons_zero, Act.put, List.setIfInBounds_toArray, List.set_cons_zero, List.set_cons_succ]
          refine wpAnyH_done (by kernel_rfl) ?_ _
          refine NoPanic.normal ?_
          go_wp2_with fail
          go_meet
          exact ⟨g1, g2, rfl, rfl, hid ⟨xs1, xs2, D1, k1, f1, D2, k2, f2, b1, b2, n1, n2, q1, q2, hB⟩⟩
        · go_simp
          have b1_ := Blk.new wn45 24 #[.slice none 0 0]
          have n1_ := n1.alloc (.cells #[.slice none 0 0] 24)
          have b2_ := b2.alloc (.cells #[.slice none 0 0] 24)
          have hne : g2 < wn45.heap.size := b2.lt
          have hg1 : w2.heap.size ≤ wn45.heap.size := hB.size
          have hB_ := hB.alloc hB.size (.cells #[.slice none 0 0] 24)
          clear hB n1 b2
          generalize wn45.alloc (.cells #[.slice none 0 0] 24) = wn50 at *
          generalize wn45.heap.size = g1 at *
          have n1 := n1_
          clear n1_
          have b2 := b2_
          clear b2_
          have b1 := b1_
          clear b1_
          have hB := hB_
          clear hB_
          refine hK.out _ _ hB (fun hHeld => ?_)
          clear hK K hHeld
          try simp only [List.getElem_toArray, List.getElem_cons_succ, List.getElem_cons_zero, Act.put, List.setIfInBounds_toArray, List.set_cons_zero, List.set_cons_succ]
          refine wpAnyH_ready (rs := [3]) (by kernel_rfl) (by simp) ?_
          refine AllReadyH.cons rfl (fun K hK => ?_) AllReadyH.nil
          go_simp
          refine (HO2.out _ hB).mono ?_
          rintro e wn51 ⟨xs2, D2, k2, f2, rfl, q2, n2, hb1⟩
          replace n1 := n1.below hb1
          replace b1 := b1.under hb1
          replace b2 := b2.under hb1
          replace hB := hB.trans (hb1.mono hB.size)
          clear hb1
          refine hK.out _ _ hB (fun hHeld => ?_)
          clear hK K hHeld
          try simp only [List.getElem_toArray, List.getElem_cons_succ, List.getElem_cons_zero, Act.put, List.setIfInBounds_toArray, List.set_cons_zero, List.set_cons_succ]
          refine wpAnyH_ready (rs := [6]) (by kernel_rfl) (by simp) ?_
          refine AllReadyH.cons rfl (fun K hK => ?_) AllReadyH.nil
          have x0 : wn51.cell? ⟨g1, 0, none⟩ = some _ := b1.cell 0
          have y0 := b1.frozen 0
          have y6 := b1.lt
          go_simp
          have b1_ : Blk (wn51.setCell ⟨g1, 0, none⟩ (.slice D1 k1 f1)) g1 24 #[(.slice D1 k1 f1)] := b1.set_ 0 _
          have b2_ : Blk (wn51.setCell ⟨g1, 0, none⟩ (.slice D1 k1 f1)) g2 24 _ := b2.far (p := ⟨g1, 0, none⟩) (by simp; omega) (.slice D1 k1 f1)
          have n1_ := MH.set (g := g1) (i := 0) n1 b1 (by decide) (.slice D1 k1 f1)
          have n2_ := MH.set (g := g1) (i := 0) n2 b1 (by decide) (.slice D1 k1 f1)
          have hB_ : Below w2.heap.size w2 (wn51.setCell ⟨g1, 0, none⟩ (.slice D1 k1 f1)) := hB.setCell (p := ⟨g1, 0, none⟩) hg1 (.slice D1 k1 f1)
          clear hB b1 b2 n1 n2 x0 y0 y6
          generalize (wn51.setCell ⟨g1, 0, none⟩ (.slice D1 k1 f1)) = wn52 at *
          have n1 := n1_
          clear n1_
          have n2 := n2_
          clear n2_
          have b1 := b1_
          clear b1_
          have b2 := b2_
          clear b2_
          have hB := hB_
          clear hB_
          refine hK.out _ _ hB (fun hHeld => ?_)
          clear hK K hHeld
          try simp only [List.getElem_toArray, List.getElem_cons_succ, List.getElem_cons_zero, Act.put, List.setIfInBounds_toArray, List.set_cons_zero, List.set_cons_succ]
          refine wpAnyH_ready (rs := [7]) (by kernel_rfl) (by simp) ?_
          refine AllReadyH.cons rfl (fun K hK => ?_) AllReadyH.nil
          have x0 : wn52.cell? ⟨g2, 0, none⟩ = some _ := b2.cell 0
          have y0 := b2.frozen 0
          have y6 := b2.lt
          go_simp
          have b2_ : Blk (wn52.setCell ⟨g2, 0, none⟩ (.slice D2 k2 f2)) g2 24 #[(.slice D2 k2 f2)] := b2.set_ 0 _
          have b1_ : Blk (wn52.setCell ⟨g2, 0, none⟩ (.slice D2 k2 f2)) g1 24 _ := b1.far (p := ⟨g2, 0, none⟩) (by simp; omega) (.slice D2 k2 f2)
          have n1_ := MH.set (g := g2) (i := 0) n1 b2 (by decide) (.slice D2 k2 f2)
          have n2_ := MH.set (g := g2) (i := 0) n2 b2 (by decide) (.slice D2 k2 f2)
          have hB_ : Below w2.heap.size w2 (wn52.setCell ⟨g2, 0, none⟩ (.slice D2 k2 f2)) := hB.setCell (p := ⟨g2, 0, none⟩) hg2 (.slice D2 k2 f2)
          clear hB b1 b2 n1 n2 x0 y0 y6
          generalize (wn52.setCell ⟨g2, 0, none⟩ (.slice D2 k2 f2)) = wn53 at *
          have n1 := n1_
          clear n1_
          have n2 := n2_
          clear n2_
          have b1 := b1_
          clear b1_
          have b2 := b2_
          clear b2_
          have hB := hB_
          clear hB_
          refine hK.out _ _ hB (fun hHeld => ?_)
          clear hK K hHeld
          try simp only [List.getElem_toArray, List.getElem_cons_succ, List.getElem_cons_zero, Act.put, List.setIfInBounds_toArray, List.set_cons_zero, List.set_cons_succ]
          refine wpAnyH_done (by kernel_rfl) ?_ _
          refine NoPanic.normal ?_
          go_wp2_with fail
          go_meet
          exact ⟨g1, g2, rfl, rfl, hid ⟨xs1, xs2, D1, k1, f1, D2, k2, f2, b1, b2, n1, n2, q1, q2, hB⟩⟩
      · go_simp
        have b1_ := Blk.new wn44 24 #[.slice none 0 0]
        have b2_ := b2.alloc (.cells #[.slice none 0 0] 24)
        have hne : g2 < wn44.heap.size := b2.lt
        have hg1 : w2.heap.size ≤ wn44.heap.size := hB.size
        have hB_ := hB.alloc hB.size (.cells #[.slice none 0 0] 24)
        clear hB b2
        generalize wn44.alloc (.cells #[.slice none 0 0] 24) = wn54 at *
        generalize wn44.heap.size = g1 at *
        have b2 := b2_
        clear b2_
        have b1 := b1_
        clear b1_
        have hB := hB_
        clear hB_
        refine hK.out _ _ hB (fun hHeld => ?_)
        clear hK K hHeld
        try simp only [List.getElem_toArray, List.getElem_cons_succ, List.getElem_cons_zero, Act.put, List.setIfInBounds_toArray, List.set_cons_zero, List.set_cons_succ]
        refine wpAnyH_ready (rs := [1]) (by kernel_rfl) (by simp) ?_
        refine AllReadyH.cons rfl (fun K hK => ?_) AllReadyH.nil
        go_simp
        refine (HO1.out _ hB).mono ?_
        rintro e wn55 ⟨xs1, D1, k1, f1, rfl, q1, n1, hb1⟩
        replace b1 := b1.under hb1
        replace b2 := b2.under hb1
        replace hB := hB.trans (hb1.mono hB.size)
        clear hb1
        refine hK.out _ _ hB (fun hHeld => ?_)
        clear hK K hHeld
        try simp only [List.getElem_toArray, List.getElem_cons_succ, List.getElem_cons_zero, Act.put, List.setIfInBounds_toArray, List.set_cons_zero, List.set_cons_succ]
        refine wpAnyH_ready (rs := [3]) (by kernel_rfl) (by simp) ?_
        refine AllReadyH.cons rfl (fun K hK => ?_) AllReadyH.nil
        go_simp
        refine (HO2.out _ hB).mono ?_
        rintro e wn56 ⟨xs2, D2, k2, f2, rfl, q2, n2, hb1⟩
        replace n1 := n1.below hb1
        replace b1 := b1.under hb1
        replace b2 := b2.under hb1
        replace hB := hB.trans (hb1.mono hB.size)
        clear hb1
        refine hK.out _ _ hB (fun hHeld => ?_)
        clear hK K hHeld
        try simp only [List.getElem_toArray, List.getElem_cons_succ, List.getElem_cons_zero, Act.put, List.setIfInBounds_toArray, List.set_cons_zero, List.set_cons_succ]
        refine wpAnyH_ready (rs := [6]) (by kernel_rfl) (by simp) ?_
        refine AllReadyH.cons rfl (fun K hK => ?_) AllReadyH.nil
        have x0 : wn56.cell? ⟨g1, 0, none⟩ = some _ := b1.cell 0
        have y0 := b1.frozen 0
        have y6 := b1.lt
        go_simp
        have b1_ : Blk (wn56.setCell ⟨g1, 0, none⟩ (.slice D1 k1 f1)) g1 24 #[(.slice D1 k1 f1)] := b1.set_ 0 _
        have b2_ : Blk (wn56.setCell ⟨g1, 0, none⟩ (.slice D1 k1 f1)) g2 24 _ := b2.far (p := ⟨g1, 0, none⟩) (by simp; omega) (.slice D1 k1 f1)
        have n1_ := MH.set (g := g1) (i := 0) n1 b1 (by decide) (.slice D1 k1 f1)
        have n2_ := MH.set (g := g1) (i := 0) n2 b1 (by decide) (.slice D1 k1 f1)
        have hB_ : Below w2.heap.size w2 (wn56.setCell ⟨g1, 0, none⟩ (.slice D1 k1 f1)) := hB.setCell (p := ⟨g1, 0, none⟩) hg1 (.slice D1 k1 f1)
        clear hB b1 b2 n1 n2 x0 y0 y6
        generalize (wn56.setCell ⟨g1, 0, none⟩ (.slice D1 k1 f1)) = wn57 at *
        have n1 := n1_
        clear n1_
        have n2 := n2_
        clear n2_
        have b1 := b1_
        clear b1_
        have b2 := b2_
        clear b2_
        have hB := hB_
        clear hB_
        refine hK.out _ _ hB (fun hHeld => ?_)
        clear hK K hHeld
        try simp only [List.getElem_toArray, List.getElem_cons_succ, List.getElem_cons_zero, Act.put, List.setIfInBounds_toArray, List.set_cons_zero, List.set_cons_succ]
        refine wpAnyH_ready (rs := [7]) (by kernel_rfl) (by simp) ?_
        refine AllReadyH.cons rfl (fun K hK => ?_) AllReadyH.nil
        have x0 : wn57.cell? ⟨g2, 0, none⟩ = some _ := b2.cell 0
        have y0 := b2.frozen 0
        have y6 := b2.lt
        go_simp
        have b2_ : Blk (wn57.setCell ⟨g2, 0, none⟩ (.slice D2 k2 f2)) g2 24 #[(.slice D2 k2 f2)] := b2.set_ 0 _
        have b1_ : Blk (wn57.setCell ⟨g2, 0, none⟩ (.slice D2 k2 f2)) g1 24 _ := b1.far (p := ⟨g2, 0, none⟩) (by simp; omega) (.slice D2 k2 f2)
        have n1_ := MH.set (g := g2) (i := 0) n1 b2 (by decide) (.slice D2 k2 f2)
        have n2_ := MH.set (g := g2) (i := 0) n2 b2 (by decide) (.slice D2 k2 f2)
        have hB_ : Below w2.heap.size w2 (wn57.setCell ⟨g2, 0, none⟩ (.slice D2 k2 f2)) := hB.setCell (p := ⟨g2, 0, none⟩) hg2 (.slice D2 k2 f2)
        clear hB b1 b2 n1 n2 x0 y0 y6
        generalize (wn57.setCell ⟨g2, 0, none⟩ (.slice D2 k2 f2)) = wn58 at *
        have n1 := n1_
        clear n1_
        have n2 := n2_
        clear n2_
        have b1 := b1_
        clear b1_
        have b2 := b2_
        clear b2_
        have hB := hB_
        clear hB_
        refine hK.out _ _ hB (fun hHeld => ?_)
        clear hK K hHeld
        try simp only [List.getElem_toArray, List.getElem_cons_succ, List.getElem_cons_zero, Act.put, List.setIfInBounds_toArray, List.set_cons_zero, List.set_cons_succ]
        refine wpAnyH_done (by kernel_rfl) ?_ _
        refine NoPanic.normal ?_
        go_wp2_with fail
        go_meet
        exact ⟨g1, g2, rfl, rfl, hid ⟨xs1, xs2, D1, k1, f1, D2, k2, f2, b1, b2, n1, n2, q1, q2, hB⟩⟩
  case rest =>
    obtain ⟨gm, go, rfl, rfl, HT⟩ := hcut
    obtain ⟨xs, ys, D1, k1, f1, D2, k2, f2, b1, b2, n1, n2, q1, q2, hb⟩ := HT.out
    replace HB := hid (HB.out.trans (hb.mono HB.out.size))
    have K3 := hid (KX.out.under hb)
    have K1 := hid b1
    have K2 := hid b2
    have N1 := hid n1
    have N2 := hid n2
    have Q := hid (And.intro q1 q2)
    have HOX := hid (fun W (h : Below wc.heap.size wc W) => HO1.out W (hb.trans (h.mono hb.size)))
    have HOK := hid (fun ho => manOk_of (l := lx) ho (by rw [← q1]; exact (n1.man f1).fs))
    clear b1 b2 n1 n2 q1 q2 hb HT KX KY HO1 HO2
    cases hr : manOk lx with
    | false =>
      have HRT := hid hr
      have HR := hid (right_h D1 k1 f1 xs wc N1.out Q.out.1)
      rw [hr] at HR
      clear hr c0 d0
      have c0 : wc.cell? ⟨gm, 0, none⟩ = some (.slice D1 k1 f1) := K1.out.cell 0
      go_wp2_with fail
      refine HR.out.mono ?_
      rintro e w3 ⟨rfl, hb3⟩
      replace HB := hid (HB.out.trans (hb3.mono HB.out.size))
      replace K1 := hid (K1.out.under hb3)
      replace K2 := hid (K2.out.under hb3)
      replace K3 := hid (K3.out.under hb3)
      replace N1 := hid (N1.out.below hb3)
      replace N2 := hid (N2.out.below hb3)
      replace HOX := hid (fun W (h : Below w3.heap.size w3 W) => HOX.out W (hb3.trans (h.mono hb3.size)))
      clear hb3 c0 HR
      have HC := hid (Check_c D1 k1 f1 xs w3 (N1.out.man f1))
      rw [Q.out.1, show manE lx = 320 by unfold manE; rw [HRT.out]; rfl] at HC
      have c0 : w3.cell? ⟨gm, 0, none⟩ = some (.slice D1 k1 f1) := K1.out.cell 0
      go_wp2_with fail
      refine HC.out.mono ?_
      rintro e w4 ⟨rfl, hb4⟩
      replace HB := hid (HB.out.trans (hb4.mono HB.out.size))
      replace K1 := hid (K1.out.under hb4)
      replace K2 := hid (K2.out.under hb4)
      replace K3 := hid (K3.out.under hb4)
      replace N1 := hid (N1.out.below hb4)
      replace N2 := hid (N2.out.below hb4)
      replace HOX := hid (fun W (h : Below w4.heap.size w4 W) => HOX.out W (hb4.trans (h.mono hb4.size)))
      clear hb4 c0 HC
      have c0 : w4.cell? ⟨gm, 0, none⟩ = some (.slice D1 k1 f1) := K1.out.cell 0
      have d0 : w4.cell? ⟨go, 0, none⟩ = some (.slice D2 k2 f2) := K2.out.cell 0
      have e0 : w4.cell? ⟨w.heap.size, 0, none⟩ = some (.slice A n c) := K3.out.cell 0
      obtain ⟨bq, hbq⟩ : ∃ b, b = decide (lx = ly) := ⟨_, rfl⟩
      have HSM := hid (fun W (h : Below w4.heap.size w4 W) => Same_c D1 D2 k1 k2 f1 f2 xs ys W ((N1.out.below h).man f1) ((N2.out.below h).man f2))
      have HSD := hid (fun W (h : Below w4.heap.size w4 W) => sameMan_c D1 D2 k1 k2 f1 f2 xs ys W ((N1.out.below h).man f1) ((N2.out.below h).man f2))
      rw [Q.out.1, Q.out.2, ← hbq] at HSM HSD
      have HSX := hid (fun W D k f zs (h : Below w4.heap.size w4 W) (n : MH W D k zs) (hz : zs.map RoA.d = lx) => (Same_c D1 D k1 k f1 f xs zs W ((N1.out.below h).man f1) (n.man f)).mono (R' := fun e w' => e = .returned (.bool true) ∧ Below W.heap.size W w') fun e w' h => by rw [Q.out.1, hz, decide_eq_true rfl] at h; exact h)
      clear hbq
      go_upto_region 6 with fail
      refine wp_region_noPanic ?_
      refine wp_region_held_drew (S := (fun W => Below w4.heap.size w4 W)) (by kernel_rfl) (below_dn (Below.refl w4.heap.size w4) 1) (fun hHeld => ?_)
      refine wpAnyH_take (i := 0) (v := ?_) rfl (by kernel_rfl) (by kernel_rfl) (by kernel_rfl) (fun _ _ _ h => h) (Or.inl ⟨by rfl, ?_⟩) (by assumption) ?_
      rotate_left
      · intro W hW
        go_simp
        try rfl
      simp only [List.getElem_toArray, List.getElem_cons_zero, Act.put, List.setIfInBounds_toArray, List.set_cons_zero, List.set_cons_succ]
      refine wpAnyH_take (i := 1) (v := ?_) rfl (by kernel_rfl) (by kernel_rfl) (by kernel_rfl) (fun _ _ _ h => h) (Or.inl ⟨by rfl, ?_⟩) (by assumption) ?_
      rotate_left
      · intro W hW
        go_simp
        try rfl
      simp only [List.getElem_toArray, List.getElem_cons_succ, List.getElem_cons_zero, Act.put, List.setIfInBounds_toArray, List.set_cons_zero, List.set_cons_succ]
      refine wpAnyH_take (i := 2) (v := ?_) rfl (by kernel_rfl) (by kernel_rfl) (by kernel_rfl) (fun _ _ _ h => h) (Or.inl ⟨by rfl, ?_⟩) (by assumption) ?_
      rotate_left
      · intro W hW
        go_simp
        try rfl
      simp only [List.getElem_toArray, List.getElem_cons_succ, List.getElem_cons_zero, Act.put, List.setIfInBounds_toArray, List.set_cons_zero, List.set_cons_succ]
      refine wpAnyH_take (i := 3) (v := ?_) rfl (by kernel_rfl) (by kernel_rfl) (by kernel_rfl) (fun _ _ _ h => h) (Or.inl ⟨by rfl, ?_⟩) (by assumption) ?_
      rotate_left
      · intro W hW
        go_simp
        try rfl
      simp only [List.getElem_toArray, List.getElem_cons_succ, List.getElem_cons_zero, Act.put, List.setIfInBounds_toArray, List.set_cons_zero, List.set_cons_succ]
      refine wpAnyH_take (i := 4) (v := ?_) rfl (by kernel_rfl) (by kernel_rfl) (by kernel_rfl) (fun _ _ _ h => h) (Or.inl ⟨by rfl, ?_⟩) (by assumption) ?_
      rotate_left
      · intro W hW
        go_simp
        try rfl
      simp only [List.getElem_toArray, List.getElem_cons_succ, List.getElem_cons_zero, Act.put, List.setIfInBounds_toArray, List.set_cons_zero, List.set_cons_succ]
      refine wpAnyH_take (i := 5) (v := ?_) rfl (by kernel_rfl) (by kernel_rfl) (by kernel_rfl) (fun _ _ _ h => h) (Or.inl ⟨by rfl, ?_⟩) (by assumption) ?_
      rotate_left
      · intro W hW
        go_simp
        try rfl
      simp only [List.getElem_toArray, List.getElem_cons_succ, List.getElem_cons_zero, Act.put, List.setIfInBounds_toArray, List.set_cons_zero, List.set_cons_succ]
      refine wpAnyH_take (i := 6) (v := ?_) rfl (by kernel_rfl) (by kernel_rfl) (by kernel_rfl) (fun _ _ _ h => h) (Or.inl ⟨by rfl, ?_⟩) (by assumption) ?_
      rotate_left
      · intro W hW
        go_simp
        try rfl
      simp only [List.getElem_toArray, List.getElem_cons_succ, List.getElem_cons_zero, Act.put, List.setIfInBounds_toArray, List.set_cons_zero, List.set_cons_succ]
      refine wpAnyH_take (i := 7) (v := ?_) rfl (by kernel_rfl) (by kernel_rfl) (by kernel_rfl) (fun _ _ _ h => h) (Or.inl ⟨by rfl, ?_⟩) (by assumption) ?_
      rotate_left
      · intro W hW
        go_simp
        try rfl
      simp only [List.getElem_toArray, List.getElem_cons_succ, List.getElem_cons_zero, Act.put, List.setIfInBounds_toArray, List.set_cons_zero, List.set_cons_succ]
      refine wpAnyH_take (i := 8) (v := ?_) rfl (by kernel_rfl) (by kernel_rfl) (by kernel_rfl) (fun _ _ _ h => h) (Or.inl ⟨by rfl, ?_⟩) (by assumption) ?_
      rotate_left
      · intro W hW
        go_simp
        try rfl
      simp only [List.getElem_toArray, List.getElem_cons_succ, List.getElem_cons_zero, Act.put, List.setIfInBounds_toArray, List.set_cons_zero, List.set_cons_succ]
      refine wpAnyH_take (i := 9) (v := ?_) rfl (by kernel_rfl) (by kernel_rfl) (by kernel_rfl) (fun _ _ _ h => h) (Or.inl ⟨by rfl, ?_⟩) (by assumption) ?_
      rotate_left
      · intro W hW
        go_simp
        try rfl
      simp only [List.getElem_toArray, List.getElem_cons_succ, List.getElem_cons_zero, Act.put, List.setIfInBounds_toArray, List.set_cons_zero, List.set_cons_succ]
      refine wpAnyH_take (i := 10) (v := ?_) rfl (by kernel_rfl) (by kernel_rfl) (by kernel_rfl) (fun _ _ _ h => h) (Or.inl ⟨by rfl, ?_⟩) (by assumption) ?_
      rotate_left
      · intro W hW
        go_simp
        try rfl
      simp only [List.getElem_toArray, List.getElem_cons_succ, List.getElem_cons_zero, Act.put, List.setIfInBounds_toArray, List.set_cons_zero, List.set_cons_succ]
      refine wpAnyH_take (i := 11) (v := ?_) rfl (by kernel_rfl) (by kernel_rfl) (by kernel_rfl) (fun _ _ _ h => h) (Or.inl ⟨by rfl, ?_⟩) (by assumption) ?_
      rotate_left
      · intro W hW
        go_simp
        try rfl
      simp only [List.getElem_toArray, List.getElem_cons_succ, List.getElem_cons_zero, Act.put, List.setIfInBounds_toArray, List.set_cons_zero, List.set_cons_succ]
      refine wpAnyH_take (i := 12) (v := ?_) rfl (by kernel_rfl) (by kernel_rfl) (by kernel_rfl) (fun _ _ _ h => h) (Or.inl ⟨by rfl, ?_⟩) (by assumption) ?_
      rotate_left
      · intro W hW
        go_simp
        try rfl
      simp only [List.getElem_toArray, List.getElem_cons_succ, List.getElem_cons_zero, Act.put, List.setIfInBounds_toArray, List.set_cons_zero, List.set_cons_succ]
      refine wpAnyH_take (i := 13) (v := ?_) rfl (by kernel_rfl) (by kernel_rfl) (by kernel_rfl) (fun _ _ _ h => h) (Or.inl ⟨by rfl, ?_⟩) (by assumption) ?_
      rotate_left
      · intro W hW
        have y0 := below_cell hW c0
        go_simp
        try rfl
      simp only [List.getElem_toArray, List.getElem_cons_succ, List.getElem_cons_zero, Act.put, List.setIfInBounds_toArray, List.set_cons_zero, List.set_cons_succ]
      refine wpAnyH_take (i := 14) (v := ?_) rfl (by kernel_rfl) (by kernel_rfl) (by kernel_rfl) (fun _ _ _ h => h) (Or.inl ⟨by rfl, ?_⟩) (by assumption) ?_
      rotate_left
      · intro W hW
        have y0 := below_cell hW d0
        go_simp
        try rfl
      simp only [List.getElem_toArray, List.getElem_cons_succ, List.getElem_cons_zero, Act.put, List.setIfInBounds_toArray, List.set_cons_zero, List.set_cons_succ]
      refine wpAnyH_take (i := 16) (v := ?_) rfl (by kernel_rfl) (by kernel_rfl) (by kernel_rfl) (fun _ _ _ h => h) (Or.inl ⟨by rfl, ?_⟩) (by assumption) ?_
      rotate_left
      · intro W hW
        have y0 := below_cell hW c0
        go_simp
        try rfl
      simp only [List.getElem_toArray, List.getElem_cons_succ, List.getElem_cons_zero, Act.put, List.setIfInBounds_toArray, List.set_cons_zero, List.set_cons_succ]
      refine wpAnyH_take (i := 17) (v := ?_) rfl (by kernel_rfl) (by kernel_rfl) (by kernel_rfl) (fun _ _ _ h => h) (Or.inl ⟨by rfl, ?_⟩) (by assumption) ?_
      rotate_left
      · intro W hW
        have y0 := below_cell hW d0
        go_simp
        try rfl
      simp only [List.getElem_toArray, List.getElem_cons_succ, List.getElem_cons_zero, Act.put, List.setIfInBounds_toArray, List.set_cons_zero, List.set_cons_succ]
      refine wpAnyH_ready (rs := [15]) (by kernel_rfl) (by simp) ?_
      refine AllReadyH.cons rfl (fun K hK => ?_) AllReadyH.nil
      go_simp
      refine (HSM.out _ hHeld).mono ?_
      rintro e wr1 ⟨rfl, hb9⟩
      have hw9 : Below w4.heap.size w4 wr1 := hHeld.trans (hb9.mono hHeld.size)
      clear hHeld hb9
      refine hK.out _ _ hw9 (fun hHeld => ?_)
      clear hK K
      try simp only [List.getElem_toArray, List.getElem_cons_succ, List.getElem_cons_zero, Act.put, List.setIfInBounds_toArray, List.set_cons_zero, List.set_cons_succ]
      refine wpAnyH_ready (rs := [18]) (by kernel_rfl) (by simp) ?_
      refine AllReadyH.cons rfl (fun K hK => ?_) AllReadyH.nil
      go_simp
      refine (HSD.out _ hHeld).mono ?_
      rintro e wr2 ⟨rfl, hb9⟩
      have hw9 : Below w4.heap.size w4 wr2 := hHeld.trans (hb9.mono hHeld.size)
      clear hHeld hb9
      refine hK.out _ _ hw9 (fun hHeld => ?_)
      clear hK K
      try simp only [List.getElem_toArray, List.getElem_cons_succ, List.getElem_cons_zero, Act.put, List.setIfInBounds_toArray, List.set_cons_zero, List.set_cons_succ]
      refine wpAnyH_take (i := 19) (v := ?_) rfl (by kernel_rfl) (by kernel_rfl) (by kernel_rfl) (fun _ _ _ h => h) (Or.inl ⟨by rfl, ?_⟩) (by assumption) ?_
      rotate_left
      · intro W hW
        go_simp
        try rfl
      simp only [List.getElem_toArray, List.getElem_cons_succ, List.getElem_cons_zero, Act.put, List.setIfInBounds_toArray, List.set_cons_zero, List.set_cons_succ]
      refine wpAnyH_take (i := 20) (v := ?_) rfl (by kernel_rfl) (by kernel_rfl) (by kernel_rfl) (fun _ _ _ h => h) (Or.inl ⟨by rfl, ?_⟩) (by assumption) ?_
      rotate_left
      · intro W hW
        go_simp
        try rfl
      simp only [List.getElem_toArray, List.getElem_cons_succ, List.getElem_cons_zero, Act.put, List.setIfInBounds_toArray, List.set_cons_zero, List.set_cons_succ]
      refine wpAnyH_take (i := 21) (v := ?_) rfl (by kernel_rfl) (by kernel_rfl) (by kernel_rfl) (fun _ _ _ h => h) (Or.inl ⟨by rfl, ?_⟩) (by assumption) ?_
      rotate_left
      · intro W hW
        go_simp
        try rfl
      simp only [List.getElem_toArray, List.getElem_cons_succ, List.getElem_cons_zero, Act.put, List.setIfInBounds_toArray, List.set_cons_zero, List.set_cons_succ]
      refine wpAnyH_take (i := 22) (v := ?_) rfl (by kernel_rfl) (by kernel_rfl) (by kernel_rfl) (fun _ _ _ h => h) (Or.inl ⟨by rfl, ?_⟩) (by assumption) ?_
      rotate_left
      · intro W hW
        have y0 := below_cell hW c0
        go_simp
        try rfl
      simp only [List.getElem_toArray, List.getElem_cons_succ, List.getElem_cons_zero, Act.put, List.setIfInBounds_toArray, List.set_cons_zero, List.set_cons_succ]
      refine wpAnyH_take (i := 23) (v := ?_) rfl (by kernel_rfl) (by kernel_rfl) (by kernel_rfl) (fun _ _ _ h => h) (Or.inl ⟨by rfl, ?_⟩) (by assumption) ?_
      rotate_left
      · intro W hW
        have y0 := below_cell hW e0
        go_simp
        try rfl
      simp only [List.getElem_toArray, List.getElem_cons_succ, List.getElem_cons_zero, Act.put, List.setIfInBounds_toArray, List.set_cons_zero, List.set_cons_succ]
      refine wpAnyH_ready (rs := [24]) (by kernel_rfl) (by simp) ?_
      refine AllReadyH.cons rfl (fun K hK => ?_) AllReadyH.nil
      go_simp
      refine (HOX.out _ hHeld).mono ?_
      rintro e wr3 ⟨zs, D5, k5, f5, rfl, hz5, n5, hb9⟩
      have hw9 : Below w4.heap.size w4 wr3 := hHeld.trans (hb9.mono hHeld.size)
      clear hHeld hb9
      refine hK.out _ _ hw9 (fun hHeld => ?_)
      clear hK K
      try simp only [List.getElem_toArray, List.getElem_cons_succ, List.getElem_cons_zero, Act.put, List.setIfInBounds_toArray, List.set_cons_zero, List.set_cons_succ]
      refine wpAnyH_ready (rs := [25]) (by kernel_rfl) (by simp) ?_
      refine AllReadyH.cons rfl (fun K hK => ?_) AllReadyH.nil
      go_simp
      refine (HSX.out _ _ _ _ _ hHeld n5 hz5).mono ?_
      rintro e wr4 ⟨rfl, hb9⟩
      have hw9 : Below w4.heap.size w4 wr4 := hHeld.trans (hb9.mono hHeld.size)
      clear hHeld hb9
      refine hK.out _ _ hw9 (fun hHeld => ?_)
      clear hK K
      try simp only [List.getElem_toArray, List.getElem_cons_succ, List.getElem_cons_zero, Act.put, List.setIfInBounds_toArray, List.set_cons_zero, List.set_cons_succ]
      clear n5 hz5
      refine wpAnyH_take (i := 26) (v := ?_) rfl (by kernel_rfl) (by kernel_rfl) (by kernel_rfl) (fun _ _ _ h => h) (Or.inl ⟨by rfl, ?_⟩) (by assumption) ?_
      rotate_left
      · intro W hW
        go_simp
        try rfl
      simp only [List.getElem_toArray, List.getElem_cons_succ, List.getElem_cons_zero, Act.put, List.setIfInBounds_toArray, List.set_cons_zero, List.set_cons_succ]
      refine wpAnyH_take (i := 27) (v := ?_) rfl (by kernel_rfl) (by kernel_rfl) (by kernel_rfl) (fun _ _ _ h => h) (Or.inl ⟨by rfl, ?_⟩) (by assumption) ?_
      rotate_left
      · intro W hW
        go_simp
        try rfl
      simp only [List.getElem_toArray, List.getElem_cons_succ, List.getElem_cons_zero, Act.put, List.setIfInBounds_toArray, List.set_cons_zero, List.set_cons_succ]
      refine wpAnyH_done (by kernel_rfl) ?_ _
      refine NoPanic.normal ?_
      clear hw9
      replace HB := hid (HB.out.trans (hHeld.mono HB.out.size))
      replace K1 := hid (K1.out.under hHeld)
      replace K3 := hid (K3.out.under hHeld)
      replace N1 := hid (N1.out.below hHeld)
      replace HOX := hid (fun W (h : Below _ _ W) => HOX.out W (hHeld.trans (h.mono hHeld.size)))
      clear hHeld HSM HSD HSX c0 d0 e0
      have HE := hid ((Encode_c D1 k1 f1 xs _ (N1.out.man f1)).mono (R' := fun e w' => RetEnc lx wr4 e w') fun e w' h => by rw [Q.out.1] at h; exact h)
      have c0 : wr4.cell? ⟨gm, 0, none⟩ = some (.slice D1 k1 f1) := K1.out.cell 0
      go_wp2_with fail
      refine HE.out.mono ?_
      intro e w8 h8
      obtain ⟨rfl, hb8⟩ := encM_wrong h8 HRT.out
      have HF := hid (HB.out.trans (hb8.mono HB.out.size))
      clear h8 hb8 HE c0
      go_wp2_with fail
      go_ret
      exact ⟨rfl, HF.out⟩
    | true =>
      have HRT := hid hr
      have HR := hid (right_h D1 k1 f1 xs wc N1.out Q.out.1)
      rw [hr] at HR
      clear hr c0 d0
      have c0 : wc.cell? ⟨gm, 0, none⟩ = some (.slice D1 k1 f1) := K1.out.cell 0
      go_wp2_with fail
      refine HR.out.mono ?_
      rintro e w3 ⟨rfl, hb3⟩
      replace HB := hid (HB.out.trans (hb3.mono HB.out.size))
      replace K1 := hid (K1.out.under hb3)
      replace K2 := hid (K2.out.under hb3)
      replace K3 := hid (K3.out.under hb3)
      replace N1 := hid (N1.out.below hb3)
      replace N2 := hid (N2.out.below hb3)
      replace HOX := hid (fun W (h : Below w3.heap.size w3 W) => HOX.out W (hb3.trans (h.mono hb3.size)))
      clear hb3 c0 HR
      have HC := hid (Check_c D1 k1 f1 xs w3 (N1.out.man f1))
      rw [Q.out.1, show manE lx = 0 by unfold manE; rw [HRT.out]; rfl] at HC
      have c0 : w3.cell? ⟨gm, 0, none⟩ = some (.slice D1 k1 f1) := K1.out.cell 0
      go_wp2_with fail
      refine HC.out.mono ?_
      rintro e w4 ⟨rfl, hb4⟩
      replace HB := hid (HB.out.trans (hb4.mono HB.out.size))
      replace K1 := hid (K1.out.under hb4)
      replace K2 := hid (K2.out.under hb4)
      replace K3 := hid (K3.out.under hb4)
      replace N1 := hid (N1.out.below hb4)
      replace N2 := hid (N2.out.below hb4)
      replace HOX := hid (fun W (h : Below w4.heap.size w4 W) => HOX.out W (hb4.trans (h.mono hb4.size)))
      clear hb4 c0 HC
      have c0 : w4.cell? ⟨gm, 0, none⟩ = some (.slice D1 k1 f1) := K1.out.cell 0
      have d0 : w4.cell? ⟨go, 0, none⟩ = some (.slice D2 k2 f2) := K2.out.cell 0
      have e0 : w4.cell? ⟨w.heap.size, 0, none⟩ = some (.slice A n c) := K3.out.cell 0
      obtain ⟨bq, hbq⟩ : ∃ b, b = decide (lx = ly) := ⟨_, rfl⟩
      have HSM := hid (fun W (h : Below w4.heap.size w4 W) => Same_c D1 D2 k1 k2 f1 f2 xs ys W ((N1.out.below h).man f1) ((N2.out.below h).man f2))
      have HSD := hid (fun W (h : Below w4.heap.size w4 W) => sameMan_c D1 D2 k1 k2 f1 f2 xs ys W ((N1.out.below h).man f1) ((N2.out.below h).man f2))
      rw [Q.out.1, Q.out.2, ← hbq] at HSM HSD
      have HSX := hid (fun W D k f zs (h : Below w4.heap.size w4 W) (n : MH W D k zs) (hz : zs.map RoA.d = lx) => (Same_c D1 D k1 k f1 f xs zs W ((N1.out.below h).man f1) (n.man f)).mono (R' := fun e w' => e = .returned (.bool true) ∧ Below W.heap.size W w') fun e w' h => by rw [Q.out.1, hz, decide_eq_true rfl] at h; exact h)
      clear hbq
      go_upto_region 6 with fail
      refine wp_region_noPanic ?_
      refine wp_region_held_drew (S := (fun W => Below w4.heap.size w4 W)) (by kernel_rfl) (below_dn (Below.refl w4.heap.size w4) 1) (fun hHeld => ?_)
      refine wpAnyH_take (i := 0) (v := ?_) rfl (by kernel_rfl) (by kernel_rfl) (by kernel_rfl) (fun _ _ _ h => h) (Or.inl ⟨by rfl, ?_⟩) (by assumption) ?_
      rotate_left
      · intro W hW
        go_simp
        try rfl
      simp only [List.getElem_toArray, List.getElem_cons_zero, Act.put, List.setIfInBounds_toArray, List.set_cons_zero, List.set_cons_succ]
      refine wpAnyH_take (i := 1) (v := ?_) rfl (by kernel_rfl) (by kernel_rfl) (by kernel_rfl) (fun _ _ _ h => h) (Or.inl ⟨by rfl, ?_⟩) (by assumption) ?_
      rotate_left
      · intro W hW
        go_simp
        try rfl
      simp only [List.getElem_toArray, List.getElem_cons_succ, List.getElem_cons_zero, Act.put, List.setIfInBounds_toArray, List.set_cons_zero, List.set_cons_succ]
      refine wpAnyH_take (i := 2) (v := ?_) rfl (by kernel_rfl) (by kernel_rfl) (by kernel_rfl) (fun _ _ _ h => h) (Or.inl ⟨by rfl, ?_⟩) (by assumption) ?_
      rotate_left
      · intro W hW
        go_simp
        try rfl
      simp only [List.getElem_toArray, List.getElem_cons_succ, List.getElem_cons_zero, Act.put, List.setIfInBounds_toArray, List.set_cons_zero, List.set_cons_succ]
      refine wpAnyH_take (i := 3) (v := ?_) rfl (by kernel_rfl) (by kernel_rfl) (by kernel_rfl) (fun _ _ _ h => h) (Or.inl ⟨by rfl, ?_⟩) (by assumption) ?_
      rotate_left
      · intro W hW
        go_simp
        try rfl
      simp only [List.getElem_toArray, List.getElem_cons_succ, List.getElem_cons_zero, Act.put, List.setIfInBounds_toArray, List.set_cons_zero, List.set_cons_succ]
      refine wpAnyH_take (i := 4) (v := ?_) rfl (by kernel_rfl) (by kernel_rfl) (by kernel_rfl) (fun _ _ _ h => h) (Or.inl ⟨by rfl, ?_⟩) (by assumption) ?_
      rotate_left
      · intro W hW
        go_simp
        try rfl
      simp only [List.getElem_toArray, List.getElem_cons_succ, List.getElem_cons_zero, Act.put, List.setIfInBounds_toArray, List.set_cons_zero, List.set_cons_succ]
      refine wpAnyH_take (i := 5) (v := ?_) rfl (by kernel_rfl) (by kernel_rfl) (by kernel_rfl) (fun _ _ _ h => h) (Or.inl ⟨by rfl, ?_⟩) (by assumption) ?_
      rotate_left
      · intro W hW
        go_simp
        try rfl
      simp only [List.getElem_toArray, List.getElem_cons_succ, List.getElem_cons_zero, Act.put, List.setIfInBounds_toArray, List.set_cons_zero, List.set_cons_succ]
      refine wpAnyH_take (i := 6) (v := ?_) rfl (by kernel_rfl) (by kernel_rfl) (by kernel_rfl) (fun _ _ _ h => h) (Or.inl ⟨by rfl, ?_⟩) (by assumption) ?_
      rotate_left
      · intro W hW
        go_simp
        try rfl
      simp only [List.getElem_toArray, List.getElem_cons_succ, List.getElem_cons_zero, Act.put, List.setIfInBounds_toArray, List.set_cons_zero, List.set_cons_succ]
      refine wpAnyH_take (i := 7) (v := ?_) rfl (by kernel_rfl) (by kernel_rfl) (by kernel_rfl) (fun _ _ _ h => h) (Or.inl ⟨by rfl, ?_⟩) (by assumption) ?_
      rotate_left
      · intro W hW
        go_simp
        try rfl
      simp only [List.getElem_toArray, List.getElem_cons_succ, List.getElem_cons_zero, Act.put, List.setIfInBounds_toArray, List.set_cons_zero, List.set_cons_succ]
      refine wpAnyH_take (i := 8) (v := undef) rfl (by kernel_rfl) (by kernel_rfl) (by kernel_rfl) (fun _ _ _ h => h) (Or.inr ⟨by rfl, rfl⟩) (by assumption) ?_
      simp only [List.getElem_toArray, List.getElem_cons_succ, List.getElem_cons_zero, Act.put, List.setIfInBounds_toArray, List.set_cons_zero, List.set_cons_succ]
      refine wpAnyH_take (i := 9) (v := undef) rfl (by kernel_rfl) (by kernel_rfl) (by kernel_rfl) (fun _ _ _ h => h) (Or.inr ⟨by rfl, rfl⟩) (by assumption) ?_
      simp only [List.getElem_toArray, List.getElem_cons_succ, List.getElem_cons_zero, Act.put, List.setIfInBounds_toArray, List.set_cons_zero, List.set_cons_succ]
      refine wpAnyH_take (i := 10) (v := ?_) rfl (by kernel_rfl) (by kernel_rfl) (by kernel_rfl) (fun _ _ _ h => h) (Or.inl ⟨by rfl, ?_⟩) (by assumption) ?_
      rotate_left
      · intro W hW
        go_simp
        try rfl
      simp only [List.getElem_toArray, List.getElem_cons_succ, List.getElem_cons_zero, Act.put, List.setIfInBounds_toArray, List.set_cons_zero, List.set_cons_succ]
      refine wpAnyH_take (i := 11) (v := ?_) rfl (by kernel_rfl) (by kernel_rfl) (by kernel_rfl) (fun _ _ _ h => h) (Or.inl ⟨by rfl, ?_⟩) (by assumption) ?_
      rotate_left
      · intro W hW
        go_simp
        try rfl
      simp only [List.getElem_toArray, List.getElem_cons_succ, List.getElem_cons_zero, Act.put, List.setIfInBounds_toArray, List.set_cons_zero, List.set_cons_succ]
      refine wpAnyH_take (i := 12) (v := ?_) rfl (by kernel_rfl) (by kernel_rfl) (by kernel_rfl) (fun _ _ _ h => h) (Or.inl ⟨by rfl, ?_⟩) (by assumption) ?_
      rotate_left
      · intro W hW
        go_simp
        try rfl
      simp only [List.getElem_toArray, List.getElem_cons_succ, List.getElem_cons_zero, Act.put, List.setIfInBounds_toArray, List.set_cons_zero, List.set_cons_succ]
      refine wpAnyH_take (i := 13) (v := ?_) rfl (by kernel_rfl) (by kernel_rfl) (by kernel_rfl) (fun _ _ _ h => h) (Or.inl ⟨by rfl, ?_⟩) (by assumption) ?_
      rotate_left
      · intro W hW
        have y0 := below_cell hW c0
        go_simp
        try rfl
      simp only [List.getElem_toArray, List.getElem_cons_succ, List.getElem_cons_zero, Act.put, List.setIfInBounds_toArray, List.set_cons_zero, List.set_cons_succ]
      refine wpAnyH_take (i := 14) (v := ?_) rfl (by kernel_rfl) (by kernel_rfl) (by kernel_rfl) (fun _ _ _ h => h) (Or.inl ⟨by rfl, ?_⟩) (by assumption) ?_
      rotate_left
      · intro W hW
        have y0 := below_cell hW d0
        go_simp
        try rfl
      simp only [List.getElem_toArray, List.getElem_cons_succ, List.getElem_cons_zero, Act.put, List.setIfInBounds_toArray, List.set_cons_zero, List.set_cons_succ]
      refine wpAnyH_take (i := 16) (v := ?_) rfl (by kernel_rfl) (by kernel_rfl) (by kernel_rfl) (fun _ _ _ h => h) (Or.inl ⟨by rfl, ?_⟩) (by assumption) ?_
      rotate_left
      · intro W hW
        have y0 := below_cell hW c0
        go_simp
        try rfl
      simp only [List.getElem_toArray, List.getElem_cons_succ, List.getElem_cons_zero, Act.put, List.setIfInBounds_toArray, List.set_cons_zero, List.set_cons_succ]
      refine wpAnyH_take (i := 17) (v := ?_) rfl (by kernel_rfl) (by kernel_rfl) (by kernel_rfl) (fun _ _ _ h => h) (Or.inl ⟨by rfl, ?_⟩) (by assumption) ?_
      rotate_left
      · intro W hW
        have y0 := below_cell hW d0
        go_simp
        try rfl
      simp only [List.getElem_toArray, List.getElem_cons_succ, List.getElem_cons_zero, Act.put, List.setIfInBounds_toArray, List.set_cons_zero, List.set_cons_succ]
      refine wpAnyH_ready (rs := [15]) (by kernel_rfl) (by simp) ?_
      refine AllReadyH.cons rfl (fun K hK => ?_) AllReadyH.nil
      go_simp
      refine (HSM.out _ hHeld).mono ?_
      rintro e wr1 ⟨rfl, hb9⟩
      have hw9 : Below w4.heap.size w4 wr1 := hHeld.trans (hb9.mono hHeld.size)
      clear hHeld hb9
      refine hK.out _ _ hw9 (fun hHeld => ?_)
      clear hK K
      try simp only [List.getElem_toArray, List.getElem_cons_succ, List.getElem_cons_zero, Act.put, List.setIfInBounds_toArray, List.set_cons_zero, List.set_cons_succ]
      refine wpAnyH_ready (rs := [18]) (by kernel_rfl) (by simp) ?_
      refine AllReadyH.cons rfl (fun K hK => ?_) AllReadyH.nil
      go_simp
      refine (HSD.out _ hHeld).mono ?_
      rintro e wr2 ⟨rfl, hb9⟩
      have hw9 : Below w4.heap.size w4 wr2 := hHeld.trans (hb9.mono hHeld.size)
      clear hHeld hb9
      refine hK.out _ _ hw9 (fun hHeld => ?_)
      clear hK K
      try simp only [List.getElem_toArray, List.getElem_cons_succ, List.getElem_cons_zero, Act.put, List.setIfInBounds_toArray, List.set_cons_zero, List.set_cons_succ]
      refine wpAnyH_take (i := 19) (v := ?_) rfl (by kernel_rfl) (by kernel_rfl) (by kernel_rfl) (fun _ _ _ h => h) (Or.inl ⟨by rfl, ?_⟩) (by assumption) ?_
      rotate_left
      · intro W hW
        go_simp
        try rfl
      simp only [List.getElem_toArray, List.getElem_cons_succ, List.getElem_cons_zero, Act.put, List.setIfInBounds_toArray, List.set_cons_zero, List.set_cons_succ]
      refine wpAnyH_take (i := 20) (v := ?_) rfl (by kernel_rfl) (by kernel_rfl) (by kernel_rfl) (fun _ _ _ h => h) (Or.inl ⟨by rfl, ?_⟩) (by assumption) ?_
      rotate_left
      · intro W hW
        go_simp
        try rfl
      simp only [List.getElem_toArray, List.getElem_cons_succ, List.getElem_cons_zero, Act.put, List.setIfInBounds_toArray, List.set_cons_zero, List.set_cons_succ]
      refine wpAnyH_take (i := 21) (v := ?_) rfl (by kernel_rfl) (by kernel_rfl) (by kernel_rfl) (fun _ _ _ h => h) (Or.inl ⟨by rfl, ?_⟩) (by assumption) ?_
      rotate_left
      · intro W hW
        go_simp
        try rfl
      simp only [List.getElem_toArray, List.getElem_cons_succ, List.getElem_cons_zero, Act.put, List.setIfInBounds_toArray, List.set_cons_zero, List.set_cons_succ]
      refine wpAnyH_take (i := 22) (v := ?_) rfl (by kernel_rfl) (by kernel_rfl) (by kernel_rfl) (fun _ _ _ h => h) (Or.inl ⟨by rfl, ?_⟩) (by assumption) ?_
      rotate_left
      · intro W hW
        have y0 := below_cell hW c0
        go_simp
        try rfl
      simp only [List.getElem_toArray, List.getElem_cons_succ, List.getElem_cons_zero, Act.put, List.setIfInBounds_toArray, List.set_cons_zero, List.set_cons_succ]
      refine wpAnyH_take (i := 23) (v := ?_) rfl (by kernel_rfl) (by kernel_rfl) (by kernel_rfl) (fun _ _ _ h => h) (Or.inl ⟨by rfl, ?_⟩) (by assumption) ?_
      rotate_left
      · intro W hW
        have y0 := below_cell hW e0
        go_simp
        try rfl
      simp only [List.getElem_toArray, List.getElem_cons_succ, List.getElem_cons_zero, Act.put, List.setIfInBounds_toArray, List.set_cons_zero, List.set_cons_succ]
      refine wpAnyH_ready (rs := [24]) (by kernel_rfl) (by simp) ?_
      refine AllReadyH.cons rfl (fun K hK => ?_) AllReadyH.nil
      go_simp
      refine (HOX.out _ hHeld).mono ?_
      rintro e wr3 ⟨zs, D5, k5, f5, rfl, hz5, n5, hb9⟩
      have hw9 : Below w4.heap.size w4 wr3 := hHeld.trans (hb9.mono hHeld.size)
      clear hHeld hb9
      refine hK.out _ _ hw9 (fun hHeld => ?_)
      clear hK K
      try simp only [List.getElem_toArray, List.getElem_cons_succ, List.getElem_cons_zero, Act.put, List.setIfInBounds_toArray, List.set_cons_zero, List.set_cons_succ]
      refine wpAnyH_ready (rs := [25]) (by kernel_rfl) (by simp) ?_
      refine AllReadyH.cons rfl (fun K hK => ?_) AllReadyH.nil
      go_simp
      refine (HSX.out _ _ _ _ _ hHeld n5 hz5).mono ?_
      rintro e wr4 ⟨rfl, hb9⟩
      have hw9 : Below w4.heap.size w4 wr4 := hHeld.trans (hb9.mono hHeld.size)
      clear hHeld hb9
      refine hK.out _ _ hw9 (fun hHeld => ?_)
      clear hK K
      try simp only [List.getElem_toArray, List.getElem_cons_succ, List.getElem_cons_zero, Act.put, List.setIfInBounds_toArray, List.set_cons_zero, List.set_cons_succ]
      clear n5 hz5
      refine wpAnyH_take (i := 26) (v := ?_) rfl (by kernel_rfl) (by kernel_rfl) (by kernel_rfl) (fun _ _ _ h => h) (Or.inl ⟨by rfl, ?_⟩) (by assumption) ?_
      rotate_left
      · intro W hW
        go_simp
        try rfl
      simp only [List.getElem_toArray, List.getElem_cons_succ, List.getElem_cons_zero, Act.put, List.setIfInBounds_toArray, List.set_cons_zero, List.set_cons_succ]
      refine wpAnyH_take (i := 27) (v := ?_) rfl (by kernel_rfl) (by kernel_rfl) (by kernel_rfl) (fun _ _ _ h => h) (Or.inl ⟨by rfl, ?_⟩) (by assumption) ?_
      rotate_left
      · intro W hW
        go_simp
        try rfl
      simp only [List.getElem_toArray, List.getElem_cons_succ, List.getElem_cons_zero, Act.put, List.setIfInBounds_toArray, List.set_cons_zero, List.set_cons_succ]
      refine wpAnyH_done (by kernel_rfl) ?_ _
      refine NoPanic.normal ?_
      clear hw9
      replace HB := hid (HB.out.trans (hHeld.mono HB.out.size))
      replace K1 := hid (K1.out.under hHeld)
      replace K3 := hid (K3.out.under hHeld)
      replace N1 := hid (N1.out.below hHeld)
      replace HOX := hid (fun W (h : Below _ _ W) => HOX.out W (hHeld.trans (h.mono hHeld.size)))
      clear hHeld HSM HSD HSX c0 d0 e0
      have HE := hid ((Encode_c D1 k1 f1 xs _ (N1.out.man f1)).mono (R' := fun e w' => RetEnc lx wr4 e w') fun e w' h => by rw [Q.out.1] at h; exact h)
      have c0 : wr4.cell? ⟨gm, 0, none⟩ = some (.slice D1 k1 f1) := K1.out.cell 0
      go_wp2_with fail
      refine HE.out.mono ?_
      intro e w8 h8
      obtain ⟨n8, hn8⟩ : ∃ n, n = (manBy lx).length := ⟨_, rfl⟩
      obtain ⟨C8, f8, rfl, hb8, hr8, hf8, hf8x⟩ := encM_right h8 HRT.out hn8.symm
      have hml := (HOK.out HRT.out).bytes
      rw [← hn8] at hml
      replace HB := hid (HB.out.trans (hb8.mono HB.out.size))
      replace K1 := hid (K1.out.under hb8)
      replace K3 := hid (K3.out.under hb8)
      replace N1 := hid (N1.out.below hb8)
      replace HOX := hid (fun W (h : Below w8.heap.size w8 W) => HOX.out W (hb8.trans (h.mono hb8.size)))
      have HEN := hid hr8
      have HN8 := hid hn8
      clear h8 hb8 hr8 hn8 HE c0
      have c0 : w8.cell? ⟨gm, 0, none⟩ = some (.slice D1 k1 f1) := K1.out.cell 0
      have e0 : w8.cell? ⟨w.heap.size, 0, none⟩ = some (.slice A n c) := K3.out.cell 0
      have HBD := hid (fun W (h : Below w8.heap.size w8 W) => Bytes22_d D1 k1 f1 xs W ((N1.out.below h).man f1) (by rw [Q.out.1]; exact HOK.out HRT.out))
      rw [Q.out.1] at HBD
      unfold RetB at HBD
      rw [← HN8.out] at HBD
      have HEQ := hid (fun W D g (h : Below w8.heap.size w8 W) (r : Reads W 5 1 D n8 (bsV (manBy lx))) => equal_bs C8 D n8 n8 f8 g (manBy lx) (manBy lx) W (HEN.out.below h) r (by omega))
      rw [decide_eq_true rfl] at HEQ
      have HSX := hid (fun W D k f zs (h : Below w8.heap.size w8 W) (n : MH W D k zs) (hz : zs.map RoA.d = lx) => (sameMan_c D1 D k1 k f1 f xs zs W ((N1.out.below h).man f1) (n.man f)).mono (R' := fun e w' => e = .returned (.bool true) ∧ Below W.heap.size W w') fun e w' h => by rw [Q.out.1, hz, decide_eq_true rfl] at h; exact h)
      clear hml
      go_upto_region 11 with fail
      refine wp_region_noPanic ?_
      refine wp_region_held_drew (S := (fun W => Below w8.heap.size w8 W)) (by kernel_rfl) (below_dn (Below.refl w8.heap.size w8) 1) (fun hHeld => ?_)
      refine wpAnyH_take (i := 0) (v := ?_) rfl (by kernel_rfl) (by kernel_rfl) (by kernel_rfl) (fun _ _ _ h => h) (Or.inl ⟨by rfl, ?_⟩) (by assumption) ?_
      rotate_left
      · intro W hW
        go_simp
        try rfl
      simp only [List.getElem_toArray, List.getElem_cons_zero, Act.put, List.setIfInBounds_toArray, List.set_cons_zero, List.set_cons_succ]
      refine wpAnyH_take (i := 1) (v := ?_) rfl (by kernel_rfl) (by kernel_rfl) (by kernel_rfl) (fun _ _ _ h => h) (Or.inl ⟨by rfl, ?_⟩) (by assumption) ?_
      rotate_left
      · intro W hW
        go_simp
        try rfl
      simp only [List.getElem_toArray, List.getElem_cons_succ, List.getElem_cons_zero, Act.put, List.setIfInBounds_toArray, List.set_cons_zero, List.set_cons_succ]
      refine wpAnyH_take (i := 2) (v := ?_) rfl (by kernel_rfl) (by kernel_rfl) (by kernel_rfl) (fun _ _ _ h => h) (Or.inl ⟨by rfl, ?_⟩) (by assumption) ?_
      rotate_left
      · intro W hW
        go_simp
        try rfl
      simp only [List.getElem_toArray, List.getElem_cons_succ, List.getElem_cons_zero, Act.put, List.setIfInBounds_toArray, List.set_cons_zero, List.set_cons_succ]
      refine wpAnyH_take (i := 3) (v := ?_) rfl (by kernel_rfl) (by kernel_rfl) (by kernel_rfl) (fun _ _ _ h => h) (Or.inl ⟨by rfl, ?_⟩) (by assumption) ?_
      rotate_left
      · intro W hW
        go_simp
        try rfl
      simp only [List.getElem_toArray, List.getElem_cons_succ, List.getElem_cons_zero, Act.put, List.setIfInBounds_toArray, List.set_cons_zero, List.set_cons_succ]
      refine wpAnyH_take (i := 4) (v := ?_) rfl (by kernel_rfl) (by kernel_rfl) (by kernel_rfl) (fun _ _ _ h => h) (Or.inl ⟨by rfl, ?_⟩) (by assumption) ?_
      rotate_left
      · intro W hW
        have y0 := below_cell hW c0
        go_simp
        try rfl
      simp only [List.getElem_toArray, List.getElem_cons_succ, List.getElem_cons_zero, Act.put, List.setIfInBounds_toArray, List.set_cons_zero, List.set_cons_succ]
      refine wpAnyH_ready (rs := [5]) (by kernel_rfl) (by simp) ?_
      refine AllReadyH.cons rfl (fun K hK => ?_) AllReadyH.nil
      go_simp
      refine (HBD.out _ hHeld).mono ?_
      rintro e wb1 ⟨D9, g9, rfl, hown9, hb9⟩
      have hw9 : Below w8.heap.size w8 wb1 := hHeld.trans (hb9.mono hHeld.size)
      have n9 : Reads _ _ _ _ n8 _ := Reads.of_own hown9
      clear hown9
      clear hHeld hb9
      refine hK.out _ _ hw9 (fun hHeld => ?_)
      clear hK K
      try simp only [List.getElem_toArray, List.getElem_cons_succ, List.getElem_cons_zero, Act.put, List.setIfInBounds_toArray, List.set_cons_zero, List.set_cons_succ]
      refine wpAnyH_ready (rs := [6]) (by kernel_rfl) (by simp) ?_
      refine AllReadyH.cons rfl (fun K hK => ?_) AllReadyH.nil
      go_simp
      refine (HEQ.out _ _ _ hHeld n9).mono ?_
      rintro e wb2 ⟨rfl, q9, rfl⟩
      have hw9 := below_dn hHeld q9
      clear hHeld n9
      refine hK.out _ _ hw9 (fun hHeld => ?_)
      clear hK K
      try simp only [List.getElem_toArray, List.getElem_cons_succ, List.getElem_cons_zero, Act.put, List.setIfInBounds_toArray, List.set_cons_zero, List.set_cons_succ]
      refine wpAnyH_take (i := 7) (v := ?_) rfl (by kernel_rfl) (by kernel_rfl) (by kernel_rfl) (fun _ _ _ h => h) (Or.inl ⟨by rfl, ?_⟩) (by assumption) ?_
      rotate_left
      · intro W hW
        go_simp
        try rfl
      simp only [List.getElem_toArray, List.getElem_cons_succ, List.getElem_cons_zero, Act.put, List.setIfInBounds_toArray, List.set_cons_zero, List.set_cons_succ]
      refine wpAnyH_take (i := 8) (v := ?_) rfl (by kernel_rfl) (by kernel_rfl) (by kernel_rfl) (fun _ _ _ h => h) (Or.inl ⟨by rfl, ?_⟩) (by assumption) ?_
      rotate_left
      · intro W hW
        go_simp
        try rfl
      simp only [List.getElem_toArray, List.getElem_cons_succ, List.getElem_cons_zero, Act.put, List.setIfInBounds_toArray, List.set_cons_zero, List.set_cons_succ]
      refine wpAnyH_take (i := 9) (v := ?_) rfl (by kernel_rfl) (by kernel_rfl) (by kernel_rfl) (fun _ _ _ h => h) (Or.inl ⟨by rfl, ?_⟩) (by assumption) ?_
      rotate_left
      · intro W hW
        have y0 := below_cell hW c0
        go_simp
        try rfl
      simp only [List.getElem_toArray, List.getElem_cons_succ, List.getElem_cons_zero, Act.put, List.setIfInBounds_toArray, List.set_cons_zero, List.set_cons_succ]
      refine wpAnyH_take (i := 10) (v := ?_) rfl (by kernel_rfl) (by kernel_rfl) (by kernel_rfl) (fun _ _ _ h => h) (Or.inl ⟨by rfl, ?_⟩) (by assumption) ?_
      rotate_left
      · intro W hW
        have y0 := below_cell hW e0
        go_simp
        try rfl
      simp only [List.getElem_toArray, List.getElem_cons_succ, List.getElem_cons_zero, Act.put, List.setIfInBounds_toArray, List.set_cons_zero, List.set_cons_succ]
      refine wpAnyH_ready (rs := [11]) (by kernel_rfl) (by simp) ?_
      refine AllReadyH.cons rfl (fun K hK => ?_) AllReadyH.nil
      go_simp
      refine (HOX.out _ hHeld).mono ?_
      rintro e wb3 ⟨zs, D5, k5, f5, rfl, hz5, n5, hb9⟩
      have hw9 : Below w8.heap.size w8 wb3 := hHeld.trans (hb9.mono hHeld.size)
      clear hHeld hb9
      refine hK.out _ _ hw9 (fun hHeld => ?_)
      clear hK K
      try simp only [List.getElem_toArray, List.getElem_cons_succ, List.getElem_cons_zero, Act.put, List.setIfInBounds_toArray, List.set_cons_zero, List.set_cons_succ]
      refine wpAnyH_ready (rs := [12]) (by kernel_rfl) (by simp) ?_
      refine AllReadyH.cons rfl (fun K hK => ?_) AllReadyH.nil
      go_simp
      refine (HSX.out _ _ _ _ _ hHeld n5 hz5).mono ?_
      rintro e wb4 ⟨rfl, hb9⟩
      have hw9 : Below w8.heap.size w8 wb4 := hHeld.trans (hb9.mono hHeld.size)
      clear hHeld hb9
      refine hK.out _ _ hw9 (fun hHeld => ?_)
      clear hK K
      try simp only [List.getElem_toArray, List.getElem_cons_succ, List.getElem_cons_zero, Act.put, List.setIfInBounds_toArray, List.set_cons_zero, List.set_cons_succ]
      refine wpAnyH_take (i := 13) (v := ?_) rfl (by kernel_rfl) (by kernel_rfl) (by kernel_rfl) (fun _ _ _ h => h) (Or.inl ⟨by rfl, ?_⟩) (by assumption) ?_
      rotate_left
      · intro W hW
        go_simp
        try rfl
      simp only [List.getElem_toArray, List.getElem_cons_succ, List.getElem_cons_zero, Act.put, List.setIfInBounds_toArray, List.set_cons_zero, List.set_cons_succ]
      refine wpAnyH_take (i := 14) (v := ?_) rfl (by kernel_rfl) (by kernel_rfl) (by kernel_rfl) (fun _ _ _ h => h) (Or.inl ⟨by rfl, ?_⟩) (by assumption) ?_
      rotate_left
      · intro W hW
        go_simp
        try rfl
      simp only [List.getElem_toArray, List.getElem_cons_succ, List.getElem_cons_zero, Act.put, List.setIfInBounds_toArray, List.set_cons_zero, List.set_cons_succ]
      refine wpAnyH_done (by kernel_rfl) ?_ _
      refine NoPanic.normal ?_
      have HF := hid (HB.out.trans (hHeld.mono HB.out.size))
      clear hHeld hw9 n5 hz5 c0 e0
      go_wp2_with fail
      go_ret
      exact ⟨rfl, HF.out⟩
end Go.Proofs.Ytgdnpmjmkcccoaa
