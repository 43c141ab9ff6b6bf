/- RecordTells: the walk (seat Record). -/
import Derived.Test.YtedojdbihajnbaaRefG
namespace Go.Proofs.Ytedojdbihajnbaa
open Go.RowKit Go.Shelf VB
open Go.Lib (hid)
set_option linter.unusedVariables false
set_option linter.unusedSimpArgs false
theorem own_nameE (m : Mu) : (ownM m).name.size ≤ 40 := by
  unfold ownM
  simp only [ByteArray.size_extract]
  omega
theorem set6_heap (w : World) (q : Nat) (x0 x1 x2 x3 x4 x5 : Value) (b : Nat) (h : b ≠ q) : (set6 w q x0 x1 x2 x3 x4 x5).heap[b]? = w.heap[b]? :=
  (Below.heap_setCell _ ⟨q, 5, none⟩ x5 b h).trans ((Below.heap_setCell _ ⟨q, 4, none⟩ x4 b h).trans ((Below.heap_setCell _ ⟨q, 3, none⟩ x3 b h).trans ((Below.heap_setCell _ ⟨q, 2, none⟩ x2 b h).trans ((Below.heap_setCell _ ⟨q, 1, none⟩ x1 b h).trans (Below.heap_setCell _ ⟨q, 0, none⟩ x0 b h)))))
theorem Reads.set6 {w : World} {e t : TypeId} {size n q : Nat} {A : Option Addr} {xs : List Value} (h : Reads w e size A n xs) (hq : Typed w q t) (hne : t ≠ e) (x0 x1 x2 x3 x4 x5 : Value) : Reads (set6 w q x0 x1 x2 x3 x4 x5) e size A n xs :=
  h.keep fun b hb => set6_heap w q x0 x1 x2 x3 x4 x5 b (by
    intro he
    subst he
    obtain ⟨c1, r1, h1⟩ := hb
    obtain ⟨c2, r2, h2⟩ := hq
    rw [h1] at h2
    injection h2 with h2
    injection h2 with _ h3
    exact hne h3.symm)
theorem Below.set6 {B q : Nat} {w W : World} (h : Below B w W) (hq : B ≤ q) (x0 x1 x2 x3 x4 x5 : Value) : Below B w (set6 W q x0 x1 x2 x3 x4 x5) :=
  (((((h.setCell (p := ⟨q, 0, none⟩) hq x0).setCell (p := ⟨q, 1, none⟩) hq x1).setCell (p := ⟨q, 2, none⟩) hq x2).setCell (p := ⟨q, 3, none⟩) hq x3).setCell (p := ⟨q, 4, none⟩) hq x4).setCell (p := ⟨q, 5, none⟩) hq x5
/-- the two mutations of RecordTells, in memory of their own -/
def TwoM (w0 wx : World) (x y : Mu) (gm go : Nat) : Prop :=
  ∃ D1 f1 D2 f2, Blk wx gm 24 (aM x.kind x.name x.eps x.floor x.scale (.slice D1 x.pts.length f1)) ∧ Blk wx go 24 (aM y.kind y.name y.eps y.floor y.scale (.slice D2 y.pts.length f2)) ∧ Reads wx 51 2 D1 x.pts.length (x.pts.flatMap cellsP) ∧ Reads wx 51 2 D2 y.pts.length (y.pts.flatMap cellsP) ∧ Below w0.heap.size w0 wx
set_option maxRecDepth 100000 in
set_option maxHeartbeats 8000000 in
theorem tells_core {e1 e2 : TypeId} (x y : Mu) (A B : Option Addr) (cA cB : Nat) (s : ByteArray) (w : World) (hx : Reads w e1 2 A x.pts.length (x.pts.flatMap cellsP)) (hxc : x.pts.length ≤ cA) (hxm : cA ≤ maxLen)
    (hy : Reads w e2 2 B y.pts.length (y.pts.flatMap cellsP)) (hyc : y.pts.length ≤ cB) (hym : cB ≤ maxLen) (hs : s.size ≤ maxLen) :
    Calls Try.prog 3 #[vM x A cA, vM y B cB, .string s] w (RetTrue w) := by
  have HOX := hid (fun w' (h : Below w.heap.size w w') => own_c x A cA w' (hx.below h) hxc hxm)
  have HOY := hid (fun w' (h : Below w.heap.size w w') => own_c y B cB w' (hy.below h) hyc hym)
  have KX := hid ((Blk.new w 24 (aM x.kind x.name x.eps x.floor x.scale (.slice A x.pts.length cA))).alloc (.cells (aM y.kind y.name y.eps y.floor y.scale (.slice B y.pts.length cB)) 24))
  have KY := hid (Blk.new_at (g := w.heap.size + 1) (w.alloc (.cells (aM x.kind x.name x.eps x.floor x.scale (.slice A x.pts.length cA)) 24)) 24 (aM y.kind y.name y.eps y.floor y.scale (.slice B y.pts.length cB)) (by simp))
  have HB := hid (below2' w (.cells (aM x.kind x.name x.eps x.floor x.scale (.slice A x.pts.length cA)) 24) (.cells (aM y.kind y.name y.eps y.floor y.scale (.slice B y.pts.length cB)) 24) (Below.refl _ _))
  obtain ⟨m3, hm3⟩ : ∃ m, m = min s.size 40 := ⟨_, rfl⟩
  have hmin : ∀ w, (Builtin.min_ #[3, 3] 3 #[.int .i64 (s.size : Int), .int .i64 40]).run Try.prog w = .ok (.int .i64 (m3 : Nat)) w := min_at hm3 40 rfl
  have g1 : ((m3 : Nat) : Int) ≤ (s.size : Nat) := by omega
  have g2 : m3 ≤ s.size := by omega
  have HM3 := hid (show m3 ≤ 40 by omega)
  have hsm : s.size ≤ 9223372036854775807 := by unfold maxLen at hs; omega
  clear hx hxc hxm hy hyc hym hm3 hs
  go_enter Try.func3, Try.ntmps3
  go_upto_region 1 with fail
  generalize (w.alloc (.cells (aM x.kind x.name x.eps x.floor x.scale (.slice A x.pts.length cA)) 24)).alloc (.cells (aM y.kind y.name y.eps y.floor y.scale (.slice B y.pts.length cB)) 24) = w0 at *
  go_wp2_with fail
  refine (wakes_r _).mono ?_
  rintro e w2 ⟨rfl, hb1⟩
  replace KX := hid (KX.out.under hb1)
  replace KY := hid (KY.out.under hb1)
  replace HB := hid (HB.out.trans (hb1.mono HB.out.size))
  clear hb1
  obtain ⟨c0, c1, c2, c3, c4, c5⟩ := KX.out.sixc
  obtain ⟨d0, d1, d2, d3, d4, d5⟩ := KY.out.sixc
  have h40x := own40 x
  have h40y := own40 y
  have n40x := own_nameE x
  have n40y := own_nameE y
  have HO1 := hid (fun W (h : Below w2.heap.size w2 W) => HOX.out W (HB.out.trans (h.mono HB.out.size)))
  have HO2 := hid (fun W (h : Below w2.heap.size w2 W) => HOY.out W (HB.out.trans (h.mono HB.out.size)))
  unfold RetOwn at HO1 HO2
  obtain ⟨mx, hmx⟩ : ∃ m, m = ownM x := ⟨_, rfl⟩
  obtain ⟨my, hmy⟩ : ∃ m, m = ownM y := ⟨_, rfl⟩
  rw [← hmx] at HO1 h40x n40x
  rw [← hmy] at HO2 h40y n40y
  have H40 := hid (And.intro h40x (And.intro h40y (And.intro n40x n40y)))
  clear HOX HOY h40x h40y n40x n40y hmx hmy
  go_wp2_with fail
  go_cut [7, 8] (fun u7 u8 wx => ∃ gm go : Nat, u7 = .pointer (some ⟨gm, 0, none⟩) ∧ u8 = .pointer (some ⟨go, 0, none⟩) ∧ Hid (TwoM w2 wx mx my gm go))
  case first =>
    refine wp_region_held_drew (S := (fun W => Below w2.heap.size w2 W)) (by kernel_rfl) (below_dn (Below.refl w2.heap.size w2) 1) (fun hHeld => ?_)
    refine wpAnyH_take (i := 0) (v := ?_) rfl (by kernel_rfl) (by kernel_rfl) (by kernel_rfl) (fun _ _ _ h => h) (Or.inl ⟨by rfl, ?_⟩) (by assumption) ?_
    rotate_left
    · intro W hW
      have y0 := keepc c0 hW
      have y1 := keepc c1 hW
      have y2 := keepc c2 hW
      have y3 := keepc c3 hW
      have y4 := keepc c4 hW
      have y5 := keepc c5 hW
      go_simp
      try rfl
    simp only [List.getElem_toArray, List.getElem_cons_zero, Act.put, List.setIfInBounds_toArray, List.set_cons_zero, List.set_cons_succ]
    refine wpAnyH_take (i := 2) (v := ?_) rfl (by kernel_rfl) (by kernel_rfl) (by kernel_rfl) (fun _ _ _ h => h) (Or.inl ⟨by rfl, ?_⟩) (by assumption) ?_
    rotate_left
    · intro W hW
      have y0 := keepc d0 hW
      have y1 := keepc d1 hW
      have y2 := keepc d2 hW
      have y3 := keepc d3 hW
      have y4 := keepc d4 hW
      have y5 := keepc d5 hW
      go_simp
      try rfl
    simp only [List.getElem_toArray, List.getElem_cons_succ, List.getElem_cons_zero, Act.put, List.setIfInBounds_toArray, List.set_cons_zero, List.set_cons_succ]
    clear c0 c1 c2 c3 c4 c5 d0 d1 d2 d3 d4 d5 hHeld
    have hB := below_dn (Below.refl w2.heap.size w2) 1
    change Below w2.heap.size w2 w2.drew at hB
    generalize w2.drew = wd at *
    refine wpAnyH_ready (rs := [1, 4, 5]) (by kernel_rfl) (by simp) ?_
    refine AllReadyH.cons rfl (fun K hK => ?_) (AllReadyH.cons rfl (fun K hK => ?_) (AllReadyH.cons rfl (fun K hK => ?_) AllReadyH.nil))
    · go_simp
      refine (HO1.out _ hB).mono ?_
      rintro e wn1 ⟨D1, f1, rfl, hb1, hown1⟩
      replace hB := hB.trans (hb1.mono hB.size)
      have n1 := Reads.of_own hown1
      clear hb1 hown1
      refine hK.out _ _ hB (fun hHeld => ?_)
      clear hK K hHeld
      try simp only [List.getElem_toArray, List.getElem_cons_succ, List.getElem_cons_zero, Act.put, List.setIfInBounds_toArray, List.set_cons_zero, List.set_cons_succ]
      refine wpAnyH_ready (rs := [3, 4, 5]) (by kernel_rfl) (by simp) ?_
      refine AllReadyH.cons rfl (fun K hK => ?_) (AllReadyH.cons rfl (fun K hK => ?_) (AllReadyH.cons rfl (fun K hK => ?_) AllReadyH.nil))
      · go_simp
        refine (HO2.out _ hB).mono ?_
        rintro e wn2 ⟨D2, f2, rfl, hb1, hown1⟩
        replace n1 := n1.below hb1
        replace hB := hB.trans (hb1.mono hB.size)
        have n2 := Reads.of_own hown1
        clear hb1 hown1
        refine hK.out _ _ hB (fun hHeld => ?_)
        clear hK K hHeld
        try simp only [List.getElem_toArray, List.getElem_cons_succ, List.getElem_cons_zero, Act.put, List.setIfInBounds_toArray, List.set_cons_zero, List.set_cons_succ]
        refine wpAnyH_ready (rs := [4, 5]) (by kernel_rfl) (by simp) ?_
        refine AllReadyH.cons rfl (fun K hK => ?_) (AllReadyH.cons rfl (fun K hK => ?_) AllReadyH.nil)
        · go_simp
          have k1_ := Blk.new wn2 24 #[.int .i64 0, .string ⟨#[]⟩, .int .i64 0, .int .i64 0, .int .i64 0, .slice none 0 0]
          have n1_ := n1.alloc (.cells #[.int .i64 0, .string ⟨#[]⟩, .int .i64 0, .int .i64 0, .int .i64 0, .slice none 0 0] 24)
          have n2_ := n2.alloc (.cells #[.int .i64 0, .string ⟨#[]⟩, .int .i64 0, .int .i64 0, .int .i64 0, .slice none 0 0] 24)
          have hg1 : w2.heap.size ≤ wn2.heap.size := hB.size
          have hB_ := hB.alloc hB.size (.cells #[.int .i64 0, .string ⟨#[]⟩, .int .i64 0, .int .i64 0, .int .i64 0, .slice none 0 0] 24)
          clear hB n1 n2
          generalize wn2.alloc (.cells #[.int .i64 0, .string ⟨#[]⟩, .int .i64 0, .int .i64 0, .int .i64 0, .slice none 0 0] 24) = wn3 at *
          generalize wn2.heap.size = g1 at *
          have n1 := n1_
          clear n1_
          have n2 := n2_
          clear n2_
          have k1 := k1_
          clear k1_
          have hB := hB_
          clear hB_
          refine hK.out _ _ hB (fun hHeld => ?_)
          clear hK K hHeld
          try simp only [List.getElem_toArray, List.getElem_cons_succ, List.getElem_cons_zero, Act.put, List.setIfInBounds_toArray, List.set_cons_zero, List.set_cons_succ]
          refine wpAnyH_ready (rs := [5]) (by kernel_rfl) (by simp) ?_
          refine AllReadyH.cons rfl (fun K hK => ?_) AllReadyH.nil
          go_simp
          have k2_ := Blk.new wn3 24 #[.int .i64 0, .string ⟨#[]⟩, .int .i64 0, .int .i64 0, .int .i64 0, .slice none 0 0]
          have n1_ := n1.alloc (.cells #[.int .i64 0, .string ⟨#[]⟩, .int .i64 0, .int .i64 0, .int .i64 0, .slice none 0 0] 24)
          have n2_ := n2.alloc (.cells #[.int .i64 0, .string ⟨#[]⟩, .int .i64 0, .int .i64 0, .int .i64 0, .slice none 0 0] 24)
          have k1_ := k1.alloc (.cells #[.int .i64 0, .string ⟨#[]⟩, .int .i64 0, .int .i64 0, .int .i64 0, .slice none 0 0] 24)
          have hne : g1 < wn3.heap.size := k1.lt
          have hg2 : w2.heap.size ≤ wn3.heap.size := hB.size
          have hB_ := hB.alloc hB.size (.cells #[.int .i64 0, .string ⟨#[]⟩, .int .i64 0, .int .i64 0, .int .i64 0, .slice none 0 0] 24)
          clear hB n1 n2 k1
          generalize wn3.alloc (.cells #[.int .i64 0, .string ⟨#[]⟩, .int .i64 0, .int .i64 0, .int .i64 0, .slice none 0 0] 24) = wn4 at *
          generalize wn3.heap.size = g2 at *
          have n1 := n1_
          clear n1_
          have n2 := n2_
          clear n2_
          have k1 := k1_
          clear k1_
          have k2 := k2_
          clear k2_
          have hB := hB_
          clear hB_
          refine hK.out _ _ hB (fun hHeld => ?_)
          clear hK K hHeld
          try simp only [List.getElem_toArray, List.getElem_cons_succ, List.getElem_cons_zero, Act.put, List.setIfInBounds_toArray, List.set_cons_zero, List.set_cons_succ]
          refine wpAnyH_ready (rs := [6]) (by kernel_rfl) (by simp) ?_
          refine AllReadyH.cons rfl (fun K hK => ?_) AllReadyH.nil
          obtain ⟨x0, x1, x2, x3, x4, x5⟩ := k1.sixc
          have y0 := k1.frozen 0
          have y1 := k1.frozen 1
          have y2 := k1.frozen 2
          have y3 := k1.frozen 3
          have y4 := k1.frozen 4
          have y5 := k1.frozen 5
          have y6 := k1.lt
          go_simp
          have k1_ : Blk ((((((wn4.setCell ⟨g1, 0, none⟩ (.int .i64 mx.kind)).setCell ⟨g1, 1, none⟩ (.string mx.name)).setCell ⟨g1, 2, none⟩ (.int .i64 mx.eps)).setCell ⟨g1, 3, none⟩ (.int .i64 mx.floor)).setCell ⟨g1, 4, none⟩ (.int .i64 mx.scale)).setCell ⟨g1, 5, none⟩ (.slice D1 mx.pts.length f1)) g1 24 (aM mx.kind mx.name mx.eps mx.floor mx.scale (.slice D1 mx.pts.length f1)) := Blk.all6 k1
          have k2_ : Blk ((((((wn4.setCell ⟨g1, 0, none⟩ (.int .i64 mx.kind)).setCell ⟨g1, 1, none⟩ (.string mx.name)).setCell ⟨g1, 2, none⟩ (.int .i64 mx.eps)).setCell ⟨g1, 3, none⟩ (.int .i64 mx.floor)).setCell ⟨g1, 4, none⟩ (.int .i64 mx.scale)).setCell ⟨g1, 5, none⟩ (.slice D1 mx.pts.length f1)) g2 24 _ := k2.far6 (q := g1) (by omega) (.int .i64 mx.kind) (.string mx.name) (.int .i64 mx.eps) (.int .i64 mx.floor) (.int .i64 mx.scale) (.slice D1 mx.pts.length f1)
          have n1_ := Reads.set6 n1 k1.typed (by decide) (.int .i64 mx.kind) (.string mx.name) (.int .i64 mx.eps) (.int .i64 mx.floor) (.int .i64 mx.scale) (.slice D1 mx.pts.length f1)
          change Reads ((((((wn4.setCell ⟨g1, 0, none⟩ (.int .i64 mx.kind)).setCell ⟨g1, 1, none⟩ (.string mx.name)).setCell ⟨g1, 2, none⟩ (.int .i64 mx.eps)).setCell ⟨g1, 3, none⟩ (.int .i64 mx.floor)).setCell ⟨g1, 4, none⟩ (.int .i64 mx.scale)).setCell ⟨g1, 5, none⟩ (.slice D1 mx.pts.length f1)) _ _ _ _ _ at n1_
          have n2_ := Reads.set6 n2 k1.typed (by decide) (.int .i64 mx.kind) (.string mx.name) (.int .i64 mx.eps) (.int .i64 mx.floor) (.int .i64 mx.scale) (.slice D1 mx.pts.length f1)
          change Reads ((((((wn4.setCell ⟨g1, 0, none⟩ (.int .i64 mx.kind)).setCell ⟨g1, 1, none⟩ (.string mx.name)).setCell ⟨g1, 2, none⟩ (.int .i64 mx.eps)).setCell ⟨g1, 3, none⟩ (.int .i64 mx.floor)).setCell ⟨g1, 4, none⟩ (.int .i64 mx.scale)).setCell ⟨g1, 5, none⟩ (.slice D1 mx.pts.length f1)) _ _ _ _ _ at n2_
          have hB_ : Below w2.heap.size w2 ((((((wn4.setCell ⟨g1, 0, none⟩ (.int .i64 mx.kind)).setCell ⟨g1, 1, none⟩ (.string mx.name)).setCell ⟨g1, 2, none⟩ (.int .i64 mx.eps)).setCell ⟨g1, 3, none⟩ (.int .i64 mx.floor)).setCell ⟨g1, 4, none⟩ (.int .i64 mx.scale)).setCell ⟨g1, 5, none⟩ (.slice D1 mx.pts.length f1)) := Below.set6 hB hg1 (.int .i64 mx.kind) (.string mx.name) (.int .i64 mx.eps) (.int .i64 mx.floor) (.int .i64 mx.scale) (.slice D1 mx.pts.length f1)
          clear hB k1 k2 n1 n2 x0 x1 x2 x3 x4 x5 y0 y1 y2 y3 y4 y5 y6
          generalize ((((((wn4.setCell ⟨g1, 0, none⟩ (.int .i64 mx.kind)).setCell ⟨g1, 1, none⟩ (.string mx.name)).setCell ⟨g1, 2, none⟩ (.int .i64 mx.eps)).setCell ⟨g1, 3, none⟩ (.int .i64 mx.floor)).setCell ⟨g1, 4, none⟩ (.int .i64 mx.scale)).setCell ⟨g1, 5, none⟩ (.slice D1 mx.pts.length f1)) = wn5 at *
          have n1 := n1_
          clear n1_
          have n2 := n2_
          clear n2_
          have k1 := k1_
          clear k1_
          have k2 := k2_
          clear k2_
          have hB := hB_
          clear hB_
          refine hK.out _ _ hB (fun hHeld => ?_)
          clear hK K hHeld
          try simp only [List.getElem_toArray, List.getElem_cons_succ, List.getElem_cons_zero, Act.put, List.setIfInBounds_toArray, List.set_cons_zero, List.set_cons_succ]
          refine wpAnyH_ready (rs := [7]) (by kernel_rfl) (by simp) ?_
          refine AllReadyH.cons rfl (fun K hK => ?_) AllReadyH.nil
          obtain ⟨x0, x1, x2, x3, x4, x5⟩ := k2.sixc
          have y0 := k2.frozen 0
          have y1 := k2.frozen 1
          have y2 := k2.frozen 2
          have y3 := k2.frozen 3
          have y4 := k2.frozen 4
          have y5 := k2.frozen 5
          have y6 := k2.lt
          go_simp
          have k2_ : Blk ((((((wn5.setCell ⟨g2, 0, none⟩ (.int .i64 my.kind)).setCell ⟨g2, 1, none⟩ (.string my.name)).setCell ⟨g2, 2, none⟩ (.int .i64 my.eps)).setCell ⟨g2, 3, none⟩ (.int .i64 my.floor)).setCell ⟨g2, 4, none⟩ (.int .i64 my.scale)).setCell ⟨g2, 5, none⟩ (.slice D2 my.pts.length f2)) g2 24 (aM my.kind my.name my.eps my.floor my.scale (.slice D2 my.pts.length f2)) := Blk.all6 k2
          have k1_ : Blk ((((((wn5.setCell ⟨g2, 0, none⟩ (.int .i64 my.kind)).setCell ⟨g2, 1, none⟩ (.string my.name)).setCell ⟨g2, 2, none⟩ (.int .i64 my.eps)).setCell ⟨g2, 3, none⟩ (.int .i64 my.floor)).setCell ⟨g2, 4, none⟩ (.int .i64 my.scale)).setCell ⟨g2, 5, none⟩ (.slice D2 my.pts.length f2)) g1 24 _ := k1.far6 (q := g2) (by omega) (.int .i64 my.kind) (.string my.name) (.int .i64 my.eps) (.int .i64 my.floor) (.int .i64 my.scale) (.slice D2 my.pts.length f2)
          have n1_ := Reads.set6 n1 k2.typed (by decide) (.int .i64 my.kind) (.string my.name) (.int .i64 my.eps) (.int .i64 my.floor) (.int .i64 my.scale) (.slice D2 my.pts.length f2)
          change Reads ((((((wn5.setCell ⟨g2, 0, none⟩ (.int .i64 my.kind)).setCell ⟨g2, 1, none⟩ (.string my.name)).setCell ⟨g2, 2, none⟩ (.int .i64 my.eps)).setCell ⟨g2, 3, none⟩ (.int .i64 my.floor)).setCell ⟨g2, 4, none⟩ (.int .i64 my.scale)).setCell ⟨g2, 5, none⟩ (.slice D2 my.pts.length f2)) _ _ _ _ _ at n1_
          have n2_ := Reads.set6 n2 k2.typed (by decide) (.int .i64 my.kind) (.string my.name) (.int .i64 my.eps) (.int .i64 my.floor) (.int .i64 my.scale) (.slice D2 my.pts.length f2)
          change Reads ((((((wn5.setCell ⟨g2, 0, none⟩ (.int .i64 my.kind)).setCell ⟨g2, 1, none⟩ (.string my.name)).setCell ⟨g2, 2, none⟩ (.int .i64 my.eps)).setCell ⟨g2, 3, none⟩ (.int .i64 my.floor)).setCell ⟨g2, 4, none⟩ (.int .i64 my.scale)).setCell ⟨g2, 5, none⟩ (.slice D2 my.pts.length f2)) _ _ _ _ _ at n2_
          have hB_ : Below w2.heap.size w2 ((((((wn5.setCell ⟨g2, 0, none⟩ (.int .i64 my.kind)).setCell ⟨g2, 1, none⟩ (.string my.name)).setCell ⟨g2, 2, none⟩ (.int .i64 my.eps)).setCell ⟨g2, 3, none⟩ (.int .i64 my.floor)).setCell ⟨g2, 4, none⟩ (.int .i64 my.scale)).setCell ⟨g2, 5, none⟩ (.slice D2 my.pts.length f2)) := Below.set6 hB hg2 (.int .i64 my.kind) (.string my.name) (.int .i64 my.eps) (.int .i64 my.floor) (.int .i64 my.scale) (.slice D2 my.pts.length f2)
          clear hB k1 k2 n1 n2 x0 x1 x2 x3 x4 x5 y0 y1 y2 y3 y4 y5 y6
          generalize ((((((wn5.setCell ⟨g2, 0, none⟩ (.int .i64 my.kind)).setCell ⟨g2, 1, none⟩ (.string my.name)).setCell ⟨g2, 2, none⟩ (.int .i64 my.eps)).setCell ⟨g2, 3, none⟩ (.int .i64 my.floor)).setCell ⟨g2, 4, none⟩ (.int .i64 my.scale)).setCell ⟨g2, 5, none⟩ (.slice D2 my.pts.length f2)) = wn6 at *
          have n1 := n1_
          clear n1_
          have n2 := n2_
          clear n2_
          have k1 := k1_
          clear k1_
          have k2 := k2_
          clear k2_
          have hB := hB_
          clear hB_
          refine hK.out _ _ hB (fun hHeld => ?_)
          clear hK K hHeld
          try simp only [List.getElem_toArray, List.getElem_cons_succ, List.getElem_cons_zero, Act.put, List.setIfInBounds_toArray, List.set_cons_zero, List.set_cons_succ]
          refine wpAnyH_done (by kernel_rfl) ?_ _
          go_wp2_with fail
          go_meet
          exact ⟨g1, g2, rfl, rfl, hid ⟨D1, f1, D2, f2, k1, k2, n1, n2, hB⟩⟩
        · go_simp
          have k2_ := Blk.new wn2 24 #[.int .i64 0, .string ⟨#[]⟩, .int .i64 0, .int .i64 0, .int .i64 0, .slice none 0 0]
          have n1_ := n1.alloc (.cells #[.int .i64 0, .string ⟨#[]⟩, .int .i64 0, .int .i64 0, .int .i64 0, .slice none 0 0] 24)
          have n2_ := n2.alloc (.cells #[.int .i64 0, .string ⟨#[]⟩, .int .i64 0, .int .i64 0, .int .i64 0, .slice none 0 0] 24)
          have hg2 : w2.heap.size ≤ wn2.heap.size := hB.size
          have hB_ := hB.alloc hB.size (.cells #[.int .i64 0, .string ⟨#[]⟩, .int .i64 0, .int .i64 0, .int .i64 0, .slice none 0 0] 24)
          clear hB n1 n2
          generalize wn2.alloc (.cells #[.int .i64 0, .string ⟨#[]⟩, .int .i64 0, .int .i64 0, .int .i64 0, .slice none 0 0] 24) = wn7 at *
          generalize wn2.heap.size = g2 at *
          have n1 := n1_
          clear n1_
          have n2 := n2_
          clear n2_
          have k2 := k2_
          clear k2_
          have hB := hB_
          clear hB_
          refine hK.out _ _ hB (fun hHeld => ?_)
          clear hK K hHeld
          try simp only [List.getElem_toArray, List.getElem_cons_succ, List.getElem_cons_zero, Act.put, List.setIfInBounds_toArray, List.set_cons_zero, List.set_cons_succ]
          refine wpAnyH_ready (rs := [4]) (by kernel_rfl) (by simp) ?_
          refine AllReadyH.cons rfl (fun K hK => ?_) AllReadyH.nil
          go_simp
          have k1_ := Blk.new wn7 24 #[.int .i64 0, .string ⟨#[]⟩, .int .i64 0, .int .i64 0, .int .i64 0, .slice none 0 0]
          have n1_ := n1.alloc (.cells #[.int .i64 0, .string ⟨#[]⟩, .int .i64 0, .int .i64 0, .int .i64 0, .slice none 0 0] 24)
          have n2_ := n2.alloc (.cells #[.int .i64 0, .string ⟨#[]⟩, .int .i64 0, .int .i64 0, .int .i64 0, .slice none 0 0] 24)
          have k2_ := k2.alloc (.cells #[.int .i64 0, .string ⟨#[]⟩, .int .i64 0, .int .i64 0, .int .i64 0, .slice none 0 0] 24)
          have hne : g2 < wn7.heap.size := k2.lt
          have hg1 : w2.heap.size ≤ wn7.heap.size := hB.size
          have hB_ := hB.alloc hB.size (.cells #[.int .i64 0, .string ⟨#[]⟩, .int .i64 0, .int .i64 0, .int .i64 0, .slice none 0 0] 24)
          clear hB n1 n2 k2
          generalize wn7.alloc (.cells #[.int .i64 0, .string ⟨#[]⟩, .int .i64 0, .int .i64 0, .int .i64 0, .slice none 0 0] 24) = wn8 at *
          generalize wn7.heap.size = g1 at *
          have n1 := n1_
          clear n1_
          have n2 := n2_
          clear n2_
          have k2 := k2_
          clear k2_
          have k1 := k1_
          clear k1_
          have hB := hB_
          clear hB_
          refine hK.out _ _ hB (fun hHeld => ?_)
          clear hK K hHeld
          try simp only [List.getElem_toArray, List.getElem_cons_succ, List.getElem_cons_zero, Act.put, List.setIfInBounds_toArray, List.set_cons_zero, List.set_cons_succ]
          refine wpAnyH_ready (rs := [6]) (by kernel_rfl) (by simp) ?_
          refine AllReadyH.cons rfl (fun K hK => ?_) AllReadyH.nil
          obtain ⟨x0, x1, x2, x3, x4, x5⟩ := k1.sixc
          have y0 := k1.frozen 0
          have y1 := k1.frozen 1
          have y2 := k1.frozen 2
          have y3 := k1.frozen 3
          have y4 := k1.frozen 4
          have y5 := k1.frozen 5
          have y6 := k1.lt
          go_simp
          have k1_ : Blk ((((((wn8.setCell ⟨g1, 0, none⟩ (.int .i64 mx.kind)).setCell ⟨g1, 1, none⟩ (.string mx.name)).setCell ⟨g1, 2, none⟩ (.int .i64 mx.eps)).setCell ⟨g1, 3, none⟩ (.int .i64 mx.floor)).setCell ⟨g1, 4, none⟩ (.int .i64 mx.scale)).setCell ⟨g1, 5, none⟩ (.slice D1 mx.pts.length f1)) g1 24 (aM mx.kind mx.name mx.eps mx.floor mx.scale (.slice D1 mx.pts.length f1)) := Blk.all6 k1
          have k2_ : Blk ((((((wn8.setCell ⟨g1, 0, none⟩ (.int .i64 mx.kind)).setCell ⟨g1, 1, none⟩ (.string mx.name)).setCell ⟨g1, 2, none⟩ (.int .i64 mx.eps)).setCell ⟨g1, 3, none⟩ (.int .i64 mx.floor)).setCell ⟨g1, 4, none⟩ (.int .i64 mx.scale)).setCell ⟨g1, 5, none⟩ (.slice D1 mx.pts.length f1)) g2 24 _ := k2.far6 (q := g1) (by omega) (.int .i64 mx.kind) (.string mx.name) (.int .i64 mx.eps) (.int .i64 mx.floor) (.int .i64 mx.scale) (.slice D1 mx.pts.length f1)
          have n1_ := Reads.set6 n1 k1.typed (by decide) (.int .i64 mx.kind) (.string mx.name) (.int .i64 mx.eps) (.int .i64 mx.floor) (.int .i64 mx.scale) (.slice D1 mx.pts.length f1)
          change Reads ((((((wn8.setCell ⟨g1, 0, none⟩ (.int .i64 mx.kind)).setCell ⟨g1, 1, none⟩ (.string mx.name)).setCell ⟨g1, 2, none⟩ (.int .i64 mx.eps)).setCell ⟨g1, 3, none⟩ (.int .i64 mx.floor)).setCell ⟨g1, 4, none⟩ (.int .i64 mx.scale)).setCell ⟨g1, 5, none⟩ (.slice D1 mx.pts.length f1)) _ _ _ _ _ at n1_
          have n2_ := Reads.set6 n2 k1.typed (by decide) (.int .i64 mx.kind) (.string mx.name) (.int .i64 mx.eps) (.int .i64 mx.floor) (.int .i64 mx.scale) (.slice D1 mx.pts.length f1)
          change Reads ((((((wn8.setCell ⟨g1, 0, none⟩ (.int .i64 mx.kind)).setCell ⟨g1, 1, none⟩ (.string mx.name)).setCell ⟨g1, 2, none⟩ (.int .i64 mx.eps)).setCell ⟨g1, 3, none⟩ (.int .i64 mx.floor)).setCell ⟨g1, 4, none⟩ (.int .i64 mx.scale)).setCell ⟨g1, 5, none⟩ (.slice D1 mx.pts.length f1)) _ _ _ _ _ at n2_
          have hB_ : Below w2.heap.size w2 ((((((wn8.setCell ⟨g1, 0, none⟩ (.int .i64 mx.kind)).setCell ⟨g1, 1, none⟩ (.string mx.name)).setCell ⟨g1, 2, none⟩ (.int .i64 mx.eps)).setCell ⟨g1, 3, none⟩ (.int .i64 mx.floor)).setCell ⟨g1, 4, none⟩ (.int .i64 mx.scale)).setCell ⟨g1, 5, none⟩ (.slice D1 mx.pts.length f1)) := Below.set6 hB hg1 (.int .i64 mx.kind) (.string mx.name) (.int .i64 mx.eps) (.int .i64 mx.floor) (.int .i64 mx.scale) (.slice D1 mx.pts.length f1)
          clear hB k1 k2 n1 n2 x0 x1 x2 x3 x4 x5 y0 y1 y2 y3 y4 y5 y6
          generalize ((((((wn8.setCell ⟨g1, 0, none⟩ (.int .i64 mx.kind)).setCell ⟨g1, 1, none⟩ (.string mx.name)).setCell ⟨g1, 2, none⟩ (.int .i64 mx.eps)).setCell ⟨g1, 3, none⟩ (.int .i64 mx.floor)).setCell ⟨g1, 4, none⟩ (.int .i64 mx.scale)).setCell ⟨g1, 5, none⟩ (.slice D1 mx.pts.length f1)) = wn9 at *
          have n1 := n1_
          clear n1_
          have n2 := n2_
          clear n2_
          have k1 := k1_
          clear k1_
          have k2 := k2_
          clear k2_
          have hB := hB_
          clear hB_
          refine hK.out _ _ hB (fun hHeld => ?_)
          clear hK K hHeld
          try simp only [List.getElem_toArray, List.getElem_cons_succ, List.getElem_cons_zero, Act.put, List.setIfInBounds_toArray, List.set_cons_zero, List.set_cons_succ]
          refine wpAnyH_ready (rs := [7]) (by kernel_rfl) (by simp) ?_
          refine AllReadyH.cons rfl (fun K hK => ?_) AllReadyH.nil
          obtain ⟨x0, x1, x2, x3, x4, x5⟩ := k2.sixc
          have y0 := k2.frozen 0
          have y1 := k2.frozen 1
          have y2 := k2.frozen 2
          have y3 := k2.frozen 3
          have y4 := k2.frozen 4
          have y5 := k2.frozen 5
          have y6 := k2.lt
          go_simp
          have k2_ : Blk ((((((wn9.setCell ⟨g2, 0, none⟩ (.int .i64 my.kind)).setCell ⟨g2, 1, none⟩ (.string my.name)).setCell ⟨g2, 2, none⟩ (.int .i64 my.eps)).setCell ⟨g2, 3, none⟩ (.int .i64 my.floor)).setCell ⟨g2, 4, none⟩ (.int .i64 my.scale)).setCell ⟨g2, 5, none⟩ (.slice D2 my.pts.length f2)) g2 24 (aM my.kind my.name my.eps my.floor my.scale (.slice D2 my.pts.length f2)) := Blk.all6 k2
          have k1_ : Blk ((((((wn9.setCell ⟨g2, 0, none⟩ (.int .i64 my.kind)).setCell ⟨g2, 1, none⟩ (.string my.name)).setCell ⟨g2, 2, none⟩ (.int .i64 my.eps)).setCell ⟨g2, 3, none⟩ (.int .i64 my.floor)).setCell ⟨g2, 4, none⟩ (.int .i64 my.scale)).setCell ⟨g2, 5, none⟩ (.slice D2 my.pts.length f2)) g1 24 _ := k1.far6 (q := g2) (by omega) (.int .i64 my.kind) (.string my.name) (.int .i64 my.eps) (.int .i64 my.floor) (.int .i64 my.scale) (.slice D2 my.pts.length f2)
          have n1_ := Reads.set6 n1 k2.typed (by decide) (.int .i64 my.kind) (.string my.name) (.int .i64 my.eps) (.int .i64 my.floor) (.int .i64 my.scale) (.slice D2 my.pts.length f2)
          change Reads ((((((wn9.setCell ⟨g2, 0, none⟩ (.int .i64 my.kind)).setCell ⟨g2, 1, none⟩ (.string my.name)).setCell ⟨g2, 2, none⟩ (.int .i64 my.eps)).setCell ⟨g2, 3, none⟩ (.int .i64 my.floor)).setCell ⟨g2, 4, none⟩ (.int .i64 my.scale)).setCell ⟨g2, 5, none⟩ (.slice D2 my.pts.length f2)) _ _ _ _ _ at n1_
          have n2_ := Reads.set6 n2 k2.typed (by decide) (.int .i64 my.kind) (.string my.name) (.int .i64 my.eps) (.int .i64 my.floor) (.int .i64 my.scale) (.slice D2 my.pts.length f2)
          change Reads ((((((wn9.setCell ⟨g2, 0, none⟩ (.int .i64 my.kind)).setCell ⟨g2, 1, none⟩ (.string my.name)).setCell ⟨g2, 2, none⟩ (.int .i64 my.eps)).setCell ⟨g2, 3, none⟩ (.int .i64 my.floor)).setCell ⟨g2, 4, none⟩ (.int .i64 my.scale)).setCell ⟨g2, 5, none⟩ (.slice D2 my.pts.length f2)) _ _ _ _ _ at n2_
          have hB_ : Below w2.heap.size w2 ((((((wn9.setCell ⟨g2, 0, none⟩ (.int .i64 my.kind)).setCell ⟨g2, 1, none⟩ (.string my.name)).setCell ⟨g2, 2, none⟩ (.int .i64 my.eps)).setCell ⟨g2, 3, none⟩ (.int .i64 my.floor)).setCell ⟨g2, 4, none⟩ (.int .i64 my.scale)).setCell ⟨g2, 5, none⟩ (.slice D2 my.pts.length f2)) := Below.set6 hB hg2 (.int .i64 my.kind) (.string my.name) (.int .i64 my.eps) (.int .i64 my.floor) (.int .i64 my.scale) (.slice D2 my.pts.length f2)
          clear hB k1 k2 n1 n2 x0 x1 x2 x3 x4 x5 y0 y1 y2 y3 y4 y5 y6
          generalize ((((((wn9.setCell ⟨g2, 0, none⟩ (.int .i64 my.kind)).setCell ⟨g2, 1, none⟩ (.string my.name)).setCell ⟨g2, 2, none⟩ (.int .i64 my.eps)).setCell ⟨g2, 3, none⟩ (.int .i64 my.floor)).setCell ⟨g2, 4, none⟩ (.int .i64 my.scale)).setCell ⟨g2, 5, none⟩ (.slice D2 my.pts.length f2)) = wn10 at *
          have n1 := n1_
          clear n1_
          have n2 := n2_
          clear n2_
          have k1 := k1_
          clear k1_
          have k2 := k2_
          clear k2_
          have hB := hB_
          clear hB_
          refine hK.out _ _ hB (fun hHeld => ?_)
          clear hK K hHeld
          try simp only [List.getElem_toArray, List.getElem_cons_succ, List.getElem_cons_zero, Act.put, List.setIfInBounds_toArray, List.set_cons_zero, List.set_cons_succ]
          refine wpAnyH_done (by kernel_rfl) ?_ _
          go_wp2_with fail
          go_meet
          exact ⟨g1, g2, rfl, rfl, hid ⟨D1, f1, D2, f2, k1, k2, n1, n2, hB⟩⟩
      · go_simp
        have k1_ := Blk.new wn1 24 #[.int .i64 0, .string ⟨#[]⟩, .int .i64 0, .int .i64 0, .int .i64 0, .slice none 0 0]
        have n1_ := n1.alloc (.cells #[.int .i64 0, .string ⟨#[]⟩, .int .i64 0, .int .i64 0, .int .i64 0, .slice none 0 0] 24)
        have hg1 : w2.heap.size ≤ wn1.heap.size := hB.size
        have hB_ := hB.alloc hB.size (.cells #[.int .i64 0, .string ⟨#[]⟩, .int .i64 0, .int .i64 0, .int .i64 0, .slice none 0 0] 24)
        clear hB n1
        generalize wn1.alloc (.cells #[.int .i64 0, .string ⟨#[]⟩, .int .i64 0, .int .i64 0, .int .i64 0, .slice none 0 0] 24) = wn11 at *
        generalize wn1.heap.size = g1 at *
        have n1 := n1_
        clear n1_
        have k1 := k1_
        clear k1_
        have hB := hB_
        clear hB_
        refine hK.out _ _ hB (fun hHeld => ?_)
        clear hK K hHeld
        try simp only [List.getElem_toArray, List.getElem_cons_succ, List.getElem_cons_zero, Act.put, List.setIfInBounds_toArray, List.set_cons_zero, List.set_cons_succ]
        refine wpAnyH_ready (rs := [3, 5]) (by kernel_rfl) (by simp) ?_
        refine AllReadyH.cons rfl (fun K hK => ?_) (AllReadyH.cons rfl (fun K hK => ?_) AllReadyH.nil)
        · go_simp
          refine (HO2.out _ hB).mono ?_
          rintro e wn12 ⟨D2, f2, rfl, hb1, hown1⟩
          replace n1 := n1.below hb1
          replace k1 := k1.under hb1
          replace hB := hB.trans (hb1.mono hB.size)
          have n2 := Reads.of_own hown1
          clear hb1 hown1
          refine hK.out _ _ hB (fun hHeld => ?_)
          clear hK K hHeld
          try simp only [List.getElem_toArray, List.getElem_cons_succ, List.getElem_cons_zero, Act.put, List.setIfInBounds_toArray, List.set_cons_zero, List.set_cons_succ]
          refine wpAnyH_ready (rs := [5]) (by kernel_rfl) (by simp) ?_
          refine AllReadyH.cons rfl (fun K hK => ?_) AllReadyH.nil
          go_simp
          have k2_ := Blk.new wn12 24 #[.int .i64 0, .string ⟨#[]⟩, .int .i64 0, .int .i64 0, .int .i64 0, .slice none 0 0]
          have n1_ := n1.alloc (.cells #[.int .i64 0, .string ⟨#[]⟩, .int .i64 0, .int .i64 0, .int .i64 0, .slice none 0 0] 24)
          have n2_ := n2.alloc (.cells #[.int .i64 0, .string ⟨#[]⟩, .int .i64 0, .int .i64 0, .int .i64 0, .slice none 0 0] 24)
          have k1_ := k1.alloc (.cells #[.int .i64 0, .string ⟨#[]⟩, .int .i64 0, .int .i64 0, .int .i64 0, .slice none 0 0] 24)
          have hne : g1 < wn12.heap.size := k1.lt
          have hg2 : w2.heap.size ≤ wn12.heap.size := hB.size
          have hB_ := hB.alloc hB.size (.cells #[.int .i64 0, .string ⟨#[]⟩, .int .i64 0, .int .i64 0, .int .i64 0, .slice none 0 0] 24)
          clear hB n1 n2 k1
          generalize wn12.alloc (.cells #[.int .i64 0, .string ⟨#[]⟩, .int .i64 0, .int .i64 0, .int .i64 0, .slice none 0 0] 24) = wn13 at *
          generalize wn12.heap.size = g2 at *
          have n1 := n1_
          clear n1_
          have n2 := n2_
          clear n2_
          have k1 := k1_
          clear k1_
          have k2 := k2_
          clear k2_
          have hB := hB_
          clear hB_
          refine hK.out _ _ hB (fun hHeld => ?_)
          clear hK K hHeld
          try simp only [List.getElem_toArray, List.getElem_cons_succ, List.getElem_cons_zero, Act.put, List.setIfInBounds_toArray, List.set_cons_zero, List.set_cons_succ]
          refine wpAnyH_ready (rs := [6]) (by kernel_rfl) (by simp) ?_
          refine AllReadyH.cons rfl (fun K hK => ?_) AllReadyH.nil
          obtain ⟨x0, x1, x2, x3, x4, x5⟩ := k1.sixc
          have y0 := k1.frozen 0
          have y1 := k1.frozen 1
          have y2 := k1.frozen 2
          have y3 := k1.frozen 3
          have y4 := k1.frozen 4
          have y5 := k1.frozen 5
          have y6 := k1.lt
          go_simp
          have k1_ : Blk ((((((wn13.setCell ⟨g1, 0, none⟩ (.int .i64 mx.kind)).setCell ⟨g1, 1, none⟩ (.string mx.name)).setCell ⟨g1, 2, none⟩ (.int .i64 mx.eps)).setCell ⟨g1, 3, none⟩ (.int .i64 mx.floor)).setCell ⟨g1, 4, none⟩ (.int .i64 mx.scale)).setCell ⟨g1, 5, none⟩ (.slice D1 mx.pts.length f1)) g1 24 (aM mx.kind mx.name mx.eps mx.floor mx.scale (.slice D1 mx.pts.length f1)) := Blk.all6 k1
          have k2_ : Blk ((((((wn13.setCell ⟨g1, 0, none⟩ (.int .i64 mx.kind)).setCell ⟨g1, 1, none⟩ (.string mx.name)).setCell ⟨g1, 2, none⟩ (.int .i64 mx.eps)).setCell ⟨g1, 3, none⟩ (.int .i64 mx.floor)).setCell ⟨g1, 4, none⟩ (.int .i64 mx.scale)).setCell ⟨g1, 5, none⟩ (.slice D1 mx.pts.length f1)) g2 24 _ := k2.far6 (q := g1) (by omega) (.int .i64 mx.kind) (.string mx.name) (.int .i64 mx.eps) (.int .i64 mx.floor) (.int .i64 mx.scale) (.slice D1 mx.pts.length f1)
          have n1_ := Reads.set6 n1 k1.typed (by decide) (.int .i64 mx.kind) (.string mx.name) (.int .i64 mx.eps) (.int .i64 mx.floor) (.int .i64 mx.scale) (.slice D1 mx.pts.length f1)
          change Reads ((((((wn13.setCell ⟨g1, 0, none⟩ (.int .i64 mx.kind)).setCell ⟨g1, 1, none⟩ (.string mx.name)).setCell ⟨g1, 2, none⟩ (.int .i64 mx.eps)).setCell ⟨g1, 3, none⟩ (.int .i64 mx.floor)).setCell ⟨g1, 4, none⟩ (.int .i64 mx.scale)).setCell ⟨g1, 5, none⟩ (.slice D1 mx.pts.length f1)) _ _ _ _ _ at n1_
          have n2_ := Reads.set6 n2 k1.typed (by decide) (.int .i64 mx.kind) (.string mx.name) (.int .i64 mx.eps) (.int .i64 mx.floor) (.int .i64 mx.scale) (.slice D1 mx.pts.length f1)
          change Reads ((((((wn13.setCell ⟨g1, 0, none⟩ (.int .i64 mx.kind)).setCell ⟨g1, 1, none⟩ (.string mx.name)).setCell ⟨g1, 2, none⟩ (.int .i64 mx.eps)).setCell ⟨g1, 3, none⟩ (.int .i64 mx.floor)).setCell ⟨g1, 4, none⟩ (.int .i64 mx.scale)).setCell ⟨g1, 5, none⟩ (.slice D1 mx.pts.length f1)) _ _ _ _ _ at n2_
          have hB_ : Below w2.heap.size w2 ((((((wn13.setCell ⟨g1, 0, none⟩ (.int .i64 mx.kind)).setCell ⟨g1, 1, none⟩ (.string mx.name)).setCell ⟨g1, 2, none⟩ (.int .i64 mx.eps)).setCell ⟨g1, 3, none⟩ (.int .i64 mx.floor)).setCell ⟨g1, 4, none⟩ (.int .i64 mx.scale)).setCell ⟨g1, 5, none⟩ (.slice D1 mx.pts.length f1)) := Below.set6 hB hg1 (.int .i64 mx.kind) (.string mx.name) (.int .i64 mx.eps) (.int .i64 mx.floor) (.int .i64 mx.scale) (.slice D1 mx.pts.length f1)
          clear hB k1 k2 n1 n2 x0 x1 x2 x3 x4 x5 y0 y1 y2 y3 y4 y5 y6
          generalize ((((((wn13.setCell ⟨g1, 0, none⟩ (.int .i64 mx.kind)).setCell ⟨g1, 1, none⟩ (.string mx.name)).setCell ⟨g1, 2, none⟩ (.int .i64 mx.eps)).setCell ⟨g1, 3, none⟩ (.int .i64 mx.floor)).setCell ⟨g1, 4, none⟩ (.int .i64 mx.scale)).setCell ⟨g1, 5, none⟩ (.slice D1 mx.pts.length f1)) = wn14 at *
          have n1 := n1_
          clear n1_
          have n2 := n2_
          clear n2_
          have k1 := k1_
          clear k1_
          have k2 := k2_
          clear k2_
          have hB := hB_
          clear hB_
          refine hK.out _ _ hB (fun hHeld => ?_)
          clear hK K hHeld
          try simp only [List.getElem_toArray, List.getElem_cons_succ, List.getElem_cons_zero, Act.put, List.setIfInBounds_toArray, List.set_cons_zero, List.set_cons_succ]
          refine wpAnyH_ready (rs := [7]) (by kernel_rfl) (by simp) ?_
          refine AllReadyH.cons rfl (fun K hK => ?_) AllReadyH.nil
          obtain ⟨x0, x1, x2, x3, x4, x5⟩ := k2.sixc
          have y0 := k2.frozen 0
          have y1 := k2.frozen 1
          have y2 := k2.frozen 2
          have y3 := k2.frozen 3
          have y4 := k2.frozen 4
          have y5 := k2.frozen 5
          have y6 := k2.lt
          go_simp
          have k2_ : Blk ((((((wn14.setCell ⟨g2, 0, none⟩ (.int .i64 my.kind)).setCell ⟨g2, 1, none⟩ (.string my.name)).setCell ⟨g2, 2, none⟩ (.int .i64 my.eps)).setCell ⟨g2, 3, none⟩ (.int .i64 my.floor)).setCell ⟨g2, 4, none⟩ (.int .i64 my.scale)).setCell ⟨g2, 5, none⟩ (.slice D2 my.pts.length f2)) g2 24 (aM my.kind my.name my.eps my.floor my.scale (.slice D2 my.pts.length f2)) := Blk.all6 k2
          have k1_ : Blk ((((((wn14.setCell ⟨g2, 0, none⟩ (.int .i64 my.kind)).setCell ⟨g2, 1, none⟩ (.string my.name)).setCell ⟨g2, 2, none⟩ (.int .i64 my.eps)).setCell ⟨g2, 3, none⟩ (.int .i64 my.floor)).setCell ⟨g2, 4, none⟩ (.int .i64 my.scale)).setCell ⟨g2, 5, none⟩ (.slice D2 my.pts.length f2)) g1 24 _ := k1.far6 (q := g2) (by omega) (.int .i64 my.kind) (.string my.name) (.int .i64 my.eps) (.int .i64 my.floor) (.int .i64 my.scale) (.slice D2 my.pts.length f2)
          have n1_ := Reads.set6 n1 k2.typed (by decide) (.int .i64 my.kind) (.string my.name) (.int .i64 my.eps) (.int .i64 my.floor) (.int .i64 my.scale) (.slice D2 my.pts.length f2)
          change Reads ((((((wn14.setCell ⟨g2, 0, none⟩ (.int .i64 my.kind)).setCell ⟨g2, 1, none⟩ (.string my.name)).setCell ⟨g2, 2, none⟩ (.int .i64 my.eps)).setCell ⟨g2, 3, none⟩ (.int .i64 my.floor)).setCell ⟨g2, 4, none⟩ (.int .i64 my.scale)).setCell ⟨g2, 5, none⟩ (.slice D2 my.pts.length f2)) _ _ _ _ _ at n1_
          have n2_ := Reads.set6 n2 k2.typed (by decide) (.int .i64 my.kind) (.string my.name) (.int .i64 my.eps) (.int .i64 my.floor) (.int .i64 my.scale) (.slice D2 my.pts.length f2)
          change Reads ((((((wn14.setCell ⟨g2, 0, none⟩ (.int .i64 my.kind)).setCell ⟨g2, 1, none⟩ (.string my.name)).setCell ⟨g2, 2, none⟩ (.int .i64 my.eps)).setCell ⟨g2, 3, none⟩ (.int .i64 my.floor)).setCell ⟨g2, 4, none⟩ (.int .i64 my.scale)).setCell ⟨g2, 5, none⟩ (.slice D2 my.pts.length f2)) _ _ _ _ _ at n2_
          have hB_ : Below w2.heap.size w2 ((((((wn14.setCell ⟨g2, 0, none⟩ (.int .i64 my.kind)).setCell ⟨g2, 1, none⟩ (.string my.name)).setCell ⟨g2, 2, none⟩ (.int .i64 my.eps)).setCell ⟨g2, 3, none⟩ (.int .i64 my.floor)).setCell ⟨g2, 4, none⟩ (.int .i64 my.scale)).setCell ⟨g2, 5, none⟩ (.slice D2 my.pts.length f2)) := Below.set6 hB hg2 (.int .i64 my.kind) (.string my.name) (.int .i64 my.eps) (.int .i64 my.floor) (.int .i64 my.scale) (.slice D2 my.pts.length f2)
          clear hB k1 k2 n1 n2 x0 x1 x2 x3 x4 x5 y0 y1 y2 y3 y4 y5 y6
          generalize ((((((wn14.setCell ⟨g2, 0, none⟩ (.int .i64 my.kind)).setCell ⟨g2, 1, none⟩ (.string my.name)).setCell ⟨g2, 2, none⟩ (.int .i64 my.eps)).setCell ⟨g2, 3, none⟩ (.int .i64 my.floor)).setCell ⟨g2, 4, none⟩ (.int .i64 my.scale)).setCell ⟨g2, 5, none⟩ (.slice D2 my.pts.length f2)) = wn15 at *
          have n1 := n1_
          clear n1_
          have n2 := n2_
          clear n2_
          have k1 := k1_
          clear k1_
          have k2 := k2_
          clear k2_
          have hB := hB_
          clear hB_
          refine hK.out _ _ hB (fun hHeld => ?_)
          clear hK K hHeld
          try simp only [List.getElem_toArray, List.getElem_cons_succ, List.getElem_cons_zero, Act.put, List.setIfInBounds_toArray, List.set_cons_zero, List.set_cons_succ]
          refine wpAnyH_done (by kernel_rfl) ?_ _
          go_wp2_with fail
          go_meet
          exact ⟨g1, g2, rfl, rfl, hid ⟨D1, f1, D2, f2, k1, k2, n1, n2, hB⟩⟩
        · go_simp
          have k2_ := Blk.new wn11 24 #[.int .i64 0, .string ⟨#[]⟩, .int .i64 0, .int .i64 0, .int .i64 0, .slice none 0 0]
          have n1_ := n1.alloc (.cells #[.int .i64 0, .string ⟨#[]⟩, .int .i64 0, .int .i64 0, .int .i64 0, .slice none 0 0] 24)
          have k1_ := k1.alloc (.cells #[.int .i64 0, .string ⟨#[]⟩, .int .i64 0, .int .i64 0, .int .i64 0, .slice none 0 0] 24)
          have hne : g1 < wn11.heap.size := k1.lt
          have hg2 : w2.heap.size ≤ wn11.heap.size := hB.size
          have hB_ := hB.alloc hB.size (.cells #[.int .i64 0, .string ⟨#[]⟩, .int .i64 0, .int .i64 0, .int .i64 0, .slice none 0 0] 24)
          clear hB n1 k1
          generalize wn11.alloc (.cells #[.int .i64 0, .string ⟨#[]⟩, .int .i64 0, .int .i64 0, .int .i64 0, .slice none 0 0] 24) = wn16 at *
          generalize wn11.heap.size = g2 at *
          have n1 := n1_
          clear n1_
          have k1 := k1_
          clear k1_
          have k2 := k2_
          clear k2_
          have hB := hB_
          clear hB_
          refine hK.out _ _ hB (fun hHeld => ?_)
          clear hK K hHeld
          try simp only [List.getElem_toArray, List.getElem_cons_succ, List.getElem_cons_zero, Act.put, List.setIfInBounds_toArray, List.set_cons_zero, List.set_cons_succ]
          refine wpAnyH_ready (rs := [3]) (by kernel_rfl) (by simp) ?_
          refine AllReadyH.cons rfl (fun K hK => ?_) AllReadyH.nil
          go_simp
          refine (HO2.out _ hB).mono ?_
          rintro e wn17 ⟨D2, f2, rfl, hb1, hown1⟩
          replace n1 := n1.below hb1
          replace k1 := k1.under hb1
          replace k2 := k2.under hb1
          replace hB := hB.trans (hb1.mono hB.size)
          have n2 := Reads.of_own hown1
          clear hb1 hown1
          refine hK.out _ _ hB (fun hHeld => ?_)
          clear hK K hHeld
          try simp only [List.getElem_toArray, List.getElem_cons_succ, List.getElem_cons_zero, Act.put, List.setIfInBounds_toArray, List.set_cons_zero, List.set_cons_succ]
          refine wpAnyH_ready (rs := [6]) (by kernel_rfl) (by simp) ?_
          refine AllReadyH.cons rfl (fun K hK => ?_) AllReadyH.nil
          obtain ⟨x0, x1, x2, x3, x4, x5⟩ := k1.sixc
          have y0 := k1.frozen 0
          have y1 := k1.frozen 1
          have y2 := k1.frozen 2
          have y3 := k1.frozen 3
          have y4 := k1.frozen 4
          have y5 := k1.frozen 5
          have y6 := k1.lt
          go_simp
          have k1_ : Blk ((((((wn17.setCell ⟨g1, 0, none⟩ (.int .i64 mx.kind)).setCell ⟨g1, 1, none⟩ (.string mx.name)).setCell ⟨g1, 2, none⟩ (.int .i64 mx.eps)).setCell ⟨g1, 3, none⟩ (.int .i64 mx.floor)).setCell ⟨g1, 4, none⟩ (.int .i64 mx.scale)).setCell ⟨g1, 5, none⟩ (.slice D1 mx.pts.length f1)) g1 24 (aM mx.kind mx.name mx.eps mx.floor mx.scale (.slice D1 mx.pts.length f1)) := Blk.all6 k1
          have k2_ : Blk ((((((wn17.setCell ⟨g1, 0, none⟩ (.int .i64 mx.kind)).setCell ⟨g1, 1, none⟩ (.string mx.name)).setCell ⟨g1, 2, none⟩ (.int .i64 mx.eps)).setCell ⟨g1, 3, none⟩ (.int .i64 mx.floor)).setCell ⟨g1, 4, none⟩ (.int .i64 mx.scale)).setCell ⟨g1, 5, none⟩ (.slice D1 mx.pts.length f1)) g2 24 _ := k2.far6 (q := g1) (by omega) (.int .i64 mx.kind) (.string mx.name) (.int .i64 mx.eps) (.int .i64 mx.floor) (.int .i64 mx.scale) (.slice D1 mx.pts.length f1)
          have n1_ := Reads.set6 n1 k1.typed (by decide) (.int .i64 mx.kind) (.string mx.name) (.int .i64 mx.eps) (.int .i64 mx.floor) (.int .i64 mx.scale) (.slice D1 mx.pts.length f1)
          change Reads ((((((wn17.setCell ⟨g1, 0, none⟩ (.int .i64 mx.kind)).setCell ⟨g1, 1, none⟩ (.string mx.name)).setCell ⟨g1, 2, none⟩ (.int .i64 mx.eps)).setCell ⟨g1, 3, none⟩ (.int .i64 mx.floor)).setCell ⟨g1, 4, none⟩ (.int .i64 mx.scale)).setCell ⟨g1, 5, none⟩ (.slice D1 mx.pts.length f1)) _ _ _ _ _ at n1_
          have n2_ := Reads.set6 n2 k1.typed (by decide) (.int .i64 mx.kind) (.string mx.name) (.int .i64 mx.eps) (.int .i64 mx.floor) (.int .i64 mx.scale) (.slice D1 mx.pts.length f1)
          change Reads ((((((wn17.setCell ⟨g1, 0, none⟩ (.int .i64 mx.kind)).setCell ⟨g1, 1, none⟩ (.string mx.name)).setCell ⟨g1, 2, none⟩ (.int .i64 mx.eps)).setCell ⟨g1, 3, none⟩ (.int .i64 mx.floor)).setCell ⟨g1, 4, none⟩ (.int .i64 mx.scale)).setCell ⟨g1, 5, none⟩ (.slice D1 mx.pts.length f1)) _ _ _ _ _ at n2_
          have hB_ : Below w2.heap.size w2 ((((((wn17.setCell ⟨g1, 0, none⟩ (.int .i64 mx.kind)).setCell ⟨g1, 1, none⟩ (.string mx.name)).setCell ⟨g1, 2, none⟩ (.int .i64 mx.eps)).setCell ⟨g1, 3, none⟩ (.int .i64 mx.floor)).setCell ⟨g1, 4, none⟩ (.int .i64 mx.scale)).setCell ⟨g1, 5, none⟩ (.slice D1 mx.pts.length f1)) := Below.set6 hB hg1 (.int .i64 mx.kind) (.string mx.name) (.int .i64 mx.eps) (.int .i64 mx.floor) (.int .i64 mx.scale) (.slice D1 mx.pts.length f1)
          clear hB k1 k2 n1 n2 x0 x1 x2 x3 x4 x5 y0 y1 y2 y3 y4 y5 y6
          generalize ((((((wn17.setCell ⟨g1, 0, none⟩ (.int .i64 mx.kind)).setCell ⟨g1, 1, none⟩ (.string mx.name)).setCell ⟨g1, 2, none⟩ (.int .i64 mx.eps)).setCell ⟨g1, 3, none⟩ (.int .i64 mx.floor)).setCell ⟨g1, 4, none⟩ (.int .i64 mx.scale)).setCell ⟨g1, 5, none⟩ (.slice D1 mx.pts.length f1)) = wn18 at *
          have n1 := n1_
          clear n1_
          have n2 := n2_
          clear n2_
          have k1 := k1_
          clear k1_
          have k2 := k2_
          clear k2_
          have hB := hB_
          clear hB_
          refine hK.out _ _ hB (fun hHeld => ?_)
          clear hK K hHeld
          try simp only [List.getElem_toArray, List.getElem_cons_succ, List.getElem_cons_zero, Act.put, List.setIfInBounds_toArray, List.set_cons_zero, List.set_cons_succ]
          refine wpAnyH_ready (rs := [7]) (by kernel_rfl) (by simp) ?_
          refine AllReadyH.cons rfl (fun K hK => ?_) AllReadyH.nil
          obtain ⟨x0, x1, x2, x3, x4, x5⟩ := k2.sixc
          have y0 := k2.frozen 0
          have y1 := k2.frozen 1
          have y2 := k2.frozen 2
          have y3 := k2.frozen 3
          have y4 := k2.frozen 4
          have y5 := k2.frozen 5
          have y6 := k2.lt
          go_simp
          have k2_ : Blk ((((((wn18.setCell ⟨g2, 0, none⟩ (.int .i64 my.kind)).setCell ⟨g2, 1, none⟩ (.string my.name)).setCell ⟨g2, 2, none⟩ (.int .i64 my.eps)).setCell ⟨g2, 3, none⟩ (.int .i64 my.floor)).setCell ⟨g2, 4, none⟩ (.int .i64 my.scale)).setCell ⟨g2, 5, none⟩ (.slice D2 my.pts.length f2)) g2 24 (aM my.kind my.name my.eps my.floor my.scale (.slice D2 my.pts.length f2)) := Blk.all6 k2
          have k1_ : Blk ((((((wn18.setCell ⟨g2, 0, none⟩ (.int .i64 my.kind)).setCell ⟨g2, 1, none⟩ (.string my.name)).setCell ⟨g2, 2, none⟩ (.int .i64 my.eps)).setCell ⟨g2, 3, none⟩ (.int .i64 my.floor)).setCell ⟨g2, 4, none⟩ (.int .i64 my.scale)).setCell ⟨g2, 5, none⟩ (.slice D2 my.pts.length f2)) g1 24 _ := k1.far6 (q := g2) (by omega) (.int .i64 my.kind) (.string my.name) (.int .i64 my.eps) (.int .i64 my.floor) (.int .i64 my.scale) (.slice D2 my.pts.length f2)
          have n1_ := Reads.set6 n1 k2.typed (by decide) (.int .i64 my.kind) (.string my.name) (.int .i64 my.eps) (.int .i64 my.floor) (.int .i64 my.scale) (.slice D2 my.pts.length f2)
          change Reads ((((((wn18.setCell ⟨g2, 0, none⟩ (.int .i64 my.kind)).setCell ⟨g2, 1, none⟩ (.string my.name)).setCell ⟨g2, 2, none⟩ (.int .i64 my.eps)).setCell ⟨g2, 3, none⟩ (.int .i64 my.floor)).setCell ⟨g2, 4, none⟩ (.int .i64 my.scale)).setCell ⟨g2, 5, none⟩ (.slice D2 my.pts.length f2)) _ _ _ _ _ at n1_
          have n2_ := Reads.set6 n2 k2.typed (by decide) (.int .i64 my.kind) (.string my.name) (.int .i64 my.eps) (.int .i64 my.floor) (.int .i64 my.scale) (.slice D2 my.pts.length f2)
          change Reads ((((((wn18.setCell ⟨g2, 0, none⟩ (.int .i64 my.kind)).setCell ⟨g2, 1, none⟩ (.string my.name)).setCell ⟨g2, 2, none⟩ (.int .i64 my.eps)).setCell ⟨g2, 3, none⟩ (.int .i64 my.floor)).setCell ⟨g2, 4, none⟩ (.int .i64 my.scale)).setCell ⟨g2, 5, none⟩ (.slice D2 my.pts.length f2)) _ _ _ _ _ at n2_
          have hB_ : Below w2.heap.size w2 ((((((wn18.setCell ⟨g2, 0, none⟩ (.int .i64 my.kind)).setCell ⟨g2, 1, none⟩ (.string my.name)).setCell ⟨g2, 2, none⟩ (.int .i64 my.eps)).setCell ⟨g2, 3, none⟩ (.int .i64 my.floor)).setCell ⟨g2, 4, none⟩ (.int .i64 my.scale)).setCell ⟨g2, 5, none⟩ (.slice D2 my.pts.length f2)) := Below.set6 hB hg2 (.int .i64 my.kind) (.string my.name) (.int .i64 my.eps) (.int .i64 my.floor) (.int .i64 my.scale) (.slice D2 my.pts.length f2)
          clear hB k1 k2 n1 n2 x0 x1 x2 x3 x4 x5 y0 y1 y2 y3 y4 y5 y6
          generalize ((((((wn18.setCell ⟨g2, 0, none⟩ (.int .i64 my.kind)).setCell ⟨g2, 1, none⟩ (.string my.name)).setCell ⟨g2, 2, none⟩ (.int .i64 my.eps)).setCell ⟨g2, 3, none⟩ (.int .i64 my.floor)).setCell ⟨g2, 4, none⟩ (.int .i64 my.scale)).setCell ⟨g2, 5, none⟩ (.slice D2 my.pts.length f2)) = wn19 at *
          have n1 := n1_
          clear n1_
          have n2 := n2_
          clear n2_
          have k1 := k1_
          clear k1_
          have k2 := k2_
          clear k2_
          have hB := hB_
          clear hB_
          refine hK.out _ _ hB (fun hHeld => ?_)
          clear hK K hHeld
          try simp only [List.getElem_toArray, List.getElem_cons_succ, List.getElem_cons_zero, Act.put, List.setIfInBounds_toArray, List.set_cons_zero, List.set_cons_succ]
          refine wpAnyH_done (by kernel_rfl) ?_ _
          go_wp2_with fail
          go_meet
          exact ⟨g1, g2, rfl, rfl, hid ⟨D1, f1, D2, f2, k1, k2, n1, n2, hB⟩⟩
      · go_simp
        have k2_ := Blk.new wn1 24 #[.int .i64 0, .string ⟨#[]⟩, .int .i64 0, .int .i64 0, .int .i64 0, .slice none 0 0]
        have n1_ := n1.alloc (.cells #[.int .i64 0, .string ⟨#[]⟩, .int .i64 0, .int .i64 0, .int .i64 0, .slice none 0 0] 24)
        have hg2 : w2.heap.size ≤ wn1.heap.size := hB.size
        have hB_ := hB.alloc hB.size (.cells #[.int .i64 0, .string ⟨#[]⟩, .int .i64 0, .int .i64 0, .int .i64 0, .slice none 0 0] 24)
        clear hB n1
        generalize wn1.alloc (.cells #[.int .i64 0, .string ⟨#[]⟩, .int .i64 0, .int .i64 0, .int .i64 0, .slice none 0 0] 24) = wn20 at *
        generalize wn1.heap.size = g2 at *
        have n1 := n1_
        clear n1_
        have k2 := k2_
        clear k2_
        have hB := hB_
        clear hB_
        refine hK.out _ _ hB (fun hHeld => ?_)
        clear hK K hHeld
        try simp only [List.getElem_toArray, List.getElem_cons_succ, List.getElem_cons_zero, Act.put, List.setIfInBounds_toArray, List.set_cons_zero, List.set_cons_succ]
        refine wpAnyH_ready (rs := [3, 4]) (by kernel_rfl) (by simp) ?_
        refine AllReadyH.cons rfl (fun K hK => ?_) (AllReadyH.cons rfl (fun K hK => ?_) AllReadyH.nil)
        · go_simp
          refine (HO2.out _ hB).mono ?_
          rintro e wn21 ⟨D2, f2, rfl, hb1, hown1⟩
          replace n1 := n1.below hb1
          replace k2 := k2.under hb1
          replace hB := hB.trans (hb1.mono hB.size)
          have n2 := Reads.of_own hown1
          clear hb1 hown1
          refine hK.out _ _ hB (fun hHeld => ?_)
          clear hK K hHeld
          try simp only [List.getElem_toArray, List.getElem_cons_succ, List.getElem_cons_zero, Act.put, List.setIfInBounds_toArray, List.set_cons_zero, List.set_cons_succ]
          refine wpAnyH_ready (rs := [4]) (by kernel_rfl) (by simp) ?_
          refine AllReadyH.cons rfl (fun K hK => ?_) AllReadyH.nil
          go_simp
          have k1_ := Blk.new wn21 24 #[.int .i64 0, .string ⟨#[]⟩, .int .i64 0, .int .i64 0, .int .i64 0, .slice none 0 0]
          have n1_ := n1.alloc (.cells #[.int .i64 0, .string ⟨#[]⟩, .int .i64 0, .int .i64 0, .int .i64 0, .slice none 0 0] 24)
          have n2_ := n2.alloc (.cells #[.int .i64 0, .string ⟨#[]⟩, .int .i64 0, .int .i64 0, .int .i64 0, .slice none 0 0] 24)
          have k2_ := k2.alloc (.cells #[.int .i64 0, .string ⟨#[]⟩, .int .i64 0, .int .i64 0, .int .i64 0, .slice none 0 0] 24)
          have hne : g2 < wn21.heap.size := k2.lt
          have hg1 : w2.heap.size ≤ wn21.heap.size := hB.size
          have hB_ := hB.alloc hB.size (.cells #[.int .i64 0, .string ⟨#[]⟩, .int .i64 0, .int .i64 0, .int .i64 0, .slice none 0 0] 24)
          clear hB n1 n2 k2
          generalize wn21.alloc (.cells #[.int .i64 0, .string ⟨#[]⟩, .int .i64 0, .int .i64 0, .int .i64 0, .slice none 0 0] 24) = wn22 at *
          generalize wn21.heap.size = g1 at *
          have n1 := n1_
          clear n1_
          have n2 := n2_
          clear n2_
          have k2 := k2_
          clear k2_
          have k1 := k1_
          clear k1_
          have hB := hB_
          clear hB_
          refine hK.out _ _ hB (fun hHeld => ?_)
          clear hK K hHeld
          try simp only [List.getElem_toArray, List.getElem_cons_succ, List.getElem_cons_zero, Act.put, List.setIfInBounds_toArray, List.set_cons_zero, List.set_cons_succ]
          refine wpAnyH_ready (rs := [6]) (by kernel_rfl) (by simp) ?_
          refine AllReadyH.cons rfl (fun K hK => ?_) AllReadyH.nil
          obtain ⟨x0, x1, x2, x3, x4, x5⟩ := k1.sixc
          have y0 := k1.frozen 0
          have y1 := k1.frozen 1
          have y2 := k1.frozen 2
          have y3 := k1.frozen 3
          have y4 := k1.frozen 4
          have y5 := k1.frozen 5
          have y6 := k1.lt
          go_simp
          have k1_ : Blk ((((((wn22.setCell ⟨g1, 0, none⟩ (.int .i64 mx.kind)).setCell ⟨g1, 1, none⟩ (.string mx.name)).setCell ⟨g1, 2, none⟩ (.int .i64 mx.eps)).setCell ⟨g1, 3, none⟩ (.int .i64 mx.floor)).setCell ⟨g1, 4, none⟩ (.int .i64 mx.scale)).setCell ⟨g1, 5, none⟩ (.slice D1 mx.pts.length f1)) g1 24 (aM mx.kind mx.name mx.eps mx.floor mx.scale (.slice D1 mx.pts.length f1)) := Blk.all6 k1
          have k2_ : Blk ((((((wn22.setCell ⟨g1, 0, none⟩ (.int .i64 mx.kind)).setCell ⟨g1, 1, none⟩ (.string mx.name)).setCell ⟨g1, 2, none⟩ (.int .i64 mx.eps)).setCell ⟨g1, 3, none⟩ (.int .i64 mx.floor)).setCell ⟨g1, 4, none⟩ (.int .i64 mx.scale)).setCell ⟨g1, 5, none⟩ (.slice D1 mx.pts.length f1)) g2 24 _ := k2.far6 (q := g1) (by omega) (.int .i64 mx.kind) (.string mx.name) (.int .i64 mx.eps) (.int .i64 mx.floor) (.int .i64 mx.scale) (.slice D1 mx.pts.length f1)
          have n1_ := Reads.set6 n1 k1.typed (by decide) (.int .i64 mx.kind) (.string mx.name) (.int .i64 mx.eps) (.int .i64 mx.floor) (.int .i64 mx.scale) (.slice D1 mx.pts.length f1)
          change Reads ((((((wn22.setCell ⟨g1, 0, none⟩ (.int .i64 mx.kind)).setCell ⟨g1, 1, none⟩ (.string mx.name)).setCell ⟨g1, 2, none⟩ (.int .i64 mx.eps)).setCell ⟨g1, 3, none⟩ (.int .i64 mx.floor)).setCell ⟨g1, 4, none⟩ (.int .i64 mx.scale)).setCell ⟨g1, 5, none⟩ (.slice D1 mx.pts.length f1)) _ _ _ _ _ at n1_
          have n2_ := Reads.set6 n2 k1.typed (by decide) (.int .i64 mx.kind) (.string mx.name) (.int .i64 mx.eps) (.int .i64 mx.floor) (.int .i64 mx.scale) (.slice D1 mx.pts.length f1)
          change Reads ((((((wn22.setCell ⟨g1, 0, none⟩ (.int .i64 mx.kind)).setCell ⟨g1, 1, none⟩ (.string mx.name)).setCell ⟨g1, 2, none⟩ (.int .i64 mx.eps)).setCell ⟨g1, 3, none⟩ (.int .i64 mx.floor)).setCell ⟨g1, 4, none⟩ (.int .i64 mx.scale)).setCell ⟨g1, 5, none⟩ (.slice D1 mx.pts.length f1)) _ _ _ _ _ at n2_
          have hB_ : Below w2.heap.size w2 ((((((wn22.setCell ⟨g1, 0, none⟩ (.int .i64 mx.kind)).setCell ⟨g1, 1, none⟩ (.string mx.name)).setCell ⟨g1, 2, none⟩ (.int .i64 mx.eps)).setCell ⟨g1, 3, none⟩ (.int .i64 mx.floor)).setCell ⟨g1, 4, none⟩ (.int .i64 mx.scale)).setCell ⟨g1, 5, none⟩ (.slice D1 mx.pts.length f1)) := Below.set6 hB hg1 (.int .i64 mx.kind) (.string mx.name) (.int .i64 mx.eps) (.int .i64 mx.floor) (.int .i64 mx.scale) (.slice D1 mx.pts.length f1)
          clear hB k1 k2 n1 n2 x0 x1 x2 x3 x4 x5 y0 y1 y2 y3 y4 y5 y6
          generalize ((((((wn22.setCell ⟨g1, 0, none⟩ (.int .i64 mx.kind)).setCell ⟨g1, 1, none⟩ (.string mx.name)).setCell ⟨g1, 2, none⟩ (.int .i64 mx.eps)).setCell ⟨g1, 3, none⟩ (.int .i64 mx.floor)).setCell ⟨g1, 4, none⟩ (.int .i64 mx.scale)).setCell ⟨g1, 5, none⟩ (.slice D1 mx.pts.length f1)) = wn23 at *
          have n1 := n1_
          clear n1_
          have n2 := n2_
          clear n2_
          have k1 := k1_
          clear k1_
          have k2 := k2_
          clear k2_
          have hB := hB_
          clear hB_
          refine hK.out _ _ hB (fun hHeld => ?_)
          clear hK K hHeld
          try simp only [List.getElem_toArray, List.getElem_cons_succ, List.getElem_cons_zero, Act.put, List.setIfInBounds_toArray, List.set_cons_zero, List.set_cons_succ]
          refine wpAnyH_ready (rs := [7]) (by kernel_rfl) (by simp) ?_
          refine AllReadyH.cons rfl (fun K hK => ?_) AllReadyH.nil
          obtain ⟨x0, x1, x2, x3, x4, x5⟩ := k2.sixc
          have y0 := k2.frozen 0
          have y1 := k2.frozen 1
          have y2 := k2.frozen 2
          have y3 := k2.frozen 3
          have y4 := k2.frozen 4
          have y5 := k2.frozen 5
          have y6 := k2.lt
          go_simp
          have k2_ : Blk ((((((wn23.setCell ⟨g2, 0, none⟩ (.int .i64 my.kind)).setCell ⟨g2, 1, none⟩ (.string my.name)).setCell ⟨g2, 2, none⟩ (.int .i64 my.eps)).setCell ⟨g2, 3, none⟩ (.int .i64 my.floor)).setCell ⟨g2, 4, none⟩ (.int .i64 my.scale)).setCell ⟨g2, 5, none⟩ (.slice D2 my.pts.length f2)) g2 24 (aM my.kind my.name my.eps my.floor my.scale (.slice D2 my.pts.length f2)) := Blk.all6 k2
          have k1_ : Blk ((((((wn23.setCell ⟨g2, 0, none⟩ (.int .i64 my.kind)).setCell ⟨g2, 1, none⟩ (.string my.name)).setCell ⟨g2, 2, none⟩ (.int .i64 my.eps)).setCell ⟨g2, 3, none⟩ (.int .i64 my.floor)).setCell ⟨g2, 4, none⟩ (.int .i64 my.scale)).setCell ⟨g2, 5, none⟩ (.slice D2 my.pts.length f2)) g1 24 _ := k1.far6 (q := g2) (by omega) (.int .i64 my.kind) (.string my.name) (.int .i64 my.eps) (.int .i64 my.floor) (.int .i64 my.scale) (.slice D2 my.pts.length f2)
          have n1_ := Reads.set6 n1 k2.typed (by decide) (.int .i64 my.kind) (.string my.name) (.int .i64 my.eps) (.int .i64 my.floor) (.int .i64 my.scale) (.slice D2 my.pts.length f2)
          change Reads ((((((wn23.setCell ⟨g2, 0, none⟩ (.int .i64 my.kind)).setCell ⟨g2, 1, none⟩ (.string my.name)).setCell ⟨g2, 2, none⟩ (.int .i64 my.eps)).setCell ⟨g2, 3, none⟩ (.int .i64 my.floor)).setCell ⟨g2, 4, none⟩ (.int .i64 my.scale)).setCell ⟨g2, 5, none⟩ (.slice D2 my.pts.length f2)) _ _ _ _ _ at n1_
          have n2_ := Reads.set6 n2 k2.typed (by decide) (.int .i64 my.kind) (.string my.name) (.int .i64 my.eps) (.int .i64 my.floor) (.int .i64 my.scale) (.slice D2 my.pts.length f2)
          change Reads ((((((wn23.setCell ⟨g2, 0, none⟩ (.int .i64 my.kind)).setCell ⟨g2, 1, none⟩ (.string my.name)).setCell ⟨g2, 2, none⟩ (.int .i64 my.eps)).setCell ⟨g2, 3, none⟩ (.int .i64 my.floor)).setCell ⟨g2, 4, none⟩ (.int .i64 my.scale)).setCell ⟨g2, 5, none⟩ (.slice D2 my.pts.length f2)) _ _ _ _ _ at n2_
          have hB_ : Below w2.heap.size w2 ((((((wn23.setCell ⟨g2, 0, none⟩ (.int .i64 my.kind)).setCell ⟨g2, 1, none⟩ (.string my.name)).setCell ⟨g2, 2, none⟩ (.int .i64 my.eps)).setCell ⟨g2, 3, none⟩ (.int .i64 my.floor)).setCell ⟨g2, 4, none⟩ (.int .i64 my.scale)).setCell ⟨g2, 5, none⟩ (.slice D2 my.pts.length f2)) := Below.set6 hB hg2 (.int .i64 my.kind) (.string my.name) (.int .i64 my.eps) (.int .i64 my.floor) (.int .i64 my.scale) (.slice D2 my.pts.length f2)
          clear hB k1 k2 n1 n2 x0 x1 x2 x3 x4 x5 y0 y1 y2 y3 y4 y5 y6
          generalize ((((((wn23.setCell ⟨g2, 0, none⟩ (.int .i64 my.kind)).setCell ⟨g2, 1, none⟩ (.string my.name)).setCell ⟨g2, 2, none⟩ (.int .i64 my.eps)).setCell ⟨g2, 3, none⟩ (.int .i64 my.floor)).setCell ⟨g2, 4, none⟩ (.int .i64 my.scale)).setCell ⟨g2, 5, none⟩ (.slice D2 my.pts.length f2)) = wn24 at *
          have n1 := n1_
          clear n1_
          have n2 := n2_
          clear n2_
          have k1 := k1_
          clear k1_
          have k2 := k2_
          clear k2_
          have hB := hB_
          clear hB_
          refine hK.out _ _ hB (fun hHeld => ?_)
          clear hK K hHeld
          try simp only [List.getElem_toArray, List.getElem_cons_succ, List.getElem_cons_zero, Act.put, List.setIfInBounds_toArray, List.set_cons_zero, List.set_cons_succ]
          refine wpAnyH_done (by kernel_rfl) ?_ _
          go_wp2_with fail
          go_meet
          exact ⟨g1, g2, rfl, rfl, hid ⟨D1, f1, D2, f2, k1, k2, n1, n2, hB⟩⟩
        · go_simp
          have k1_ := Blk.new wn20 24 #[.int .i64 0, .string ⟨#[]⟩, .int .i64 0, .int .i64 0, .int .i64 0, .slice none 0 0]
          have n1_ := n1.alloc (.cells #[.int .i64 0, .string ⟨#[]⟩, .int .i64 0, .int .i64 0, .int .i64 0, .slice none 0 0] 24)
          have k2_ := k2.alloc (.cells #[.int .i64 0, .string ⟨#[]⟩, .int .i64 0, .int .i64 0, .int .i64 0, .slice none 0 0] 24)
          have hne : g2 < wn20.heap.size := k2.lt
          have hg1 : w2.heap.size ≤ wn20.heap.size := hB.size
          have hB_ := hB.alloc hB.size (.cells #[.int .i64 0, .string ⟨#[]⟩, .int .i64 0, .int .i64 0, .int .i64 0, .slice none 0 0] 24)
          clear hB n1 k2
          generalize wn20.alloc (.cells #[.int .i64 0, .string ⟨#[]⟩, .int .i64 0, .int .i64 0, .int .i64 0, .slice none 0 0] 24) = wn25 at *
          generalize wn20.heap.size = g1 at *
          have n1 := n1_
          clear n1_
          have k2 := k2_
          clear k2_
          have k1 := k1_
          clear k1_
          have hB := hB_
          clear hB_
          refine hK.out _ _ hB (fun hHeld => ?_)
          clear hK K hHeld
          try simp only [List.getElem_toArray, List.getElem_cons_succ, List.getElem_cons_zero, Act.put, List.setIfInBounds_toArray, List.set_cons_zero, List.set_cons_succ]
          refine wpAnyH_ready (rs := [3]) (by kernel_rfl) (by simp) ?_
          refine AllReadyH.cons rfl (fun K hK => ?_) AllReadyH.nil
          go_simp
          refine (HO2.out _ hB).mono ?_
          rintro e wn26 ⟨D2, f2, rfl, hb1, hown1⟩
          replace n1 := n1.below hb1
          replace k1 := k1.under hb1
          replace k2 := k2.under hb1
          replace hB := hB.trans (hb1.mono hB.size)
          have n2 := Reads.of_own hown1
          clear hb1 hown1
          refine hK.out _ _ hB (fun hHeld => ?_)
          clear hK K hHeld
          try simp only [List.getElem_toArray, List.getElem_cons_succ, List.getElem_cons_zero, Act.put, List.setIfInBounds_toArray, List.set_cons_zero, List.set_cons_succ]
          refine wpAnyH_ready (rs := [6]) (by kernel_rfl) (by simp) ?_
          refine AllReadyH.cons rfl (fun K hK => ?_) AllReadyH.nil
          obtain ⟨x0, x1, x2, x3, x4, x5⟩ := k1.sixc
          have y0 := k1.frozen 0
          have y1 := k1.frozen 1
          have y2 := k1.frozen 2
          have y3 := k1.frozen 3
          have y4 := k1.frozen 4
          have y5 := k1.frozen 5
          have y6 := k1.lt
          go_simp
          have k1_ : Blk ((((((wn26.setCell ⟨g1, 0, none⟩ (.int .i64 mx.kind)).setCell ⟨g1, 1, none⟩ (.string mx.name)).setCell ⟨g1, 2, none⟩ (.int .i64 mx.eps)).setCell ⟨g1, 3, none⟩ (.int .i64 mx.floor)).setCell ⟨g1, 4, none⟩ (.int .i64 mx.scale)).setCell ⟨g1, 5, none⟩ (.slice D1 mx.pts.length f1)) g1 24 (aM mx.kind mx.name mx.eps mx.floor mx.scale (.slice D1 mx.pts.length f1)) := Blk.all6 k1
          have k2_ : Blk ((((((wn26.setCell ⟨g1, 0, none⟩ (.int .i64 mx.kind)).setCell ⟨g1, 1, none⟩ (.string mx.name)).setCell ⟨g1, 2, none⟩ (.int .i64 mx.eps)).setCell ⟨g1, 3, none⟩ (.int .i64 mx.floor)).setCell ⟨g1, 4, none⟩ (.int .i64 mx.scale)).setCell ⟨g1, 5, none⟩ (.slice D1 mx.pts.length f1)) g2 24 _ := k2.far6 (q := g1) (by omega) (.int .i64 mx.kind) (.string mx.name) (.int .i64 mx.eps) (.int .i64 mx.floor) (.int .i64 mx.scale) (.slice D1 mx.pts.length f1)
          have n1_ := Reads.set6 n1 k1.typed (by decide) (.int .i64 mx.kind) (.string mx.name) (.int .i64 mx.eps) (.int .i64 mx.floor) (.int .i64 mx.scale) (.slice D1 mx.pts.length f1)
          change Reads ((((((wn26.setCell ⟨g1, 0, none⟩ (.int .i64 mx.kind)).setCell ⟨g1, 1, none⟩ (.string mx.name)).setCell ⟨g1, 2, none⟩ (.int .i64 mx.eps)).setCell ⟨g1, 3, none⟩ (.int .i64 mx.floor)).setCell ⟨g1, 4, none⟩ (.int .i64 mx.scale)).setCell ⟨g1, 5, none⟩ (.slice D1 mx.pts.length f1)) _ _ _ _ _ at n1_
          have n2_ := Reads.set6 n2 k1.typed (by decide) (.int .i64 mx.kind) (.string mx.name) (.int .i64 mx.eps) (.int .i64 mx.floor) (.int .i64 mx.scale) (.slice D1 mx.pts.length f1)
          change Reads ((((((wn26.setCell ⟨g1, 0, none⟩ (.int .i64 mx.kind)).setCell ⟨g1, 1, none⟩ (.string mx.name)).setCell ⟨g1, 2, none⟩ (.int .i64 mx.eps)).setCell ⟨g1, 3, none⟩ (.int .i64 mx.floor)).setCell ⟨g1, 4, none⟩ (.int .i64 mx.scale)).setCell ⟨g1, 5, none⟩ (.slice D1 mx.pts.length f1)) _ _ _ _ _ at n2_
          have hB_ : Below w2.heap.size w2 ((((((wn26.setCell ⟨g1, 0, none⟩ (.int .i64 mx.kind)).setCell ⟨g1, 1, none⟩ (.string mx.name)).setCell ⟨g1, 2, none⟩ (.int .i64 mx.eps)).setCell ⟨g1, 3, none⟩ (.int .i64 mx.floor)).setCell ⟨g1, 4, none⟩ (.int .i64 mx.scale)).setCell ⟨g1, 5, none⟩ (.slice D1 mx.pts.length f1)) := Below.set6 hB hg1 (.int .i64 mx.kind) (.string mx.name) (.int .i64 mx.eps) (.int .i64 mx.floor) (.int .i64 mx.scale) (.slice D1 mx.pts.length f1)
          clear hB k1 k2 n1 n2 x0 x1 x2 x3 x4 x5 y0 y1 y2 y3 y4 y5 y6
          generalize ((((((wn26.setCell ⟨g1, 0, none⟩ (.int .i64 mx.kind)).setCell ⟨g1, 1, none⟩ (.string mx.name)).setCell ⟨g1, 2, none⟩ (.int .i64 mx.eps)).setCell ⟨g1, 3, none⟩ (.int .i64 mx.floor)).setCell ⟨g1, 4, none⟩ (.int .i64 mx.scale)).setCell ⟨g1, 5, none⟩ (.slice D1 mx.pts.length f1)) = wn27 at *
          have n1 := n1_
          clear n1_
          have n2 := n2_
          clear n2_
          have k1 := k1_
          clear k1_
          have k2 := k2_
          clear k2_
          have hB := hB_
          clear hB_
          refine hK.out _ _ hB (fun hHeld => ?_)
          clear hK K hHeld
          try simp only [List.getElem_toArray, List.getElem_cons_succ, List.getElem_cons_zero, Act.put, List.setIfInBounds_toArray, List.set_cons_zero, List.set_cons_succ]
          refine wpAnyH_ready (rs := [7]) (by kernel_rfl) (by simp) ?_
          refine AllReadyH.cons rfl (fun K hK => ?_) AllReadyH.nil
          obtain ⟨x0, x1, x2, x3, x4, x5⟩ := k2.sixc
          have y0 := k2.frozen 0
          have y1 := k2.frozen 1
          have y2 := k2.frozen 2
          have y3 := k2.frozen 3
          have y4 := k2.frozen 4
          have y5 := k2.frozen 5
          have y6 := k2.lt
          go_simp
          have k2_ : Blk ((((((wn27.setCell ⟨g2, 0, none⟩ (.int .i64 my.kind)).setCell ⟨g2, 1, none⟩ (.string my.name)).setCell ⟨g2, 2, none⟩ (.int .i64 my.eps)).setCell ⟨g2, 3, none⟩ (.int .i64 my.floor)).setCell ⟨g2, 4, none⟩ (.int .i64 my.scale)).setCell ⟨g2, 5, none⟩ (.slice D2 my.pts.length f2)) g2 24 (aM my.kind my.name my.eps my.floor my.scale (.slice D2 my.pts.length f2)) := Blk.all6 k2
          have k1_ : Blk ((((((wn27.setCell ⟨g2, 0, none⟩ (.int .i64 my.kind)).setCell ⟨g2, 1, none⟩ (.string my.name)).setCell ⟨g2, 2, none⟩ (.int .i64 my.eps)).setCell ⟨g2, 3, none⟩ (.int .i64 my.floor)).setCell ⟨g2, 4, none⟩ (.int .i64 my.scale)).setCell ⟨g2, 5, none⟩ (.slice D2 my.pts.length f2)) g1 24 _ := k1.far6 (q := g2) (by omega) (.int .i64 my.kind) (.string my.name) (.int .i64 my.eps) (.int .i64 my.floor) (.int .i64 my.scale) (.slice D2 my.pts.length f2)
          have n1_ := Reads.set6 n1 k2.typed (by decide) (.int .i64 my.kind) (.string my.name) (.int .i64 my.eps) (.int .i64 my.floor) (.int .i64 my.scale) (.slice D2 my.pts.length f2)
          change Reads ((((((wn27.setCell ⟨g2, 0, none⟩ (.int .i64 my.kind)).setCell ⟨g2, 1, none⟩ (.string my.name)).setCell ⟨g2, 2, none⟩ (.int .i64 my.eps)).setCell ⟨g2, 3, none⟩ (.int .i64 my.floor)).setCell ⟨g2, 4, none⟩ (.int .i64 my.scale)).setCell ⟨g2, 5, none⟩ (.slice D2 my.pts.length f2)) _ _ _ _ _ at n1_
          have n2_ := Reads.set6 n2 k2.typed (by decide) (.int .i64 my.kind) (.string my.name) (.int .i64 my.eps) (.int .i64 my.floor) (.int .i64 my.scale) (.slice D2 my.pts.length f2)
          change Reads ((((((wn27.setCell ⟨g2, 0, none⟩ (.int .i64 my.kind)).setCell ⟨g2, 1, none⟩ (.string my.name)).setCell ⟨g2, 2, none⟩ (.int .i64 my.eps)).setCell ⟨g2, 3, none⟩ (.int .i64 my.floor)).setCell ⟨g2, 4, none⟩ (.int .i64 my.scale)).setCell ⟨g2, 5, none⟩ (.slice D2 my.pts.length f2)) _ _ _ _ _ at n2_
          have hB_ : Below w2.heap.size w2 ((((((wn27.setCell ⟨g2, 0, none⟩ (.int .i64 my.kind)).setCell ⟨g2, 1, none⟩ (.string my.name)).setCell ⟨g2, 2, none⟩ (.int .i64 my.eps)).setCell ⟨g2, 3, none⟩ (.int .i64 my.floor)).setCell ⟨g2, 4, none⟩ (.int .i64 my.scale)).setCell ⟨g2, 5, none⟩ (.slice D2 my.pts.length f2)) := Below.set6 hB hg2 (.int .i64 my.kind) (.string my.name) (.int .i64 my.eps) (.int .i64 my.floor) (.int .i64 my.scale) (.slice D2 my.pts.length f2)
          clear hB k1 k2 n1 n2 x0 x1 x2 x3 x4 x5 y0 y1 y2 y3 y4 y5 y6
          generalize ((((((wn27.setCell ⟨g2, 0, none⟩ (.int .i64 my.kind)).setCell ⟨g2, 1, none⟩ (.string my.name)).setCell ⟨g2, 2, none⟩ (.int .i64 my.eps)).setCell ⟨g2, 3, none⟩ (.int .i64 my.floor)).setCell ⟨g2, 4, none⟩ (.int .i64 my.scale)).setCell ⟨g2, 5, none⟩ (.slice D2 my.pts.length f2)) = wn28 at *
          have n1 := n1_
          clear n1_
          have n2 := n2_
          clear n2_
          have k1 := k1_
          clear k1_
          have k2 := k2_
          clear k2_
          have hB := hB_
          clear hB_
          refine hK.out _ _ hB (fun hHeld => ?_)
          clear hK K hHeld
          try simp only [List.getElem_toArray, List.getElem_cons_succ, List.getElem_cons_zero, Act.put, List.setIfInBounds_toArray, List.set_cons_zero, List.set_cons_succ]
          refine wpAnyH_done (by kernel_rfl) ?_ _
          go_wp2_with fail
          go_meet
          exact ⟨g1, g2, rfl, rfl, hid ⟨D1, f1, D2, f2, k1, k2, n1, n2, hB⟩⟩
    · go_simp
      have k1_ := Blk.new wd 24 #[.int .i64 0, .string ⟨#[]⟩, .int .i64 0, .int .i64 0, .int .i64 0, .slice none 0 0]
      have hg1 : w2.heap.size ≤ wd.heap.size := hB.size
      have hB_ := hB.alloc hB.size (.cells #[.int .i64 0, .string ⟨#[]⟩, .int .i64 0, .int .i64 0, .int .i64 0, .slice none 0 0] 24)
      clear hB 
      generalize wd.alloc (.cells #[.int .i64 0, .string ⟨#[]⟩, .int .i64 0, .int .i64 0, .int .i64 0, .slice none 0 0] 24) = wn29 at *
      generalize wd.heap.size = g1 at *
      have k1 := k1_
      clear k1_
      have hB := hB_
      clear hB_
      refine hK.out _ _ hB (fun hHeld => ?_)
      clear hK K hHeld
      try simp only [List.getElem_toArray, List.getElem_cons_succ, List.getElem_cons_zero, Act.put, List.setIfInBounds_toArray, List.set_cons_zero, List.set_cons_succ]
      refine wpAnyH_ready (rs := [1, 5]) (by kernel_rfl) (by simp) ?_
      refine AllReadyH.cons rfl (fun K hK => ?_) (AllReadyH.cons rfl (fun K hK => ?_) AllReadyH.nil)
      · go_simp
        refine (HO1.out _ hB).mono ?_
        rintro e wn30 ⟨D1, f1, rfl, hb1, hown1⟩
        replace k1 := k1.under hb1
        replace hB := hB.trans (hb1.mono hB.size)
        have n1 := Reads.of_own hown1
        clear hb1 hown1
        refine hK.out _ _ hB (fun hHeld => ?_)
        clear hK K hHeld
        try simp only [List.getElem_toArray, List.getElem_cons_succ, List.getElem_cons_zero, Act.put, List.setIfInBounds_toArray, List.set_cons_zero, List.set_cons_succ]
        refine wpAnyH_ready (rs := [3, 5]) (by kernel_rfl) (by simp) ?_
        refine AllReadyH.cons rfl (fun K hK => ?_) (AllReadyH.cons rfl (fun K hK => ?_) AllReadyH.nil)
        · go_simp
          refine (HO2.out _ hB).mono ?_
          rintro e wn31 ⟨D2, f2, rfl, hb1, hown1⟩
          replace n1 := n1.below hb1
          replace k1 := k1.under hb1
          replace hB := hB.trans (hb1.mono hB.size)
          have n2 := Reads.of_own hown1
          clear hb1 hown1
          refine hK.out _ _ hB (fun hHeld => ?_)
          clear hK K hHeld
          try simp only [List.getElem_toArray, List.getElem_cons_succ, List.getElem_cons_zero, Act.put, List.setIfInBounds_toArray, List.set_cons_zero, List.set_cons_succ]
          refine wpAnyH_ready (rs := [5]) (by kernel_rfl) (by simp) ?_
          refine AllReadyH.cons rfl (fun K hK => ?_) AllReadyH.nil
          go_simp
          have k2_ := Blk.new wn31 24 #[.int .i64 0, .string ⟨#[]⟩, .int .i64 0, .int .i64 0, .int .i64 0, .slice none 0 0]
          have n1_ := n1.alloc (.cells #[.int .i64 0, .string ⟨#[]⟩, .int .i64 0, .int .i64 0, .int .i64 0, .slice none 0 0] 24)
          have n2_ := n2.alloc (.cells #[.int .i64 0, .string ⟨#[]⟩, .int .i64 0, .int .i64 0, .int .i64 0, .slice none 0 0] 24)
          have k1_ := k1.alloc (.cells #[.int .i64 0, .string ⟨#[]⟩, .int .i64 0, .int .i64 0, .int .i64 0, .slice none 0 0] 24)
          have hne : g1 < wn31.heap.size := k1.lt
          have hg2 : w2.heap.size ≤ wn31.heap.size := hB.size
          have hB_ := hB.alloc hB.size (.cells #[.int .i64 0, .string ⟨#[]⟩, .int .i64 0, .int .i64 0, .int .i64 0, .slice none 0 0] 24)
          clear hB n1 n2 k1
          generalize wn31.alloc (.cells #[.int .i64 0, .string ⟨#[]⟩, .int .i64 0, .int .i64 0, .int .i64 0, .slice none 0 0] 24) = wn32 at *
          generalize wn31.heap.size = g2 at *
          have n1 := n1_
          clear n1_
          have n2 := n2_
          clear n2_
          have k1 := k1_
          clear k1_
          have k2 := k2_
          clear k2_
          have hB := hB_
          clear hB_
          refine hK.out _ _ hB (fun hHeld => ?_)
          clear hK K hHeld
          try simp only [List.getElem_toArray, List.getElem_cons_succ, List.getElem_cons_zero, Act.put, List.setIfInBounds_toArray, List.set_cons_zero, List.set_cons_succ]
          refine wpAnyH_ready (rs := [6]) (by kernel_rfl) (by simp) ?_
          refine AllReadyH.cons rfl (fun K hK => ?_) AllReadyH.nil
          obtain ⟨x0, x1, x2, x3, x4, x5⟩ := k1.sixc
          have y0 := k1.frozen 0
          have y1 := k1.frozen 1
          have y2 := k1.frozen 2
          have y3 := k1.frozen 3
          have y4 := k1.frozen 4
          have y5 := k1.frozen 5
          have y6 := k1.lt
          go_simp
          have k1_ : Blk ((((((wn32.setCell ⟨g1, 0, none⟩ (.int .i64 mx.kind)).setCell ⟨g1, 1, none⟩ (.string mx.name)).setCell ⟨g1, 2, none⟩ (.int .i64 mx.eps)).setCell ⟨g1, 3, none⟩ (.int .i64 mx.floor)).setCell ⟨g1, 4, none⟩ (.int .i64 mx.scale)).setCell ⟨g1, 5, none⟩ (.slice D1 mx.pts.length f1)) g1 24 (aM mx.kind mx.name mx.eps mx.floor mx.scale (.slice D1 mx.pts.length f1)) := Blk.all6 k1
          have k2_ : Blk ((((((wn32.setCell ⟨g1, 0, none⟩ (.int .i64 mx.kind)).setCell ⟨g1, 1, none⟩ (.string mx.name)).setCell ⟨g1, 2, none⟩ (.int .i64 mx.eps)).setCell ⟨g1, 3, none⟩ (.int .i64 mx.floor)).setCell ⟨g1, 4, none⟩ (.int .i64 mx.scale)).setCell ⟨g1, 5, none⟩ (.slice D1 mx.pts.length f1)) g2 24 _ := k2.far6 (q := g1) (by omega) (.int .i64 mx.kind) (.string mx.name) (.int .i64 mx.eps) (.int .i64 mx.floor) (.int .i64 mx.scale) (.slice D1 mx.pts.length f1)
          have n1_ := Reads.set6 n1 k1.typed (by decide) (.int .i64 mx.kind) (.string mx.name) (.int .i64 mx.eps) (.int .i64 mx.floor) (.int .i64 mx.scale) (.slice D1 mx.pts.length f1)
          change Reads ((((((wn32.setCell ⟨g1, 0, none⟩ (.int .i64 mx.kind)).setCell ⟨g1, 1, none⟩ (.string mx.name)).setCell ⟨g1, 2, none⟩ (.int .i64 mx.eps)).setCell ⟨g1, 3, none⟩ (.int .i64 mx.floor)).setCell ⟨g1, 4, none⟩ (.int .i64 mx.scale)).setCell ⟨g1, 5, none⟩ (.slice D1 mx.pts.length f1)) _ _ _ _ _ at n1_
          have n2_ := Reads.set6 n2 k1.typed (by decide) (.int .i64 mx.kind) (.string mx.name) (.int .i64 mx.eps) (.int .i64 mx.floor) (.int .i64 mx.scale) (.slice D1 mx.pts.length f1)
          change Reads ((((((wn32.setCell ⟨g1, 0, none⟩ (.int .i64 mx.kind)).setCell ⟨g1, 1, none⟩ (.string mx.name)).setCell ⟨g1, 2, none⟩ (.int .i64 mx.eps)).setCell ⟨g1, 3, none⟩ (.int .i64 mx.floor)).setCell ⟨g1, 4, none⟩ (.int .i64 mx.scale)).setCell ⟨g1, 5, none⟩ (.slice D1 mx.pts.length f1)) _ _ _ _ _ at n2_
          have hB_ : Below w2.heap.size w2 ((((((wn32.setCell ⟨g1, 0, none⟩ (.int .i64 mx.kind)).setCell ⟨g1, 1, none⟩ (.string mx.name)).setCell ⟨g1, 2, none⟩ (.int .i64 mx.eps)).setCell ⟨g1, 3, none⟩ (.int .i64 mx.floor)).setCell ⟨g1, 4, none⟩ (.int .i64 mx.scale)).setCell ⟨g1, 5, none⟩ (.slice D1 mx.pts.length f1)) := Below.set6 hB hg1 (.int .i64 mx.kind) (.string mx.name) (.int .i64 mx.eps) (.int .i64 mx.floor) (.int .i64 mx.scale) (.slice D1 mx.pts.length f1)
          clear hB k1 k2 n1 n2 x0 x1 x2 x3 x4 x5 y0 y1 y2 y3 y4 y5 y6
          generalize ((((((wn32.setCell ⟨g1, 0, none⟩ (.int .i64 mx.kind)).setCell ⟨g1, 1, none⟩ (.string mx.name)).setCell ⟨g1, 2, none⟩ (.int .i64 mx.eps)).setCell ⟨g1, 3, none⟩ (.int .i64 mx.floor)).setCell ⟨g1, 4, none⟩ (.int .i64 mx.scale)).setCell ⟨g1, 5, none⟩ (.slice D1 mx.pts.length f1)) = wn33 at *
          have n1 := n1_
          clear n1_
          have n2 := n2_
          clear n2_
          have k1 := k1_
          clear k1_
          have k2 := k2_
          clear k2_
          have hB := hB_
          clear hB_
          refine hK.out _ _ hB (fun hHeld => ?_)
          clear hK K hHeld
          try simp only [List.getElem_toArray, List.getElem_cons_succ, List.getElem_cons_zero, Act.put, List.setIfInBounds_toArray, List.set_cons_zero, List.set_cons_succ]
          refine wpAnyH_ready (rs := [7]) (by kernel_rfl) (by simp) ?_
          refine AllReadyH.cons rfl (fun K hK => ?_) AllReadyH.nil
          obtain ⟨x0, x1, x2, x3, x4, x5⟩ := k2.sixc
          have y0 := k2.frozen 0
          have y1 := k2.frozen 1
          have y2 := k2.frozen 2
          have y3 := k2.frozen 3
          have y4 := k2.frozen 4
          have y5 := k2.frozen 5
          have y6 := k2.lt
          go_simp
          have k2_ : Blk ((((((wn33.setCell ⟨g2, 0, none⟩ (.int .i64 my.kind)).setCell ⟨g2, 1, none⟩ (.string my.name)).setCell ⟨g2, 2, none⟩ (.int .i64 my.eps)).setCell ⟨g2, 3, none⟩ (.int .i64 my.floor)).setCell ⟨g2, 4, none⟩ (.int .i64 my.scale)).setCell ⟨g2, 5, none⟩ (.slice D2 my.pts.length f2)) g2 24 (aM my.kind my.name my.eps my.floor my.scale (.slice D2 my.pts.length f2)) := Blk.all6 k2
          have k1_ : Blk ((((((wn33.setCell ⟨g2, 0, none⟩ (.int .i64 my.kind)).setCell ⟨g2, 1, none⟩ (.string my.name)).setCell ⟨g2, 2, none⟩ (.int .i64 my.eps)).setCell ⟨g2, 3, none⟩ (.int .i64 my.floor)).setCell ⟨g2, 4, none⟩ (.int .i64 my.scale)).setCell ⟨g2, 5, none⟩ (.slice D2 my.pts.length f2)) g1 24 _ := k1.far6 (q := g2) (by omega) (.int .i64 my.kind) (.string my.name) (.int .i64 my.eps) (.int .i64 my.floor) (.int .i64 my.scale) (.slice D2 my.pts.length f2)
          have n1_ := Reads.set6 n1 k2.typed (by decide) (.int .i64 my.kind) (.string my.name) (.int .i64 my.eps) (.int .i64 my.floor) (.int .i64 my.scale) (.slice D2 my.pts.length f2)
          change Reads ((((((wn33.setCell ⟨g2, 0, none⟩ (.int .i64 my.kind)).setCell ⟨g2, 1, none⟩ (.string my.name)).setCell ⟨g2, 2, none⟩ (.int .i64 my.eps)).setCell ⟨g2, 3, none⟩ (.int .i64 my.floor)).setCell ⟨g2, 4, none⟩ (.int .i64 my.scale)).setCell ⟨g2, 5, none⟩ (.slice D2 my.pts.length f2)) _ _ _ _ _ at n1_
          have n2_ := Reads.set6 n2 k2.typed (by decide) (.int .i64 my.kind) (.string my.name) (.int .i64 my.eps) (.int .i64 my.floor) (.int .i64 my.scale) (.slice D2 my.pts.length f2)
          change Reads ((((((wn33.setCell ⟨g2, 0, none⟩ (.int .i64 my.kind)).setCell ⟨g2, 1, none⟩ (.string my.name)).setCell ⟨g2, 2, none⟩ (.int .i64 my.eps)).setCell ⟨g2, 3, none⟩ (.int .i64 my.floor)).setCell ⟨g2, 4, none⟩ (.int .i64 my.scale)).setCell ⟨g2, 5, none⟩ (.slice D2 my.pts.length f2)) _ _ _ _ _ at n2_
          have hB_ : Below w2.heap.size w2 ((((((wn33.setCell ⟨g2, 0, none⟩ (.int .i64 my.kind)).setCell ⟨g2, 1, none⟩ (.string my.name)).setCell ⟨g2, 2, none⟩ (.int .i64 my.eps)).setCell ⟨g2, 3, none⟩ (.int .i64 my.floor)).setCell ⟨g2, 4, none⟩ (.int .i64 my.scale)).setCell ⟨g2, 5, none⟩ (.slice D2 my.pts.length f2)) := Below.set6 hB hg2 (.int .i64 my.kind) (.string my.name) (.int .i64 my.eps) (.int .i64 my.floor) (.int .i64 my.scale) (.slice D2 my.pts.length f2)
          clear hB k1 k2 n1 n2 x0 x1 x2 x3 x4 x5 y0 y1 y2 y3 y4 y5 y6
          generalize ((((((wn33.setCell ⟨g2, 0, none⟩ (.int .i64 my.kind)).setCell ⟨g2, 1, none⟩ (.string my.name)).setCell ⟨g2, 2, none⟩ (.int .i64 my.eps)).setCell ⟨g2, 3, none⟩ (.int .i64 my.floor)).setCell ⟨g2, 4, none⟩ (.int .i64 my.scale)).setCell ⟨g2, 5, none⟩ (.slice D2 my.pts.length f2)) = wn34 at *
          have n1 := n1_
          clear n1_
          have n2 := n2_
          clear n2_
          have k1 := k1_
          clear k1_
          have k2 := k2_
          clear k2_
          have hB := hB_
          clear hB_
          refine hK.out _ _ hB (fun hHeld => ?_)
          clear hK K hHeld
          try simp only [List.getElem_toArray, List.getElem_cons_succ, List.getElem_cons_zero, Act.put, List.setIfInBounds_toArray, List.set_cons_zero, List.set_cons_succ]
          refine wpAnyH_done (by kernel_rfl) ?_ _
          go_wp2_with fail
          go_meet
          exact ⟨g1, g2, rfl, rfl, hid ⟨D1, f1, D2, f2, k1, k2, n1, n2, hB⟩⟩
        · go_simp
          have k2_ := Blk.new wn30 24 #[.int .i64 0, .string ⟨#[]⟩, .int .i64 0, .int .i64 0, .int .i64 0, .slice none 0 0]
          have n1_ := n1.alloc (.cells #[.int .i64 0, .string ⟨#[]⟩, .int .i64 0, .int .i64 0, .int .i64 0, .slice none 0 0] 24)
          have k1_ := k1.alloc (.cells #[.int .i64 0, .string ⟨#[]⟩, .int .i64 0, .int .i64 0, .int .i64 0, .slice none 0 0] 24)
          have hne : g1 < wn30.heap.size := k1.lt
          have hg2 : w2.heap.size ≤ wn30.heap.size := hB.size
          have hB_ := hB.alloc hB.size (.cells #[.int .i64 0, .string ⟨#[]⟩, .int .i64 0, .int .i64 0, .int .i64 0, .slice none 0 0] 24)
          clear hB n1 k1
          generalize wn30.alloc (.cells #[.int .i64 0, .string ⟨#[]⟩, .int .i64 0, .int .i64 0, .int .i64 0, .slice none 0 0] 24) = wn35 at *
          generalize wn30.heap.size = g2 at *
          have n1 := n1_
          clear n1_
          have k1 := k1_
          clear k1_
          have k2 := k2_
          clear k2_
          have hB := hB_
          clear hB_
          refine hK.out _ _ hB (fun hHeld => ?_)
          clear hK K hHeld
          try simp only [List.getElem_toArray, List.getElem_cons_succ, List.getElem_cons_zero, Act.put, List.setIfInBounds_toArray, List.set_cons_zero, List.set_cons_succ]
          refine wpAnyH_ready (rs := [3]) (by kernel_rfl) (by simp) ?_
          refine AllReadyH.cons rfl (fun K hK => ?_) AllReadyH.nil
          go_simp
          refine (HO2.out _ hB).mono ?_
          rintro e wn36 ⟨D2, f2, rfl, hb1, hown1⟩
          replace n1 := n1.below hb1
          replace k1 := k1.under hb1
          replace k2 := k2.under hb1
          replace hB := hB.trans (hb1.mono hB.size)
          have n2 := Reads.of_own hown1
          clear hb1 hown1
          refine hK.out _ _ hB (fun hHeld => ?_)
          clear hK K hHeld
          try simp only [List.getElem_toArray, List.getElem_cons_succ, List.getElem_cons_zero, Act.put, List.setIfInBounds_toArray, List.set_cons_zero, List.set_cons_succ]
          refine wpAnyH_ready (rs := [6]) (by kernel_rfl) (by simp) ?_
          refine AllReadyH.cons rfl (fun K hK => ?_) AllReadyH.nil
          obtain ⟨x0, x1, x2, x3, x4, x5⟩ := k1.sixc
          have y0 := k1.frozen 0
          have y1 := k1.frozen 1
          have y2 := k1.frozen 2
          have y3 := k1.frozen 3
          have y4 := k1.frozen 4
          have y5 := k1.frozen 5
          have y6 := k1.lt
          go_simp
          have k1_ : Blk ((((((wn36.setCell ⟨g1, 0, none⟩ (.int .i64 mx.kind)).setCell ⟨g1, 1, none⟩ (.string mx.name)).setCell ⟨g1, 2, none⟩ (.int .i64 mx.eps)).setCell ⟨g1, 3, none⟩ (.int .i64 mx.floor)).setCell ⟨g1, 4, none⟩ (.int .i64 mx.scale)).setCell ⟨g1, 5, none⟩ (.slice D1 mx.pts.length f1)) g1 24 (aM mx.kind mx.name mx.eps mx.floor mx.scale (.slice D1 mx.pts.length f1)) := Blk.all6 k1
          have k2_ : Blk ((((((wn36.setCell ⟨g1, 0, none⟩ (.int .i64 mx.kind)).setCell ⟨g1, 1, none⟩ (.string mx.name)).setCell ⟨g1, 2, none⟩ (.int .i64 mx.eps)).setCell ⟨g1, 3, none⟩ (.int .i64 mx.floor)).setCell ⟨g1, 4, none⟩ (.int .i64 mx.scale)).setCell ⟨g1, 5, none⟩ (.slice D1 mx.pts.length f1)) g2 24 _ := k2.far6 (q := g1) (by omega) (.int .i64 mx.kind) (.string mx.name) (.int .i64 mx.eps) (.int .i64 mx.floor) (.int .i64 mx.scale) (.slice D1 mx.pts.length f1)
          have n1_ := Reads.set6 n1 k1.typed (by decide) (.int .i64 mx.kind) (.string mx.name) (.int .i64 mx.eps) (.int .i64 mx.floor) (.int .i64 mx.scale) (.slice D1 mx.pts.length f1)
          change Reads ((((((wn36.setCell ⟨g1, 0, none⟩ (.int .i64 mx.kind)).setCell ⟨g1, 1, none⟩ (.string mx.name)).setCell ⟨g1, 2, none⟩ (.int .i64 mx.eps)).setCell ⟨g1, 3, none⟩ (.int .i64 mx.floor)).setCell ⟨g1, 4, none⟩ (.int .i64 mx.scale)).setCell ⟨g1, 5, none⟩ (.slice D1 mx.pts.length f1)) _ _ _ _ _ at n1_
          have n2_ := Reads.set6 n2 k1.typed (by decide) (.int .i64 mx.kind) (.string mx.name) (.int .i64 mx.eps) (.int .i64 mx.floor) (.int .i64 mx.scale) (.slice D1 mx.pts.length f1)
          change Reads ((((((wn36.setCell ⟨g1, 0, none⟩ (.int .i64 mx.kind)).setCell ⟨g1, 1, none⟩ (.string mx.name)).setCell ⟨g1, 2, none⟩ (.int .i64 mx.eps)).setCell ⟨g1, 3, none⟩ (.int .i64 mx.floor)).setCell ⟨g1, 4, none⟩ (.int .i64 mx.scale)).setCell ⟨g1, 5, none⟩ (.slice D1 mx.pts.length f1)) _ _ _ _ _ at n2_
          have hB_ : Below w2.heap.size w2 ((((((wn36.setCell ⟨g1, 0, none⟩ (.int .i64 mx.kind)).setCell ⟨g1, 1, none⟩ (.string mx.name)).setCell ⟨g1, 2, none⟩ (.int .i64 mx.eps)).setCell ⟨g1, 3, none⟩ (.int .i64 mx.floor)).setCell ⟨g1, 4, none⟩ (.int .i64 mx.scale)).setCell ⟨g1, 5, none⟩ (.slice D1 mx.pts.length f1)) := Below.set6 hB hg1 (.int .i64 mx.kind) (.string mx.name) (.int .i64 mx.eps) (.int .i64 mx.floor) (.int .i64 mx.scale) (.slice D1 mx.pts.length f1)
          clear hB k1 k2 n1 n2 x0 x1 x2 x3 x4 x5 y0 y1 y2 y3 y4 y5 y6
          generalize ((((((wn36.setCell ⟨g1, 0, none⟩ (.int .i64 mx.kind)).setCell ⟨g1, 1, none⟩ (.string mx.name)).setCell ⟨g1, 2, none⟩ (.int .i64 mx.eps)).setCell ⟨g1, 3, none⟩ (.int .i64 mx.floor)).setCell ⟨g1, 4, none⟩ (.int .i64 mx.scale)).setCell ⟨g1, 5, none⟩ (.slice D1 mx.pts.length f1)) = wn37 at *
          have n1 := n1_
          clear n1_
          have n2 := n2_
          clear n2_
          have k1 := k1_
          clear k1_
          have k2 := k2_
          clear k2_
          have hB := hB_
          clear hB_
          refine hK.out _ _ hB (fun hHeld => ?_)
          clear hK K hHeld
          try simp only [List.getElem_toArray, List.getElem_cons_succ, List.getElem_cons_zero, Act.put, List.setIfInBounds_toArray, List.set_cons_zero, List.set_cons_succ]
          refine wpAnyH_ready (rs := [7]) (by kernel_rfl) (by simp) ?_
          refine AllReadyH.cons rfl (fun K hK => ?_) AllReadyH.nil
          obtain ⟨x0, x1, x2, x3, x4, x5⟩ := k2.sixc
          have y0 := k2.frozen 0
          have y1 := k2.frozen 1
          have y2 := k2.frozen 2
          have y3 := k2.frozen 3
          have y4 := k2.frozen 4
          have y5 := k2.frozen 5
          have y6 := k2.lt
          go_simp
          have k2_ : Blk ((((((wn37.setCell ⟨g2, 0, none⟩ (.int .i64 my.kind)).setCell ⟨g2, 1, none⟩ (.string my.name)).setCell ⟨g2, 2, none⟩ (.int .i64 my.eps)).setCell ⟨g2, 3, none⟩ (.int .i64 my.floor)).setCell ⟨g2, 4, none⟩ (.int .i64 my.scale)).setCell ⟨g2, 5, none⟩ (.slice D2 my.pts.length f2)) g2 24 (aM my.kind my.name my.eps my.floor my.scale (.slice D2 my.pts.length f2)) := Blk.all6 k2
          have k1_ : Blk ((((((wn37.setCell ⟨g2, 0, none⟩ (.int .i64 my.kind)).setCell ⟨g2, 1, none⟩ (.string my.name)).setCell ⟨g2, 2, none⟩ (.int .i64 my.eps)).setCell ⟨g2, 3, none⟩ (.int .i64 my.floor)).setCell ⟨g2, 4, none⟩ (.int .i64 my.scale)).setCell ⟨g2, 5, none⟩ (.slice D2 my.pts.length f2)) g1 24 _ := k1.far6 (q := g2) (by omega) (.int .i64 my.kind) (.string my.name) (.int .i64 my.eps) (.int .i64 my.floor) (.int .i64 my.scale) (.slice D2 my.pts.length f2)
          have n1_ := Reads.set6 n1 k2.typed (by decide) (.int .i64 my.kind) (.string my.name) (.int .i64 my.eps) (.int .i64 my.floor) (.int .i64 my.scale) (.slice D2 my.pts.length f2)
          change Reads ((((((wn37.setCell ⟨g2, 0, none⟩ (.int .i64 my.kind)).setCell ⟨g2, 1, none⟩ (.string my.name)).setCell ⟨g2, 2, none⟩ (.int .i64 my.eps)).setCell ⟨g2, 3, none⟩ (.int .i64 my.floor)).setCell ⟨g2, 4, none⟩ (.int .i64 my.scale)).setCell ⟨g2, 5, none⟩ (.slice D2 my.pts.length f2)) _ _ _ _ _ at n1_
          have n2_ := Reads.set6 n2 k2.typed (by decide) (.int .i64 my.kind) (.string my.name) (.int .i64 my.eps) (.int .i64 my.floor) (.int .i64 my.scale) (.slice D2 my.pts.length f2)
          change Reads ((((((wn37.setCell ⟨g2, 0, none⟩ (.int .i64 my.kind)).setCell ⟨g2, 1, none⟩ (.string my.name)).setCell ⟨g2, 2, none⟩ (.int .i64 my.eps)).setCell ⟨g2, 3, none⟩ (.int .i64 my.floor)).setCell ⟨g2, 4, none⟩ (.int .i64 my.scale)).setCell ⟨g2, 5, none⟩ (.slice D2 my.pts.length f2)) _ _ _ _ _ at n2_
          have hB_ : Below w2.heap.size w2 ((((((wn37.setCell ⟨g2, 0, none⟩ (.int .i64 my.kind)).setCell ⟨g2, 1, none⟩ (.string my.name)).setCell ⟨g2, 2, none⟩ (.int .i64 my.eps)).setCell ⟨g2, 3, none⟩ (.int .i64 my.floor)).setCell ⟨g2, 4, none⟩ (.int .i64 my.scale)).setCell ⟨g2, 5, none⟩ (.slice D2 my.pts.length f2)) := Below.set6 hB hg2 (.int .i64 my.kind) (.string my.name) (.int .i64 my.eps) (.int .i64 my.floor) (.int .i64 my.scale) (.slice D2 my.pts.length f2)
          clear hB k1 k2 n1 n2 x0 x1 x2 x3 x4 x5 y0 y1 y2 y3 y4 y5 y6
          generalize ((((((wn37.setCell ⟨g2, 0, none⟩ (.int .i64 my.kind)).setCell ⟨g2, 1, none⟩ (.string my.name)).setCell ⟨g2, 2, none⟩ (.int .i64 my.eps)).setCell ⟨g2, 3, none⟩ (.int .i64 my.floor)).setCell ⟨g2, 4, none⟩ (.int .i64 my.scale)).setCell ⟨g2, 5, none⟩ (.slice D2 my.pts.length f2)) = wn38 at *
          have n1 := n1_
          clear n1_
          have n2 := n2_
          clear n2_
          have k1 := k1_
          clear k1_
          have k2 := k2_
          clear k2_
          have hB := hB_
          clear hB_
          refine hK.out _ _ hB (fun hHeld => ?_)
          clear hK K hHeld
          try simp only [List.getElem_toArray, List.getElem_cons_succ, List.getElem_cons_zero, Act.put, List.setIfInBounds_toArray, List.set_cons_zero, List.set_cons_succ]
          refine wpAnyH_done (by kernel_rfl) ?_ _
          go_wp2_with fail
          go_meet
          exact ⟨g1, g2, rfl, rfl, hid ⟨D1, f1, D2, f2, k1, k2, n1, n2, hB⟩⟩
      · go_simp
        have k2_ := Blk.new wn29 24 #[.int .i64 0, .string ⟨#[]⟩, .int .i64 0, .int .i64 0, .int .i64 0, .slice none 0 0]
        have k1_ := k1.alloc (.cells #[.int .i64 0, .string ⟨#[]⟩, .int .i64 0, .int .i64 0, .int .i64 0, .slice none 0 0] 24)
        have hne : g1 < wn29.heap.size := k1.lt
        have hg2 : w2.heap.size ≤ wn29.heap.size := hB.size
        have hB_ := hB.alloc hB.size (.cells #[.int .i64 0, .string ⟨#[]⟩, .int .i64 0, .int .i64 0, .int .i64 0, .slice none 0 0] 24)
        clear hB k1
        generalize wn29.alloc (.cells #[.int .i64 0, .string ⟨#[]⟩, .int .i64 0, .int .i64 0, .int .i64 0, .slice none 0 0] 24) = wn39 at *
        generalize wn29.heap.size = g2 at *
        have k1 := k1_
        clear k1_
        have k2 := k2_
        clear k2_
        have hB := hB_
        clear hB_
        refine hK.out _ _ hB (fun hHeld => ?_)
        clear hK K hHeld
        try simp only [List.getElem_toArray, List.getElem_cons_succ, List.getElem_cons_zero, Act.put, List.setIfInBounds_toArray, List.set_cons_zero, List.set_cons_succ]
        refine wpAnyH_ready (rs := [1]) (by kernel_rfl) (by simp) ?_
        refine AllReadyH.cons rfl (fun K hK => ?_) AllReadyH.nil
        go_simp
        refine (HO1.out _ hB).mono ?_
        rintro e wn40 ⟨D1, f1, rfl, hb1, hown1⟩
        replace k1 := k1.under hb1
        replace k2 := k2.under hb1
        replace hB := hB.trans (hb1.mono hB.size)
        have n1 := Reads.of_own hown1
        clear hb1 hown1
        refine hK.out _ _ hB (fun hHeld => ?_)
        clear hK K hHeld
        try simp only [List.getElem_toArray, List.getElem_cons_succ, List.getElem_cons_zero, Act.put, List.setIfInBounds_toArray, List.set_cons_zero, List.set_cons_succ]
        refine wpAnyH_ready (rs := [3]) (by kernel_rfl) (by simp) ?_
        refine AllReadyH.cons rfl (fun K hK => ?_) AllReadyH.nil
        go_simp
        refine (HO2.out _ hB).mono ?_
        rintro e wn41 ⟨D2, f2, rfl, hb1, hown1⟩
        replace n1 := n1.below hb1
        replace k1 := k1.under hb1
        replace k2 := k2.under hb1
        replace hB := hB.trans (hb1.mono hB.size)
        have n2 := Reads.of_own hown1
        clear hb1 hown1
        refine hK.out _ _ hB (fun hHeld => ?_)
        clear hK K hHeld
        try simp only [List.getElem_toArray, List.getElem_cons_succ, List.getElem_cons_zero, Act.put, List.setIfInBounds_toArray, List.set_cons_zero, List.set_cons_succ]
        refine wpAnyH_ready (rs := [6]) (by kernel_rfl) (by simp) ?_
        refine AllReadyH.cons rfl (fun K hK => ?_) AllReadyH.nil
        obtain ⟨x0, x1, x2, x3, x4, x5⟩ := k1.sixc
        have y0 := k1.frozen 0
        have y1 := k1.frozen 1
        have y2 := k1.frozen 2
        have y3 := k1.frozen 3
        have y4 := k1.frozen 4
        have y5 := k1.frozen 5
        have y6 := k1.lt
        go_simp
        have k1_ : Blk ((((((wn41.setCell ⟨g1, 0, none⟩ (.int .i64 mx.kind)).setCell ⟨g1, 1, none⟩ (.string mx.name)).setCell ⟨g1, 2, none⟩ (.int .i64 mx.eps)).setCell ⟨g1, 3, none⟩ (.int .i64 mx.floor)).setCell ⟨g1, 4, none⟩ (.int .i64 mx.scale)).setCell ⟨g1, 5, none⟩ (.slice D1 mx.pts.length f1)) g1 24 (aM mx.kind mx.name mx.eps mx.floor mx.scale (.slice D1 mx.pts.length f1)) := Blk.all6 k1
        have k2_ : Blk ((((((wn41.setCell ⟨g1, 0, none⟩ (.int .i64 mx.kind)).setCell ⟨g1, 1, none⟩ (.string mx.name)).setCell ⟨g1, 2, none⟩ (.int .i64 mx.eps)).setCell ⟨g1, 3, none⟩ (.int .i64 mx.floor)).setCell ⟨g1, 4, none⟩ (.int .i64 mx.scale)).setCell ⟨g1, 5, none⟩ (.slice D1 mx.pts.length f1)) g2 24 _ := k2.far6 (q := g1) (by omega) (.int .i64 mx.kind) (.string mx.name) (.int .i64 mx.eps) (.int .i64 mx.floor) (.int .i64 mx.scale) (.slice D1 mx.pts.length f1)
        have n1_ := Reads.set6 n1 k1.typed (by decide) (.int .i64 mx.kind) (.string mx.name) (.int .i64 mx.eps) (.int .i64 mx.floor) (.int .i64 mx.scale) (.slice D1 mx.pts.length f1)
        change Reads ((((((wn41.setCell ⟨g1, 0, none⟩ (.int .i64 mx.kind)).setCell ⟨g1, 1, none⟩ (.string mx.name)).setCell ⟨g1, 2, none⟩ (.int .i64 mx.eps)).setCell ⟨g1, 3, none⟩ (.int .i64 mx.floor)).setCell ⟨g1, 4, none⟩ (.int .i64 mx.scale)).setCell ⟨g1, 5, none⟩ (.slice D1 mx.pts.length f1)) _ _ _ _ _ at n1_
        have n2_ := Reads.set6 n2 k1.typed (by decide) (.int .i64 mx.kind) (.string mx.name) (.int .i64 mx.eps) (.int .i64 mx.floor) (.int .i64 mx.scale) (.slice D1 mx.pts.length f1)
        change Reads ((((((wn41.setCell ⟨g1, 0, none⟩ (.int .i64 mx.kind)).setCell ⟨g1, 1, none⟩ (.string mx.name)).setCell ⟨g1, 2, none⟩ (.int .i64 mx.eps)).setCell ⟨g1, 3, none⟩ (.int .i64 mx.floor)).setCell ⟨g1, 4, none⟩ (.int .i64 mx.scale)).setCell ⟨g1, 5, none⟩ (.slice D1 mx.pts.length f1)) _ _ _ _ _ at n2_
        have hB_ : Below w2.heap.size w2 ((((((wn41.setCell ⟨g1, 0, none⟩ (.int .i64 mx.kind)).setCell ⟨g1, 1, none⟩ (.string mx.name)).setCell ⟨g1, 2, none⟩ (.int .i64 mx.eps)).setCell ⟨g1, 3, none⟩ (.int .i64 mx.floor)).setCell ⟨g1, 4, none⟩ (.int .i64 mx.scale)).setCell ⟨g1, 5, none⟩ (.slice D1 mx.pts.length f1)) := Below.set6 hB hg1 (.int .i64 mx.kind) (.string mx.name) (.int .i64 mx.eps) (.int .i64 mx.floor) (.int .i64 mx.scale) (.slice D1 mx.pts.length f1)
        clear hB k1 k2 n1 n2 x0 x1 x2 x3 x4 x5 y0 y1 y2 y3 y4 y5 y6
        generalize ((((((wn41.setCell ⟨g1, 0, none⟩ (.int .i64 mx.kind)).setCell ⟨g1, 1, none⟩ (.string mx.name)).setCell ⟨g1, 2, none⟩ (.int .i64 mx.eps)).setCell ⟨g1, 3, none⟩ (.int .i64 mx.floor)).setCell ⟨g1, 4, none⟩ (.int .i64 mx.scale)).setCell ⟨g1, 5, none⟩ (.slice D1 mx.pts.length f1)) = wn42 at *
        have n1 := n1_
        clear n1_
        have n2 := n2_
        clear n2_
        have k1 := k1_
        clear k1_
        have k2 := k2_
        clear k2_
        have hB := hB_
        clear hB_
        refine hK.out _ _ hB (fun hHeld => ?_)
        clear hK K hHeld
        try simp only [List.getElem_toArray, List.getElem_cons_succ, List.getElem_cons_zero, Act.put, List.setIfInBounds_toArray, List.set_cons_zero, List.set_cons_succ]
        refine wpAnyH_ready (rs := [7]) (by kernel_rfl) (by simp) ?_
        refine AllReadyH.cons rfl (fun K hK => ?_) AllReadyH.nil
        obtain ⟨x0, x1, x2, x3, x4, x5⟩ := k2.sixc
        have y0 := k2.frozen 0
        have y1 := k2.frozen 1
        have y2 := k2.frozen 2
        have y3 := k2.frozen 3
        have y4 := k2.frozen 4
        have y5 := k2.frozen 5
        have y6 := k2.lt
        go_simp
        have k2_ : Blk ((((((wn42.setCell ⟨g2, 0, none⟩ (.int .i64 my.kind)).setCell ⟨g2, 1, none⟩ (.string my.name)).setCell ⟨g2, 2, none⟩ (.int .i64 my.eps)).setCell ⟨g2, 3, none⟩ (.int .i64 my.floor)).setCell ⟨g2, 4, none⟩ (.int .i64 my.scale)).setCell ⟨g2, 5, none⟩ (.slice D2 my.pts.length f2)) g2 24 (aM my.kind my.name my.eps my.floor my.scale (.slice D2 my.pts.length f2)) := Blk.all6 k2
        have k1_ : Blk ((((((wn42.setCell ⟨g2, 0, none⟩ (.int .i64 my.kind)).setCell ⟨g2, 1, none⟩ (.string my.name)).setCell ⟨g2, 2, none⟩ (.int .i64 my.eps)).setCell ⟨g2, 3, none⟩ (.int .i64 my.floor)).setCell ⟨g2, 4, none⟩ (.int .i64 my.scale)).setCell ⟨g2, 5, none⟩ (.slice D2 my.pts.length f2)) g1 24 _ := k1.far6 (q := g2) (by omega) (.int .i64 my.kind) (.string my.name) (.int .i64 my.eps) (.int .i64 my.floor) (.int .i64 my.scale) (.slice D2 my.pts.length f2)
        have n1_ := Reads.set6 n1 k2.typed (by decide) (.int .i64 my.kind) (.string my.name) (.int .i64 my.eps) (.int .i64 my.floor) (.int .i64 my.scale) (.slice D2 my.pts.length f2)
        change Reads ((((((wn42.setCell ⟨g2, 0, none⟩ (.int .i64 my.kind)).setCell ⟨g2, 1, none⟩ (.string my.name)).setCell ⟨g2, 2, none⟩ (.int .i64 my.eps)).setCell ⟨g2, 3, none⟩ (.int .i64 my.floor)).setCell ⟨g2, 4, none⟩ (.int .i64 my.scale)).setCell ⟨g2, 5, none⟩ (.slice D2 my.pts.length f2)) _ _ _ _ _ at n1_
        have n2_ := Reads.set6 n2 k2.typed (by decide) (.int .i64 my.kind) (.string my.name) (.int .i64 my.eps) (.int .i64 my.floor) (.int .i64 my.scale) (.slice D2 my.pts.length f2)
        change Reads ((((((wn42.setCell ⟨g2, 0, none⟩ (.int .i64 my.kind)).setCell ⟨g2, 1, none⟩ (.string my.name)).setCell ⟨g2, 2, none⟩ (.int .i64 my.eps)).setCell ⟨g2, 3, none⟩ (.int .i64 my.floor)).setCell ⟨g2, 4, none⟩ (.int .i64 my.scale)).setCell ⟨g2, 5, none⟩ (.slice D2 my.pts.length f2)) _ _ _ _ _ at n2_
        have hB_ : Below w2.heap.size w2 ((((((wn42.setCell ⟨g2, 0, none⟩ (.int .i64 my.kind)).setCell ⟨g2, 1, none⟩ (.string my.name)).setCell ⟨g2, 2, none⟩ (.int .i64 my.eps)).setCell ⟨g2, 3, none⟩ (.int .i64 my.floor)).setCell ⟨g2, 4, none⟩ (.int .i64 my.scale)).setCell ⟨g2, 5, none⟩ (.slice D2 my.pts.length f2)) := Below.set6 hB hg2 (.int .i64 my.kind) (.string my.name) (.int .i64 my.eps) (.int .i64 my.floor) (.int .i64 my.scale) (.slice D2 my.pts.length f2)
        clear hB k1 k2 n1 n2 x0 x1 x2 x3 x4 x5 y0 y1 y2 y3 y4 y5 y6
        generalize ((((((wn42.setCell ⟨g2, 0, none⟩ (.int .i64 my.kind)).setCell ⟨g2, 1, none⟩ (.string my.name)).setCell ⟨g2, 2, none⟩ (.int .i64 my.eps)).setCell ⟨g2, 3, none⟩ (.int .i64 my.floor)).setCell ⟨g2, 4, none⟩ (.int .i64 my.scale)).setCell ⟨g2, 5, none⟩ (.slice D2 my.pts.length f2)) = wn43 at *
        have n1 := n1_
        clear n1_
        have n2 := n2_
        clear n2_
        have k1 := k1_
        clear k1_
        have k2 := k2_
        clear k2_
        have hB := hB_
        clear hB_
        refine hK.out _ _ hB (fun hHeld => ?_)
        clear hK K hHeld
        try simp only [List.getElem_toArray, List.getElem_cons_succ, List.getElem_cons_zero, Act.put, List.setIfInBounds_toArray, List.set_cons_zero, List.set_cons_succ]
        refine wpAnyH_done (by kernel_rfl) ?_ _
        go_wp2_with fail
        go_meet
        exact ⟨g1, g2, rfl, rfl, hid ⟨D1, f1, D2, f2, k1, k2, n1, n2, hB⟩⟩
    · go_simp
      have k2_ := Blk.new wd 24 #[.int .i64 0, .string ⟨#[]⟩, .int .i64 0, .int .i64 0, .int .i64 0, .slice none 0 0]
      have hg2 : w2.heap.size ≤ wd.heap.size := hB.size
      have hB_ := hB.alloc hB.size (.cells #[.int .i64 0, .string ⟨#[]⟩, .int .i64 0, .int .i64 0, .int .i64 0, .slice none 0 0] 24)
      clear hB 
      generalize wd.alloc (.cells #[.int .i64 0, .string ⟨#[]⟩, .int .i64 0, .int .i64 0, .int .i64 0, .slice none 0 0] 24) = wn44 at *
      generalize wd.heap.size = g2 at *
      have k2 := k2_
      clear k2_
      have hB := hB_
      clear hB_
      refine hK.out _ _ hB (fun hHeld => ?_)
      clear hK K hHeld
      try simp only [List.getElem_toArray, List.getElem_cons_succ, List.getElem_cons_zero, Act.put, List.setIfInBounds_toArray, List.set_cons_zero, List.set_cons_succ]
      refine wpAnyH_ready (rs := [1, 4]) (by kernel_rfl) (by simp) ?_
      refine AllReadyH.cons rfl (fun K hK => ?_) (AllReadyH.cons rfl (fun K hK => ?_) AllReadyH.nil)
      · go_simp
        refine (HO1.out _ hB).mono ?_
        rintro e wn45 ⟨D1, f1, rfl, hb1, hown1⟩
        replace k2 := k2.under hb1
        replace hB := hB.trans (hb1.mono hB.size)
        have n1 := Reads.of_own hown1
        clear hb1 hown1
        refine hK.out _ _ hB (fun hHeld => ?_)
        clear hK K hHeld
        try simp only [List.getElem_toArray, List.getElem_cons_succ, List.getElem_cons_zero, Act.put, List.setIfInBounds_toArray, List.set_cons_zero, List.set_cons_succ]
        refine wpAnyH_ready (rs := [3, 4]) (by kernel_rfl) (by simp) ?_
        refine AllReadyH.cons rfl (fun K hK => ?_) (AllReadyH.cons rfl (fun K hK => ?_) AllReadyH.nil)
        · go_simp
          refine (HO2.out _ hB).mono ?_
          rintro e wn46 ⟨D2, f2, rfl, hb1, hown1⟩
          replace n1 := n1.below hb1
          replace k2 := k2.under hb1
          replace hB := hB.trans (hb1.mono hB.size)
          have n2 := Reads.of_own hown1
          clear hb1 hown1
          refine hK.out _ _ hB (fun hHeld => ?_)
          clear hK K hHeld
          try simp only [List.getElem_toArray, List.getElem_cons_succ, List.getElem_cons_zero, Act.put, List.setIfInBounds_toArray, List.set_cons_zero, List.set_cons_succ]
          refine wpAnyH_ready (rs := [4]) (by kernel_rfl) (by simp) ?_
          refine AllReadyH.cons rfl (fun K hK => ?_) AllReadyH.nil
          go_simp
          have k1_ := Blk.new wn46 24 #[.int .i64 0, .string ⟨#[]⟩, .int .i64 0, .int .i64 0, .int .i64 0, .slice none 0 0]
          have n1_ := n1.alloc (.cells #[.int .i64 0, .string ⟨#[]⟩, .int .i64 0, .int .i64 0, .int .i64 0, .slice none 0 0] 24)
          have n2_ := n2.alloc (.cells #[.int .i64 0, .string ⟨#[]⟩, .int .i64 0, .int .i64 0, .int .i64 0, .slice none 0 0] 24)
          have k2_ := k2.alloc (.cells #[.int .i64 0, .string ⟨#[]⟩, .int .i64 0, .int .i64 0, .int .i64 0, .slice none 0 0] 24)
          have hne : g2 < wn46.heap.size := k2.lt
          have hg1 : w2.heap.size ≤ wn46.heap.size := hB.size
          have hB_ := hB.alloc hB.size (.cells #[.int .i64 0, .string ⟨#[]⟩, .int .i64 0, .int .i64 0, .int .i64 0, .slice none 0 0] 24)
          clear hB n1 n2 k2
          generalize wn46.alloc (.cells #[.int .i64 0, .string ⟨#[]⟩, .int .i64 0, .int .i64 0, .int .i64 0, .slice none 0 0] 24) = wn47 at *
          generalize wn46.heap.size = g1 at *
          have n1 := n1_
          clear n1_
          have n2 := n2_
          clear n2_
          have k2 := k2_
          clear k2_
          have k1 := k1_
          clear k1_
          have hB := hB_
          clear hB_
          refine hK.out _ _ hB (fun hHeld => ?_)
          clear hK K hHeld
          try simp only [List.getElem_toArray, List.getElem_cons_succ, List.getElem_cons_zero, Act.put, List.setIfInBounds_toArray, List.set_cons_zero, List.set_cons_succ]
          refine wpAnyH_ready (rs := [6]) (by kernel_rfl) (by simp) ?_
          refine AllReadyH.cons rfl (fun K hK => ?_) AllReadyH.nil
          obtain ⟨x0, x1, x2, x3, x4, x5⟩ := k1.sixc
          have y0 := k1.frozen 0
          have y1 := k1.frozen 1
          have y2 := k1.frozen 2
          have y3 := k1.frozen 3
          have y4 := k1.frozen 4
          have y5 := k1.frozen 5
          have y6 := k1.lt
          go_simp
          have k1_ : Blk ((((((wn47.setCell ⟨g1, 0, none⟩ (.int .i64 mx.kind)).setCell ⟨g1, 1, none⟩ (.string mx.name)).setCell ⟨g1, 2, none⟩ (.int .i64 mx.eps)).setCell ⟨g1, 3, none⟩ (.int .i64 mx.floor)).setCell ⟨g1, 4, none⟩ (.int .i64 mx.scale)).setCell ⟨g1, 5, none⟩ (.slice D1 mx.pts.length f1)) g1 24 (aM mx.kind mx.name mx.eps mx.floor mx.scale (.slice D1 mx.pts.length f1)) := Blk.all6 k1
          have k2_ : Blk ((((((wn47.setCell ⟨g1, 0, none⟩ (.int .i64 mx.kind)).setCell ⟨g1, 1, none⟩ (.string mx.name)).setCell ⟨g1, 2, none⟩ (.int .i64 mx.eps)).setCell ⟨g1, 3, none⟩ (.int .i64 mx.floor)).setCell ⟨g1, 4, none⟩ (.int .i64 mx.scale)).setCell ⟨g1, 5, none⟩ (.slice D1 mx.pts.length f1)) g2 24 _ := k2.far6 (q := g1) (by omega) (.int .i64 mx.kind) (.string mx.name) (.int .i64 mx.eps) (.int .i64 mx.floor) (.int .i64 mx.scale) (.slice D1 mx.pts.length f1)
          have n1_ := Reads.set6 n1 k1.typed (by decide) (.int .i64 mx.kind) (.string mx.name) (.int .i64 mx.eps) (.int .i64 mx.floor) (.int .i64 mx.scale) (.slice D1 mx.pts.length f1)
          change Reads ((((((wn47.setCell ⟨g1, 0, none⟩ (.int .i64 mx.kind)).setCell ⟨g1, 1, none⟩ (.string mx.name)).setCell ⟨g1, 2, none⟩ (.int .i64 mx.eps)).setCell ⟨g1, 3, none⟩ (.int .i64 mx.floor)).setCell ⟨g1, 4, none⟩ (.int .i64 mx.scale)).setCell ⟨g1, 5, none⟩ (.slice D1 mx.pts.length f1)) _ _ _ _ _ at n1_
          have n2_ := Reads.set6 n2 k1.typed (by decide) (.int .i64 mx.kind) (.string mx.name) (.int .i64 mx.eps) (.int .i64 mx.floor) (.int .i64 mx.scale) (.slice D1 mx.pts.length f1)
          change Reads ((((((wn47.setCell ⟨g1, 0, none⟩ (.int .i64 mx.kind)).setCell ⟨g1, 1, none⟩ (.string mx.name)).setCell ⟨g1, 2, none⟩ (.int .i64 mx.eps)).setCell ⟨g1, 3, none⟩ (.int .i64 mx.floor)).setCell ⟨g1, 4, none⟩ (.int .i64 mx.scale)).setCell ⟨g1, 5, none⟩ (.slice D1 mx.pts.length f1)) _ _ _ _ _ at n2_
          have hB_ : Below w2.heap.size w2 ((((((wn47.setCell ⟨g1, 0, none⟩ (.int .i64 mx.kind)).setCell ⟨g1, 1, none⟩ (.string mx.name)).setCell ⟨g1, 2, none⟩ (.int .i64 mx.eps)).setCell ⟨g1, 3, none⟩ (.int .i64 mx.floor)).setCell ⟨g1, 4, none⟩ (.int .i64 mx.scale)).setCell ⟨g1, 5, none⟩ (.slice D1 mx.pts.length f1)) := Below.set6 hB hg1 (.int .i64 mx.kind) (.string mx.name) (.int .i64 mx.eps) (.int .i64 mx.floor) (.int .i64 mx.scale) (.slice D1 mx.pts.length f1)
          clear hB k1 k2 n1 n2 x0 x1 x2 x3 x4 x5 y0 y1 y2 y3 y4 y5 y6
          generalize ((((((wn47.setCell ⟨g1, 0, none⟩ (.int .i64 mx.kind)).setCell ⟨g1, 1, none⟩ (.string mx.name)).setCell ⟨g1, 2, none⟩ (.int .i64 mx.eps)).setCell ⟨g1, 3, none⟩ (.int .i64 mx.floor)).setCell ⟨g1, 4, none⟩ (.int .i64 mx.scale)).setCell ⟨g1, 5, none⟩ (.slice D1 mx.pts.length f1)) = wn48 at *
          have n1 := n1_
          clear n1_
          have n2 := n2_
          clear n2_
          have k1 := k1_
          clear k1_
          have k2 := k2_
          clear k2_
          have hB := hB_
          clear hB_
          refine hK.out _ _ hB (fun hHeld => ?_)
          clear hK K hHeld
          try simp only [List.getElem_toArray, List.getElem_cons_succ, List.getElem_cons_zero, Act.put, List.setIfInBounds_toArray, List.set_cons_zero, List.set_cons_succ]
          refine wpAnyH_ready (rs := [7]) (by kernel_rfl) (by simp) ?_
          refine AllReadyH.cons rfl (fun K hK => ?_) AllReadyH.nil
          obtain ⟨x0, x1, x2, x3, x4, x5⟩ := k2.sixc
          have y0 := k2.frozen 0
          have y1 := k2.frozen 1
          have y2 := k2.frozen 2
          have y3 := k2.frozen 3
          have y4 := k2.frozen 4
          have y5 := k2.frozen 5
          have y6 := k2.lt
          go_simp
          have k2_ : Blk ((((((wn48.setCell ⟨g2, 0, none⟩ (.int .i64 my.kind)).setCell ⟨g2, 1, none⟩ (.string my.name)).setCell ⟨g2, 2, none⟩ (.int .i64 my.eps)).setCell ⟨g2, 3, none⟩ (.int .i64 my.floor)).setCell ⟨g2, 4, none⟩ (.int .i64 my.scale)).setCell ⟨g2, 5, none⟩ (.slice D2 my.pts.length f2)) g2 24 (aM my.kind my.name my.eps my.floor my.scale (.slice D2 my.pts.length f2)) := Blk.all6 k2
          have k1_ : Blk ((((((wn48.setCell ⟨g2, 0, none⟩ (.int .i64 my.kind)).setCell ⟨g2, 1, none⟩ (.string my.name)).setCell ⟨g2, 2, none⟩ (.int .i64 my.eps)).setCell ⟨g2, 3, none⟩ (.int .i64 my.floor)).setCell ⟨g2, 4, none⟩ (.int .i64 my.scale)).setCell ⟨g2, 5, none⟩ (.slice D2 my.pts.length f2)) g1 24 _ := k1.far6 (q := g2) (by omega) (.int .i64 my.kind) (.string my.name) (.int .i64 my.eps) (.int .i64 my.floor) (.int .i64 my.scale) (.slice D2 my.pts.length f2)
          have n1_ := Reads.set6 n1 k2.typed (by decide) (.int .i64 my.kind) (.string my.name) (.int .i64 my.eps) (.int .i64 my.floor) (.int .i64 my.scale) (.slice D2 my.pts.length f2)
          change Reads ((((((wn48.setCell ⟨g2, 0, none⟩ (.int .i64 my.kind)).setCell ⟨g2, 1, none⟩ (.string my.name)).setCell ⟨g2, 2, none⟩ (.int .i64 my.eps)).setCell ⟨g2, 3, none⟩ (.int .i64 my.floor)).setCell ⟨g2, 4, none⟩ (.int .i64 my.scale)).setCell ⟨g2, 5, none⟩ (.slice D2 my.pts.length f2)) _ _ _ _ _ at n1_
          have n2_ := Reads.set6 n2 k2.typed (by decide) (.int .i64 my.kind) (.string my.name) (.int .i64 my.eps) (.int .i64 my.floor) (.int .i64 my.scale) (.slice D2 my.pts.length f2)
          change Reads ((((((wn48.setCell ⟨g2, 0, none⟩ (.int .i64 my.kind)).setCell ⟨g2, 1, none⟩ (.string my.name)).setCell ⟨g2, 2, none⟩ (.int .i64 my.eps)).setCell ⟨g2, 3, none⟩ (.int .i64 my.floor)).setCell ⟨g2, 4, none⟩ (.int .i64 my.scale)).setCell ⟨g2, 5, none⟩ (.slice D2 my.pts.length f2)) _ _ _ _ _ at n2_
          have hB_ : Below w2.heap.size w2 ((((((wn48.setCell ⟨g2, 0, none⟩ (.int .i64 my.kind)).setCell ⟨g2, 1, none⟩ (.string my.name)).setCell ⟨g2, 2, none⟩ (.int .i64 my.eps)).setCell ⟨g2, 3, none⟩ (.int .i64 my.floor)).setCell ⟨g2, 4, none⟩ (.int .i64 my.scale)).setCell ⟨g2, 5, none⟩ (.slice D2 my.pts.length f2)) := Below.set6 hB hg2 (.int .i64 my.kind) (.string my.name) (.int .i64 my.eps) (.int .i64 my.floor) (.int .i64 my.scale) (.slice D2 my.pts.length f2)
          clear hB k1 k2 n1 n2 x0 x1 x2 x3 x4 x5 y0 y1 y2 y3 y4 y5 y6
          generalize ((((((wn48.setCell ⟨g2, 0, none⟩ (.int .i64 my.kind)).setCell ⟨g2, 1, none⟩ (.string my.name)).setCell ⟨g2, 2, none⟩ (.int .i64 my.eps)).setCell ⟨g2, 3, none⟩ (.int .i64 my.floor)).setCell ⟨g2, 4, none⟩ (.int .i64 my.scale)).setCell ⟨g2, 5, none⟩ (.slice D2 my.pts.length f2)) = wn49 at *
          have n1 := n1_
          clear n1_
          have n2 := n2_
          clear n2_
          have k1 := k1_
          clear k1_
          have k2 := k2_
          clear k2_
          have hB := hB_
          clear hB_
          refine hK.out _ _ hB (fun hHeld => ?_)
          clear hK K hHeld
          try simp only [List.getElem_toArray, List.getElem_cons_succ, List.getElem_cons_zero, Act.put, List.setIfInBounds_toArray, List.set_cons_zero, List.set_cons_succ]
          refine wpAnyH_done (by kernel_rfl) ?_ _
          go_wp2_with fail
          go_meet
          exact ⟨g1, g2, rfl, rfl, hid ⟨D1, f1, D2, f2, k1, k2, n1, n2, hB⟩⟩
        · go_simp
          have k1_ := Blk.new wn45 24 #[.int .i64 0, .string ⟨#[]⟩, .int .i64 0, .int .i64 0, .int .i64 0, .slice none 0 0]
          have n1_ := n1.alloc (.cells #[.int .i64 0, .string ⟨#[]⟩, .int .i64 0, .int .i64 0, .int .i64 0, .slice none 0 0] 24)
          have k2_ := k2.alloc (.cells #[.int .i64 0, .string ⟨#[]⟩, .int .i64 0, .int .i64 0, .int .i64 0, .slice none 0 0] 24)
          have hne : g2 < wn45.heap.size := k2.lt
          have hg1 : w2.heap.size ≤ wn45.heap.size := hB.size
          have hB_ := hB.alloc hB.size (.cells #[.int .i64 0, .string ⟨#[]⟩, .int .i64 0, .int .i64 0, .int .i64 0, .slice none 0 0] 24)
          clear hB n1 k2
          generalize wn45.alloc (.cells #[.int .i64 0, .string ⟨#[]⟩, .int .i64 0, .int .i64 0, .int .i64 0, .slice none 0 0] 24) = wn50 at *
          generalize wn45.heap.size = g1 at *
          have n1 := n1_
          clear n1_
          have k2 := k2_
          clear k2_
          have k1 := k1_
          clear k1_
          have hB := hB_
          clear hB_
          refine hK.out _ _ hB (fun hHeld => ?_)
          clear hK K hHeld
          try simp only [List.getElem_toArray, List.getElem_cons_succ, List.getElem_cons_zero, Act.put, List.setIfInBounds_toArray, List.set_cons_zero, List.set_cons_succ]
          refine wpAnyH_ready (rs := [3]) (by kernel_rfl) (by simp) ?_
          refine AllReadyH.cons rfl (fun K hK => ?_) AllReadyH.nil
          go_simp
          refine (HO2.out _ hB).mono ?_
          rintro e wn51 ⟨D2, f2, rfl, hb1, hown1⟩
          replace n1 := n1.below hb1
          replace k1 := k1.under hb1
          replace k2 := k2.under hb1
          replace hB := hB.trans (hb1.mono hB.size)
          have n2 := Reads.of_own hown1
          clear hb1 hown1
          refine hK.out _ _ hB (fun hHeld => ?_)
          clear hK K hHeld
          try simp only [List.getElem_toArray, List.getElem_cons_succ, List.getElem_cons_zero, Act.put, List.setIfInBounds_toArray, List.set_cons_zero, List.set_cons_succ]
          refine wpAnyH_ready (rs := [6]) (by kernel_rfl) (by simp) ?_
          refine AllReadyH.cons rfl (fun K hK => ?_) AllReadyH.nil
          obtain ⟨x0, x1, x2, x3, x4, x5⟩ := k1.sixc
          have y0 := k1.frozen 0
          have y1 := k1.frozen 1
          have y2 := k1.frozen 2
          have y3 := k1.frozen 3
          have y4 := k1.frozen 4
          have y5 := k1.frozen 5
          have y6 := k1.lt
          go_simp
          have k1_ : Blk ((((((wn51.setCell ⟨g1, 0, none⟩ (.int .i64 mx.kind)).setCell ⟨g1, 1, none⟩ (.string mx.name)).setCell ⟨g1, 2, none⟩ (.int .i64 mx.eps)).setCell ⟨g1, 3, none⟩ (.int .i64 mx.floor)).setCell ⟨g1, 4, none⟩ (.int .i64 mx.scale)).setCell ⟨g1, 5, none⟩ (.slice D1 mx.pts.length f1)) g1 24 (aM mx.kind mx.name mx.eps mx.floor mx.scale (.slice D1 mx.pts.length f1)) := Blk.all6 k1
          have k2_ : Blk ((((((wn51.setCell ⟨g1, 0, none⟩ (.int .i64 mx.kind)).setCell ⟨g1, 1, none⟩ (.string mx.name)).setCell ⟨g1, 2, none⟩ (.int .i64 mx.eps)).setCell ⟨g1, 3, none⟩ (.int .i64 mx.floor)).setCell ⟨g1, 4, none⟩ (.int .i64 mx.scale)).setCell ⟨g1, 5, none⟩ (.slice D1 mx.pts.length f1)) g2 24 _ := k2.far6 (q := g1) (by omega) (.int .i64 mx.kind) (.string mx.name) (.int .i64 mx.eps) (.int .i64 mx.floor) (.int .i64 mx.scale) (.slice D1 mx.pts.length f1)
          have n1_ := Reads.set6 n1 k1.typed (by decide) (.int .i64 mx.kind) (.string mx.name) (.int .i64 mx.eps) (.int .i64 mx.floor) (.int .i64 mx.scale) (.slice D1 mx.pts.length f1)
          change Reads ((((((wn51.setCell ⟨g1, 0, none⟩ (.int .i64 mx.kind)).setCell ⟨g1, 1, none⟩ (.string mx.name)).setCell ⟨g1, 2, none⟩ (.int .i64 mx.eps)).setCell ⟨g1, 3, none⟩ (.int .i64 mx.floor)).setCell ⟨g1, 4, none⟩ (.int .i64 mx.scale)).setCell ⟨g1, 5, none⟩ (.slice D1 mx.pts.length f1)) _ _ _ _ _ at n1_
          have n2_ := Reads.set6 n2 k1.typed (by decide) (.int .i64 mx.kind) (.string mx.name) (.int .i64 mx.eps) (.int .i64 mx.floor) (.int .i64 mx.scale) (.slice D1 mx.pts.length f1)
          change Reads ((((((wn51.setCell ⟨g1, 0, none⟩ (.int .i64 mx.kind)).setCell ⟨g1, 1, none⟩ (.string mx.name)).setCell ⟨g1, 2, none⟩ (.int .i64 mx.eps)).setCell ⟨g1, 3, none⟩ (.int .i64 mx.floor)).setCell ⟨g1, 4, none⟩ (.int .i64 mx.scale)).setCell ⟨g1, 5, none⟩ (.slice D1 mx.pts.length f1)) _ _ _ _ _ at n2_
          have hB_ : Below w2.heap.size w2 ((((((wn51.setCell ⟨g1, 0, none⟩ (.int .i64 mx.kind)).setCell ⟨g1, 1, none⟩ (.string mx.name)).setCell ⟨g1, 2, none⟩ (.int .i64 mx.eps)).setCell ⟨g1, 3, none⟩ (.int .i64 mx.floor)).setCell ⟨g1, 4, none⟩ (.int .i64 mx.scale)).setCell ⟨g1, 5, none⟩ (.slice D1 mx.pts.length f1)) := Below.set6 hB hg1 (.int .i64 mx.kind) (.string mx.name) (.int .i64 mx.eps) (.int .i64 mx.floor) (.int .i64 mx.scale) (.slice D1 mx.pts.length f1)
          clear hB k1 k2 n1 n2 x0 x1 x2 x3 x4 x5 y0 y1 y2 y3 y4 y5 y6
          generalize ((((((wn51.setCell ⟨g1, 0, none⟩ (.int .i64 mx.kind)).setCell ⟨g1, 1, none⟩ (.string mx.name)).setCell ⟨g1, 2, none⟩ (.int .i64 mx.eps)).setCell ⟨g1, 3, none⟩ (.int .i64 mx.floor)).setCell ⟨g1, 4, none⟩ (.int .i64 mx.scale)).setCell ⟨g1, 5, none⟩ (.slice D1 mx.pts.length f1)) = wn52 at *
          have n1 := n1_
          clear n1_
          have n2 := n2_
          clear n2_
          have k1 := k1_
          clear k1_
          have k2 := k2_
          clear k2_
          have hB := hB_
          clear hB_
          refine hK.out _ _ hB (fun hHeld => ?_)
          clear hK K hHeld
          try simp only [List.getElem_toArray, List.getElem_cons_succ, List.getElem_cons_zero, Act.put, List.setIfInBounds_toArray, List.set_cons_zero, List.set_cons_succ]
          refine wpAnyH_ready (rs := [7]) (by kernel_rfl) (by simp) ?_
          refine AllReadyH.cons rfl (fun K hK => ?_) AllReadyH.nil
          obtain ⟨x0, x1, x2, x3, x4, x5⟩ := k2.sixc
          have y0 := k2.frozen 0
          have y1 := k2.frozen 1
          have y2 := k2.frozen 2
          have y3 := k2.frozen 3
          have y4 := k2.frozen 4
          have y5 := k2.frozen 5
          have y6 := k2.lt
          go_simp
          have k2_ : Blk ((((((wn52.setCell ⟨g2, 0, none⟩ (.int .i64 my.kind)).setCell ⟨g2, 1, none⟩ (.string my.name)).setCell ⟨g2, 2, none⟩ (.int .i64 my.eps)).setCell ⟨g2, 3, none⟩ (.int .i64 my.floor)).setCell ⟨g2, 4, none⟩ (.int .i64 my.scale)).setCell ⟨g2, 5, none⟩ (.slice D2 my.pts.length f2)) g2 24 (aM my.kind my.name my.eps my.floor my.scale (.slice D2 my.pts.length f2)) := Blk.all6 k2
          have k1_ : Blk ((((((wn52.setCell ⟨g2, 0, none⟩ (.int .i64 my.kind)).setCell ⟨g2, 1, none⟩ (.string my.name)).setCell ⟨g2, 2, none⟩ (.int .i64 my.eps)).setCell ⟨g2, 3, none⟩ (.int .i64 my.floor)).setCell ⟨g2, 4, none⟩ (.int .i64 my.scale)).setCell ⟨g2, 5, none⟩ (.slice D2 my.pts.length f2)) g1 24 _ := k1.far6 (q := g2) (by omega) (.int .i64 my.kind) (.string my.name) (.int .i64 my.eps) (.int .i64 my.floor) (.int .i64 my.scale) (.slice D2 my.pts.length f2)
          have n1_ := Reads.set6 n1 k2.typed (by decide) (.int .i64 my.kind) (.string my.name) (.int .i64 my.eps) (.int .i64 my.floor) (.int .i64 my.scale) (.slice D2 my.pts.length f2)
          change Reads ((((((wn52.setCell ⟨g2, 0, none⟩ (.int .i64 my.kind)).setCell ⟨g2, 1, none⟩ (.string my.name)).setCell ⟨g2, 2, none⟩ (.int .i64 my.eps)).setCell ⟨g2, 3, none⟩ (.int .i64 my.floor)).setCell ⟨g2, 4, none⟩ (.int .i64 my.scale)).setCell ⟨g2, 5, none⟩ (.slice D2 my.pts.length f2)) _ _ _ _ _ at n1_
          have n2_ := Reads.set6 n2 k2.typed (by decide) (.int .i64 my.kind) (.string my.name) (.int .i64 my.eps) (.int .i64 my.floor) (.int .i64 my.scale) (.slice D2 my.pts.length f2)
          change Reads ((((((wn52.setCell ⟨g2, 0, none⟩ (.int .i64 my.kind)).setCell ⟨g2, 1, none⟩ (.string my.name)).setCell ⟨g2, 2, none⟩ (.int .i64 my.eps)).setCell ⟨g2, 3, none⟩ (.int .i64 my.floor)).setCell ⟨g2, 4, none⟩ (.int .i64 my.scale)).setCell ⟨g2, 5, none⟩ (.slice D2 my.pts.length f2)) _ _ _ _ _ at n2_
          have hB_ : Below w2.heap.size w2 ((((((wn52.setCell ⟨g2, 0, none⟩ (.int .i64 my.kind)).setCell ⟨g2, 1, none⟩ (.string my.name)).setCell ⟨g2, 2, none⟩ (.int .i64 my.eps)).setCell ⟨g2, 3, none⟩ (.int .i64 my.floor)).setCell ⟨g2, 4, none⟩ (.int .i64 my.scale)).setCell ⟨g2, 5, none⟩ (.slice D2 my.pts.length f2)) := Below.set6 hB hg2 (.int .i64 my.kind) (.string my.name) (.int .i64 my.eps) (.int .i64 my.floor) (.int .i64 my.scale) (.slice D2 my.pts.length f2)
          clear hB k1 k2 n1 n2 x0 x1 x2 x3 x4 x5 y0 y1 y2 y3 y4 y5 y6
          generalize ((((((wn52.setCell ⟨g2, 0, none⟩ (.int .i64 my.kind)).setCell ⟨g2, 1, none⟩ (.string my.name)).setCell ⟨g2, 2, none⟩ (.int .i64 my.eps)).setCell ⟨g2, 3, none⟩ (.int .i64 my.floor)).setCell ⟨g2, 4, none⟩ (.int .i64 my.scale)).setCell ⟨g2, 5, none⟩ (.slice D2 my.pts.length f2)) = wn53 at *
          have n1 := n1_
          clear n1_
          have n2 := n2_
          clear n2_
          have k1 := k1_
          clear k1_
          have k2 := k2_
          clear k2_
          have hB := hB_
          clear hB_
          refine hK.out _ _ hB (fun hHeld => ?_)
          clear hK K hHeld
          try simp only [List.getElem_toArray, List.getElem_cons_succ, List.getElem_cons_zero, Act.put, List.setIfInBounds_toArray, List.set_cons_zero, List.set_cons_succ]
          refine wpAnyH_done (by kernel_rfl) ?_ _
          go_wp2_with fail
          go_meet
          exact ⟨g1, g2, rfl, rfl, hid ⟨D1, f1, D2, f2, k1, k2, n1, n2, hB⟩⟩
      · go_simp
        have k1_ := Blk.new wn44 24 #[.int .i64 0, .string ⟨#[]⟩, .int .i64 0, .int .i64 0, .int .i64 0, .slice none 0 0]
        have k2_ := k2.alloc (.cells #[.int .i64 0, .string ⟨#[]⟩, .int .i64 0, .int .i64 0, .int .i64 0, .slice none 0 0] 24)
        have hne : g2 < wn44.heap.size := k2.lt
        have hg1 : w2.heap.size ≤ wn44.heap.size := hB.size
        have hB_ := hB.alloc hB.size (.cells #[.int .i64 0, .string ⟨#[]⟩, .int .i64 0, .int .i64 0, .int .i64 0, .slice none 0 0] 24)
        clear hB k2
        generalize wn44.alloc (.cells #[.int .i64 0, .string ⟨#[]⟩, .int .i64 0, .int .i64 0, .int .i64 0, .slice none 0 0] 24) = wn54 at *
        generalize wn44.heap.size = g1 at *
        have k2 := k2_
        clear k2_
        have k1 := k1_
        clear k1_
        have hB := hB_
        clear hB_
        refine hK.out _ _ hB (fun hHeld => ?_)
        clear hK K hHeld
        try simp only [List.getElem_toArray, List.getElem_cons_succ, List.getElem_cons_zero, Act.put, List.setIfInBounds_toArray, List.set_cons_zero, List.set_cons_succ]
        refine wpAnyH_ready (rs := [1]) (by kernel_rfl) (by simp) ?_
        refine AllReadyH.cons rfl (fun K hK => ?_) AllReadyH.nil
        go_simp
        refine (HO1.out _ hB).mono ?_
        rintro e wn55 ⟨D1, f1, rfl, hb1, hown1⟩
        replace k1 := k1.under hb1
        replace k2 := k2.under hb1
        replace hB := hB.trans (hb1.mono hB.size)
        have n1 := Reads.of_own hown1
        clear hb1 hown1
        refine hK.out _ _ hB (fun hHeld => ?_)
        clear hK K hHeld
        try simp only [List.getElem_toArray, List.getElem_cons_succ, List.getElem_cons_zero, Act.put, List.setIfInBounds_toArray, List.set_cons_zero, List.set_cons_succ]
        refine wpAnyH_ready (rs := [3]) (by kernel_rfl) (by simp) ?_
        refine AllReadyH.cons rfl (fun K hK => ?_) AllReadyH.nil
        go_simp
        refine (HO2.out _ hB).mono ?_
        rintro e wn56 ⟨D2, f2, rfl, hb1, hown1⟩
        replace n1 := n1.below hb1
        replace k1 := k1.under hb1
        replace k2 := k2.under hb1
        replace hB := hB.trans (hb1.mono hB.size)
        have n2 := Reads.of_own hown1
        clear hb1 hown1
        refine hK.out _ _ hB (fun hHeld => ?_)
        clear hK K hHeld
        try simp only [List.getElem_toArray, List.getElem_cons_succ, List.getElem_cons_zero, Act.put, List.setIfInBounds_toArray, List.set_cons_zero, List.set_cons_succ]
        refine wpAnyH_ready (rs := [6]) (by kernel_rfl) (by simp) ?_
        refine AllReadyH.cons rfl (fun K hK => ?_) AllReadyH.nil
        obtain ⟨x0, x1, x2, x3, x4, x5⟩ := k1.sixc
        have y0 := k1.frozen 0
        have y1 := k1.frozen 1
        have y2 := k1.frozen 2
        have y3 := k1.frozen 3
        have y4 := k1.frozen 4
        have y5 := k1.frozen 5
        have y6 := k1.lt
        go_simp
        have k1_ : Blk ((((((wn56.setCell ⟨g1, 0, none⟩ (.int .i64 mx.kind)).setCell ⟨g1, 1, none⟩ (.string mx.name)).setCell ⟨g1, 2, none⟩ (.int .i64 mx.eps)).setCell ⟨g1, 3, none⟩ (.int .i64 mx.floor)).setCell ⟨g1, 4, none⟩ (.int .i64 mx.scale)).setCell ⟨g1, 5, none⟩ (.slice D1 mx.pts.length f1)) g1 24 (aM mx.kind mx.name mx.eps mx.floor mx.scale (.slice D1 mx.pts.length f1)) := Blk.all6 k1
        have k2_ : Blk ((((((wn56.setCell ⟨g1, 0, none⟩ (.int .i64 mx.kind)).setCell ⟨g1, 1, none⟩ (.string mx.name)).setCell ⟨g1, 2, none⟩ (.int .i64 mx.eps)).setCell ⟨g1, 3, none⟩ (.int .i64 mx.floor)).setCell ⟨g1, 4, none⟩ (.int .i64 mx.scale)).setCell ⟨g1, 5, none⟩ (.slice D1 mx.pts.length f1)) g2 24 _ := k2.far6 (q := g1) (by omega) (.int .i64 mx.kind) (.string mx.name) (.int .i64 mx.eps) (.int .i64 mx.floor) (.int .i64 mx.scale) (.slice D1 mx.pts.length f1)
        have n1_ := Reads.set6 n1 k1.typed (by decide) (.int .i64 mx.kind) (.string mx.name) (.int .i64 mx.eps) (.int .i64 mx.floor) (.int .i64 mx.scale) (.slice D1 mx.pts.length f1)
        change Reads ((((((wn56.setCell ⟨g1, 0, none⟩ (.int .i64 mx.kind)).setCell ⟨g1, 1, none⟩ (.string mx.name)).setCell ⟨g1, 2, none⟩ (.int .i64 mx.eps)).setCell ⟨g1, 3, none⟩ (.int .i64 mx.floor)).setCell ⟨g1, 4, none⟩ (.int .i64 mx.scale)).setCell ⟨g1, 5, none⟩ (.slice D1 mx.pts.length f1)) _ _ _ _ _ at n1_
        have n2_ := Reads.set6 n2 k1.typed (by decide) (.int .i64 mx.kind) (.string mx.name) (.int .i64 mx.eps) (.int .i64 mx.floor) (.int .i64 mx.scale) (.slice D1 mx.pts.length f1)
        change Reads ((((((wn56.setCell ⟨g1, 0, none⟩ (.int .i64 mx.kind)).setCell ⟨g1, 1, none⟩ (.string mx.name)).setCell ⟨g1, 2, none⟩ (.int .i64 mx.eps)).setCell ⟨g1, 3, none⟩ (.int .i64 mx.floor)).setCell ⟨g1, 4, none⟩ (.int .i64 mx.scale)).setCell ⟨g1, 5, none⟩ (.slice D1 mx.pts.length f1)) _ _ _ _ _ at n2_
        have hB_ : Below w2.heap.size w2 ((((((wn56.setCell ⟨g1, 0, none⟩ (.int .i64 mx.kind)).setCell ⟨g1, 1, none⟩ (.string mx.name)).setCell ⟨g1, 2, none⟩ (.int .i64 mx.eps)).setCell ⟨g1, 3, none⟩ (.int .i64 mx.floor)).setCell ⟨g1, 4, none⟩ (.int .i64 mx.scale)).setCell ⟨g1, 5, none⟩ (.slice D1 mx.pts.length f1)) := Below.set6 hB hg1 (.int .i64 mx.kind) (.string mx.name) (.int .i64 mx.eps) (.int .i64 mx.floor) (.int .i64 mx.scale) (.slice D1 mx.pts.length f1)
        clear hB k1 k2 n1 n2 x0 x1 x2 x3 x4 x5 y0 y1 y2 y3 y4 y5 y6
        generalize ((((((wn56.setCell ⟨g1, 0, none⟩ (.int .i64 mx.kind)).setCell ⟨g1, 1, none⟩ (.string mx.name)).setCell ⟨g1, 2, none⟩ (.int .i64 mx.eps)).setCell ⟨g1, 3, none⟩ (.int .i64 mx.floor)).setCell ⟨g1, 4, none⟩ (.int .i64 mx.scale)).setCell ⟨g1, 5, none⟩ (.slice D1 mx.pts.length f1)) = wn57 at *
        have n1 := n1_
        clear n1_
        have n2 := n2_
        clear n2_
        have k1 := k1_
        clear k1_
        have k2 := k2_
        clear k2_
        have hB := hB_
        clear hB_
        refine hK.out _ _ hB (fun hHeld => ?_)
        clear hK K hHeld
        try simp only [List.getElem_toArray, List.getElem_cons_succ, List.getElem_cons_zero, Act.put, List.setIfInBounds_toArray, List.set_cons_zero, List.set_cons_succ]
        refine wpAnyH_ready (rs := [7]) (by kernel_rfl) (by simp) ?_
        refine AllReadyH.cons rfl (fun K hK => ?_) AllReadyH.nil
        obtain ⟨x0, x1, x2, x3, x4, x5⟩ := k2.sixc
        have y0 := k2.frozen 0
        have y1 := k2.frozen 1
        have y2 := k2.frozen 2
        have y3 := k2.frozen 3
        have y4 := k2.frozen 4
        have y5 := k2.frozen 5
        have y6 := k2.lt
        go_simp
        have k2_ : Blk ((((((wn57.setCell ⟨g2, 0, none⟩ (.int .i64 my.kind)).setCell ⟨g2, 1, none⟩ (.string my.name)).setCell ⟨g2, 2, none⟩ (.int .i64 my.eps)).setCell ⟨g2, 3, none⟩ (.int .i64 my.floor)).setCell ⟨g2, 4, none⟩ (.int .i64 my.scale)).setCell ⟨g2, 5, none⟩ (.slice D2 my.pts.length f2)) g2 24 (aM my.kind my.name my.eps my.floor my.scale (.slice D2 my.pts.length f2)) := Blk.all6 k2
        have k1_ : Blk ((((((wn57.setCell ⟨g2, 0, none⟩ (.int .i64 my.kind)).setCell ⟨g2, 1, none⟩ (.string my.name)).setCell ⟨g2, 2, none⟩ (.int .i64 my.eps)).setCell ⟨g2, 3, none⟩ (.int .i64 my.floor)).setCell ⟨g2, 4, none⟩ (.int .i64 my.scale)).setCell ⟨g2, 5, none⟩ (.slice D2 my.pts.length f2)) g1 24 _ := k1.far6 (q := g2) (by omega) (.int .i64 my.kind) (.string my.name) (.int .i64 my.eps) (.int .i64 my.floor) (.int .i64 my.scale) (.slice D2 my.pts.length f2)
        have n1_ := Reads.set6 n1 k2.typed (by decide) (.int .i64 my.kind) (.string my.name) (.int .i64 my.eps) (.int .i64 my.floor) (.int .i64 my.scale) (.slice D2 my.pts.length f2)
        change Reads ((((((wn57.setCell ⟨g2, 0, none⟩ (.int .i64 my.kind)).setCell ⟨g2, 1, none⟩ (.string my.name)).setCell ⟨g2, 2, none⟩ (.int .i64 my.eps)).setCell ⟨g2, 3, none⟩ (.int .i64 my.floor)).setCell ⟨g2, 4, none⟩ (.int .i64 my.scale)).setCell ⟨g2, 5, none⟩ (.slice D2 my.pts.length f2)) _ _ _ _ _ at n1_
        have n2_ := Reads.set6 n2 k2.typed (by decide) (.int .i64 my.kind) (.string my.name) (.int .i64 my.eps) (.int .i64 my.floor) (.int .i64 my.scale) (.slice D2 my.pts.length f2)
        change Reads ((((((wn57.setCell ⟨g2, 0, none⟩ (.int .i64 my.kind)).setCell ⟨g2, 1, none⟩ (.string my.name)).setCell ⟨g2, 2, none⟩ (.int .i64 my.eps)).setCell ⟨g2, 3, none⟩ (.int .i64 my.floor)).setCell ⟨g2, 4, none⟩ (.int .i64 my.scale)).setCell ⟨g2, 5, none⟩ (.slice D2 my.pts.length f2)) _ _ _ _ _ at n2_
        have hB_ : Below w2.heap.size w2 ((((((wn57.setCell ⟨g2, 0, none⟩ (.int .i64 my.kind)).setCell ⟨g2, 1, none⟩ (.string my.name)).setCell ⟨g2, 2, none⟩ (.int .i64 my.eps)).setCell ⟨g2, 3, none⟩ (.int .i64 my.floor)).setCell ⟨g2, 4, none⟩ (.int .i64 my.scale)).setCell ⟨g2, 5, none⟩ (.slice D2 my.pts.length f2)) := Below.set6 hB hg2 (.int .i64 my.kind) (.string my.name) (.int .i64 my.eps) (.int .i64 my.floor) (.int .i64 my.scale) (.slice D2 my.pts.length f2)
        clear hB k1 k2 n1 n2 x0 x1 x2 x3 x4 x5 y0 y1 y2 y3 y4 y5 y6
        generalize ((((((wn57.setCell ⟨g2, 0, none⟩ (.int .i64 my.kind)).setCell ⟨g2, 1, none⟩ (.string my.name)).setCell ⟨g2, 2, none⟩ (.int .i64 my.eps)).setCell ⟨g2, 3, none⟩ (.int .i64 my.floor)).setCell ⟨g2, 4, none⟩ (.int .i64 my.scale)).setCell ⟨g2, 5, none⟩ (.slice D2 my.pts.length f2)) = wn58 at *
        have n1 := n1_
        clear n1_
        have n2 := n2_
        clear n2_
        have k1 := k1_
        clear k1_
        have k2 := k2_
        clear k2_
        have hB := hB_
        clear hB_
        refine hK.out _ _ hB (fun hHeld => ?_)
        clear hK K hHeld
        try simp only [List.getElem_toArray, List.getElem_cons_succ, List.getElem_cons_zero, Act.put, List.setIfInBounds_toArray, List.set_cons_zero, List.set_cons_succ]
        refine wpAnyH_done (by kernel_rfl) ?_ _
        go_wp2_with fail
        go_meet
        exact ⟨g1, g2, rfl, rfl, hid ⟨D1, f1, D2, f2, k1, k2, n1, n2, hB⟩⟩
  case rest =>
    obtain ⟨gm, go, rfl, rfl, HT⟩ := hcut
    obtain ⟨D1, f1, D2, f2, k1, k2, n1, n2, hb⟩ := HT.out
    replace HB := hid (HB.out.trans (hb.mono HB.out.size))
    have K3 := hid (KX.out.under hb)
    have K1 := hid k1
    have K2 := hid k2
    have N1 := hid n1
    have N2 := hid n2
    have HOX := hid (fun W (h : Below wc.heap.size wc W) => HO1.out W (hb.trans (h.mono hb.size)))
    cases hr : rightB mx with
    | false =>
      have HRT := hid hr
      have HC := hid (Check_c mx D1 f1 wc n1 (by have := H40.out; omega))
      clear k1 k2 n1 n2 hb HT KX KY HO1 HO2 c0 c1 c2 c3 c4 c5 d0 d1 d2 d3 d4 d5
      obtain ⟨c0, c1, c2, c3, c4, c5⟩ := K1.out.sixc
      go_wp2_with fail
      rw [hr] at HC
      clear hr
      refine HC.out.mono ?_
      rintro e w3 ⟨rfl, hb3⟩
      rw [if_neg (by decide)]
      replace HB := hid (HB.out.trans (hb3.mono HB.out.size))
      replace K1 := hid (K1.out.under hb3)
      replace K2 := hid (K2.out.under hb3)
      replace K3 := hid (K3.out.under hb3)
      replace N1 := hid (N1.out.below hb3)
      replace N2 := hid (N2.out.below hb3)
      replace HOX := hid (fun W (h : Below w3.heap.size w3 W) => HOX.out W (hb3.trans (h.mono hb3.size)))
      clear hb3 c0 c1 c2 c3 c4 c5 HC
      have HR := hid (Right_d mx D1 f1 w3 N1.out (by have := H40.out; omega) (by have := H40.out; omega))
      obtain ⟨c0, c1, c2, c3, c4, c5⟩ := K1.out.sixc
      go_wp2_with fail
      rw [HRT.out] at HR
      refine HR.out.mono ?_
      rintro e w4 ⟨rfl, hb4⟩
      replace HB := hid (HB.out.trans (hb4.mono HB.out.size))
      replace K1 := hid (K1.out.under hb4)
      replace K2 := hid (K2.out.under hb4)
      replace K3 := hid (K3.out.under hb4)
      replace N1 := hid (N1.out.below hb4)
      replace N2 := hid (N2.out.below hb4)
      replace HOX := hid (fun W (h : Below w4.heap.size w4 W) => HOX.out W (hb4.trans (h.mono hb4.size)))
      clear hb4 c0 c1 c2 c3 c4 c5 HR
      obtain ⟨c0, c1, c2, c3, c4, c5⟩ := K1.out.sixc
      obtain ⟨d0, d1, d2, d3, d4, d5⟩ := K2.out.sixc
      obtain ⟨e0, e1, e2, e3, e4, e5⟩ := K3.out.sixc
      obtain ⟨bq, hbq⟩ : ∃ b, b = decide (mx = my) := ⟨_, rfl⟩
      have HSM := hid (fun W (h : Below w4.heap.size w4 W) => Same_c mx my D1 D2 f1 f2 W (N1.out.below h) (N2.out.below h) (by have := H40.out; omega))
      have HSD := hid (fun W (h : Below w4.heap.size w4 W) => Same_d mx my D1 D2 f1 f2 W (N1.out.below h) (N2.out.below h) (by have := H40.out; omega))
      rw [← hbq] at HSM HSD
      have HSX := hid (fun W D f (h : Below w4.heap.size w4 W) (n : Reads W 51 2 D mx.pts.length (mx.pts.flatMap cellsP)) => Same_c mx mx D1 D f1 f W (N1.out.below h) n (by have := H40.out; omega))
      rw [decide_eq_true rfl] at HSX
      clear hbq
      go_wp2_with fail
      refine wp_region_held_drew (S := (fun W => Below w4.heap.size w4 W)) (by kernel_rfl) (below_dn (Below.refl w4.heap.size w4) 1) (fun hHeld => ?_)
      refine wpAnyH_take (i := 0) (v := ?_) rfl (by kernel_rfl) (by kernel_rfl) (by kernel_rfl) (fun _ _ _ h => h) (Or.inl ⟨by rfl, ?_⟩) (by assumption) ?_
      rotate_left
      · intro W hW
        go_simp
        try rfl
      simp only [List.getElem_toArray, List.getElem_cons_zero, Act.put, List.setIfInBounds_toArray, List.set_cons_zero, List.set_cons_succ]
      refine wpAnyH_take (i := 1) (v := ?_) rfl (by kernel_rfl) (by kernel_rfl) (by kernel_rfl) (fun _ _ _ h => h) (Or.inl ⟨by rfl, ?_⟩) (by assumption) ?_
      rotate_left
      · intro W hW
        go_simp
        try rfl
      simp only [List.getElem_toArray, List.getElem_cons_succ, List.getElem_cons_zero, Act.put, List.setIfInBounds_toArray, List.set_cons_zero, List.set_cons_succ]
      refine wpAnyH_take (i := 2) (v := ?_) rfl (by kernel_rfl) (by kernel_rfl) (by kernel_rfl) (fun _ _ _ h => h) (Or.inl ⟨by rfl, ?_⟩) (by assumption) ?_
      rotate_left
      · intro W hW
        go_simp
        try rfl
      simp only [List.getElem_toArray, List.getElem_cons_succ, List.getElem_cons_zero, Act.put, List.setIfInBounds_toArray, List.set_cons_zero, List.set_cons_succ]
      refine wpAnyH_take (i := 3) (v := ?_) rfl (by kernel_rfl) (by kernel_rfl) (by kernel_rfl) (fun _ _ _ h => h) (Or.inl ⟨by rfl, ?_⟩) (by assumption) ?_
      rotate_left
      · intro W hW
        go_simp
        try rfl
      simp only [List.getElem_toArray, List.getElem_cons_succ, List.getElem_cons_zero, Act.put, List.setIfInBounds_toArray, List.set_cons_zero, List.set_cons_succ]
      refine wpAnyH_take (i := 4) (v := ?_) rfl (by kernel_rfl) (by kernel_rfl) (by kernel_rfl) (fun _ _ _ h => h) (Or.inl ⟨by rfl, ?_⟩) (by assumption) ?_
      rotate_left
      · intro W hW
        go_simp
        try rfl
      simp only [List.getElem_toArray, List.getElem_cons_succ, List.getElem_cons_zero, Act.put, List.setIfInBounds_toArray, List.set_cons_zero, List.set_cons_succ]
      refine wpAnyH_take (i := 5) (v := ?_) rfl (by kernel_rfl) (by kernel_rfl) (by kernel_rfl) (fun _ _ _ h => h) (Or.inl ⟨by rfl, ?_⟩) (by assumption) ?_
      rotate_left
      · intro W hW
        go_simp
        try rfl
      simp only [List.getElem_toArray, List.getElem_cons_succ, List.getElem_cons_zero, Act.put, List.setIfInBounds_toArray, List.set_cons_zero, List.set_cons_succ]
      refine wpAnyH_take (i := 6) (v := ?_) rfl (by kernel_rfl) (by kernel_rfl) (by kernel_rfl) (fun _ _ _ h => h) (Or.inl ⟨by rfl, ?_⟩) (by assumption) ?_
      rotate_left
      · intro W hW
        go_simp
        try rfl
      simp only [List.getElem_toArray, List.getElem_cons_succ, List.getElem_cons_zero, Act.put, List.setIfInBounds_toArray, List.set_cons_zero, List.set_cons_succ]
      refine wpAnyH_take (i := 7) (v := ?_) rfl (by kernel_rfl) (by kernel_rfl) (by kernel_rfl) (fun _ _ _ h => h) (Or.inl ⟨by rfl, ?_⟩) (by assumption) ?_
      rotate_left
      · intro W hW
        go_simp
        try rfl
      simp only [List.getElem_toArray, List.getElem_cons_succ, List.getElem_cons_zero, Act.put, List.setIfInBounds_toArray, List.set_cons_zero, List.set_cons_succ]
      refine wpAnyH_take (i := 8) (v := ?_) rfl (by kernel_rfl) (by kernel_rfl) (by kernel_rfl) (fun _ _ _ h => h) (Or.inl ⟨by rfl, ?_⟩) (by assumption) ?_
      rotate_left
      · intro W hW
        go_simp
        try rfl
      simp only [List.getElem_toArray, List.getElem_cons_succ, List.getElem_cons_zero, Act.put, List.setIfInBounds_toArray, List.set_cons_zero, List.set_cons_succ]
      refine wpAnyH_take (i := 9) (v := ?_) rfl (by kernel_rfl) (by kernel_rfl) (by kernel_rfl) (fun _ _ _ h => h) (Or.inl ⟨by rfl, ?_⟩) (by assumption) ?_
      rotate_left
      · intro W hW
        go_simp
        try rfl
      simp only [List.getElem_toArray, List.getElem_cons_succ, List.getElem_cons_zero, Act.put, List.setIfInBounds_toArray, List.set_cons_zero, List.set_cons_succ]
      refine wpAnyH_take (i := 10) (v := ?_) rfl (by kernel_rfl) (by kernel_rfl) (by kernel_rfl) (fun _ _ _ h => h) (Or.inl ⟨by rfl, ?_⟩) (by assumption) ?_
      rotate_left
      · intro W hW
        go_simp
        try rfl
      simp only [List.getElem_toArray, List.getElem_cons_succ, List.getElem_cons_zero, Act.put, List.setIfInBounds_toArray, List.set_cons_zero, List.set_cons_succ]
      refine wpAnyH_take (i := 11) (v := ?_) rfl (by kernel_rfl) (by kernel_rfl) (by kernel_rfl) (fun _ _ _ h => h) (Or.inl ⟨by rfl, ?_⟩) (by assumption) ?_
      rotate_left
      · intro W hW
        go_simp
        try rfl
      simp only [List.getElem_toArray, List.getElem_cons_succ, List.getElem_cons_zero, Act.put, List.setIfInBounds_toArray, List.set_cons_zero, List.set_cons_succ]
      refine wpAnyH_take (i := 12) (v := ?_) rfl (by kernel_rfl) (by kernel_rfl) (by kernel_rfl) (fun _ _ _ h => h) (Or.inl ⟨by rfl, ?_⟩) (by assumption) ?_
      rotate_left
      · intro W hW
        go_simp
        try rfl
      simp only [List.getElem_toArray, List.getElem_cons_succ, List.getElem_cons_zero, Act.put, List.setIfInBounds_toArray, List.set_cons_zero, List.set_cons_succ]
      refine wpAnyH_take (i := 13) (v := ?_) rfl (by kernel_rfl) (by kernel_rfl) (by kernel_rfl) (fun _ _ _ h => h) (Or.inl ⟨by rfl, ?_⟩) (by assumption) ?_
      rotate_left
      · intro W hW
        have y0 := keepc c0 hW
        have y1 := keepc c1 hW
        have y2 := keepc c2 hW
        have y3 := keepc c3 hW
        have y4 := keepc c4 hW
        have y5 := keepc c5 hW
        go_simp
        try rfl
      simp only [List.getElem_toArray, List.getElem_cons_succ, List.getElem_cons_zero, Act.put, List.setIfInBounds_toArray, List.set_cons_zero, List.set_cons_succ]
      refine wpAnyH_take (i := 14) (v := ?_) rfl (by kernel_rfl) (by kernel_rfl) (by kernel_rfl) (fun _ _ _ h => h) (Or.inl ⟨by rfl, ?_⟩) (by assumption) ?_
      rotate_left
      · intro W hW
        have y0 := keepc d0 hW
        have y1 := keepc d1 hW
        have y2 := keepc d2 hW
        have y3 := keepc d3 hW
        have y4 := keepc d4 hW
        have y5 := keepc d5 hW
        go_simp
        try rfl
      simp only [List.getElem_toArray, List.getElem_cons_succ, List.getElem_cons_zero, Act.put, List.setIfInBounds_toArray, List.set_cons_zero, List.set_cons_succ]
      refine wpAnyH_take (i := 16) (v := ?_) rfl (by kernel_rfl) (by kernel_rfl) (by kernel_rfl) (fun _ _ _ h => h) (Or.inl ⟨by rfl, ?_⟩) (by assumption) ?_
      rotate_left
      · intro W hW
        have y0 := keepc c0 hW
        have y1 := keepc c1 hW
        have y2 := keepc c2 hW
        have y3 := keepc c3 hW
        have y4 := keepc c4 hW
        have y5 := keepc c5 hW
        go_simp
        try rfl
      simp only [List.getElem_toArray, List.getElem_cons_succ, List.getElem_cons_zero, Act.put, List.setIfInBounds_toArray, List.set_cons_zero, List.set_cons_succ]
      refine wpAnyH_take (i := 17) (v := ?_) rfl (by kernel_rfl) (by kernel_rfl) (by kernel_rfl) (fun _ _ _ h => h) (Or.inl ⟨by rfl, ?_⟩) (by assumption) ?_
      rotate_left
      · intro W hW
        have y0 := keepc d0 hW
        have y1 := keepc d1 hW
        have y2 := keepc d2 hW
        have y3 := keepc d3 hW
        have y4 := keepc d4 hW
        have y5 := keepc d5 hW
        go_simp
        try rfl
      simp only [List.getElem_toArray, List.getElem_cons_succ, List.getElem_cons_zero, Act.put, List.setIfInBounds_toArray, List.set_cons_zero, List.set_cons_succ]
      refine wpAnyH_ready (rs := [15]) (by kernel_rfl) (by simp) ?_
      refine AllReadyH.cons rfl (fun K hK => ?_) AllReadyH.nil
      go_simp
      refine (HSM.out _ hHeld).mono ?_
      rintro e wr1 ⟨rfl, hb9⟩
      have hw9 : Below w4.heap.size w4 wr1 := hHeld.trans (hb9.mono hHeld.size)
      clear hHeld hb9
      refine hK.out _ _ hw9 (fun hHeld => ?_)
      clear hK K
      try simp only [List.getElem_toArray, List.getElem_cons_succ, List.getElem_cons_zero, Act.put, List.setIfInBounds_toArray, List.set_cons_zero, List.set_cons_succ]
      refine wpAnyH_ready (rs := [18]) (by kernel_rfl) (by simp) ?_
      refine AllReadyH.cons rfl (fun K hK => ?_) AllReadyH.nil
      go_simp
      refine (HSD.out _ hHeld).mono ?_
      rintro e wr2 ⟨rfl, hb9⟩
      have hw9 : Below w4.heap.size w4 wr2 := hHeld.trans (hb9.mono hHeld.size)
      clear hHeld hb9
      refine hK.out _ _ hw9 (fun hHeld => ?_)
      clear hK K
      try simp only [List.getElem_toArray, List.getElem_cons_succ, List.getElem_cons_zero, Act.put, List.setIfInBounds_toArray, List.set_cons_zero, List.set_cons_succ]
      refine wpAnyH_take (i := 19) (v := ?_) rfl (by kernel_rfl) (by kernel_rfl) (by kernel_rfl) (fun _ _ _ h => h) (Or.inl ⟨by rfl, ?_⟩) (by assumption) ?_
      rotate_left
      · intro W hW
        go_simp
        try rfl
      simp only [List.getElem_toArray, List.getElem_cons_succ, List.getElem_cons_zero, Act.put, List.setIfInBounds_toArray, List.set_cons_zero, List.set_cons_succ]
      refine wpAnyH_take (i := 20) (v := ?_) rfl (by kernel_rfl) (by kernel_rfl) (by kernel_rfl) (fun _ _ _ h => h) (Or.inl ⟨by rfl, ?_⟩) (by assumption) ?_
      rotate_left
      · intro W hW
        go_simp
        try rfl
      simp only [List.getElem_toArray, List.getElem_cons_succ, List.getElem_cons_zero, Act.put, List.setIfInBounds_toArray, List.set_cons_zero, List.set_cons_succ]
      refine wpAnyH_take (i := 21) (v := ?_) rfl (by kernel_rfl) (by kernel_rfl) (by kernel_rfl) (fun _ _ _ h => h) (Or.inl ⟨by rfl, ?_⟩) (by assumption) ?_
      rotate_left
      · intro W hW
        go_simp
        try rfl
      simp only [List.getElem_toArray, List.getElem_cons_succ, List.getElem_cons_zero, Act.put, List.setIfInBounds_toArray, List.set_cons_zero, List.set_cons_succ]
      refine wpAnyH_take (i := 22) (v := ?_) rfl (by kernel_rfl) (by kernel_rfl) (by kernel_rfl) (fun _ _ _ h => h) (Or.inl ⟨by rfl, ?_⟩) (by assumption) ?_
      rotate_left
      · intro W hW
        have y0 := keepc c0 hW
        have y1 := keepc c1 hW
        have y2 := keepc c2 hW
        have y3 := keepc c3 hW
        have y4 := keepc c4 hW
        have y5 := keepc c5 hW
        go_simp
        try rfl
      simp only [List.getElem_toArray, List.getElem_cons_succ, List.getElem_cons_zero, Act.put, List.setIfInBounds_toArray, List.set_cons_zero, List.set_cons_succ]
      refine wpAnyH_take (i := 23) (v := ?_) rfl (by kernel_rfl) (by kernel_rfl) (by kernel_rfl) (fun _ _ _ h => h) (Or.inl ⟨by rfl, ?_⟩) (by assumption) ?_
      rotate_left
      · intro W hW
        have y0 := keepc e0 hW
        have y1 := keepc e1 hW
        have y2 := keepc e2 hW
        have y3 := keepc e3 hW
        have y4 := keepc e4 hW
        have y5 := keepc e5 hW
        go_simp
        try rfl
      simp only [List.getElem_toArray, List.getElem_cons_succ, List.getElem_cons_zero, Act.put, List.setIfInBounds_toArray, List.set_cons_zero, List.set_cons_succ]
      refine wpAnyH_ready (rs := [24]) (by kernel_rfl) (by simp) ?_
      refine AllReadyH.cons rfl (fun K hK => ?_) AllReadyH.nil
      go_simp
      refine (HOX.out _ hHeld).mono ?_
      rintro e wr3 ⟨D5, f5, rfl, hb9, hown9⟩
      have hw9 : Below w4.heap.size w4 wr3 := hHeld.trans (hb9.mono hHeld.size)
      have n5 := Reads.of_own hown9
      clear hown9
      clear hHeld hb9
      refine hK.out _ _ hw9 (fun hHeld => ?_)
      clear hK K
      try simp only [List.getElem_toArray, List.getElem_cons_succ, List.getElem_cons_zero, Act.put, List.setIfInBounds_toArray, List.set_cons_zero, List.set_cons_succ]
      refine wpAnyH_ready (rs := [25]) (by kernel_rfl) (by simp) ?_
      refine AllReadyH.cons rfl (fun K hK => ?_) AllReadyH.nil
      go_simp
      refine (HSX.out _ _ _ hHeld n5).mono ?_
      rintro e wr4 ⟨rfl, hb9⟩
      have hw9 : Below w4.heap.size w4 wr4 := hHeld.trans (hb9.mono hHeld.size)
      clear hHeld hb9
      refine hK.out _ _ hw9 (fun hHeld => ?_)
      clear hK K
      try simp only [List.getElem_toArray, List.getElem_cons_succ, List.getElem_cons_zero, Act.put, List.setIfInBounds_toArray, List.set_cons_zero, List.set_cons_succ]
      clear n5
      refine wpAnyH_take (i := 26) (v := ?_) rfl (by kernel_rfl) (by kernel_rfl) (by kernel_rfl) (fun _ _ _ h => h) (Or.inl ⟨by rfl, ?_⟩) (by assumption) ?_
      rotate_left
      · intro W hW
        go_simp
        try rfl
      simp only [List.getElem_toArray, List.getElem_cons_succ, List.getElem_cons_zero, Act.put, List.setIfInBounds_toArray, List.set_cons_zero, List.set_cons_succ]
      refine wpAnyH_take (i := 27) (v := ?_) rfl (by kernel_rfl) (by kernel_rfl) (by kernel_rfl) (fun _ _ _ h => h) (Or.inl ⟨by rfl, ?_⟩) (by assumption) ?_
      rotate_left
      · intro W hW
        go_simp
        try rfl
      simp only [List.getElem_toArray, List.getElem_cons_succ, List.getElem_cons_zero, Act.put, List.setIfInBounds_toArray, List.set_cons_zero, List.set_cons_succ]
      refine wpAnyH_take (i := 28) (v := ?_) rfl (by kernel_rfl) (by kernel_rfl) (by kernel_rfl) (fun _ _ _ h => h) (Or.inl ⟨by rfl, ?_⟩) (by assumption) ?_
      rotate_left
      · intro W hW
        go_simp
        try rfl
      simp only [List.getElem_toArray, List.getElem_cons_succ, List.getElem_cons_zero, Act.put, List.setIfInBounds_toArray, List.set_cons_zero, List.set_cons_succ]
      refine wpAnyH_take (i := 29) (v := ?_) rfl (by kernel_rfl) (by kernel_rfl) (by kernel_rfl) (fun _ _ _ h => h) (Or.inl ⟨by rfl, ?_⟩) (by assumption) ?_
      rotate_left
      · intro W hW
        go_simp
        try rfl
      simp only [List.getElem_toArray, List.getElem_cons_succ, List.getElem_cons_zero, Act.put, List.setIfInBounds_toArray, List.set_cons_zero, List.set_cons_succ]
      refine wpAnyH_take (i := 31) (v := ?_) rfl (by kernel_rfl) (by kernel_rfl) (by kernel_rfl) (fun _ _ _ h => h) (Or.inl ⟨by rfl, ?_⟩) (by assumption) ?_
      rotate_left
      · intro W hW
        go_simp
        try rfl
      simp only [List.getElem_toArray, List.getElem_cons_succ, List.getElem_cons_zero, Act.put, List.setIfInBounds_toArray, List.set_cons_zero, List.set_cons_succ]
      refine wpAnyH_ready (rs := [30]) (by kernel_rfl) (by simp) ?_
      refine AllReadyH.cons rfl (fun K hK => ?_) AllReadyH.nil
      go_simp
      refine (Name_c _ _).mono ?_
      rintro e wr5 ⟨rfl, hb9⟩
      have hw9 : Below w4.heap.size w4 wr5 := hHeld.trans (hb9.mono hHeld.size)
      clear hHeld hb9
      refine hK.out _ _ hw9 (fun hHeld => ?_)
      clear hK K
      try simp only [List.getElem_toArray, List.getElem_cons_succ, List.getElem_cons_zero, Act.put, List.setIfInBounds_toArray, List.set_cons_zero, List.set_cons_succ]
      refine wpAnyH_ready (rs := [32]) (by kernel_rfl) (by simp) ?_
      refine AllReadyH.cons rfl (fun K hK => ?_) AllReadyH.nil
      go_simp
      refine (Name_d _ _ (by have := HM3.out; simp only [ByteArray.size_extract]; omega)).mono ?_
      rintro e wr6 ⟨rfl, rfl⟩
      refine hK.out _ _ hHeld (fun hHeld => ?_)
      clear hK K
      try simp only [List.getElem_toArray, List.getElem_cons_succ, List.getElem_cons_zero, Act.put, List.setIfInBounds_toArray, List.set_cons_zero, List.set_cons_succ]
      refine wpAnyH_take (i := 33) (v := ?_) rfl (by kernel_rfl) (by kernel_rfl) (by kernel_rfl) (fun _ _ _ h => h) (Or.inl ⟨by rfl, ?_⟩) (by assumption) ?_
      rotate_left
      · intro W hW
        go_simp
        try rfl
      simp only [List.getElem_toArray, List.getElem_cons_succ, List.getElem_cons_zero, Act.put, List.setIfInBounds_toArray, List.set_cons_zero, List.set_cons_succ]
      refine wpAnyH_take (i := 34) (v := ?_) rfl (by kernel_rfl) (by kernel_rfl) (by kernel_rfl) (fun _ _ _ h => h) (Or.inl ⟨by rfl, ?_⟩) (by assumption) ?_
      rotate_left
      · intro W hW
        go_simp
        try rfl
      simp only [List.getElem_toArray, List.getElem_cons_succ, List.getElem_cons_zero, Act.put, List.setIfInBounds_toArray, List.set_cons_zero, List.set_cons_succ]
      refine wpAnyH_take (i := 35) (v := ?_) rfl (by kernel_rfl) (by kernel_rfl) (by kernel_rfl) (fun _ _ _ h => h) (Or.inl ⟨by rfl, ?_⟩) (by assumption) ?_
      rotate_left
      · intro W hW
        go_simp
        try rfl
      simp only [List.getElem_toArray, List.getElem_cons_succ, List.getElem_cons_zero, Act.put, List.setIfInBounds_toArray, List.set_cons_zero, List.set_cons_succ]
      refine wpAnyH_take (i := 36) (v := ?_) rfl (by kernel_rfl) (by kernel_rfl) (by kernel_rfl) (fun _ _ _ h => h) (Or.inl ⟨by rfl, ?_⟩) (by assumption) ?_
      rotate_left
      · intro W hW
        go_simp
        try rfl
      simp only [List.getElem_toArray, List.getElem_cons_succ, List.getElem_cons_zero, Act.put, List.setIfInBounds_toArray, List.set_cons_zero, List.set_cons_succ]
      refine wpAnyH_take (i := 37) (v := ?_) rfl (by kernel_rfl) (by kernel_rfl) (by kernel_rfl) (fun _ _ _ h => h) (Or.inl ⟨by rfl, ?_⟩) (by assumption) ?_
      rotate_left
      · intro W hW
        have y0 := keepc c0 hW
        have y1 := keepc c1 hW
        have y2 := keepc c2 hW
        have y3 := keepc c3 hW
        have y4 := keepc c4 hW
        have y5 := keepc c5 hW
        go_simp
        try rfl
      simp only [List.getElem_toArray, List.getElem_cons_succ, List.getElem_cons_zero, Act.put, List.setIfInBounds_toArray, List.set_cons_zero, List.set_cons_succ]
      refine wpAnyH_take (i := 39) (v := ?_) rfl (by kernel_rfl) (by kernel_rfl) (by kernel_rfl) (fun _ _ _ h => h) (Or.inl ⟨by rfl, ?_⟩) (by assumption) ?_
      rotate_left
      · intro W hW
        go_simp
        try rfl
      simp only [List.getElem_toArray, List.getElem_cons_succ, List.getElem_cons_zero, Act.put, List.setIfInBounds_toArray, List.set_cons_zero, List.set_cons_succ]
      refine wpAnyH_take (i := 40) (v := ?_) rfl (by kernel_rfl) (by kernel_rfl) (by kernel_rfl) (fun _ _ _ h => h) (Or.inl ⟨by rfl, ?_⟩) (by assumption) ?_
      rotate_left
      · intro W hW
        have y0 := keepc c0 hW
        have y1 := keepc c1 hW
        have y2 := keepc c2 hW
        have y3 := keepc c3 hW
        have y4 := keepc c4 hW
        have y5 := keepc c5 hW
        go_simp
        try rfl
      simp only [List.getElem_toArray, List.getElem_cons_succ, List.getElem_cons_zero, Act.put, List.setIfInBounds_toArray, List.set_cons_zero, List.set_cons_succ]
      refine wpAnyH_ready (rs := [38]) (by kernel_rfl) (by simp) ?_
      refine AllReadyH.cons rfl (fun K hK => ?_) AllReadyH.nil
      go_simp
      refine (Name_c _ _).mono ?_
      rintro e wr7 ⟨rfl, hb9⟩
      have hw9 : Below w4.heap.size w4 wr7 := hHeld.trans (hb9.mono hHeld.size)
      clear hHeld hb9
      refine hK.out _ _ hw9 (fun hHeld => ?_)
      clear hK K
      try simp only [List.getElem_toArray, List.getElem_cons_succ, List.getElem_cons_zero, Act.put, List.setIfInBounds_toArray, List.set_cons_zero, List.set_cons_succ]
      refine wpAnyH_ready (rs := [41]) (by kernel_rfl) (by simp) ?_
      refine AllReadyH.cons rfl (fun K hK => ?_) AllReadyH.nil
      go_simp
      refine (Name_d _ _ (by have := H40.out; omega)).mono ?_
      rintro e wr8 ⟨rfl, rfl⟩
      refine hK.out _ _ hHeld (fun hHeld => ?_)
      clear hK K
      try simp only [List.getElem_toArray, List.getElem_cons_succ, List.getElem_cons_zero, Act.put, List.setIfInBounds_toArray, List.set_cons_zero, List.set_cons_succ]
      refine wpAnyH_take (i := 42) (v := ?_) rfl (by kernel_rfl) (by kernel_rfl) (by kernel_rfl) (fun _ _ _ h => h) (Or.inl ⟨by rfl, ?_⟩) (by assumption) ?_
      rotate_left
      · intro W hW
        go_simp
        try rfl
      simp only [List.getElem_toArray, List.getElem_cons_succ, List.getElem_cons_zero, Act.put, List.setIfInBounds_toArray, List.set_cons_zero, List.set_cons_succ]
      refine wpAnyH_take (i := 43) (v := ?_) rfl (by kernel_rfl) (by kernel_rfl) (by kernel_rfl) (fun _ _ _ h => h) (Or.inl ⟨by rfl, ?_⟩) (by assumption) ?_
      rotate_left
      · intro W hW
        go_simp
        try rfl
      simp only [List.getElem_toArray, List.getElem_cons_succ, List.getElem_cons_zero, Act.put, List.setIfInBounds_toArray, List.set_cons_zero, List.set_cons_succ]
      refine wpAnyH_done (by kernel_rfl) ?_ _
      clear hw9
      replace HB := hid (HB.out.trans (hHeld.mono HB.out.size))
      replace K1 := hid (K1.out.under hHeld)
      replace K3 := hid (K3.out.under hHeld)
      replace N1 := hid (N1.out.below hHeld)
      replace HOX := hid (fun W (h : Below _ _ W) => HOX.out W (hHeld.trans (h.mono hHeld.size)))
      clear hHeld HSM HSD HSX c0 c1 c2 c3 c4 c5 d0 d1 d2 d3 d4 d5 e0 e1 e2 e3 e4 e5
      have HE := hid (Encode_c mx D1 f1 _ N1.out (by have := H40.out; omega))
      obtain ⟨c0, c1, c2, c3, c4, c5⟩ := K1.out.sixc
      go_wp2_with fail
      refine HE.out.mono ?_
      intro e w8 h8
      obtain ⟨rfl, hb8⟩ := enc_wrong h8 HRT.out
      have HF := hid (show RetTrue w (.returned (.bool true)) w8 from ⟨rfl, HB.out.trans (hb8.mono HB.out.size)⟩)
      clear h8 hb8 HE c0 c1 c2 c3 c4 c5
      go_wp2_with fail
      go_ret
      exact HF.out
    | true =>
      have HRT := hid hr
      have HC := hid (Check_c mx D1 f1 wc n1 (by have := H40.out; omega))
      clear k1 k2 n1 n2 hb HT KX KY HO1 HO2 c0 c1 c2 c3 c4 c5 d0 d1 d2 d3 d4 d5
      obtain ⟨c0, c1, c2, c3, c4, c5⟩ := K1.out.sixc
      go_wp2_with fail
      rw [hr] at HC
      clear hr
      refine HC.out.mono ?_
      rintro e w3 ⟨rfl, hb3⟩
      rw [if_pos rfl]
      replace HB := hid (HB.out.trans (hb3.mono HB.out.size))
      replace K1 := hid (K1.out.under hb3)
      replace K2 := hid (K2.out.under hb3)
      replace K3 := hid (K3.out.under hb3)
      replace N1 := hid (N1.out.below hb3)
      replace N2 := hid (N2.out.below hb3)
      replace HOX := hid (fun W (h : Below w3.heap.size w3 W) => HOX.out W (hb3.trans (h.mono hb3.size)))
      clear hb3 c0 c1 c2 c3 c4 c5 HC
      have HR := hid (Right_d mx D1 f1 w3 N1.out (by have := H40.out; omega) (by have := H40.out; omega))
      obtain ⟨c0, c1, c2, c3, c4, c5⟩ := K1.out.sixc
      go_wp2_with fail
      rw [HRT.out] at HR
      refine HR.out.mono ?_
      rintro e w4 ⟨rfl, hb4⟩
      replace HB := hid (HB.out.trans (hb4.mono HB.out.size))
      replace K1 := hid (K1.out.under hb4)
      replace K2 := hid (K2.out.under hb4)
      replace K3 := hid (K3.out.under hb4)
      replace N1 := hid (N1.out.below hb4)
      replace N2 := hid (N2.out.below hb4)
      replace HOX := hid (fun W (h : Below w4.heap.size w4 W) => HOX.out W (hb4.trans (h.mono hb4.size)))
      clear hb4 c0 c1 c2 c3 c4 c5 HR
      obtain ⟨c0, c1, c2, c3, c4, c5⟩ := K1.out.sixc
      obtain ⟨d0, d1, d2, d3, d4, d5⟩ := K2.out.sixc
      obtain ⟨e0, e1, e2, e3, e4, e5⟩ := K3.out.sixc
      obtain ⟨bq, hbq⟩ : ∃ b, b = decide (mx = my) := ⟨_, rfl⟩
      have HSM := hid (fun W (h : Below w4.heap.size w4 W) => Same_c mx my D1 D2 f1 f2 W (N1.out.below h) (N2.out.below h) (by have := H40.out; omega))
      have HSD := hid (fun W (h : Below w4.heap.size w4 W) => Same_d mx my D1 D2 f1 f2 W (N1.out.below h) (N2.out.below h) (by have := H40.out; omega))
      rw [← hbq] at HSM HSD
      have HSX := hid (fun W D f (h : Below w4.heap.size w4 W) (n : Reads W 51 2 D mx.pts.length (mx.pts.flatMap cellsP)) => Same_c mx mx D1 D f1 f W (N1.out.below h) n (by have := H40.out; omega))
      rw [decide_eq_true rfl] at HSX
      clear hbq
      go_wp2_with fail
      refine wp_region_held_drew (S := (fun W => Below w4.heap.size w4 W)) (by kernel_rfl) (below_dn (Below.refl w4.heap.size w4) 1) (fun hHeld => ?_)
      refine wpAnyH_take (i := 0) (v := ?_) rfl (by kernel_rfl) (by kernel_rfl) (by kernel_rfl) (fun _ _ _ h => h) (Or.inl ⟨by rfl, ?_⟩) (by assumption) ?_
      rotate_left
      · intro W hW
        go_simp
        try rfl
      simp only [List.getElem_toArray, List.getElem_cons_zero, Act.put, List.setIfInBounds_toArray, List.set_cons_zero, List.set_cons_succ]
      refine wpAnyH_take (i := 1) (v := ?_) rfl (by kernel_rfl) (by kernel_rfl) (by kernel_rfl) (fun _ _ _ h => h) (Or.inl ⟨by rfl, ?_⟩) (by assumption) ?_
      rotate_left
      · intro W hW
        go_simp
        try rfl
      simp only [List.getElem_toArray, List.getElem_cons_succ, List.getElem_cons_zero, Act.put, List.setIfInBounds_toArray, List.set_cons_zero, List.set_cons_succ]
      refine wpAnyH_take (i := 2) (v := ?_) rfl (by kernel_rfl) (by kernel_rfl) (by kernel_rfl) (fun _ _ _ h => h) (Or.inl ⟨by rfl, ?_⟩) (by assumption) ?_
      rotate_left
      · intro W hW
        go_simp
        try rfl
      simp only [List.getElem_toArray, List.getElem_cons_succ, List.getElem_cons_zero, Act.put, List.setIfInBounds_toArray, List.set_cons_zero, List.set_cons_succ]
      refine wpAnyH_take (i := 3) (v := ?_) rfl (by kernel_rfl) (by kernel_rfl) (by kernel_rfl) (fun _ _ _ h => h) (Or.inl ⟨by rfl, ?_⟩) (by assumption) ?_
      rotate_left
      · intro W hW
        go_simp
        try rfl
      simp only [List.getElem_toArray, List.getElem_cons_succ, List.getElem_cons_zero, Act.put, List.setIfInBounds_toArray, List.set_cons_zero, List.set_cons_succ]
      refine wpAnyH_take (i := 4) (v := ?_) rfl (by kernel_rfl) (by kernel_rfl) (by kernel_rfl) (fun _ _ _ h => h) (Or.inl ⟨by rfl, ?_⟩) (by assumption) ?_
      rotate_left
      · intro W hW
        go_simp
        try rfl
      simp only [List.getElem_toArray, List.getElem_cons_succ, List.getElem_cons_zero, Act.put, List.setIfInBounds_toArray, List.set_cons_zero, List.set_cons_succ]
      refine wpAnyH_take (i := 5) (v := ?_) rfl (by kernel_rfl) (by kernel_rfl) (by kernel_rfl) (fun _ _ _ h => h) (Or.inl ⟨by rfl, ?_⟩) (by assumption) ?_
      rotate_left
      · intro W hW
        go_simp
        try rfl
      simp only [List.getElem_toArray, List.getElem_cons_succ, List.getElem_cons_zero, Act.put, List.setIfInBounds_toArray, List.set_cons_zero, List.set_cons_succ]
      refine wpAnyH_take (i := 6) (v := ?_) rfl (by kernel_rfl) (by kernel_rfl) (by kernel_rfl) (fun _ _ _ h => h) (Or.inl ⟨by rfl, ?_⟩) (by assumption) ?_
      rotate_left
      · intro W hW
        go_simp
        try rfl
      simp only [List.getElem_toArray, List.getElem_cons_succ, List.getElem_cons_zero, Act.put, List.setIfInBounds_toArray, List.set_cons_zero, List.set_cons_succ]
      refine wpAnyH_take (i := 7) (v := ?_) rfl (by kernel_rfl) (by kernel_rfl) (by kernel_rfl) (fun _ _ _ h => h) (Or.inl ⟨by rfl, ?_⟩) (by assumption) ?_
      rotate_left
      · intro W hW
        go_simp
        try rfl
      simp only [List.getElem_toArray, List.getElem_cons_succ, List.getElem_cons_zero, Act.put, List.setIfInBounds_toArray, List.set_cons_zero, List.set_cons_succ]
      refine wpAnyH_take (i := 8) (v := undef) rfl (by kernel_rfl) (by kernel_rfl) (by kernel_rfl) (fun _ _ _ h => h) (Or.inr ⟨by rfl, rfl⟩) (by assumption) ?_
      simp only [List.getElem_toArray, List.getElem_cons_succ, List.getElem_cons_zero, Act.put, List.setIfInBounds_toArray, List.set_cons_zero, List.set_cons_succ]
      refine wpAnyH_take (i := 9) (v := undef) rfl (by kernel_rfl) (by kernel_rfl) (by kernel_rfl) (fun _ _ _ h => h) (Or.inr ⟨by rfl, rfl⟩) (by assumption) ?_
      simp only [List.getElem_toArray, List.getElem_cons_succ, List.getElem_cons_zero, Act.put, List.setIfInBounds_toArray, List.set_cons_zero, List.set_cons_succ]
      refine wpAnyH_take (i := 10) (v := ?_) rfl (by kernel_rfl) (by kernel_rfl) (by kernel_rfl) (fun _ _ _ h => h) (Or.inl ⟨by rfl, ?_⟩) (by assumption) ?_
      rotate_left
      · intro W hW
        go_simp
        try rfl
      simp only [List.getElem_toArray, List.getElem_cons_succ, List.getElem_cons_zero, Act.put, List.setIfInBounds_toArray, List.set_cons_zero, List.set_cons_succ]
      refine wpAnyH_take (i := 11) (v := ?_) rfl (by kernel_rfl) (by kernel_rfl) (by kernel_rfl) (fun _ _ _ h => h) (Or.inl ⟨by rfl, ?_⟩) (by assumption) ?_
      rotate_left
      · intro W hW
        go_simp
        try rfl
      simp only [List.getElem_toArray, List.getElem_cons_succ, List.getElem_cons_zero, Act.put, List.setIfInBounds_toArray, List.set_cons_zero, List.set_cons_succ]
      refine wpAnyH_take (i := 12) (v := ?_) rfl (by kernel_rfl) (by kernel_rfl) (by kernel_rfl) (fun _ _ _ h => h) (Or.inl ⟨by rfl, ?_⟩) (by assumption) ?_
      rotate_left
      · intro W hW
        go_simp
        try rfl
      simp only [List.getElem_toArray, List.getElem_cons_succ, List.getElem_cons_zero, Act.put, List.setIfInBounds_toArray, List.set_cons_zero, List.set_cons_succ]
      refine wpAnyH_take (i := 13) (v := ?_) rfl (by kernel_rfl) (by kernel_rfl) (by kernel_rfl) (fun _ _ _ h => h) (Or.inl ⟨by rfl, ?_⟩) (by assumption) ?_
      rotate_left
      · intro W hW
        have y0 := keepc c0 hW
        have y1 := keepc c1 hW
        have y2 := keepc c2 hW
        have y3 := keepc c3 hW
        have y4 := keepc c4 hW
        have y5 := keepc c5 hW
        go_simp
        try rfl
      simp only [List.getElem_toArray, List.getElem_cons_succ, List.getElem_cons_zero, Act.put, List.setIfInBounds_toArray, List.set_cons_zero, List.set_cons_succ]
      refine wpAnyH_take (i := 14) (v := ?_) rfl (by kernel_rfl) (by kernel_rfl) (by kernel_rfl) (fun _ _ _ h => h) (Or.inl ⟨by rfl, ?_⟩) (by assumption) ?_
      rotate_left
      · intro W hW
        have y0 := keepc d0 hW
        have y1 := keepc d1 hW
        have y2 := keepc d2 hW
        have y3 := keepc d3 hW
        have y4 := keepc d4 hW
        have y5 := keepc d5 hW
        go_simp
        try rfl
      simp only [List.getElem_toArray, List.getElem_cons_succ, List.getElem_cons_zero, Act.put, List.setIfInBounds_toArray, List.set_cons_zero, List.set_cons_succ]
      refine wpAnyH_take (i := 16) (v := ?_) rfl (by kernel_rfl) (by kernel_rfl) (by kernel_rfl) (fun _ _ _ h => h) (Or.inl ⟨by rfl, ?_⟩) (by assumption) ?_
      rotate_left
      · intro W hW
        have y0 := keepc c0 hW
        have y1 := keepc c1 hW
        have y2 := keepc c2 hW
        have y3 := keepc c3 hW
        have y4 := keepc c4 hW
        have y5 := keepc c5 hW
        go_simp
        try rfl
      simp only [List.getElem_toArray, List.getElem_cons_succ, List.getElem_cons_zero, Act.put, List.setIfInBounds_toArray, List.set_cons_zero, List.set_cons_succ]
      refine wpAnyH_take (i := 17) (v := ?_) rfl (by kernel_rfl) (by kernel_rfl) (by kernel_rfl) (fun _ _ _ h => h) (Or.inl ⟨by rfl, ?_⟩) (by assumption) ?_
      rotate_left
      · intro W hW
        have y0 := keepc d0 hW
        have y1 := keepc d1 hW
        have y2 := keepc d2 hW
        have y3 := keepc d3 hW
        have y4 := keepc d4 hW
        have y5 := keepc d5 hW
        go_simp
        try rfl
      simp only [List.getElem_toArray, List.getElem_cons_succ, List.getElem_cons_zero, Act.put, List.setIfInBounds_toArray, List.set_cons_zero, List.set_cons_succ]
      refine wpAnyH_ready (rs := [15]) (by kernel_rfl) (by simp) ?_
      refine AllReadyH.cons rfl (fun K hK => ?_) AllReadyH.nil
      go_simp
      refine (HSM.out _ hHeld).mono ?_
      rintro e wr1 ⟨rfl, hb9⟩
      have hw9 : Below w4.heap.size w4 wr1 := hHeld.trans (hb9.mono hHeld.size)
      clear hHeld hb9
      refine hK.out _ _ hw9 (fun hHeld => ?_)
      clear hK K
      try simp only [List.getElem_toArray, List.getElem_cons_succ, List.getElem_cons_zero, Act.put, List.setIfInBounds_toArray, List.set_cons_zero, List.set_cons_succ]
      refine wpAnyH_ready (rs := [18]) (by kernel_rfl) (by simp) ?_
      refine AllReadyH.cons rfl (fun K hK => ?_) AllReadyH.nil
      go_simp
      refine (HSD.out _ hHeld).mono ?_
      rintro e wr2 ⟨rfl, hb9⟩
      have hw9 : Below w4.heap.size w4 wr2 := hHeld.trans (hb9.mono hHeld.size)
      clear hHeld hb9
      refine hK.out _ _ hw9 (fun hHeld => ?_)
      clear hK K
      try simp only [List.getElem_toArray, List.getElem_cons_succ, List.getElem_cons_zero, Act.put, List.setIfInBounds_toArray, List.set_cons_zero, List.set_cons_succ]
      refine wpAnyH_take (i := 19) (v := ?_) rfl (by kernel_rfl) (by kernel_rfl) (by kernel_rfl) (fun _ _ _ h => h) (Or.inl ⟨by rfl, ?_⟩) (by assumption) ?_
      rotate_left
      · intro W hW
        go_simp
        try rfl
      simp only [List.getElem_toArray, List.getElem_cons_succ, List.getElem_cons_zero, Act.put, List.setIfInBounds_toArray, List.set_cons_zero, List.set_cons_succ]
      refine wpAnyH_take (i := 20) (v := ?_) rfl (by kernel_rfl) (by kernel_rfl) (by kernel_rfl) (fun _ _ _ h => h) (Or.inl ⟨by rfl, ?_⟩) (by assumption) ?_
      rotate_left
      · intro W hW
        go_simp
        try rfl
      simp only [List.getElem_toArray, List.getElem_cons_succ, List.getElem_cons_zero, Act.put, List.setIfInBounds_toArray, List.set_cons_zero, List.set_cons_succ]
      refine wpAnyH_take (i := 21) (v := ?_) rfl (by kernel_rfl) (by kernel_rfl) (by kernel_rfl) (fun _ _ _ h => h) (Or.inl ⟨by rfl, ?_⟩) (by assumption) ?_
      rotate_left
      · intro W hW
        go_simp
        try rfl
      simp only [List.getElem_toArray, List.getElem_cons_succ, List.getElem_cons_zero, Act.put, List.setIfInBounds_toArray, List.set_cons_zero, List.set_cons_succ]
      refine wpAnyH_take (i := 22) (v := ?_) rfl (by kernel_rfl) (by kernel_rfl) (by kernel_rfl) (fun _ _ _ h => h) (Or.inl ⟨by rfl, ?_⟩) (by assumption) ?_
      rotate_left
      · intro W hW
        have y0 := keepc c0 hW
        have y1 := keepc c1 hW
        have y2 := keepc c2 hW
        have y3 := keepc c3 hW
        have y4 := keepc c4 hW
        have y5 := keepc c5 hW
        go_simp
        try rfl
      simp only [List.getElem_toArray, List.getElem_cons_succ, List.getElem_cons_zero, Act.put, List.setIfInBounds_toArray, List.set_cons_zero, List.set_cons_succ]
      refine wpAnyH_take (i := 23) (v := ?_) rfl (by kernel_rfl) (by kernel_rfl) (by kernel_rfl) (fun _ _ _ h => h) (Or.inl ⟨by rfl, ?_⟩) (by assumption) ?_
      rotate_left
      · intro W hW
        have y0 := keepc e0 hW
        have y1 := keepc e1 hW
        have y2 := keepc e2 hW
        have y3 := keepc e3 hW
        have y4 := keepc e4 hW
        have y5 := keepc e5 hW
        go_simp
        try rfl
      simp only [List.getElem_toArray, List.getElem_cons_succ, List.getElem_cons_zero, Act.put, List.setIfInBounds_toArray, List.set_cons_zero, List.set_cons_succ]
      refine wpAnyH_ready (rs := [24]) (by kernel_rfl) (by simp) ?_
      refine AllReadyH.cons rfl (fun K hK => ?_) AllReadyH.nil
      go_simp
      refine (HOX.out _ hHeld).mono ?_
      rintro e wr3 ⟨D5, f5, rfl, hb9, hown9⟩
      have hw9 : Below w4.heap.size w4 wr3 := hHeld.trans (hb9.mono hHeld.size)
      have n5 := Reads.of_own hown9
      clear hown9
      clear hHeld hb9
      refine hK.out _ _ hw9 (fun hHeld => ?_)
      clear hK K
      try simp only [List.getElem_toArray, List.getElem_cons_succ, List.getElem_cons_zero, Act.put, List.setIfInBounds_toArray, List.set_cons_zero, List.set_cons_succ]
      refine wpAnyH_ready (rs := [25]) (by kernel_rfl) (by simp) ?_
      refine AllReadyH.cons rfl (fun K hK => ?_) AllReadyH.nil
      go_simp
      refine (HSX.out _ _ _ hHeld n5).mono ?_
      rintro e wr4 ⟨rfl, hb9⟩
      have hw9 : Below w4.heap.size w4 wr4 := hHeld.trans (hb9.mono hHeld.size)
      clear hHeld hb9
      refine hK.out _ _ hw9 (fun hHeld => ?_)
      clear hK K
      try simp only [List.getElem_toArray, List.getElem_cons_succ, List.getElem_cons_zero, Act.put, List.setIfInBounds_toArray, List.set_cons_zero, List.set_cons_succ]
      clear n5
      refine wpAnyH_take (i := 26) (v := ?_) rfl (by kernel_rfl) (by kernel_rfl) (by kernel_rfl) (fun _ _ _ h => h) (Or.inl ⟨by rfl, ?_⟩) (by assumption) ?_
      rotate_left
      · intro W hW
        go_simp
        try rfl
      simp only [List.getElem_toArray, List.getElem_cons_succ, List.getElem_cons_zero, Act.put, List.setIfInBounds_toArray, List.set_cons_zero, List.set_cons_succ]
      refine wpAnyH_take (i := 27) (v := ?_) rfl (by kernel_rfl) (by kernel_rfl) (by kernel_rfl) (fun _ _ _ h => h) (Or.inl ⟨by rfl, ?_⟩) (by assumption) ?_
      rotate_left
      · intro W hW
        go_simp
        try rfl
      simp only [List.getElem_toArray, List.getElem_cons_succ, List.getElem_cons_zero, Act.put, List.setIfInBounds_toArray, List.set_cons_zero, List.set_cons_succ]
      refine wpAnyH_take (i := 28) (v := ?_) rfl (by kernel_rfl) (by kernel_rfl) (by kernel_rfl) (fun _ _ _ h => h) (Or.inl ⟨by rfl, ?_⟩) (by assumption) ?_
      rotate_left
      · intro W hW
        go_simp
        try rfl
      simp only [List.getElem_toArray, List.getElem_cons_succ, List.getElem_cons_zero, Act.put, List.setIfInBounds_toArray, List.set_cons_zero, List.set_cons_succ]
      refine wpAnyH_take (i := 29) (v := ?_) rfl (by kernel_rfl) (by kernel_rfl) (by kernel_rfl) (fun _ _ _ h => h) (Or.inl ⟨by rfl, ?_⟩) (by assumption) ?_
      rotate_left
      · intro W hW
        go_simp
        try rfl
      simp only [List.getElem_toArray, List.getElem_cons_succ, List.getElem_cons_zero, Act.put, List.setIfInBounds_toArray, List.set_cons_zero, List.set_cons_succ]
      refine wpAnyH_take (i := 31) (v := ?_) rfl (by kernel_rfl) (by kernel_rfl) (by kernel_rfl) (fun _ _ _ h => h) (Or.inl ⟨by rfl, ?_⟩) (by assumption) ?_
      rotate_left
      · intro W hW
        go_simp
        try rfl
      simp only [List.getElem_toArray, List.getElem_cons_succ, List.getElem_cons_zero, Act.put, List.setIfInBounds_toArray, List.set_cons_zero, List.set_cons_succ]
      refine wpAnyH_ready (rs := [30]) (by kernel_rfl) (by simp) ?_
      refine AllReadyH.cons rfl (fun K hK => ?_) AllReadyH.nil
      go_simp
      refine (Name_c _ _).mono ?_
      rintro e wr5 ⟨rfl, hb9⟩
      have hw9 : Below w4.heap.size w4 wr5 := hHeld.trans (hb9.mono hHeld.size)
      clear hHeld hb9
      refine hK.out _ _ hw9 (fun hHeld => ?_)
      clear hK K
      try simp only [List.getElem_toArray, List.getElem_cons_succ, List.getElem_cons_zero, Act.put, List.setIfInBounds_toArray, List.set_cons_zero, List.set_cons_succ]
      refine wpAnyH_ready (rs := [32]) (by kernel_rfl) (by simp) ?_
      refine AllReadyH.cons rfl (fun K hK => ?_) AllReadyH.nil
      go_simp
      refine (Name_d _ _ (by have := HM3.out; simp only [ByteArray.size_extract]; omega)).mono ?_
      rintro e wr6 ⟨rfl, rfl⟩
      refine hK.out _ _ hHeld (fun hHeld => ?_)
      clear hK K
      try simp only [List.getElem_toArray, List.getElem_cons_succ, List.getElem_cons_zero, Act.put, List.setIfInBounds_toArray, List.set_cons_zero, List.set_cons_succ]
      refine wpAnyH_take (i := 33) (v := ?_) rfl (by kernel_rfl) (by kernel_rfl) (by kernel_rfl) (fun _ _ _ h => h) (Or.inl ⟨by rfl, ?_⟩) (by assumption) ?_
      rotate_left
      · intro W hW
        go_simp
        try rfl
      simp only [List.getElem_toArray, List.getElem_cons_succ, List.getElem_cons_zero, Act.put, List.setIfInBounds_toArray, List.set_cons_zero, List.set_cons_succ]
      refine wpAnyH_take (i := 34) (v := ?_) rfl (by kernel_rfl) (by kernel_rfl) (by kernel_rfl) (fun _ _ _ h => h) (Or.inl ⟨by rfl, ?_⟩) (by assumption) ?_
      rotate_left
      · intro W hW
        go_simp
        try rfl
      simp only [List.getElem_toArray, List.getElem_cons_succ, List.getElem_cons_zero, Act.put, List.setIfInBounds_toArray, List.set_cons_zero, List.set_cons_succ]
      refine wpAnyH_take (i := 35) (v := ?_) rfl (by kernel_rfl) (by kernel_rfl) (by kernel_rfl) (fun _ _ _ h => h) (Or.inl ⟨by rfl, ?_⟩) (by assumption) ?_
      rotate_left
      · intro W hW
        go_simp
        try rfl
      simp only [List.getElem_toArray, List.getElem_cons_succ, List.getElem_cons_zero, Act.put, List.setIfInBounds_toArray, List.set_cons_zero, List.set_cons_succ]
      refine wpAnyH_take (i := 36) (v := ?_) rfl (by kernel_rfl) (by kernel_rfl) (by kernel_rfl) (fun _ _ _ h => h) (Or.inl ⟨by rfl, ?_⟩) (by assumption) ?_
      rotate_left
      · intro W hW
        go_simp
        try rfl
      simp only [List.getElem_toArray, List.getElem_cons_succ, List.getElem_cons_zero, Act.put, List.setIfInBounds_toArray, List.set_cons_zero, List.set_cons_succ]
      refine wpAnyH_take (i := 37) (v := ?_) rfl (by kernel_rfl) (by kernel_rfl) (by kernel_rfl) (fun _ _ _ h => h) (Or.inl ⟨by rfl, ?_⟩) (by assumption) ?_
      rotate_left
      · intro W hW
        have y0 := keepc c0 hW
        have y1 := keepc c1 hW
        have y2 := keepc c2 hW
        have y3 := keepc c3 hW
        have y4 := keepc c4 hW
        have y5 := keepc c5 hW
        go_simp
        try rfl
      simp only [List.getElem_toArray, List.getElem_cons_succ, List.getElem_cons_zero, Act.put, List.setIfInBounds_toArray, List.set_cons_zero, List.set_cons_succ]
      refine wpAnyH_take (i := 39) (v := ?_) rfl (by kernel_rfl) (by kernel_rfl) (by kernel_rfl) (fun _ _ _ h => h) (Or.inl ⟨by rfl, ?_⟩) (by assumption) ?_
      rotate_left
      · intro W hW
        go_simp
        try rfl
      simp only [List.getElem_toArray, List.getElem_cons_succ, List.getElem_cons_zero, Act.put, List.setIfInBounds_toArray, List.set_cons_zero, List.set_cons_succ]
      refine wpAnyH_take (i := 40) (v := ?_) rfl (by kernel_rfl) (by kernel_rfl) (by kernel_rfl) (fun _ _ _ h => h) (Or.inl ⟨by rfl, ?_⟩) (by assumption) ?_
      rotate_left
      · intro W hW
        have y0 := keepc c0 hW
        have y1 := keepc c1 hW
        have y2 := keepc c2 hW
        have y3 := keepc c3 hW
        have y4 := keepc c4 hW
        have y5 := keepc c5 hW
        go_simp
        try rfl
      simp only [List.getElem_toArray, List.getElem_cons_succ, List.getElem_cons_zero, Act.put, List.setIfInBounds_toArray, List.set_cons_zero, List.set_cons_succ]
      refine wpAnyH_ready (rs := [38]) (by kernel_rfl) (by simp) ?_
      refine AllReadyH.cons rfl (fun K hK => ?_) AllReadyH.nil
      go_simp
      refine (Name_c _ _).mono ?_
      rintro e wr7 ⟨rfl, hb9⟩
      have hw9 : Below w4.heap.size w4 wr7 := hHeld.trans (hb9.mono hHeld.size)
      clear hHeld hb9
      refine hK.out _ _ hw9 (fun hHeld => ?_)
      clear hK K
      try simp only [List.getElem_toArray, List.getElem_cons_succ, List.getElem_cons_zero, Act.put, List.setIfInBounds_toArray, List.set_cons_zero, List.set_cons_succ]
      refine wpAnyH_ready (rs := [41]) (by kernel_rfl) (by simp) ?_
      refine AllReadyH.cons rfl (fun K hK => ?_) AllReadyH.nil
      go_simp
      refine (Name_d _ _ (by have := H40.out; omega)).mono ?_
      rintro e wr8 ⟨rfl, rfl⟩
      refine hK.out _ _ hHeld (fun hHeld => ?_)
      clear hK K
      try simp only [List.getElem_toArray, List.getElem_cons_succ, List.getElem_cons_zero, Act.put, List.setIfInBounds_toArray, List.set_cons_zero, List.set_cons_succ]
      refine wpAnyH_take (i := 42) (v := ?_) rfl (by kernel_rfl) (by kernel_rfl) (by kernel_rfl) (fun _ _ _ h => h) (Or.inl ⟨by rfl, ?_⟩) (by assumption) ?_
      rotate_left
      · intro W hW
        go_simp
        try rfl
      simp only [List.getElem_toArray, List.getElem_cons_succ, List.getElem_cons_zero, Act.put, List.setIfInBounds_toArray, List.set_cons_zero, List.set_cons_succ]
      refine wpAnyH_take (i := 43) (v := ?_) rfl (by kernel_rfl) (by kernel_rfl) (by kernel_rfl) (fun _ _ _ h => h) (Or.inl ⟨by rfl, ?_⟩) (by assumption) ?_
      rotate_left
      · intro W hW
        go_simp
        try rfl
      simp only [List.getElem_toArray, List.getElem_cons_succ, List.getElem_cons_zero, Act.put, List.setIfInBounds_toArray, List.set_cons_zero, List.set_cons_succ]
      refine wpAnyH_done (by kernel_rfl) ?_ _
      clear hw9
      replace HB := hid (HB.out.trans (hHeld.mono HB.out.size))
      replace K1 := hid (K1.out.under hHeld)
      replace K3 := hid (K3.out.under hHeld)
      replace N1 := hid (N1.out.below hHeld)
      replace HOX := hid (fun W (h : Below _ _ W) => HOX.out W (hHeld.trans (h.mono hHeld.size)))
      clear hHeld HSM HSD HSX c0 c1 c2 c3 c4 c5 d0 d1 d2 d3 d4 d5 e0 e1 e2 e3 e4 e5
      have HE := hid (Encode_c mx D1 f1 _ N1.out (by have := H40.out; omega))
      obtain ⟨c0, c1, c2, c3, c4, c5⟩ := K1.out.sixc
      go_wp2_with fail
      refine HE.out.mono ?_
      intro e w8 h8
      obtain ⟨n8, hn8⟩ : ∃ n, n = (mutB mx).length := ⟨_, rfl⟩
      obtain ⟨C8, f8, rfl, hb8, hr8, hf8, hf8x⟩ := enc_right h8 HRT.out hn8.symm
      have hml := mutB_len (right_of HRT.out)
      rw [← hn8] at hml
      replace HB := hid (HB.out.trans (hb8.mono HB.out.size))
      replace K1 := hid (K1.out.under hb8)
      replace K3 := hid (K3.out.under hb8)
      replace N1 := hid (N1.out.below hb8)
      replace HOX := hid (fun W (h : Below w8.heap.size w8 W) => HOX.out W (hb8.trans (h.mono hb8.size)))
      have HEN := hid hr8
      have HN8 := hid hn8
      clear h8 hb8 hr8 hn8 HE c0 c1 c2 c3 c4 c5
      obtain ⟨c0, c1, c2, c3, c4, c5⟩ := K1.out.sixc
      obtain ⟨e0, e1, e2, e3, e4, e5⟩ := K3.out.sixc
      have HBD := hid (fun W (h : Below w8.heap.size w8 W) => Bytes_d mx D1 f1 W (N1.out.below h) (right_of HRT.out))
      unfold RetB at HBD
      rw [← HN8.out] at HBD
      have HEQ := hid (fun W D g (h : Below w8.heap.size w8 W) (r : Reads W 5 1 D n8 (bsV (mutB mx))) => equal_bs C8 D n8 n8 f8 g (mutB mx) (mutB mx) W (HEN.out.below h) r (by omega))
      rw [decide_eq_true rfl] at HEQ
      have HSX := hid (fun W D f (h : Below w8.heap.size w8 W) (n : Reads W 51 2 D mx.pts.length (mx.pts.flatMap cellsP)) => Same_d mx mx D1 D f1 f W (N1.out.below h) n (by have := H40.out; omega))
      rw [decide_eq_true rfl] at HSX
      go_wp2_with fail
      refine wp_region_held_drew (S := (fun W => Below w8.heap.size w8 W)) (by kernel_rfl) (below_dn (Below.refl w8.heap.size w8) 1) (fun hHeld => ?_)
      refine wpAnyH_take (i := 0) (v := ?_) rfl (by kernel_rfl) (by kernel_rfl) (by kernel_rfl) (fun _ _ _ h => h) (Or.inl ⟨by rfl, ?_⟩) (by assumption) ?_
      rotate_left
      · intro W hW
        go_simp
        try rfl
      simp only [List.getElem_toArray, List.getElem_cons_zero, Act.put, List.setIfInBounds_toArray, List.set_cons_zero, List.set_cons_succ]
      refine wpAnyH_take (i := 1) (v := ?_) rfl (by kernel_rfl) (by kernel_rfl) (by kernel_rfl) (fun _ _ _ h => h) (Or.inl ⟨by rfl, ?_⟩) (by assumption) ?_
      rotate_left
      · intro W hW
        go_simp
        try rfl
      simp only [List.getElem_toArray, List.getElem_cons_succ, List.getElem_cons_zero, Act.put, List.setIfInBounds_toArray, List.set_cons_zero, List.set_cons_succ]
      refine wpAnyH_take (i := 2) (v := ?_) rfl (by kernel_rfl) (by kernel_rfl) (by kernel_rfl) (fun _ _ _ h => h) (Or.inl ⟨by rfl, ?_⟩) (by assumption) ?_
      rotate_left
      · intro W hW
        go_simp
        try rfl
      simp only [List.getElem_toArray, List.getElem_cons_succ, List.getElem_cons_zero, Act.put, List.setIfInBounds_toArray, List.set_cons_zero, List.set_cons_succ]
      refine wpAnyH_take (i := 3) (v := ?_) rfl (by kernel_rfl) (by kernel_rfl) (by kernel_rfl) (fun _ _ _ h => h) (Or.inl ⟨by rfl, ?_⟩) (by assumption) ?_
      rotate_left
      · intro W hW
        go_simp
        try rfl
      simp only [List.getElem_toArray, List.getElem_cons_succ, List.getElem_cons_zero, Act.put, List.setIfInBounds_toArray, List.set_cons_zero, List.set_cons_succ]
      refine wpAnyH_take (i := 4) (v := ?_) rfl (by kernel_rfl) (by kernel_rfl) (by kernel_rfl) (fun _ _ _ h => h) (Or.inl ⟨by rfl, ?_⟩) (by assumption) ?_
      rotate_left
      · intro W hW
        have y0 := keepc c0 hW
        have y1 := keepc c1 hW
        have y2 := keepc c2 hW
        have y3 := keepc c3 hW
        have y4 := keepc c4 hW
        have y5 := keepc c5 hW
        go_simp
        try rfl
      simp only [List.getElem_toArray, List.getElem_cons_succ, List.getElem_cons_zero, Act.put, List.setIfInBounds_toArray, List.set_cons_zero, List.set_cons_succ]
      refine wpAnyH_ready (rs := [5]) (by kernel_rfl) (by simp) ?_
      refine AllReadyH.cons rfl (fun K hK => ?_) AllReadyH.nil
      go_simp
      refine (HBD.out _ hHeld).mono ?_
      rintro e wb1 ⟨D9, g9, rfl, hown9, hb9⟩
      have hw9 : Below w8.heap.size w8 wb1 := hHeld.trans (hb9.mono hHeld.size)
      have n9 := Reads.of_own hown9
      clear hown9
      clear hHeld hb9
      refine hK.out _ _ hw9 (fun hHeld => ?_)
      clear hK K
      try simp only [List.getElem_toArray, List.getElem_cons_succ, List.getElem_cons_zero, Act.put, List.setIfInBounds_toArray, List.set_cons_zero, List.set_cons_succ]
      refine wpAnyH_ready (rs := [6]) (by kernel_rfl) (by simp) ?_
      refine AllReadyH.cons rfl (fun K hK => ?_) AllReadyH.nil
      go_simp
      refine (HEQ.out _ _ _ hHeld n9).mono ?_
      rintro e wb2 ⟨rfl, q9, rfl⟩
      have hw9 := below_dn hHeld q9
      clear hHeld n9
      refine hK.out _ _ hw9 (fun hHeld => ?_)
      clear hK K
      try simp only [List.getElem_toArray, List.getElem_cons_succ, List.getElem_cons_zero, Act.put, List.setIfInBounds_toArray, List.set_cons_zero, List.set_cons_succ]
      refine wpAnyH_take (i := 7) (v := ?_) rfl (by kernel_rfl) (by kernel_rfl) (by kernel_rfl) (fun _ _ _ h => h) (Or.inl ⟨by rfl, ?_⟩) (by assumption) ?_
      rotate_left
      · intro W hW
        go_simp
        try rfl
      simp only [List.getElem_toArray, List.getElem_cons_succ, List.getElem_cons_zero, Act.put, List.setIfInBounds_toArray, List.set_cons_zero, List.set_cons_succ]
      refine wpAnyH_take (i := 8) (v := ?_) rfl (by kernel_rfl) (by kernel_rfl) (by kernel_rfl) (fun _ _ _ h => h) (Or.inl ⟨by rfl, ?_⟩) (by assumption) ?_
      rotate_left
      · intro W hW
        go_simp
        try rfl
      simp only [List.getElem_toArray, List.getElem_cons_succ, List.getElem_cons_zero, Act.put, List.setIfInBounds_toArray, List.set_cons_zero, List.set_cons_succ]
      refine wpAnyH_take (i := 9) (v := ?_) rfl (by kernel_rfl) (by kernel_rfl) (by kernel_rfl) (fun _ _ _ h => h) (Or.inl ⟨by rfl, ?_⟩) (by assumption) ?_
      rotate_left
      · intro W hW
        have y0 := keepc c0 hW
        have y1 := keepc c1 hW
        have y2 := keepc c2 hW
        have y3 := keepc c3 hW
        have y4 := keepc c4 hW
        have y5 := keepc c5 hW
        go_simp
        try rfl
      simp only [List.getElem_toArray, List.getElem_cons_succ, List.getElem_cons_zero, Act.put, List.setIfInBounds_toArray, List.set_cons_zero, List.set_cons_succ]
      refine wpAnyH_take (i := 10) (v := ?_) rfl (by kernel_rfl) (by kernel_rfl) (by kernel_rfl) (fun _ _ _ h => h) (Or.inl ⟨by rfl, ?_⟩) (by assumption) ?_
      rotate_left
      · intro W hW
        have y0 := keepc e0 hW
        have y1 := keepc e1 hW
        have y2 := keepc e2 hW
        have y3 := keepc e3 hW
        have y4 := keepc e4 hW
        have y5 := keepc e5 hW
        go_simp
        try rfl
      simp only [List.getElem_toArray, List.getElem_cons_succ, List.getElem_cons_zero, Act.put, List.setIfInBounds_toArray, List.set_cons_zero, List.set_cons_succ]
      refine wpAnyH_ready (rs := [11]) (by kernel_rfl) (by simp) ?_
      refine AllReadyH.cons rfl (fun K hK => ?_) AllReadyH.nil
      go_simp
      refine (HOX.out _ hHeld).mono ?_
      rintro e wb3 ⟨D5, f5, rfl, hb9, hown9⟩
      have hw9 : Below w8.heap.size w8 wb3 := hHeld.trans (hb9.mono hHeld.size)
      have n5 := Reads.of_own hown9
      clear hown9
      clear hHeld hb9
      refine hK.out _ _ hw9 (fun hHeld => ?_)
      clear hK K
      try simp only [List.getElem_toArray, List.getElem_cons_succ, List.getElem_cons_zero, Act.put, List.setIfInBounds_toArray, List.set_cons_zero, List.set_cons_succ]
      refine wpAnyH_ready (rs := [12]) (by kernel_rfl) (by simp) ?_
      refine AllReadyH.cons rfl (fun K hK => ?_) AllReadyH.nil
      go_simp
      refine (HSX.out _ _ _ hHeld n5).mono ?_
      rintro e wb4 ⟨rfl, hb9⟩
      have hw9 : Below w8.heap.size w8 wb4 := hHeld.trans (hb9.mono hHeld.size)
      clear hHeld hb9
      refine hK.out _ _ hw9 (fun hHeld => ?_)
      clear hK K
      try simp only [List.getElem_toArray, List.getElem_cons_succ, List.getElem_cons_zero, Act.put, List.setIfInBounds_toArray, List.set_cons_zero, List.set_cons_succ]
      refine wpAnyH_take (i := 13) (v := ?_) rfl (by kernel_rfl) (by kernel_rfl) (by kernel_rfl) (fun _ _ _ h => h) (Or.inl ⟨by rfl, ?_⟩) (by assumption) ?_
      rotate_left
      · intro W hW
        go_simp
        try rfl
      simp only [List.getElem_toArray, List.getElem_cons_succ, List.getElem_cons_zero, Act.put, List.setIfInBounds_toArray, List.set_cons_zero, List.set_cons_succ]
      refine wpAnyH_take (i := 14) (v := ?_) rfl (by kernel_rfl) (by kernel_rfl) (by kernel_rfl) (fun _ _ _ h => h) (Or.inl ⟨by rfl, ?_⟩) (by assumption) ?_
      rotate_left
      · intro W hW
        go_simp
        try rfl
      simp only [List.getElem_toArray, List.getElem_cons_succ, List.getElem_cons_zero, Act.put, List.setIfInBounds_toArray, List.set_cons_zero, List.set_cons_succ]
      refine wpAnyH_done (by kernel_rfl) ?_ _
      have HF := hid (show RetTrue w (.returned (.bool true)) wb4 from ⟨rfl, HB.out.trans (hHeld.mono HB.out.size)⟩)
      clear hHeld hw9 n5 c0 c1 c2 c3 c4 c5 e0 e1 e2 e3 e4 e5
      go_wp2_with fail
      go_ret
      exact HF.out
theorem tells_in (x0 : Mu) (a0 : Option Addr) (cap0 : Nat) (x1 : Mu) (a1 : Option Addr) (cap1 : Nat) (s2 : ByteArray) (w : World) (w0 : MuIn w x0 a0 cap0) (w1 : MuIn w x1 a1 cap1) (w2 : s2.size ≤ maxLen) :
    Calls Try.prog 3 #[vM x0 a0 cap0, vM x1 a1 cap1, .string s2] w fun e w' => e = .returned (.bool true) ∧ Below w.heap.size w w' := by
  obtain ⟨e0, h1, h2, h3⟩ := w0
  obtain ⟨e1, k1, k2, k3⟩ := w1
  exact tells_core x0 x1 a0 a1 cap0 cap1 s2 w h1 h2 h3 k1 k2 k3 w2
end Go.Proofs.Ytedojdbihajnbaa
