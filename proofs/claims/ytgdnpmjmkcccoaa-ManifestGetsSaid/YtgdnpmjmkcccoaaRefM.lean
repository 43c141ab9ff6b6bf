/- The document's Same: of pages, of entries, of manifests (printed by gen_refm.py). -/
import Derived.Test.YtgdnpmjmkcccoaaManD
namespace Go.Proofs.Ytgdnpmjmkcccoaa
open Go.RowKit Go.Shelf VB
open Go.Lib (hid)
set_option linter.unusedVariables false
set_option linter.unusedSimpArgs false
theorem below_cell {w w' : World} {p : Addr} {v : Value} (h : Below w.heap.size w w') (hc : w.cell? p = some v) : w'.cell? p = some v := by
  obtain ⟨e, he⟩ := typed_of_cell hc
  rw [h.cell he.lt]
  exact hc
abbrev zEn : Array Value := aE 0 0 0 (.slice none 0 0) 0
set_option maxHeartbeats 1000000 in
theorem samePg_c {e1 e2 : TypeId} (A B : Option Addr) (n m c d : Nat) (xs ys : List Int) (w : World) (hx : Reads w e1 1 A n (xs.map (Value.int .i64))) (hy : Reads w e2 1 B m (ys.map (Value.int .i64))) (hn : n ≤ 100000000) :
    Calls Try.prog 81 #[.slice A n c, .slice B m d] w fun e w' => e = .returned (.bool (decide (xs = ys))) ∧ Below w.heap.size w w' := by
  have hxl := ints_len hx
  have hyl := ints_len hy
  by_cases hnm : n = m
  · subst hnm
    have t0 : ((n : Int) != n) = false := by simp
    have HX := Lib.hid hx
    have HY := Lib.hid hy
    have HXL := Lib.hid hxl
    have HYL := Lib.hid hyl
    clear hx hy hxl hyl
    go_enter Try.func81, Try.ntmps81
    go_wp2_with fail
    go_loopw [5] (fun v wr => ∃ k : Nat, k ≤ n ∧ v = .int .i64 (k : Nat) ∧ (∃ q, wr = w.drewN q) ∧ xs.take k = ys.take k) (fun v _ => n - (intOf v).toNat)
    case atStart => exact ⟨0, Nat.zero_le _, rfl, ⟨0, rfl⟩, by simp⟩
    case round =>
      obtain ⟨k, hk, rfl, ⟨q, rfl⟩, heq⟩ := hrel
      have HE := Lib.hid heq
      clear heq
      by_cases hlt : k < n
      · obtain ⟨ad, rfl, cx⟩ := ints_at HX.out hlt
        obtain ⟨bd, rfl, cy⟩ := ints_at HY.out hlt
        have hltI : (k : Int) < (n : Int) := by omega
        have h0I : (0 : Int) ≤ (k : Int) := by omega
        have hst := take_step HE.out (by rw [HXL.out]; exact hlt) (by rw [HYL.out]; exact hlt)
        have hne : xs.getD k 0 ≠ ys.getD k 0 → xs ≠ ys := fun h e => h (by rw [e])
        have HST := Lib.hid hst
        have HNE := Lib.hid hne
        clear hst hne
        generalize xs.getD k 0 = x at *
        generalize ys.getD k 0 = y at *
        by_cases hc : x = y
        · have t1 : (x != y) = false := by simp [hc]
          have HC := Lib.hid hc
          clear hc
          go_wp2_with fail
          go_quiet (fail)
          go_wp2_with fail
          go_roundw
          case rel => exact ⟨k + 1, by omega, by go_num, ⟨_, rfl⟩, HST.out HC.out⟩
          case measure => simp [intOf]; omega
        · have t1 : (x != y) = true := by simp [hc]
          have HC := Lib.hid (HNE.out hc)
          clear hc
          go_wp2_with fail
          go_quiet (fail)
          go_wp2_with fail
          go_ret
          exact ⟨ret_b (by rw [eq_comm, decide_eq_false_iff_not]; exact HC.out), below_dn (below_dn (Below.refl _ _) _) _⟩
      · obtain rfl : k = n := by omega
        clear hlt
        go_wp2_with fail
        go_ret
        refine ⟨ret_b ?_, below_dn (Below.refl _ _) _⟩
        have h := HE.out
        rw [List.take_of_length_le (by rw [HXL.out]; exact Nat.le_refl _), List.take_of_length_le (by rw [HYL.out]; exact Nat.le_refl _)] at h
        rw [eq_comm, decide_eq_true_iff]
        exact h
  · have t0 : ((n : Int) != m) = true := by simp; omega
    have HN := Lib.hid (show xs ≠ ys from fun e => hnm (by rw [← hxl, ← hyl, e]))
    clear hx hy hxl hyl hnm
    go_enter Try.func81, Try.ntmps81
    go_wp2_with fail
    go_ret
    exact ⟨ret_b (by rw [eq_comm, decide_eq_false_iff_not]; exact HN.out), Below.refl _ _⟩
set_option maxRecDepth 100000 in
set_option maxHeartbeats 4000000 in
theorem sameEn_c {e1 e2 : TypeId} (A B : Option Addr) (n m c d : Nat) (xs ys : List EnA) (w : World) (hx : Reads w e1 5 A n (xs.flatMap cellsN)) (hy : Reads w e2 5 B m (ys.flatMap cellsN)) (hix : EnsIn w xs) (hiy : EnsIn w ys) (hn : n ≤ 100000000) :
    Calls Try.prog 45 #[.slice A n c, .slice B m d] w fun e w' => e = .returned (.bool (decide (xs.map Prod.fst = ys.map Prod.fst))) ∧ Below w.heap.size w w' := by
  have hxl : xs.length = n := by have := hx.1; rw [recs_len cellsN_len] at this; omega
  have hyl : ys.length = m := by have := hy.1; rw [recs_len cellsN_len] at this; omega
  by_cases hnm : n = m
  · subst hnm
    have t0 : ((n : Int) != n) = false := by simp
    have HX := hid hx
    have HY := hid hy
    have HIX := hid hix
    have HIY := hid hiy
    have HXL := hid hxl
    have HYL := hid hyl
    clear hx hy hix hiy hxl hyl
    go_enter Try.func45, Try.ntmps45
    go_wp2_with fail
    go_loopw [5] (fun v wr => ∃ k : Nat, k ≤ n ∧ v = .int .i64 (k : Nat) ∧ Below w.heap.size w wr ∧ Hid ((xs.map Prod.fst).take k = (ys.map Prod.fst).take k)) (fun v _ => n - (intOf v).toNat)
    case atStart => exact ⟨0, Nat.zero_le _, rfl, Below.refl _ _, hid (by simp)⟩
    case round =>
      obtain ⟨k, hk, rfl, hb, heq⟩ := hrel
      by_cases hlt : k < n
      · obtain ⟨ad, x, rfl, hx, hxl, c0, c1, c2, c3, c4⟩ := en_at (HX.out.below hb) hlt
        have hix := (HIX.out x (List.mem_of_getElem? hx)).below hb
        obtain ⟨bd, y, rfl, hy, hyl, d0, d1, d2, d3, d4⟩ := en_at (HY.out.below hb) hlt
        have hiy := (HIY.out y (List.mem_of_getElem? hy)).below hb
        have HIN := hid (And.intro hix hiy)
        have HB := hid hb
        have hxe : (xs.map Prod.fst)[k]? = some (Prod.fst x) := by rw [List.getElem?_map, hx]; rfl
        have hye : (ys.map Prod.fst)[k]? = some (Prod.fst y) := by rw [List.getElem?_map, hy]; rfl
        have HST := hid (fun h : Prod.fst x = Prod.fst y => take_stepEn heq.out hxe hye h)
        have HNE := hid (fun h : ¬ Prod.fst x = Prod.fst y => (show ¬ (xs.map Prod.fst = ys.map Prod.fst) from fun e => h (by rw [e, hye] at hxe; exact (Option.some.inj hxe).symm)))
        have hltI : (k : Int) < (n : Int) := by omega
        have h0I : (0 : Int) ≤ (k : Int) := by omega
        clear hx hy hxl hyl hix hiy hxe hye heq hb
        obtain ⟨⟨f1, l1, ct1, b1, p1⟩, A1, k1⟩ := x
        obtain ⟨⟨f2, l2, ct2, b2, p2⟩, A2, k2⟩ := y
        obtain ⟨oX, hoX⟩ : ∃ oX, oX = Obj.cells (aE f1 l1 ct1 (.slice A1 p1.length k1) b1) 45 := ⟨_, rfl⟩
        obtain ⟨oY, hoY⟩ : ∃ oY, oY = Obj.cells (aE f2 l2 ct2 (.slice A2 p2.length k2) b2) 45 := ⟨_, rfl⟩
        simp only at c0 c1 c2 c3 c4 d0 d1 d2 d3 d4 HST HNE
        go_upto_region 6 with fail
        refine wp_region_noPanic ?_
        refine wp_region_held_drew (S := (fun W => Below wr.heap.size wr W)) (by kernel_rfl) (Below.refl wr.heap.size wr).drew (fun hHeld => ?_)
        refine wpAnyH_take (i := 0) (v := ?_) rfl (by kernel_rfl) (by kernel_rfl) (by kernel_rfl) (fun _ _ _ h => h) (Or.inl ⟨by rfl, ?_⟩) (by assumption) ?_
        rotate_left
        · intro W hW
          have hX0 := below_cell hW c0
          have hX1 := below_cell hW c1
          have hX2 := below_cell hW c2
          have hX3 := below_cell hW c3
          have hX4 := below_cell hW c4
          have hY0 := below_cell hW d0
          have hY1 := below_cell hW d1
          have hY2 := below_cell hW d2
          have hY3 := below_cell hW d3
          have hY4 := below_cell hW d4
          go_simp
          try rfl
        simp only [List.getElem_toArray, List.getElem_cons_zero, Act.put, List.setIfInBounds_toArray, List.set_cons_zero, List.set_cons_succ]
        refine wpAnyH_take (i := 1) (v := ?_) rfl (by kernel_rfl) (by kernel_rfl) (by kernel_rfl) (fun _ _ _ h => h) (Or.inl ⟨by rfl, ?_⟩) (by assumption) ?_
        rotate_left
        · intro W hW
          have hX0 := below_cell hW c0
          have hX1 := below_cell hW c1
          have hX2 := below_cell hW c2
          have hX3 := below_cell hW c3
          have hX4 := below_cell hW c4
          have hY0 := below_cell hW d0
          have hY1 := below_cell hW d1
          have hY2 := below_cell hW d2
          have hY3 := below_cell hW d3
          have hY4 := below_cell hW d4
          go_simp
          try rfl
        simp only [List.getElem_toArray, List.getElem_cons_succ, List.getElem_cons_zero, Act.put, List.setIfInBounds_toArray, List.set_cons_zero, List.set_cons_succ]
        refine wpAnyH_take (i := 2) (v := ?_) rfl (by kernel_rfl) (by kernel_rfl) (by kernel_rfl) (fun _ _ _ h => h) (Or.inl ⟨by rfl, ?_⟩) (by assumption) ?_
        rotate_left
        · intro W hW
          have hX0 := below_cell hW c0
          have hX1 := below_cell hW c1
          have hX2 := below_cell hW c2
          have hX3 := below_cell hW c3
          have hX4 := below_cell hW c4
          have hY0 := below_cell hW d0
          have hY1 := below_cell hW d1
          have hY2 := below_cell hW d2
          have hY3 := below_cell hW d3
          have hY4 := below_cell hW d4
          go_simp
          try rfl
        simp only [List.getElem_toArray, List.getElem_cons_succ, List.getElem_cons_zero, Act.put, List.setIfInBounds_toArray, List.set_cons_zero, List.set_cons_succ]
        refine wpAnyH_take (i := 3) (v := ?_) rfl (by kernel_rfl) (by kernel_rfl) (by kernel_rfl) (fun _ _ _ h => h) (Or.inl ⟨by rfl, ?_⟩) (by assumption) ?_
        rotate_left
        · intro W hW
          have hX0 := below_cell hW c0
          have hX1 := below_cell hW c1
          have hX2 := below_cell hW c2
          have hX3 := below_cell hW c3
          have hX4 := below_cell hW c4
          have hY0 := below_cell hW d0
          have hY1 := below_cell hW d1
          have hY2 := below_cell hW d2
          have hY3 := below_cell hW d3
          have hY4 := below_cell hW d4
          go_simp
          try rfl
        simp only [List.getElem_toArray, List.getElem_cons_succ, List.getElem_cons_zero, Act.put, List.setIfInBounds_toArray, List.set_cons_zero, List.set_cons_succ]
        refine wpAnyH_take (i := 4) (v := ?_) rfl (by kernel_rfl) (by kernel_rfl) (by kernel_rfl) (fun _ _ _ h => h) (Or.inl ⟨by rfl, ?_⟩) (by assumption) ?_
        rotate_left
        · intro W hW
          have hX0 := below_cell hW c0
          have hX1 := below_cell hW c1
          have hX2 := below_cell hW c2
          have hX3 := below_cell hW c3
          have hX4 := below_cell hW c4
          have hY0 := below_cell hW d0
          have hY1 := below_cell hW d1
          have hY2 := below_cell hW d2
          have hY3 := below_cell hW d3
          have hY4 := below_cell hW d4
          go_simp
          try rfl
        simp only [List.getElem_toArray, List.getElem_cons_succ, List.getElem_cons_zero, Act.put, List.setIfInBounds_toArray, List.set_cons_zero, List.set_cons_succ]
        refine wpAnyH_take (i := 5) (v := ?_) rfl (by kernel_rfl) (by kernel_rfl) (by kernel_rfl) (fun _ _ _ h => h) (Or.inl ⟨by rfl, ?_⟩) (by assumption) ?_
        rotate_left
        · intro W hW
          have hX0 := below_cell hW c0
          have hX1 := below_cell hW c1
          have hX2 := below_cell hW c2
          have hX3 := below_cell hW c3
          have hX4 := below_cell hW c4
          have hY0 := below_cell hW d0
          have hY1 := below_cell hW d1
          have hY2 := below_cell hW d2
          have hY3 := below_cell hW d3
          have hY4 := below_cell hW d4
          go_simp
          try rfl
        simp only [List.getElem_toArray, List.getElem_cons_succ, List.getElem_cons_zero, Act.put, List.setIfInBounds_toArray, List.set_cons_zero, List.set_cons_succ]
        refine wpAnyH_take (i := 6) (v := ?_) rfl (by kernel_rfl) (by kernel_rfl) (by kernel_rfl) (fun _ _ _ h => h) (Or.inl ⟨by rfl, ?_⟩) (by assumption) ?_
        rotate_left
        · intro W hW
          have hX0 := below_cell hW c0
          have hX1 := below_cell hW c1
          have hX2 := below_cell hW c2
          have hX3 := below_cell hW c3
          have hX4 := below_cell hW c4
          have hY0 := below_cell hW d0
          have hY1 := below_cell hW d1
          have hY2 := below_cell hW d2
          have hY3 := below_cell hW d3
          have hY4 := below_cell hW d4
          go_simp
          try rfl
        simp only [List.getElem_toArray, List.getElem_cons_succ, List.getElem_cons_zero, Act.put, List.setIfInBounds_toArray, List.set_cons_zero, List.set_cons_succ]
        refine wpAnyH_take (i := 7) (v := ?_) rfl (by kernel_rfl) (by kernel_rfl) (by kernel_rfl) (fun _ _ _ h => h) (Or.inl ⟨by rfl, ?_⟩) (by assumption) ?_
        rotate_left
        · intro W hW
          have hX0 := below_cell hW c0
          have hX1 := below_cell hW c1
          have hX2 := below_cell hW c2
          have hX3 := below_cell hW c3
          have hX4 := below_cell hW c4
          have hY0 := below_cell hW d0
          have hY1 := below_cell hW d1
          have hY2 := below_cell hW d2
          have hY3 := below_cell hW d3
          have hY4 := below_cell hW d4
          go_simp
          try rfl
        simp only [List.getElem_toArray, List.getElem_cons_succ, List.getElem_cons_zero, Act.put, List.setIfInBounds_toArray, List.set_cons_zero, List.set_cons_succ]
        clear hHeld c0 c1 c2 c3 c4 d0 d1 d2 d3 d4
        have hsd : wr.drew.heap.size = wr.heap.size := rfl
        refine wpAnyH_ready (rs := [8, 9]) (by kernel_rfl) (by simp) ?_
        refine AllReadyH.cons rfl (fun K hK => ?_) (AllReadyH.cons rfl (fun K hK => ?_) AllReadyH.nil)
        · go_simp
          refine hK.out _ _ ((Below.refl wr.heap.size wr).drew.alloc (by simp) _) (fun hHeld => ?_)
          clear hK K
          try simp only [List.getElem_toArray, List.getElem_cons_succ, List.getElem_cons_zero, Act.put, List.setIfInBounds_toArray, List.set_cons_zero, List.set_cons_succ]
          refine wpAnyH_ready (rs := [9]) (by kernel_rfl) (by simp) ?_
          refine AllReadyH.cons rfl (fun K hK => ?_) AllReadyH.nil
          go_simp
          refine hK.out _ _ (((Below.refl wr.heap.size wr).alloc (Nat.le_refl _) _).alloc (by simp) _).drew (fun hHeld => ?_)
          clear hK K hHeld
          try simp only [List.getElem_toArray, List.getElem_cons_succ, List.getElem_cons_zero, Act.put, List.setIfInBounds_toArray, List.set_cons_zero, List.set_cons_succ]
          obtain ⟨W1, hW1⟩ : ∃ W1, W1 = ((wr.alloc (.cells zEn 45)).alloc (.cells zEn 45)).drew := ⟨_, rfl⟩
          have HBW : Below wr.heap.size wr W1 := by rw [hW1]; exact (((Below.refl wr.heap.size wr).alloc (Nat.le_refl _) _).alloc (by simp) _).drew
          have K0 : Blk W1 wr.heap.size 45 zEn := by rw [hW1]; exact ((Blk.new _ _ _).alloc _).drew
          have K1 : Blk W1 (wr.heap.size + 1) 45 zEn := by rw [hW1]; exact (Blk.new_at _ _ _ (by simp)).drew
          rw [← hW1]
          clear hW1
          obtain ⟨x0, x1, x2, x3, x4⟩ := K0.fivec
          have xf := K0.frozen
          have xl := K0.lt
          refine wpAnyH_ready (rs := [10]) (by kernel_rfl) (by simp) ?_
          refine AllReadyH.cons rfl (fun K hK => ?_) AllReadyH.nil
          go_simp
          have HBW_ := (((((HBW.setCell (p := ⟨wr.heap.size, 0, none⟩) (by simp) (.int .i64 f1)).setCell (p := ⟨wr.heap.size, 1, none⟩) (by simp) (.int .i64 l1)).setCell (p := ⟨wr.heap.size, 2, none⟩) (by simp) (.int .i64 ct1)).setCell (p := ⟨wr.heap.size, 3, none⟩) (by simp) (.slice A1 p1.length k1)).setCell (p := ⟨wr.heap.size, 4, none⟩) (by simp) (.int .i64 b1))
          have K0_ : Blk _ _ _ (aE f1 l1 ct1 (.slice A1 p1.length k1) b1) := (((((K0.set_ 0 (.int .i64 f1)).set_ 1 (.int .i64 l1)).set_ 2 (.int .i64 ct1)).set_ 3 (.slice A1 p1.length k1)).set_ 4 (.int .i64 b1))
          have K1_ := (((((K1.far (p := ⟨wr.heap.size, 0, none⟩) (by simp) (.int .i64 f1)).far (p := ⟨wr.heap.size, 1, none⟩) (by simp) (.int .i64 l1)).far (p := ⟨wr.heap.size, 2, none⟩) (by simp) (.int .i64 ct1)).far (p := ⟨wr.heap.size, 3, none⟩) (by simp) (.slice A1 p1.length k1)).far (p := ⟨wr.heap.size, 4, none⟩) (by simp) (.int .i64 b1))
          obtain ⟨W2, hW2⟩ : ∃ W2, W2 = (((((W1.setCell ⟨wr.heap.size, 0, none⟩ (.int .i64 f1)).setCell ⟨wr.heap.size, 1, none⟩ (.int .i64 l1)).setCell ⟨wr.heap.size, 2, none⟩ (.int .i64 ct1)).setCell ⟨wr.heap.size, 3, none⟩ (.slice A1 p1.length k1)).setCell ⟨wr.heap.size, 4, none⟩ (.int .i64 b1)) := ⟨_, rfl⟩
          rw [← hW2] at HBW_ K0_ K1_ ⊢
          clear HBW K0 K1 x0 x1 x2 x3 x4 xf xl hW2
          refine hK.out _ _ HBW_ (fun hHeld => ?_)
          clear hK K hHeld
          try simp only [List.getElem_toArray, List.getElem_cons_succ, List.getElem_cons_zero, Act.put, List.setIfInBounds_toArray, List.set_cons_zero, List.set_cons_succ]
          have HBW := HBW_
          have K0 := K0_
          have K1 := K1_
          clear HBW_ K0_ K1_
          obtain ⟨x0, x1, x2, x3, x4⟩ := K1.fivec
          have xf := K1.frozen
          have xl := K1.lt
          refine wpAnyH_ready (rs := [11]) (by kernel_rfl) (by simp) ?_
          refine AllReadyH.cons rfl (fun K hK => ?_) AllReadyH.nil
          go_simp
          have HBW_ := (((((HBW.setCell (p := ⟨(wr.heap.size + 1), 0, none⟩) (by simp) (.int .i64 f2)).setCell (p := ⟨(wr.heap.size + 1), 1, none⟩) (by simp) (.int .i64 l2)).setCell (p := ⟨(wr.heap.size + 1), 2, none⟩) (by simp) (.int .i64 ct2)).setCell (p := ⟨(wr.heap.size + 1), 3, none⟩) (by simp) (.slice A2 p2.length k2)).setCell (p := ⟨(wr.heap.size + 1), 4, none⟩) (by simp) (.int .i64 b2))
          have K1_ : Blk _ _ _ (aE f2 l2 ct2 (.slice A2 p2.length k2) b2) := (((((K1.set_ 0 (.int .i64 f2)).set_ 1 (.int .i64 l2)).set_ 2 (.int .i64 ct2)).set_ 3 (.slice A2 p2.length k2)).set_ 4 (.int .i64 b2))
          have K0_ := (((((K0.far (p := ⟨(wr.heap.size + 1), 0, none⟩) (by simp) (.int .i64 f2)).far (p := ⟨(wr.heap.size + 1), 1, none⟩) (by simp) (.int .i64 l2)).far (p := ⟨(wr.heap.size + 1), 2, none⟩) (by simp) (.int .i64 ct2)).far (p := ⟨(wr.heap.size + 1), 3, none⟩) (by simp) (.slice A2 p2.length k2)).far (p := ⟨(wr.heap.size + 1), 4, none⟩) (by simp) (.int .i64 b2))
          obtain ⟨W3, hW3⟩ : ∃ W3, W3 = (((((W2.setCell ⟨(wr.heap.size + 1), 0, none⟩ (.int .i64 f2)).setCell ⟨(wr.heap.size + 1), 1, none⟩ (.int .i64 l2)).setCell ⟨(wr.heap.size + 1), 2, none⟩ (.int .i64 ct2)).setCell ⟨(wr.heap.size + 1), 3, none⟩ (.slice A2 p2.length k2)).setCell ⟨(wr.heap.size + 1), 4, none⟩ (.int .i64 b2)) := ⟨_, rfl⟩
          rw [← hW3] at HBW_ K1_ K0_ ⊢
          clear HBW K1 K0 x0 x1 x2 x3 x4 xf xl hW3
          refine hK.out _ _ HBW_ (fun hHeld => ?_)
          clear hK K hHeld
          try simp only [List.getElem_toArray, List.getElem_cons_succ, List.getElem_cons_zero, Act.put, List.setIfInBounds_toArray, List.set_cons_zero, List.set_cons_succ]
          have HBW := HBW_
          have K1 := K1_
          have K0 := K0_
          clear HBW_ K1_ K0_
          refine wpAnyH_done (by kernel_rfl) ?_ _
          refine NoPanic.normal ?_
          have HBF := hid (HB.out.trans (HBW.mono HB.out.size))
          have HI2 := hid (show (∃ e, Reads W3 e 1 A1 p1.length (p1.map (Value.int .i64))) ∧ (∃ e, Reads W3 e 1 A2 p2.length (p2.map (Value.int .i64))) ∧ p1.length ≤ 100000 from ⟨HIN.out.1.1.elim fun e h => ⟨e, h.below HBW⟩, HIN.out.2.1.elim fun e h => ⟨e, h.below HBW⟩, HIN.out.1.2⟩)
          obtain ⟨x0, x1, x2, x3, x4⟩ := K0.fivec
          obtain ⟨y0, y1, y2, y3, y4⟩ := K1.fivec
          clear HBW K0 K1 hsd HIN HB
          by_cases h : f1 = f2
          · have t1 : (f1 != f2) = false := by simp [h]
            have Hf1f2 := hid h
            clear h
            by_cases h : l1 = l2
            · have t2 : (l1 != l2) = false := by simp [h]
              have Hl1l2 := hid h
              clear h
              by_cases h : ct1 = ct2
              · have t3 : (ct1 != ct2) = false := by simp [h]
                have Hct1ct2 := hid h
                clear h
                by_cases h : b1 = b2
                · have t4 : (b1 != b2) = false := by simp [h]
                  have Hb1b2 := hid h
                  clear h
                  obtain ⟨⟨ea, hra⟩, ⟨eb, hrb⟩, hl1⟩ := HI2.out
                  have HC := hid (samePg_c A1 A2 p1.length p2.length k1 k2 p1 p2 W3 hra hrb (by omega))
                  clear hra hrb hl1
                  go_wp2_with fail
                  refine HC.out.mono ?_
                  rintro e w4 ⟨rfl, hb4⟩
                  have HB4 := hid (HBF.out.trans (hb4.mono HBF.out.size))
                  clear hb4 HC x0 x1 x2 x3 x4 y0 y1 y2 y3 y4
                  by_cases hc : p1 = p2
                  · rw [decide_eq_true hc]
                    have HC2 := hid (HST.out (by rw [Hf1f2.out, Hl1l2.out, Hct1ct2.out, Hb1b2.out, hc]))
                    clear hc
                    go_wp2_with fail
                    go_roundw
                    case rel => exact ⟨k + 1, by omega, by go_num, HB4.out, HC2⟩
                    case measure => simp [intOf]; omega
                  · rw [decide_eq_false hc]
                    have HC2 := hid (HNE.out (fun e => hc (by injection e)))
                    clear hc
                    go_wp2_with fail
                    go_ret
                    exact ⟨ret_b (by rw [eq_comm, decide_eq_false_iff_not]; exact HC2.out), HB4.out⟩
                · have t4 : (b1 != b2) = true := by simp [h]
                  have HC2 := hid (HNE.out (fun e => h (by injection e)))
                  clear h
                  go_wp2_with fail
                  go_ret
                  exact ⟨ret_b (by rw [eq_comm, decide_eq_false_iff_not]; exact HC2.out), HBF.out⟩
              · have t3 : (ct1 != ct2) = true := by simp [h]
                have HC2 := hid (HNE.out (fun e => h (by injection e)))
                clear h
                go_wp2_with fail
                go_ret
                exact ⟨ret_b (by rw [eq_comm, decide_eq_false_iff_not]; exact HC2.out), HBF.out⟩
            · have t2 : (l1 != l2) = true := by simp [h]
              have HC2 := hid (HNE.out (fun e => h (by injection e)))
              clear h
              go_wp2_with fail
              go_ret
              exact ⟨ret_b (by rw [eq_comm, decide_eq_false_iff_not]; exact HC2.out), HBF.out⟩
          · have t1 : (f1 != f2) = true := by simp [h]
            have HC2 := hid (HNE.out (fun e => h (by injection e)))
            clear h
            go_wp2_with fail
            go_ret
            exact ⟨ret_b (by rw [eq_comm, decide_eq_false_iff_not]; exact HC2.out), HBF.out⟩
        · go_simp
          refine hK.out _ _ ((Below.refl wr.heap.size wr).drew.alloc (by simp) _) (fun hHeld => ?_)
          clear hK K
          try simp only [List.getElem_toArray, List.getElem_cons_succ, List.getElem_cons_zero, Act.put, List.setIfInBounds_toArray, List.set_cons_zero, List.set_cons_succ]
          refine wpAnyH_ready (rs := [8]) (by kernel_rfl) (by simp) ?_
          refine AllReadyH.cons rfl (fun K hK => ?_) AllReadyH.nil
          go_simp
          refine hK.out _ _ (((Below.refl wr.heap.size wr).alloc (Nat.le_refl _) _).alloc (by simp) _).drew (fun hHeld => ?_)
          clear hK K hHeld
          try simp only [List.getElem_toArray, List.getElem_cons_succ, List.getElem_cons_zero, Act.put, List.setIfInBounds_toArray, List.set_cons_zero, List.set_cons_succ]
          obtain ⟨W1, hW1⟩ : ∃ W1, W1 = ((wr.alloc (.cells zEn 45)).alloc (.cells zEn 45)).drew := ⟨_, rfl⟩
          have HBW : Below wr.heap.size wr W1 := by rw [hW1]; exact (((Below.refl wr.heap.size wr).alloc (Nat.le_refl _) _).alloc (by simp) _).drew
          have K0 : Blk W1 wr.heap.size 45 zEn := by rw [hW1]; exact ((Blk.new _ _ _).alloc _).drew
          have K1 : Blk W1 (wr.heap.size + 1) 45 zEn := by rw [hW1]; exact (Blk.new_at _ _ _ (by simp)).drew
          rw [← hW1]
          clear hW1
          obtain ⟨x0, x1, x2, x3, x4⟩ := K1.fivec
          have xf := K1.frozen
          have xl := K1.lt
          refine wpAnyH_ready (rs := [10]) (by kernel_rfl) (by simp) ?_
          refine AllReadyH.cons rfl (fun K hK => ?_) AllReadyH.nil
          go_simp
          have HBW_ := (((((HBW.setCell (p := ⟨(wr.heap.size + 1), 0, none⟩) (by simp) (.int .i64 f1)).setCell (p := ⟨(wr.heap.size + 1), 1, none⟩) (by simp) (.int .i64 l1)).setCell (p := ⟨(wr.heap.size + 1), 2, none⟩) (by simp) (.int .i64 ct1)).setCell (p := ⟨(wr.heap.size + 1), 3, none⟩) (by simp) (.slice A1 p1.length k1)).setCell (p := ⟨(wr.heap.size + 1), 4, none⟩) (by simp) (.int .i64 b1))
          have K1_ : Blk _ _ _ (aE f1 l1 ct1 (.slice A1 p1.length k1) b1) := (((((K1.set_ 0 (.int .i64 f1)).set_ 1 (.int .i64 l1)).set_ 2 (.int .i64 ct1)).set_ 3 (.slice A1 p1.length k1)).set_ 4 (.int .i64 b1))
          have K0_ := (((((K0.far (p := ⟨(wr.heap.size + 1), 0, none⟩) (by simp) (.int .i64 f1)).far (p := ⟨(wr.heap.size + 1), 1, none⟩) (by simp) (.int .i64 l1)).far (p := ⟨(wr.heap.size + 1), 2, none⟩) (by simp) (.int .i64 ct1)).far (p := ⟨(wr.heap.size + 1), 3, none⟩) (by simp) (.slice A1 p1.length k1)).far (p := ⟨(wr.heap.size + 1), 4, none⟩) (by simp) (.int .i64 b1))
          obtain ⟨W2, hW2⟩ : ∃ W2, W2 = (((((W1.setCell ⟨(wr.heap.size + 1), 0, none⟩ (.int .i64 f1)).setCell ⟨(wr.heap.size + 1), 1, none⟩ (.int .i64 l1)).setCell ⟨(wr.heap.size + 1), 2, none⟩ (.int .i64 ct1)).setCell ⟨(wr.heap.size + 1), 3, none⟩ (.slice A1 p1.length k1)).setCell ⟨(wr.heap.size + 1), 4, none⟩ (.int .i64 b1)) := ⟨_, rfl⟩
          rw [← hW2] at HBW_ K1_ K0_ ⊢
          clear HBW K1 K0 x0 x1 x2 x3 x4 xf xl hW2
          refine hK.out _ _ HBW_ (fun hHeld => ?_)
          clear hK K hHeld
          try simp only [List.getElem_toArray, List.getElem_cons_succ, List.getElem_cons_zero, Act.put, List.setIfInBounds_toArray, List.set_cons_zero, List.set_cons_succ]
          have HBW := HBW_
          have K1 := K1_
          have K0 := K0_
          clear HBW_ K1_ K0_
          obtain ⟨x0, x1, x2, x3, x4⟩ := K0.fivec
          have xf := K0.frozen
          have xl := K0.lt
          refine wpAnyH_ready (rs := [11]) (by kernel_rfl) (by simp) ?_
          refine AllReadyH.cons rfl (fun K hK => ?_) AllReadyH.nil
          go_simp
          have HBW_ := (((((HBW.setCell (p := ⟨wr.heap.size, 0, none⟩) (by simp) (.int .i64 f2)).setCell (p := ⟨wr.heap.size, 1, none⟩) (by simp) (.int .i64 l2)).setCell (p := ⟨wr.heap.size, 2, none⟩) (by simp) (.int .i64 ct2)).setCell (p := ⟨wr.heap.size, 3, none⟩) (by simp) (.slice A2 p2.length k2)).setCell (p := ⟨wr.heap.size, 4, none⟩) (by simp) (.int .i64 b2))
          have K0_ : Blk _ _ _ (aE f2 l2 ct2 (.slice A2 p2.length k2) b2) := (((((K0.set_ 0 (.int .i64 f2)).set_ 1 (.int .i64 l2)).set_ 2 (.int .i64 ct2)).set_ 3 (.slice A2 p2.length k2)).set_ 4 (.int .i64 b2))
          have K1_ := (((((K1.far (p := ⟨wr.heap.size, 0, none⟩) (by simp) (.int .i64 f2)).far (p := ⟨wr.heap.size, 1, none⟩) (by simp) (.int .i64 l2)).far (p := ⟨wr.heap.size, 2, none⟩) (by simp) (.int .i64 ct2)).far (p := ⟨wr.heap.size, 3, none⟩) (by simp) (.slice A2 p2.length k2)).far (p := ⟨wr.heap.size, 4, none⟩) (by simp) (.int .i64 b2))
          obtain ⟨W3, hW3⟩ : ∃ W3, W3 = (((((W2.setCell ⟨wr.heap.size, 0, none⟩ (.int .i64 f2)).setCell ⟨wr.heap.size, 1, none⟩ (.int .i64 l2)).setCell ⟨wr.heap.size, 2, none⟩ (.int .i64 ct2)).setCell ⟨wr.heap.size, 3, none⟩ (.slice A2 p2.length k2)).setCell ⟨wr.heap.size, 4, none⟩ (.int .i64 b2)) := ⟨_, rfl⟩
          rw [← hW3] at HBW_ K0_ K1_ ⊢
          clear HBW K0 K1 x0 x1 x2 x3 x4 xf xl hW3
          refine hK.out _ _ HBW_ (fun hHeld => ?_)
          clear hK K hHeld
          try simp only [List.getElem_toArray, List.getElem_cons_succ, List.getElem_cons_zero, Act.put, List.setIfInBounds_toArray, List.set_cons_zero, List.set_cons_succ]
          have HBW := HBW_
          have K0 := K0_
          have K1 := K1_
          clear HBW_ K0_ K1_
          refine wpAnyH_done (by kernel_rfl) ?_ _
          refine NoPanic.normal ?_
          have HBF := hid (HB.out.trans (HBW.mono HB.out.size))
          have HI2 := hid (show (∃ e, Reads W3 e 1 A1 p1.length (p1.map (Value.int .i64))) ∧ (∃ e, Reads W3 e 1 A2 p2.length (p2.map (Value.int .i64))) ∧ p1.length ≤ 100000 from ⟨HIN.out.1.1.elim fun e h => ⟨e, h.below HBW⟩, HIN.out.2.1.elim fun e h => ⟨e, h.below HBW⟩, HIN.out.1.2⟩)
          obtain ⟨x0, x1, x2, x3, x4⟩ := K1.fivec
          obtain ⟨y0, y1, y2, y3, y4⟩ := K0.fivec
          clear HBW K0 K1 hsd HIN HB
          by_cases h : f1 = f2
          · have t1 : (f1 != f2) = false := by simp [h]
            have Hf1f2 := hid h
            clear h
            by_cases h : l1 = l2
            · have t2 : (l1 != l2) = false := by simp [h]
              have Hl1l2 := hid h
              clear h
              by_cases h : ct1 = ct2
              · have t3 : (ct1 != ct2) = false := by simp [h]
                have Hct1ct2 := hid h
                clear h
                by_cases h : b1 = b2
                · have t4 : (b1 != b2) = false := by simp [h]
                  have Hb1b2 := hid h
                  clear h
                  obtain ⟨⟨ea, hra⟩, ⟨eb, hrb⟩, hl1⟩ := HI2.out
                  have HC := hid (samePg_c A1 A2 p1.length p2.length k1 k2 p1 p2 W3 hra hrb (by omega))
                  clear hra hrb hl1
                  go_wp2_with fail
                  refine HC.out.mono ?_
                  rintro e w4 ⟨rfl, hb4⟩
                  have HB4 := hid (HBF.out.trans (hb4.mono HBF.out.size))
                  clear hb4 HC x0 x1 x2 x3 x4 y0 y1 y2 y3 y4
                  by_cases hc : p1 = p2
                  · rw [decide_eq_true hc]
                    have HC2 := hid (HST.out (by rw [Hf1f2.out, Hl1l2.out, Hct1ct2.out, Hb1b2.out, hc]))
                    clear hc
                    go_wp2_with fail
                    go_roundw
                    case rel => exact ⟨k + 1, by omega, by go_num, HB4.out, HC2⟩
                    case measure => simp [intOf]; omega
                  · rw [decide_eq_false hc]
                    have HC2 := hid (HNE.out (fun e => hc (by injection e)))
                    clear hc
                    go_wp2_with fail
                    go_ret
                    exact ⟨ret_b (by rw [eq_comm, decide_eq_false_iff_not]; exact HC2.out), HB4.out⟩
                · have t4 : (b1 != b2) = true := by simp [h]
                  have HC2 := hid (HNE.out (fun e => h (by injection e)))
                  clear h
                  go_wp2_with fail
                  go_ret
                  exact ⟨ret_b (by rw [eq_comm, decide_eq_false_iff_not]; exact HC2.out), HBF.out⟩
              · have t3 : (ct1 != ct2) = true := by simp [h]
                have HC2 := hid (HNE.out (fun e => h (by injection e)))
                clear h
                go_wp2_with fail
                go_ret
                exact ⟨ret_b (by rw [eq_comm, decide_eq_false_iff_not]; exact HC2.out), HBF.out⟩
            · have t2 : (l1 != l2) = true := by simp [h]
              have HC2 := hid (HNE.out (fun e => h (by injection e)))
              clear h
              go_wp2_with fail
              go_ret
              exact ⟨ret_b (by rw [eq_comm, decide_eq_false_iff_not]; exact HC2.out), HBF.out⟩
          · have t1 : (f1 != f2) = true := by simp [h]
            have HC2 := hid (HNE.out (fun e => h (by injection e)))
            clear h
            go_wp2_with fail
            go_ret
            exact ⟨ret_b (by rw [eq_comm, decide_eq_false_iff_not]; exact HC2.out), HBF.out⟩
      · obtain rfl : k = n := by omega
        clear hlt
        have HF := hid (show xs.map Prod.fst = ys.map Prod.fst ∧ Below w.heap.size w wr from ⟨by
          have h := heq.out
          rw [List.take_of_length_le (by rw [List.length_map, HXL.out]; exact Nat.le_refl _), List.take_of_length_le (by rw [List.length_map, HYL.out]; exact Nat.le_refl _)] at h
          exact h, hb⟩)
        clear heq hb
        go_wp2_with fail
        go_ret
        exact ⟨ret_b (by rw [eq_comm, decide_eq_true_iff]; exact HF.out.1), HF.out.2⟩
  · have t0 : ((n : Int) != m) = true := by simp; omega
    have HN := hid (show ¬ (xs.map Prod.fst = ys.map Prod.fst) from fun e => hnm (by rw [← hxl, ← hyl]; have := congrArg List.length e; simpa using this))
    clear hx hy hxl hyl hnm hix hiy
    go_enter Try.func45, Try.ntmps45
    go_wp2_with fail
    go_ret
    exact ⟨ret_b (by rw [eq_comm, decide_eq_false_iff_not]; exact HN.out), Below.refl _ _⟩
set_option maxRecDepth 100000 in
set_option maxHeartbeats 4000000 in
theorem sameMan_c (A B : Option Addr) (n m c d : Nat) (xs ys : List RoA) (w : World) (hx : ManIn w A n c xs) (hy : ManIn w B m d ys) :
    Calls Try.prog 15 #[.agg #[.slice A n c], .agg #[.slice B m d]] w fun e w' => e = .returned (.bool (decide (xs.map RoA.d = ys.map RoA.d))) ∧ Below w.heap.size w w' := by
  have hxl := hx.len
  have hyl := hy.len
  have hn16 := hx.hn
  have HBB := hid (below2' w (.cells #[.slice A n c] 24) (.cells #[.slice B m d] 24) (Below.refl _ _))
  have k0 : ((w.alloc (.cells #[.slice A n c] 24)).alloc (.cells #[.slice B m d] 24)).cell? ⟨w.heap.size, 0, none⟩ = some (.slice A n c) := ((Blk.new w 24 #[.slice A n c]).alloc _).cell 0
  have k1 : ((w.alloc (.cells #[.slice A n c] 24)).alloc (.cells #[.slice B m d] 24)).cell? ⟨w.heap.size + 1, 0, none⟩ = some (.slice B m d) := (Blk.new_at (g := w.heap.size + 1) (w.alloc (.cells #[.slice A n c] 24)) 24 #[.slice B m d] (by simp)).cell 0
  have KK := hid (And.intro ((Blk.new w 24 #[.slice A n c]).alloc (.cells #[.slice B m d] 24)) (Blk.new_at (g := w.heap.size + 1) (w.alloc (.cells #[.slice A n c] 24)) 24 #[.slice B m d] (by simp)))
  by_cases hnm : n = m
  · subst hnm
    have t0 : ((n : Int) != n) = false := by simp
    have HX := hid hx
    have HY := hid hy
    have HXL := hid hxl
    have HYL := hid hyl
    clear hx hy hxl hyl
    go_enter Try.func15, Try.ntmps15
    go_wp2_with fail
    clear k0 k1
    generalize (w.alloc (.cells #[.slice A n c] 24)).alloc (.cells #[.slice B n d] 24) = wB at *
    go_loopw [19] (fun v wr => ∃ k : Nat, k ≤ n ∧ v = .int .i64 (k : Nat) ∧ Below wB.heap.size wB wr ∧ Hid ((xs.map RoA.d).take k = (ys.map RoA.d).take k)) (fun v _ => n - (intOf v).toNat)
    case atStart => exact ⟨0, Nat.zero_le _, rfl, Below.refl _ _, hid (by simp)⟩
    case round =>
      obtain ⟨k, hk, rfl, hbB, heq⟩ := hrel
      have hb := HBB.out.trans (hbB.mono HBB.out.size)
      by_cases hlt : k < n
      · obtain ⟨er, hrw⟩ := (HX.out.below hb).rows
        obtain ⟨ad, x, rfl, hx, hxl, c0, c1, c2, c3, c4, c5, c6⟩ := row_at hrw hlt
        have hix := (HX.out.each x (List.mem_of_getElem? hx)).below hb
        obtain ⟨oX, hoX⟩ : ∃ oX, oX = Obj.cells (aR x.nm x.ep x.fl x.la x.sc (.slice x.ea x.en.length x.ec) (.slice x.oa x.op.length x.oc)) 42 := ⟨_, rfl⟩
        have hbx := (Below.refl wr.heap.size wr).alloc (Nat.le_refl _) oX
        obtain ⟨es, hsw⟩ := (HY.out.below (hb.trans (hbx.mono hb.size))).rows
        obtain ⟨bd, y, rfl, hy, hyl, d0, d1, d2, d3, d4, d5, d6⟩ := row_at hsw hlt
        have hiy := (HY.out.each y (List.mem_of_getElem? hy)).below hb
        obtain ⟨oY, hoY⟩ : ∃ oY, oY = Obj.cells (aR y.nm y.ep y.fl y.la y.sc (.slice y.ea y.en.length y.ec) (.slice y.oa y.op.length y.oc)) 42 := ⟨_, rfl⟩
        have hb2 : Below wr.heap.size wr ((wr.alloc oX).alloc oY) := hbx.alloc (by simp) _
        have HIN := hid (And.intro (hix.below hb2) (hiy.below hb2))
        have HB := hid (hb.trans (hb2.mono hb.size))
        have HBB2 := hid (hbB.trans (hb2.mono hbB.size))
        have hxe : (xs.map RoA.d)[k]? = some (RoA.d x) := by rw [List.getElem?_map, hx]; rfl
        have hye : (ys.map RoA.d)[k]? = some (RoA.d y) := by rw [List.getElem?_map, hy]; rfl
        have HST := hid (fun h : RoA.d x = RoA.d y => take_stepRo heq.out hxe hye h)
        have HNE := hid (fun h : ¬ RoA.d x = RoA.d y => (show ¬ (xs.map RoA.d = ys.map RoA.d) from fun e => h (by rw [e, hye] at hxe; exact (Option.some.inj hxe).symm)))
        have hltI : (k : Int) < (n : Int) := by omega
        have h0I : (0 : Int) ≤ (k : Int) := by omega
        have k1 : (wr.alloc oX).cell? ⟨w.heap.size + 1, 0, none⟩ = some (.slice (some bd) n d) := ((KK.out.2.under hbB).alloc oX).cell 0
        have KX := hid (show Blk ((wr.alloc oX).alloc oY) wr.heap.size 42 (aR x.nm x.ep x.fl x.la x.sc (.slice x.ea x.en.length x.ec) (.slice x.oa x.op.length x.oc)) by rw [hoX]; exact (Blk.new _ _ _).alloc _)
        have KY := hid (show Blk ((wr.alloc oX).alloc oY) (wr.heap.size + 1) 42 (aR y.nm y.ep y.fl y.la y.sc (.slice y.ea y.en.length y.ec) (.slice y.oa y.op.length y.oc)) by rw [hoY]; exact Blk.new_at _ _ _ (by simp))
        have hwl : wr.heap.size < wr.heap.size + 1 := by omega
        clear hx hy hxl hyl hix hiy hxe hye heq hb hbB hbx hb2 hrw hsw
        obtain ⟨n1, p1, f1, l1, s1, en1, ea1, ec1, op1, oa1, oc1⟩ := x
        obtain ⟨n2, p2, f2, l2, s2, en2, ea2, ec2, op2, oa2, oc2⟩ := y
        simp only at c0 c1 c2 c3 c4 c5 c6 d0 d1 d2 d3 d4 d5 d6
        subst hoX
        subst hoY
        obtain ⟨a0, a1, a2, a3, a4, a5, a6⟩ := KX.out.seven
        obtain ⟨b0, b1, b2, b3, b4, b5, b6⟩ := KY.out.seven
        simp only at a0 a1 a2 a3 a4 a5 a6 b0 b1 b2 b3 b4 b5 b6
        go_upto_region 7 with fail
        clear c0 c1 c2 c3 c4 c5 c6 d0 d1 d2 d3 d4 d5 d6 k1
        generalize (wr.alloc (.cells (aR n1 p1 f1 l1 s1 (.slice ea1 en1.length ec1) (.slice oa1 op1.length oc1)) 42)).alloc (.cells (aR n2 p2 f2 l2 s2 (.slice ea2 en2.length ec2) (.slice oa2 op2.length oc2)) 42) = W3 at *
        by_cases h : n1 = n2
        · have t1b : (n1.toList == n2.toList) = true := by simp [h]
          have t1c : decide (n1.toList = n2.toList) = true := by simp [h]
          have Hn1n2 := hid h
          clear h
          by_cases h : p1 = p2
          · have t2 : (p1 != p2) = false := by simp [h]
            have Hp1p2 := hid h
            clear h
            by_cases h : f1 = f2
            · have t3 : (f1 != f2) = false := by simp [h]
              have Hf1f2 := hid h
              clear h
              by_cases h : l1 = l2
              · have t4 : (l1 != l2) = false := by simp [h]
                have Hl1l2 := hid h
                clear h
                by_cases h : s1 = s2
                · have t5 : (s1 != s2) = false := by simp [h]
                  have Hs1s2 := hid h
                  clear h
                  obtain ⟨⟨ea, hra⟩, hia, ⟨qa, hpa⟩, hl1, _, hp1, _⟩ := HIN.out.1
                  obtain ⟨⟨eb, hrb⟩, hib, ⟨qb, hpb⟩, _, _, hp2, _⟩ := HIN.out.2
                  have HC := hid (sameEn_c ea1 ea2 en1.length en2.length ec1 ec2 en1 en2 W3 hra hrb hia hib (by simp only at hl1; omega))
                  have HPA := hid hpa
                  have HPB := hid hpb
                  have HPL := hid (And.intro hp1 hp2)
                  clear hra hrb hl1 hia hib hpa hpb hp1 hp2
                  go_wp2_with fail
                  refine HC.out.mono ?_
                  rintro e w4 ⟨rfl, hb4⟩
                  have HB4 := hid (HB.out.trans (hb4.mono HB.out.size))
                  have HBB4 := hid (HBB2.out.trans (hb4.mono HBB2.out.size))
                  replace KX := hid (KX.out.under hb4)
                  replace KY := hid (KY.out.under hb4)
                  replace HPA := hid (HPA.out.below hb4)
                  replace HPB := hid (HPB.out.below hb4)
                  clear hb4 HC a0 a1 a2 a3 a4 a5 a6 b0 b1 b2 b3 b4 b5 b6
                  obtain ⟨a0, a1, a2, a3, a4, a5, a6⟩ := KX.out.seven
                  obtain ⟨b0, b1, b2, b3, b4, b5, b6⟩ := KY.out.seven
                  skip
                  clear a0 a1 a2 a3 a4 a5 b0 b1 b2 b3 b4 b5
                  by_cases hc : en1.map Prod.fst = en2.map Prod.fst
                  · rw [decide_eq_true hc]
                    have HE := hid hc
                    clear hc
                    obtain ⟨o1, ho1⟩ : ∃ o1, o1 = op1.length := ⟨_, rfl⟩
                    obtain ⟨o2, ho2⟩ : ∃ o2, o2 = op2.length := ⟨_, rfl⟩
                    have HO := hid (And.intro ho1 ho2)
                    replace HPA := hid (show Reads w4 qa 2 oa1 o1 (op1.flatMap cellsP) by rw [ho1]; exact HPA.out)
                    replace HPB := hid (show Reads w4 qb 2 oa2 o2 (op2.flatMap cellsP) by rw [ho2]; exact HPB.out)
                    rw [← ho1] at a6
                    rw [← ho2] at b6
                    have hol : o1 ≤ 50000 := by rw [ho1]; exact HPL.out.1
                    clear ho1 ho2
                    by_cases hlen : o1 = o2
                    · subst hlen
                      have t7 : ((o1 : Int) != o1) = false := by simp
                      go_wp2_with fail
                      go_loopw [82] (fun v wr' => ∃ j : Nat, j ≤ o1 ∧ v = .int .i64 (j : Nat) ∧ (∃ q, wr' = w4.drewN q) ∧ Hid (op1.take j = op2.take j)) (fun v _ => o1 - (intOf v).toNat)
                      case atStart => exact ⟨0, Nat.zero_le _, rfl, ⟨0, rfl⟩, hid (by simp)⟩
                      case round =>
                        obtain ⟨j, hj, rfl, ⟨q, rfl⟩, hpe⟩ := hrel
                        by_cases hjl : j < o1
                        · obtain ⟨ax, rfl, cx, cx1⟩ := pts_at HPA.out hjl
                          obtain ⟨ay, rfl, cy, cy1⟩ := pts_at HPB.out hjl
                          have cx2 : w4.cell? ⟨(ax.add (j * 2)).block, (ax.add (j * 2)).off + 1, none⟩ = _ := cx1
                          have cy2 : w4.cell? ⟨(ay.add (j * 2)).block, (ay.add (j * 2)).off + 1, none⟩ = _ := cy1
                          clear cx1 cy1
                          have hjI : (j : Int) < (o1 : Int) := by omega
                          have hj0 : (0 : Int) ≤ (j : Int) := by omega
                          have hst := take_stepP hpe.out (by rw [← HO.out.1]; exact hjl) (by rw [← HO.out.2]; exact hjl)
                          have hne : op1.getD j (0, 0) ≠ op2.getD j (0, 0) → op1 ≠ op2 := fun h e => h (by rw [e])
                          have HST2 := Lib.hid hst
                          have HNE2 := Lib.hid hne
                          clear hst hne hpe
                          generalize op1.getD j (0, 0) = x at *
                          generalize op2.getD j (0, 0) = y at *
                          obtain ⟨x1, x2⟩ := x
                          obtain ⟨y1, y2⟩ := y
                          simp only at cx cx2 cy cy2
                          by_cases hc1 : x1 = y1
                          · by_cases hc2 : x2 = y2
                            · have t1 : (x1 != y1) = false := by simp [hc1]
                              have t2 : (x2 != y2) = false := by simp [hc2]
                              have t3 : (x1 == y1) = true := by simp [hc1]
                              have t4 : (x2 == y2) = true := by simp [hc2]
                              have t5 : decide (x1 = y1) = true := by simp [hc1]
                              have t6 : decide (x2 = y2) = true := by simp [hc2]
                              have HC := Lib.hid (show (x1, x2) = (y1, y2) by rw [hc1, hc2])
                              clear hc1 hc2
                              go_wp2_with fail
                              go_quiet (fail)
                              go_wp2_with fail
                              go_roundw
                              case rel => exact ⟨j + 1, by omega, by go_num, ⟨_, rfl⟩, hid (HST2.out HC.out)⟩
                              case measure => simp [intOf]; omega
                            · have t3 : (x1 == y1) = true := by simp [hc1]
                              have t4 : (x2 == y2) = false := by simp [hc2]
                              have t5 : decide (x1 = y1) = true := by simp [hc1]
                              have t6 : decide (x2 = y2) = false := by simp [hc2]
                              have HC := Lib.hid (HNE.out (fun e => HNE2.out (fun e => hc2 (by injection e)) (by unfold RoA.d at e; injection e)))
                              clear hc1 hc2
                              go_wp2_with fail
                              go_quiet (fail)
                              go_wp2_with fail
                              go_ret
                              exact ⟨ret_b (by rw [eq_comm, decide_eq_false_iff_not]; exact HC.out), below_dn (below_dn HB4.out _) _⟩
                          · have t3 : (x1 == y1) = false := by simp [hc1]
                            have t5 : decide (x1 = y1) = false := by simp [hc1]
                            have HC := Lib.hid (HNE.out (fun e => HNE2.out (fun e => hc1 (by injection e)) (by unfold RoA.d at e; injection e)))
                            clear hc1
                            go_wp2_with fail
                            go_quiet (fail)
                            go_wp2_with fail
                            go_ret
                            exact ⟨ret_b (by rw [eq_comm, decide_eq_false_iff_not]; exact HC.out), below_dn (below_dn HB4.out _) _⟩
                        · obtain rfl : j = o1 := by omega
                          have hpeq : op1 = op2 := by
                            have h := hpe.out
                            rw [List.take_of_length_le (by rw [← HO.out.1]; exact Nat.le_refl _), List.take_of_length_le (by rw [← HO.out.2]; exact Nat.le_refl _)] at h
                            exact h
                          have HC2 := hid (HST.out (by unfold RoA.d; simp only [Hn1n2.out, Hp1p2.out, Hf1f2.out, Hl1l2.out, Hs1s2.out, HE.out, hpeq]))
                          clear hjl hpe hpeq
                          go_wp2_with fail
                          go_roundw
                          case rel => exact ⟨k + 1, by omega, by go_num, below_dn HBB4.out q, HC2⟩
                          case measure => simp [intOf]; omega
                    · have t7 : ((o1 : Int) != o2) = true := by simp; omega
                      have HC2 := hid (HNE.out (fun e => hlen (HO.out.1.trans ((congrArg List.length (show op1 = op2 by unfold RoA.d at e; injection e)).trans HO.out.2.symm))))
                      clear hlen
                      go_wp2_with fail
                      go_ret
                      exact ⟨ret_b (by rw [eq_comm, decide_eq_false_iff_not]; exact HC2.out), HB4.out⟩
                  · rw [decide_eq_false hc]
                    have HC2 := hid (HNE.out (fun e => hc (by unfold RoA.d at e; injection e)))
                    clear hc
                    go_wp2_with fail
                    go_ret
                    exact ⟨ret_b (by rw [eq_comm, decide_eq_false_iff_not]; exact HC2.out), HB4.out⟩
                · have t5 : (s1 != s2) = true := by simp [h]
                  have HC2 := hid (HNE.out (fun e => h (by unfold RoA.d at e; injection e)))
                  clear h
                  go_wp2_with fail
                  go_ret
                  exact ⟨ret_b (by rw [eq_comm, decide_eq_false_iff_not]; exact HC2.out), HB.out⟩
              · have t4 : (l1 != l2) = true := by simp [h]
                have HC2 := hid (HNE.out (fun e => h (by unfold RoA.d at e; injection e)))
                clear h
                go_wp2_with fail
                go_ret
                exact ⟨ret_b (by rw [eq_comm, decide_eq_false_iff_not]; exact HC2.out), HB.out⟩
            · have t3 : (f1 != f2) = true := by simp [h]
              have HC2 := hid (HNE.out (fun e => h (by unfold RoA.d at e; injection e)))
              clear h
              go_wp2_with fail
              go_ret
              exact ⟨ret_b (by rw [eq_comm, decide_eq_false_iff_not]; exact HC2.out), HB.out⟩
          · have t2 : (p1 != p2) = true := by simp [h]
            have HC2 := hid (HNE.out (fun e => h (by unfold RoA.d at e; injection e)))
            clear h
            go_wp2_with fail
            go_ret
            exact ⟨ret_b (by rw [eq_comm, decide_eq_false_iff_not]; exact HC2.out), HB.out⟩
        · have t1b : (n1.toList == n2.toList) = false := by simp; exact fun e => h (strL_eq e)
          have t1c : decide (n1.toList = n2.toList) = false := by simp; exact fun e => h (strL_eq e)
          have HC2 := hid (HNE.out (fun e => h (by unfold RoA.d at e; injection e)))
          clear h
          go_wp2_with fail
          go_ret
          exact ⟨ret_b (by rw [eq_comm, decide_eq_false_iff_not]; exact HC2.out), HB.out⟩
      · obtain rfl : k = n := by omega
        clear hlt
        have HF := hid (show xs.map RoA.d = ys.map RoA.d ∧ Below w.heap.size w wr from ⟨by
          have h := heq.out
          rw [List.take_of_length_le (by rw [List.length_map, HXL.out]; exact Nat.le_refl _), List.take_of_length_le (by rw [List.length_map, HYL.out]; exact Nat.le_refl _)] at h
          exact h, hb⟩)
        clear heq hb hbB
        go_wp2_with fail
        go_ret
        exact ⟨ret_b (by rw [eq_comm, decide_eq_true_iff]; exact HF.out.1), HF.out.2⟩
  · have t0 : ((n : Int) != m) = true := by simp; omega
    have HN := hid (show ¬ (xs.map RoA.d = ys.map RoA.d) from fun e => hnm (by rw [← hxl, ← hyl]; have := congrArg List.length e; simpa using this))
    clear hx hy hxl hyl hnm KK
    go_enter Try.func15, Try.ntmps15
    go_wp2_with fail
    go_ret
    exact ⟨ret_b (by rw [eq_comm, decide_eq_false_iff_not]; exact HN.out), HBB.out⟩
end Go.Proofs.Ytgdnpmjmkcccoaa
