/- The document's Same: of pages, of entries, of manifests (printed by gen_refm.py). Manifest laws: plain, few, wakes of law22. Manifest laws: wakes of law22. -/
import Derived.Test.YtgdnpmjmkcccoaaManD
import Derived.Test.YtgdnpmjmkcccoaaManS
namespace Go.Proofs.Ytgdnpmjmkcccoaa
open Go.RowKit Go.Shelf VB
open Go.Lib (hid)
set_option linter.unusedVariables false
set_option linter.unusedSimpArgs false
theorem below_cell {w w' : World} {p : Addr} {v : Value} (h : Below w.heap.size w w') (hc : w.cell? p = some v) : w'.cell? p = some v := by
  obtain ⟨e, he⟩ := typed_of_cell hc
  rw [h.cell he.lt]
  exact hc
abbrev zEn : Array Value := aE 0 0 0 (.slice none 0 0) 0
set_option maxHeartbeats 1000000 in
theorem samePg_c {e1 e2 : TypeId} (A B : Option Addr) (n m c d : Nat) (xs ys : List Int) (w : World) (hx : Reads w e1 1 A n (xs.map (Value.int .i64))) (hy : Reads w e2 1 B m (ys.map (Value.int .i64))) (hn : n ≤ 100000000) :
    Calls Try.prog 81 #[.slice A n c, .slice B m d] w fun e w' => e = .returned (.bool (decide (xs = ys))) ∧ Below w.heap.size w w' := by
  have hxl := ints_len hx
  have hyl := ints_len hy
  by_cases hnm : n = m
  · subst hnm
    have t0 : ((n : Int) != n) = false := by simp
    have HX := Lib.hid hx
    have HY := Lib.hid hy
    have HXL := Lib.hid hxl
    have HYL := Lib.hid hyl
    clear hx hy hxl hyl
    go_enter Try.func81, Try.ntmps81
    go_wp2_with fail
    go_loopw [5] (fun v wr => ∃ k : Nat, k ≤ n ∧ v = .int .i64 (k : Nat) ∧ (∃ q, wr = w.drewN q) ∧ xs.take k = ys.take k) (fun v _ => n - (intOf v).toNat)
    case atStart => exact ⟨0, Nat.zero_le _, rfl, ⟨0, rfl⟩, by simp⟩
    case round =>
      obtain ⟨k, hk, rfl, ⟨q, rfl⟩, heq⟩ := hrel
      have HE := Lib.hid heq
      clear heq
      by_cases hlt : k < n
      · obtain ⟨ad, rfl, cx⟩ := ints_at HX.out hlt
        obtain ⟨bd, rfl, cy⟩ := ints_at HY.out hlt
        have hltI : (k : Int) < (n : Int) := by omega
        have h0I : (0 : Int) ≤ (k : Int) := by omega
        have hst := take_step HE.out (by rw [HXL.out]; exact hlt) (by rw [HYL.out]; exact hlt)
        have hne : xs.getD k 0 ≠ ys.getD k 0 → xs ≠ ys := fun h e => h (by rw [e])
        have HST := Lib.hid hst
        have HNE := Lib.hid hne
        clear hst hne
        generalize xs.getD k 0 = x at *
        generalize ys.getD k 0 = y at *
        by_cases hc : x = y
        · have t1 : (x != y) = false := by simp [hc]
          have HC := Lib.hid hc
          clear hc
          go_wp2_with fail
          go_quiet (fail)
          go_wp2_with fail
          go_roundw
          case rel => exact ⟨k + 1, by omega, by go_num, ⟨_, rfl⟩, HST.out HC.out⟩
          case measure => simp [intOf]; omega
        · have t1 : (x != y) = true := by simp [hc]
          have HC := Lib.hid (HNE.out hc)
          clear hc
          go_wp2_with fail
          go_quiet (fail)
          go_wp2_with fail
          go_ret
          exact ⟨ret_b (by rw [eq_comm, decide_eq_false_iff_not]; exact HC.out), below_dn (below_dn (Below.refl _ _) _) _⟩
      · obtain rfl : k = n := by omega
        clear hlt
        go_wp2_with fail
        go_ret
        refine ⟨ret_b ?_, below_dn (Below.refl _ _) _⟩
        have h := HE.out
        rw [List.take_of_length_le (by rw [HXL.out]; exact Nat.le_refl _), List.take_of_length_le (by rw [HYL.out]; exact Nat.le_refl _)] at h
        rw [eq_comm, decide_eq_true_iff]
        exact h
  · have t0 : ((n : Int) != m) = true := by simp; omega
    have HN := Lib.hid (show xs ≠ ys from fun e => hnm (by rw [← hxl, ← hyl, e]))
    clear hx hy hxl hyl hnm
    go_enter Try.func81, Try.ntmps81
    go_wp2_with fail
    go_ret
    exact ⟨ret_b (by rw [eq_comm, decide_eq_false_iff_not]; exact HN.out), Below.refl _ _⟩
set_option maxRecDepth 100000 in
set_option maxHeartbeats 4000000 in
theorem sameEn_c {e1 e2 : TypeId} (A B : Option Addr) (n m c d : Nat) (xs ys : List EnA) (w : World) (hx : Reads w e1 5 A n (xs.flatMap cellsN)) (hy : Reads w e2 5 B m (ys.flatMap cellsN)) (hix : EnsIn w xs) (hiy : EnsIn w ys) (hn : n ≤ 100000000) :
    Calls Try.prog 45 #[.slice A n c, .slice B m d] w fun e w' => e = .returned (.bool (decide (xs.map Prod.fst = ys.map Prod.fst))) ∧ Below w.heap.size w w' := by
  have hxl : xs.length = n := by have := hx.1; rw [recs_len cellsN_len] at this; omega
  have hyl : ys.length = m := by have := hy.1; rw [recs_len cellsN_len] at this; omega
  by_cases hnm : n = m
  · subst hnm
    have t0 : ((n : Int) != n) = false := by simp
    have HX := hid hx
    have HY := hid hy
    have HIX := hid hix
    have HIY := hid hiy
    have HXL := hid hxl
    have HYL := hid hyl
    clear hx hy hix hiy hxl hyl
    go_enter Try.func45, Try.ntmps45
    go_wp2_with fail
    go_loopw [5] (fun v wr => ∃ k : Nat, k ≤ n ∧ v = .int .i64 (k : Nat) ∧ Below w.heap.size w wr ∧ Hid ((xs.map Prod.fst).take k = (ys.map Prod.fst).take k)) (fun v _ => n - (intOf v).toNat)
    case atStart => exact ⟨0, Nat.zero_le _, rfl, Below.refl _ _, hid (by simp)⟩
    case round =>
      obtain ⟨k, hk, rfl, hb, heq⟩ := hrel
      by_cases hlt : k < n
      · obtain ⟨ad, x, rfl, hx, hxl, c0, c1, c2, c3, c4⟩ := en_at (HX.out.below hb) hlt
        have hix := (HIX.out x (List.mem_of_getElem? hx)).below hb
        obtain ⟨bd, y, rfl, hy, hyl, d0, d1, d2, d3, d4⟩ := en_at (HY.out.below hb) hlt
        have hiy := (HIY.out y (List.mem_of_getElem? hy)).below hb
        have HIN := hid (And.intro hix hiy)
        have HB := hid hb
        have hxe : (xs.map Prod.fst)[k]? = some (Prod.fst x) := by rw [List.getElem?_map, hx]; rfl
        have hye : (ys.map Prod.fst)[k]? = some (Prod.fst y) := by rw [List.getElem?_map, hy]; rfl
        have HST := hid (fun h : Prod.fst x = Prod.fst y => take_stepEn heq.out hxe hye h)
        have HNE := hid (fun h : ¬ Prod.fst x = Prod.fst y => (show ¬ (xs.map Prod.fst = ys.map Prod.fst) from fun e => h (by rw [e, hye] at hxe; exact (Option.some.inj hxe).symm)))
        have hltI : (k : Int) < (n : Int) := by omega
        have h0I : (0 : Int) ≤ (k : Int) := by omega
        clear hx hy hxl hyl hix hiy hxe hye heq hb
        obtain ⟨⟨f1, l1, ct1, b1, p1⟩, A1, k1⟩ := x
        obtain ⟨⟨f2, l2, ct2, b2, p2⟩, A2, k2⟩ := y
        obtain ⟨oX, hoX⟩ : ∃ oX, oX = Obj.cells (aE f1 l1 ct1 (.slice A1 p1.length k1) b1) 45 := ⟨_, rfl⟩
        obtain ⟨oY, hoY⟩ : ∃ oY, oY = Obj.cells (aE f2 l2 ct2 (.slice A2 p2.length k2) b2) 45 := ⟨_, rfl⟩
        simp only at c0 c1 c2 c3 c4 d0 d1 d2 d3 d4 HST HNE
        go_upto_region 6 with fail
        refine wp_region_noPanic ?_
        refine wp_region_held_drew (S := (fun W => Below wr.heap.size wr W)) (by kernel_rfl) (Below.refl wr.heap.size wr).drew (fun hHeld => ?_)
        refine wpAnyH_take (i := 0) (v := ?_) rfl (by kernel_rfl) (by kernel_rfl) (by kernel_rfl) (fun _ _ _ h => h) (Or.inl ⟨by rfl, ?_⟩) (by assumption) ?_
        rotate_left
        · intro W hW
          have hX0 := below_cell hW c0
          have hX1 := below_cell hW c1
          have hX2 := below_cell hW c2
          have hX3 := below_cell hW c3
          have hX4 := below_cell hW c4
          have hY0 := below_cell hW d0
          have hY1 := below_cell hW d1
          have hY2 := below_cell hW d2
          have hY3 := below_cell hW d3
          have hY4 := below_cell hW d4
          go_simp
          try rfl
        simp only [List.getElem_toArray, List.getElem_cons_zero, Act.put, List.setIfInBounds_toArray, List.set_cons_zero, List.set_cons_succ]
        refine wpAnyH_take (i := 1) (v := ?_) rfl (by kernel_rfl) (by kernel_rfl) (by kernel_rfl) (fun _ _ _ h => h) (Or.inl ⟨by rfl, ?_⟩) (by assumption) ?_
        rotate_left
        · intro W hW
          have hX0 := below_cell hW c0
          have hX1 := below_cell hW c1
          have hX2 := below_cell hW c2
          have hX3 := below_cell hW c3
          have hX4 := below_cell hW c4
          have hY0 := below_cell hW d0
          have hY1 := below_cell hW d1
          have hY2 := below_cell hW d2
          have hY3 := below_cell hW d3
          have hY4 := below_cell hW d4
          go_simp
          try rfl
        simp only [List.getElem_toArray, List.getElem_cons_succ, List.getElem_cons_zero, Act.put, List.setIfInBounds_toArray, List.set_cons_zero, List.set_cons_succ]
        refine wpAnyH_take (i := 2) (v := ?_) rfl (by kernel_rfl) (by kernel_rfl) (by kernel_rfl) (fun _ _ _ h => h) (Or.inl ⟨by rfl, ?_⟩) (by assumption) ?_
        rotate_left
        · intro W hW
          have hX0 := below_cell hW c0
          have hX1 := below_cell hW c1
          have hX2 := below_cell hW c2
          have hX3 := below_cell hW c3
          have hX4 := below_cell hW c4
          have hY0 := below_cell hW d0
          have hY1 := below_cell hW d1
          have hY2 := below_cell hW d2
          have hY3 := below_cell hW d3
          have hY4 := below_cell hW d4
          go_simp
          try rfl
        simp only [List.getElem_toArray, List.getElem_cons_succ, List.getElem_cons_zero, Act.put, List.setIfInBounds_toArray, List.set_cons_zero, List.set_cons_succ]
        refine wpAnyH_take (i := 3) (v := ?_) rfl (by kernel_rfl) (by kernel_rfl) (by kernel_rfl) (fun _ _ _ h => h) (Or.inl ⟨by rfl, ?_⟩) (by assumption) ?_
        rotate_left
        · intro W hW
          have hX0 := below_cell hW c0
          have hX1 := below_cell hW c1
          have hX2 := below_cell hW c2
          have hX3 := below_cell hW c3
          have hX4 := below_cell hW c4
          have hY0 := below_cell hW d0
          have hY1 := below_cell hW d1
          have hY2 := below_cell hW d2
          have hY3 := below_cell hW d3
          have hY4 := below_cell hW d4
          go_simp
          try rfl
        simp only [List.getElem_toArray, List.getElem_cons_succ, List.getElem_cons_zero, Act.put, List.setIfInBounds_toArray, List.set_cons_zero, List.set_cons_succ]
        refine wpAnyH_take (i := 4) (v := ?_) rfl (by kernel_rfl) (by kernel_rfl) (by kernel_rfl) (fun _ _ _ h => h) (Or.inl ⟨by rfl, ?_⟩) (by assumption) ?_
        rotate_left
        · intro W hW
          have hX0 := below_cell hW c0
          have hX1 := below_cell hW c1
          have hX2 := below_cell hW c2
          have hX3 := below_cell hW c3
          have hX4 := below_cell hW c4
          have hY0 := below_cell hW d0
          have hY1 := below_cell hW d1
          have hY2 := below_cell hW d2
          have hY3 := below_cell hW d3
          have hY4 := below_cell hW d4
          go_simp
          try rfl
        simp only [List.getElem_toArray, List.getElem_cons_succ, List.getElem_cons_zero, Act.put, List.setIfInBounds_toArray, List.set_cons_zero, List.set_cons_succ]
        refine wpAnyH_take (i := 5) (v := ?_) rfl (by kernel_rfl) (by kernel_rfl) (by kernel_rfl) (fun _ _ _ h => h) (Or.inl ⟨by rfl, ?_⟩) (by assumption) ?_
        rotate_left
        · intro W hW
          have hX0 := below_cell hW c0
          have hX1 := below_cell hW c1
          have hX2 := below_cell hW c2
          have hX3 := below_cell hW c3
          have hX4 := below_cell hW c4
          have hY0 := below_cell hW d0
          have hY1 := below_cell hW d1
          have hY2 := below_cell hW d2
          have hY3 := below_cell hW d3
          have hY4 := below_cell hW d4
          go_simp
          try rfl
        simp only [List.getElem_toArray, List.getElem_cons_succ, List.getElem_cons_zero, Act.put, List.setIfInBounds_toArray, List.set_cons_zero, List.set_cons_succ]
        refine wpAnyH_take (i := 6) (v := ?_) rfl (by kernel_rfl) (by kernel_rfl) (by kernel_rfl) (fun _ _ _ h => h) (Or.inl ⟨by rfl, ?_⟩) (by assumption) ?_
        rotate_left
        · intro W hW
          have hX0 := below_cell hW c0
          have hX1 := below_cell hW c1
          have hX2 := below_cell hW c2
          have hX3 := below_cell hW c3
          have hX4 := below_cell hW c4
          have hY0 := below_cell hW d0
          have hY1 := below_cell hW d1
          have hY2 := below_cell hW d2
          have hY3 := below_cell hW d3
          have hY4 := below_cell hW d4
          go_simp
          try rfl
        simp only [List.getElem_toArray, List.getElem_cons_succ, List.getElem_cons_zero, Act.put, List.setIfInBounds_toArray, List.set_cons_zero, List.set_cons_succ]
        refine wpAnyH_take (i := 7) (v := ?_) rfl (by kernel_rfl) (by kernel_rfl) (by kernel_rfl) (fun _ _ _ h => h) (Or.inl ⟨by rfl, ?_⟩) (by assumption) ?_
        rotate_left
        · intro W hW
          have hX0 := below_cell hW c0
          have hX1 := below_cell hW c1
          have hX2 := below_cell hW c2
          have hX3 := below_cell hW c3
          have hX4 := below_cell hW c4
          have hY0 := below_cell hW d0
          have hY1 := below_cell hW d1
          have hY2 := below_cell hW d2
          have hY3 := below_cell hW d3
          have hY4 := below_cell hW d4
          go_simp
          try rfl
        simp only [List.getElem_toArray, List.getElem_cons_succ, List.getElem_cons_zero, Act.put, List.setIfInBounds_toArray, List.set_cons_zero, List.set_cons_succ]
        clear hHeld c0 c1 c2 c3 c4 d0 d1 d2 d3 d4
        have hsd : wr.drew.heap.size = wr.heap.size := rfl
        refine wpAnyH_ready (rs := [8, 9]) (by kernel_rfl) (by simp) ?_
        refine AllReadyH.cons rfl (fun K hK => ?_) (AllReadyH.cons rfl (fun K hK => ?_) AllReadyH.nil)
        · go_simp
          refine hK.out _ _ ((Below.refl wr.heap.size wr).drew.alloc (by simp) _) (fun hHeld => ?_)
          clear hK K
          try simp only [List.getElem_toArray, List.getElem_cons_succ, List.getElem_cons_zero, Act.put, List.setIfInBounds_toArray, List.set_cons_zero, List.set_cons_succ]
          refine wpAnyH_ready (rs := [9]) (by kernel_rfl) (by simp) ?_
          refine AllReadyH.cons rfl (fun K hK => ?_) AllReadyH.nil
          go_simp
          refine hK.out _ _ (((Below.refl wr.heap.size wr).alloc (Nat.le_refl _) _).alloc (by simp) _).drew (fun hHeld => ?_)
          clear hK K hHeld
          try simp only [List.getElem_toArray, List.getElem_cons_succ, List.getElem_cons_zero, Act.put, List.setIfInBounds_toArray, List.set_cons_zero, List.set_cons_succ]
          obtain ⟨W1, hW1⟩ : ∃ W1, W1 = ((wr.alloc (.cells zEn 45)).alloc (.cells zEn 45)).drew := ⟨_, rfl⟩
          have HBW : Below wr.heap.size wr W1 := by rw [hW1]; exact (((Below.refl wr.heap.size wr).alloc (Nat.le_refl _) _).alloc (by simp) _).drew
          have K0 : Blk W1 wr.heap.size 45 zEn := by rw [hW1]; exact ((Blk.new _ _ _).alloc _).drew
          have K1 : Blk W1 (wr.heap.size + 1) 45 zEn := by rw [hW1]; exact (Blk.new_at _ _ _ (by simp)).drew
          rw [← hW1]
          clear hW1
          obtain ⟨x0, x1, x2, x3, x4⟩ := K0.fivec
          have xf := K0.frozen
          have xl := K0.lt
          refine wpAnyH_ready (rs := [10]) (by kernel_rfl) (by simp) ?_
          refine AllReadyH.cons rfl (fun K hK => ?_) AllReadyH.nil
          go_simp
          have HBW_ := (((((HBW.setCell (p := ⟨wr.heap.size, 0, none⟩) (by simp) (.int .i64 f1)).setCell (p := ⟨wr.heap.size, 1, none⟩) (by simp) (.int .i64 l1)).setCell (p := ⟨wr.heap.size, 2, none⟩) (by simp) (.int .i64 ct1)).setCell (p := ⟨wr.heap.size, 3, none⟩) (by simp) (.slice A1 p1.length k1)).setCell (p := ⟨wr.heap.size, 4, none⟩) (by simp) (.int .i64 b1))
          have K0_ : Blk _ _ _ (aE f1 l1 ct1 (.slice A1 p1.length k1) b1) := (((((K0.set_ 0 (.int .i64 f1)).set_ 1 (.int .i64 l1)).set_ 2 (.int .i64 ct1)).set_ 3 (.slice A1 p1.length k1)).set_ 4 (.int .i64 b1))
          have K1_ := (((((K1.far (p := ⟨wr.heap.size, 0, none⟩) (by simp) (.int .i64 f1)).far (p := ⟨wr.heap.size, 1, none⟩) (by simp) (.int .i64 l1)).far (p := ⟨wr.heap.size, 2, none⟩) (by simp) (.int .i64 ct1)).far (p := ⟨wr.heap.size, 3, none⟩) (by simp) (.slice A1 p1.length k1)).far (p := ⟨wr.heap.size, 4, none⟩) (by simp) (.int .i64 b1))
          obtain ⟨W2, hW2⟩ : ∃ W2, W2 = (((((W1.setCell ⟨wr.heap.size, 0, none⟩ (.int .i64 f1)).setCell ⟨wr.heap.size, 1, none⟩ (.int .i64 l1)).setCell ⟨wr.heap.size, 2, none⟩ (.int .i64 ct1)).setCell ⟨wr.heap.size, 3, none⟩ (.slice A1 p1.length k1)).setCell ⟨wr.heap.size, 4, none⟩ (.int .i64 b1)) := ⟨_, rfl⟩
          rw [← hW2] at HBW_ K0_ K1_ ⊢
          clear HBW K0 K1 x0 x1 x2 x3 x4 xf xl hW2
          refine hK.out _ _ HBW_ (fun hHeld => ?_)
          clear hK K hHeld
          try simp only [List.getElem_toArray, List.getElem_cons_succ, List.getElem_cons_zero, Act.put, List.setIfInBounds_toArray, List.set_cons_zero, List.set_cons_succ]
          have HBW := HBW_
          have K0 := K0_
          have K1 := K1_
          clear HBW_ K0_ K1_
          obtain ⟨x0, x1, x2, x3, x4⟩ := K1.fivec
          have xf := K1.frozen
          have xl := K1.lt
          refine wpAnyH_ready (rs := [11]) (by kernel_rfl) (by simp) ?_
          refine AllReadyH.cons rfl (fun K hK => ?_) AllReadyH.nil
          go_simp
          have HBW_ := (((((HBW.setCell (p := ⟨(wr.heap.size + 1), 0, none⟩) (by simp) (.int .i64 f2)).setCell (p := ⟨(wr.heap.size + 1), 1, none⟩) (by simp) (.int .i64 l2)).setCell (p := ⟨(wr.heap.size + 1), 2, none⟩) (by simp) (.int .i64 ct2)).setCell (p := ⟨(wr.heap.size + 1), 3, none⟩) (by simp) (.slice A2 p2.length k2)).setCell (p := ⟨(wr.heap.size + 1), 4, none⟩) (by simp) (.int .i64 b2))
          have K1_ : Blk _ _ _ (aE f2 l2 ct2 (.slice A2 p2.length k2) b2) := (((((K1.set_ 0 (.int .i64 f2)).set_ 1 (.int .i64 l2)).set_ 2 (.int .i64 ct2)).set_ 3 (.slice A2 p2.length k2)).set_ 4 (.int .i64 b2))
          have K0_ := (((((K0.far (p := ⟨(wr.heap.size + 1), 0, none⟩) (by simp) (.int .i64 f2)).far (p := ⟨(wr.heap.size + 1), 1, none⟩) (by simp) (.int .i64 l2)).far (p := ⟨(wr.heap.size + 1), 2, none⟩) (by simp) (.int .i64 ct2)).far (p := ⟨(wr.heap.size + 1), 3, none⟩) (by simp) (.slice A2 p2.length k2)).far (p := ⟨(wr.heap.size + 1), 4, none⟩) (by simp) (.int .i64 b2))
          obtain ⟨W3, hW3⟩ : ∃ W3, W3 = (((((W2.setCell ⟨(wr.heap.size + 1), 0, none⟩ (.int .i64 f2)).setCell ⟨(wr.heap.size + 1), 1, none⟩ (.int .i64 l2)).setCell ⟨(wr.heap.size + 1), 2, none⟩ (.int .i64 ct2)).setCell ⟨(wr.heap.size + 1), 3, none⟩ (.slice A2 p2.length k2)).setCell ⟨(wr.heap.size + 1), 4, none⟩ (.int .i64 b2)) := ⟨_, rfl⟩
          rw [← hW3] at HBW_ K1_ K0_ ⊢
          clear HBW K1 K0 x0 x1 x2 x3 x4 xf xl hW3
          refine hK.out _ _ HBW_ (fun hHeld => ?_)
          clear hK K hHeld
          try simp only [List.getElem_toArray, List.getElem_cons_succ, List.getElem_cons_zero, Act.put, List.setIfInBounds_toArray, List.set_cons_zero, List.set_cons_succ]
          have HBW := HBW_
          have K1 := K1_
          have K0 := K0_
          clear HBW_ K1_ K0_
          refine wpAnyH_done (by kernel_rfl) ?_ _
          refine NoPanic.normal ?_
          have HBF := hid (HB.out.trans (HBW.mono HB.out.size))
          have HI2 := hid (show (∃ e, Reads W3 e 1 A1 p1.length (p1.map (Value.int .i64))) ∧ (∃ e, Reads W3 e 1 A2 p2.length (p2.map (Value.int .i64))) ∧ p1.length ≤ 100000 from ⟨HIN.out.1.1.elim fun e h => ⟨e, h.below HBW⟩, HIN.out.2.1.elim fun e h => ⟨e, h.below HBW⟩, HIN.out.1.2⟩)
          obtain ⟨x0, x1, x2, x3, x4⟩ := K0.fivec
          obtain ⟨y0, y1, y2, y3, y4⟩ := K1.fivec
          clear HBW K0 K1 hsd HIN HB
          by_cases h : f1 = f2
          · have t1 : (f1 != f2) = false := by simp [h]
            have Hf1f2 := hid h
            clear h
            by_cases h : l1 = l2
            · have t2 : (l1 != l2) = false := by simp [h]
              have Hl1l2 := hid h
              clear h
              by_cases h : ct1 = ct2
              · have t3 : (ct1 != ct2) = false := by simp [h]
                have Hct1ct2 := hid h
                clear h
                by_cases h : b1 = b2
                · have t4 : (b1 != b2) = false := by simp [h]
                  have Hb1b2 := hid h
                  clear h
                  obtain ⟨⟨ea, hra⟩, ⟨eb, hrb⟩, hl1⟩ := HI2.out
                  have HC := hid (samePg_c A1 A2 p1.length p2.length k1 k2 p1 p2 W3 hra hrb (by omega))
                  clear hra hrb hl1
                  go_wp2_with fail
                  refine HC.out.mono ?_
                  rintro e w4 ⟨rfl, hb4⟩
                  have HB4 := hid (HBF.out.trans (hb4.mono HBF.out.size))
                  clear hb4 HC x0 x1 x2 x3 x4 y0 y1 y2 y3 y4
                  by_cases hc : p1 = p2
                  · rw [decide_eq_true hc]
                    have HC2 := hid (HST.out (by rw [Hf1f2.out, Hl1l2.out, Hct1ct2.out, Hb1b2.out, hc]))
                    clear hc
                    go_wp2_with fail
                    go_roundw
                    case rel => exact ⟨k + 1, by omega, by go_num, HB4.out, HC2⟩
                    case measure => simp [intOf]; omega
                  · rw [decide_eq_false hc]
                    have HC2 := hid (HNE.out (fun e => hc (by injection e)))
                    clear hc
                    go_wp2_with fail
                    go_ret
                    exact ⟨ret_b (by rw [eq_comm, decide_eq_false_iff_not]; exact HC2.out), HB4.out⟩
                · have t4 : (b1 != b2) = true := by simp [h]
                  have HC2 := hid (HNE.out (fun e => h (by injection e)))
                  clear h
                  go_wp2_with fail
                  go_ret
                  exact ⟨ret_b (by rw [eq_comm, decide_eq_false_iff_not]; exact HC2.out), HBF.out⟩
              · have t3 : (ct1 != ct2) = true := by simp [h]
                have HC2 := hid (HNE.out (fun e => h (by injection e)))
                clear h
                go_wp2_with fail
                go_ret
                exact ⟨ret_b (by rw [eq_comm, decide_eq_false_iff_not]; exact HC2.out), HBF.out⟩
            · have t2 : (l1 != l2) = true := by simp [h]
              have HC2 := hid (HNE.out (fun e => h (by injection e)))
              clear h
              go_wp2_with fail
              go_ret
              exact ⟨ret_b (by rw [eq_comm, decide_eq_false_iff_not]; exact HC2.out), HBF.out⟩
          · have t1 : (f1 != f2) = true := by simp [h]
            have HC2 := hid (HNE.out (fun e => h (by injection e)))
            clear h
            go_wp2_with fail
            go_ret
            exact ⟨ret_b (by rw [eq_comm, decide_eq_false_iff_not]; exact HC2.out), HBF.out⟩
        · go_simp
          refine hK.out _ _ ((Below.refl wr.heap.size wr).drew.alloc (by simp) _) (fun hHeld => ?_)
          clear hK K
          try simp only [List.getElem_toArray, List.getElem_cons_succ, List.getElem_cons_zero, Act.put, List.setIfInBounds_toArray, List.set_cons_zero, List.set_cons_succ]
          refine wpAnyH_ready (rs := [8]) (by kernel_rfl) (by simp) ?_
          refine AllReadyH.cons rfl (fun K hK => ?_) AllReadyH.nil
          go_simp
          refine hK.out _ _ (((Below.refl wr.heap.size wr).alloc (Nat.le_refl _) _).alloc (by simp) _).drew (fun hHeld => ?_)
          clear hK K hHeld
          try simp only [List.getElem_toArray, List.getElem_cons_succ, List.getElem_cons_zero, Act.put, List.setIfInBounds_toArray, List.set_cons_zero, List.set_cons_succ]
          obtain ⟨W1, hW1⟩ : ∃ W1, W1 = ((wr.alloc (.cells zEn 45)).alloc (.cells zEn 45)).drew := ⟨_, rfl⟩
          have HBW : Below wr.heap.size wr W1 := by rw [hW1]; exact (((Below.refl wr.heap.size wr).alloc (Nat.le_refl _) _).alloc (by simp) _).drew
          have K0 : Blk W1 wr.heap.size 45 zEn := by rw [hW1]; exact ((Blk.new _ _ _).alloc _).drew
          have K1 : Blk W1 (wr.heap.size + 1) 45 zEn := by rw [hW1]; exact (Blk.new_at _ _ _ (by simp)).drew
          rw [← hW1]
          clear hW1
          obtain ⟨x0, x1, x2, x3, x4⟩ := K1.fivec
          have xf := K1.frozen
          have xl := K1.lt
          refine wpAnyH_ready (rs := [10]) (by kernel_rfl) (by simp) ?_
          refine AllReadyH.cons rfl (fun K hK => ?_) AllReadyH.nil
          go_simp
          have HBW_ := (((((HBW.setCell (p := ⟨(wr.heap.size + 1), 0, none⟩) (by simp) (.int .i64 f1)).setCell (p := ⟨(wr.heap.size + 1), 1, none⟩) (by simp) (.int .i64 l1)).setCell (p := ⟨(wr.heap.size + 1), 2, none⟩) (by simp) (.int .i64 ct1)).setCell (p := ⟨(wr.heap.size + 1), 3, none⟩) (by simp) (.slice A1 p1.length k1)).setCell (p := ⟨(wr.heap.size + 1), 4, none⟩) (by simp) (.int .i64 b1))
          have K1_ : Blk _ _ _ (aE f1 l1 ct1 (.slice A1 p1.length k1) b1) := (((((K1.set_ 0 (.int .i64 f1)).set_ 1 (.int .i64 l1)).set_ 2 (.int .i64 ct1)).set_ 3 (.slice A1 p1.length k1)).set_ 4 (.int .i64 b1))
          have K0_ := (((((K0.far (p := ⟨(wr.heap.size + 1), 0, none⟩) (by simp) (.int .i64 f1)).far (p := ⟨(wr.heap.size + 1), 1, none⟩) (by simp) (.int .i64 l1)).far (p := ⟨(wr.heap.size + 1), 2, none⟩) (by simp) (.int .i64 ct1)).far (p := ⟨(wr.heap.size + 1), 3, none⟩) (by simp) (.slice A1 p1.length k1)).far (p := ⟨(wr.heap.size + 1), 4, none⟩) (by simp) (.int .i64 b1))
          obtain ⟨W2, hW2⟩ : ∃ W2, W2 = (((((W1.setCell ⟨(wr.heap.size + 1), 0, none⟩ (.int .i64 f1)).setCell ⟨(wr.heap.size + 1), 1, none⟩ (.int .i64 l1)).setCell ⟨(wr.heap.size + 1), 2, none⟩ (.int .i64 ct1)).setCell ⟨(wr.heap.size + 1), 3, none⟩ (.slice A1 p1.length k1)).setCell ⟨(wr.heap.size + 1), 4, none⟩ (.int .i64 b1)) := ⟨_, rfl⟩
          rw [← hW2] at HBW_ K1_ K0_ ⊢
          clear HBW K1 K0 x0 x1 x2 x3 x4 xf xl hW2
          refine hK.out _ _ HBW_ (fun hHeld => ?_)
          clear hK K hHeld
          try simp only [List.getElem_toArray, List.getElem_cons_succ, List.getElem_cons_zero, Act.put, List.setIfInBounds_toArray, List.set_cons_zero, List.set_cons_succ]
          have HBW := HBW_
          have K1 := K1_
          have K0 := K0_
          clear HBW_ K1_ K0_
          obtain ⟨x0, x1, x2, x3, x4⟩ := K0.fivec
          have xf := K0.frozen
          have xl := K0.lt
          refine wpAnyH_ready (rs := [11]) (by kernel_rfl) (by simp) ?_
          refine AllReadyH.cons rfl (fun K hK => ?_) AllReadyH.nil
          go_simp
          have HBW_ := (((((HBW.setCell (p := ⟨wr.heap.size, 0, none⟩) (by simp) (.int .i64 f2)).setCell (p := ⟨wr.heap.size, 1, none⟩) (by simp) (.int .i64 l2)).setCell (p := ⟨wr.heap.size, 2, none⟩) (by simp) (.int .i64 ct2)).setCell (p := ⟨wr.heap.size, 3, none⟩) (by simp) (.slice A2 p2.length k2)).setCell (p := ⟨wr.heap.size, 4, none⟩) (by simp) (.int .i64 b2))
          have K0_ : Blk _ _ _ (aE f2 l2 ct2 (.slice A2 p2.length k2) b2) := (((((K0.set_ 0 (.int .i64 f2)).set_ 1 (.int .i64 l2)).set_ 2 (.int .i64 ct2)).set_ 3 (.slice A2 p2.length k2)).set_ 4 (.int .i64 b2))
          have K1_ := (((((K1.far (p := ⟨wr.heap.size, 0, none⟩) (by simp) (.int .i64 f2)).far (p := ⟨wr.heap.size, 1, none⟩) (by simp) (.int .i64 l2)).far (p := ⟨wr.heap.size, 2, none⟩) (by simp) (.int .i64 ct2)).far (p := ⟨wr.heap.size, 3, none⟩) (by simp) (.slice A2 p2.length k2)).far (p := ⟨wr.heap.size, 4, none⟩) (by simp) (.int .i64 b2))
          obtain ⟨W3, hW3⟩ : ∃ W3, W3 = (((((W2.setCell ⟨wr.heap.size, 0, none⟩ (.int .i64 f2)).setCell ⟨wr.heap.size, 1, none⟩ (.int .i64 l2)).setCell ⟨wr.heap.size, 2, none⟩ (.int .i64 ct2)).setCell ⟨wr.heap.size, 3, none⟩ (.slice A2 p2.length k2)).setCell ⟨wr.heap.size, 4, none⟩ (.int .i64 b2)) := ⟨_, rfl⟩
          rw [← hW3] at HBW_ K0_ K1_ ⊢
          clear HBW K0 K1 x0 x1 x2 x3 x4 xf xl hW3
          refine hK.out _ _ HBW_ (fun hHeld => ?_)
          clear hK K hHeld
          try simp only [List.getElem_toArray, List.getElem_cons_succ, List.getElem_cons_zero, Act.put, List.setIfInBounds_toArray, List.set_cons_zero, List.set_cons_succ]
          have HBW := HBW_
          have K0 := K0_
          have K1 := K1_
          clear HBW_ K0_ K1_
          refine wpAnyH_done (by kernel_rfl) ?_ _
          refine NoPanic.normal ?_
          have HBF := hid (HB.out.trans (HBW.mono HB.out.size))
          have HI2 := hid (show (∃ e, Reads W3 e 1 A1 p1.length (p1.map (Value.int .i64))) ∧ (∃ e, Reads W3 e 1 A2 p2.length (p2.map (Value.int .i64))) ∧ p1.length ≤ 100000 from ⟨HIN.out.1.1.elim fun e h => ⟨e, h.below HBW⟩, HIN.out.2.1.elim fun e h => ⟨e, h.below HBW⟩, HIN.out.1.2⟩)
          obtain ⟨x0, x1, x2, x3, x4⟩ := K1.fivec
          obtain ⟨y0, y1, y2, y3, y4⟩ := K0.fivec
          clear HBW K0 K1 hsd HIN HB
          by_cases h : f1 = f2
          · have t1 : (f1 != f2) = false := by simp [h]
            have Hf1f2 := hid h
            clear h
            by_cases h : l1 = l2
            · have t2 : (l1 != l2) = false := by simp [h]
              have Hl1l2 := hid h
              clear h
              by_cases h : ct1 = ct2
              · have t3 : (ct1 != ct2) = false := by simp [h]
                have Hct1ct2 := hid h
                clear h
                by_cases h : b1 = b2
                · have t4 : (b1 != b2) = false := by simp [h]
                  have Hb1b2 := hid h
                  clear h
                  obtain ⟨⟨ea, hra⟩, ⟨eb, hrb⟩, hl1⟩ := HI2.out
                  have HC := hid (samePg_c A1 A2 p1.length p2.length k1 k2 p1 p2 W3 hra hrb (by omega))
                  clear hra hrb hl1
                  go_wp2_with fail
                  refine HC.out.mono ?_
                  rintro e w4 ⟨rfl, hb4⟩
                  have HB4 := hid (HBF.out.trans (hb4.mono HBF.out.size))
                  clear hb4 HC x0 x1 x2 x3 x4 y0 y1 y2 y3 y4
                  by_cases hc : p1 = p2
                  · rw [decide_eq_true hc]
                    have HC2 := hid (HST.out (by rw [Hf1f2.out, Hl1l2.out, Hct1ct2.out, Hb1b2.out, hc]))
                    clear hc
                    go_wp2_with fail
                    go_roundw
                    case rel => exact ⟨k + 1, by omega, by go_num, HB4.out, HC2⟩
                    case measure => simp [intOf]; omega
                  · rw [decide_eq_false hc]
                    have HC2 := hid (HNE.out (fun e => hc (by injection e)))
                    clear hc
                    go_wp2_with fail
                    go_ret
                    exact ⟨ret_b (by rw [eq_comm, decide_eq_false_iff_not]; exact HC2.out), HB4.out⟩
                · have t4 : (b1 != b2) = true := by simp [h]
                  have HC2 := hid (HNE.out (fun e => h (by injection e)))
                  clear h
                  go_wp2_with fail
                  go_ret
                  exact ⟨ret_b (by rw [eq_comm, decide_eq_false_iff_not]; exact HC2.out), HBF.out⟩
              · have t3 : (ct1 != ct2) = true := by simp [h]
                have HC2 := hid (HNE.out (fun e => h (by injection e)))
                clear h
                go_wp2_with fail
                go_ret
                exact ⟨ret_b (by rw [eq_comm, decide_eq_false_iff_not]; exact HC2.out), HBF.out⟩
            · have t2 : (l1 != l2) = true := by simp [h]
              have HC2 := hid (HNE.out (fun e => h (by injection e)))
              clear h
              go_wp2_with fail
              go_ret
              exact ⟨ret_b (by rw [eq_comm, decide_eq_false_iff_not]; exact HC2.out), HBF.out⟩
          · have t1 : (f1 != f2) = true := by simp [h]
            have HC2 := hid (HNE.out (fun e => h (by injection e)))
            clear h
            go_wp2_with fail
            go_ret
            exact ⟨ret_b (by rw [eq_comm, decide_eq_false_iff_not]; exact HC2.out), HBF.out⟩
      · obtain rfl : k = n := by omega
        clear hlt
        have HF := hid (show xs.map Prod.fst = ys.map Prod.fst ∧ Below w.heap.size w wr from ⟨by
          have h := heq.out
          rw [List.take_of_length_le (by rw [List.length_map, HXL.out]; exact Nat.le_refl _), List.take_of_length_le (by rw [List.length_map, HYL.out]; exact Nat.le_refl _)] at h
          exact h, hb⟩)
        clear heq hb
        go_wp2_with fail
        go_ret
        exact ⟨ret_b (by rw [eq_comm, decide_eq_true_iff]; exact HF.out.1), HF.out.2⟩
  · have t0 : ((n : Int) != m) = true := by simp; omega
    have HN := hid (show ¬ (xs.map Prod.fst = ys.map Prod.fst) from fun e => hnm (by rw [← hxl, ← hyl]; have := congrArg List.length e; simpa using this))
    clear hx hy hxl hyl hnm hix hiy
    go_enter Try.func45, Try.ntmps45
    go_wp2_with fail
    go_ret
    exact ⟨ret_b (by rw [eq_comm, decide_eq_false_iff_not]; exact HN.out), Below.refl _ _⟩
set_option maxRecDepth 100000 in
set_option maxHeartbeats 4000000 in
theorem sameMan_c (A B : Option Addr) (n m c d : Nat) (xs ys : List RoA) (w : World) (hx : ManIn w A n c xs) (hy : ManIn w B m d ys) :
    Calls Try.prog 15 #[.agg #[.slice A n c], .agg #[.slice B m d]] w fun e w' => e = .returned (.bool (decide (xs.map RoA.d = ys.map RoA.d))) ∧ Below w.heap.size w w' := by
  have hxl := hx.len
  have hyl := hy.len
  have hn16 := hx.hn
  have HBB := hid (below2' w (.cells #[.slice A n c] 24) (.cells #[.slice B m d] 24) (Below.refl _ _))
  have k0 : ((w.alloc (.cells #[.slice A n c] 24)).alloc (.cells #[.slice B m d] 24)).cell? ⟨w.heap.size, 0, none⟩ = some (.slice A n c) := ((Blk.new w 24 #[.slice A n c]).alloc _).cell 0
  have k1 : ((w.alloc (.cells #[.slice A n c] 24)).alloc (.cells #[.slice B m d] 24)).cell? ⟨w.heap.size + 1, 0, none⟩ = some (.slice B m d) := (Blk.new_at (g := w.heap.size + 1) (w.alloc (.cells #[.slice A n c] 24)) 24 #[.slice B m d] (by simp)).cell 0
  have KK := hid (And.intro ((Blk.new w 24 #[.slice A n c]).alloc (.cells #[.slice B m d] 24)) (Blk.new_at (g := w.heap.size + 1) (w.alloc (.cells #[.slice A n c] 24)) 24 #[.slice B m d] (by simp)))
  by_cases hnm : n = m
  · subst hnm
    have t0 : ((n : Int) != n) = false := by simp
    have HX := hid hx
    have HY := hid hy
    have HXL := hid hxl
    have HYL := hid hyl
    clear hx hy hxl hyl
    go_enter Try.func15, Try.ntmps15
    go_wp2_with fail
    clear k0 k1
    generalize (w.alloc (.cells #[.slice A n c] 24)).alloc (.cells #[.slice B n d] 24) = wB at *
    go_loopw [19] (fun v wr => ∃ k : Nat, k ≤ n ∧ v = .int .i64 (k : Nat) ∧ Below wB.heap.size wB wr ∧ Hid ((xs.map RoA.d).take k = (ys.map RoA.d).take k)) (fun v _ => n - (intOf v).toNat)
    case atStart => exact ⟨0, Nat.zero_le _, rfl, Below.refl _ _, hid (by simp)⟩
    case round =>
      obtain ⟨k, hk, rfl, hbB, heq⟩ := hrel
      have hb := HBB.out.trans (hbB.mono HBB.out.size)
      by_cases hlt : k < n
      · obtain ⟨er, hrw⟩ := (HX.out.below hb).rows
        obtain ⟨ad, x, rfl, hx, hxl, c0, c1, c2, c3, c4, c5, c6⟩ := row_at hrw hlt
        have hix := (HX.out.each x (List.mem_of_getElem? hx)).below hb
        obtain ⟨oX, hoX⟩ : ∃ oX, oX = Obj.cells (aR x.nm x.ep x.fl x.la x.sc (.slice x.ea x.en.length x.ec) (.slice x.oa x.op.length x.oc)) 42 := ⟨_, rfl⟩
        have hbx := (Below.refl wr.heap.size wr).alloc (Nat.le_refl _) oX
        obtain ⟨es, hsw⟩ := (HY.out.below (hb.trans (hbx.mono hb.size))).rows
        obtain ⟨bd, y, rfl, hy, hyl, d0, d1, d2, d3, d4, d5, d6⟩ := row_at hsw hlt
        have hiy := (HY.out.each y (List.mem_of_getElem? hy)).below hb
        obtain ⟨oY, hoY⟩ : ∃ oY, oY = Obj.cells (aR y.nm y.ep y.fl y.la y.sc (.slice y.ea y.en.length y.ec) (.slice y.oa y.op.length y.oc)) 42 := ⟨_, rfl⟩
        have hb2 : Below wr.heap.size wr ((wr.alloc oX).alloc oY) := hbx.alloc (by simp) _
        have HIN := hid (And.intro (hix.below hb2) (hiy.below hb2))
        have HB := hid (hb.trans (hb2.mono hb.size))
        have HBB2 := hid (hbB.trans (hb2.mono hbB.size))
        have hxe : (xs.map RoA.d)[k]? = some (RoA.d x) := by rw [List.getElem?_map, hx]; rfl
        have hye : (ys.map RoA.d)[k]? = some (RoA.d y) := by rw [List.getElem?_map, hy]; rfl
        have HST := hid (fun h : RoA.d x = RoA.d y => take_stepRo heq.out hxe hye h)
        have HNE := hid (fun h : ¬ RoA.d x = RoA.d y => (show ¬ (xs.map RoA.d = ys.map RoA.d) from fun e => h (by rw [e, hye] at hxe; exact (Option.some.inj hxe).symm)))
        have hltI : (k : Int) < (n : Int) := by omega
        have h0I : (0 : Int) ≤ (k : Int) := by omega
        have k1 : (wr.alloc oX).cell? ⟨w.heap.size + 1, 0, none⟩ = some (.slice (some bd) n d) := ((KK.out.2.under hbB).alloc oX).cell 0
        have KX := hid (show Blk ((wr.alloc oX).alloc oY) wr.heap.size 42 (aR x.nm x.ep x.fl x.la x.sc (.slice x.ea x.en.length x.ec) (.slice x.oa x.op.length x.oc)) by rw [hoX]; exact (Blk.new _ _ _).alloc _)
        have KY := hid (show Blk ((wr.alloc oX).alloc oY) (wr.heap.size + 1) 42 (aR y.nm y.ep y.fl y.la y.sc (.slice y.ea y.en.length y.ec) (.slice y.oa y.op.length y.oc)) by rw [hoY]; exact Blk.new_at _ _ _ (by simp))
        have hwl : wr.heap.size < wr.heap.size + 1 := by omega
        clear hx hy hxl hyl hix hiy hxe hye heq hb hbB hbx hb2 hrw hsw
        obtain ⟨n1, p1, f1, l1, s1, en1, ea1, ec1, op1, oa1, oc1⟩ := x
        obtain ⟨n2, p2, f2, l2, s2, en2, ea2, ec2, op2, oa2, oc2⟩ := y
        simp only at c0 c1 c2 c3 c4 c5 c6 d0 d1 d2 d3 d4 d5 d6
        subst hoX
        subst hoY
        obtain ⟨a0, a1, a2, a3, a4, a5, a6⟩ := KX.out.seven
        obtain ⟨b0, b1, b2, b3, b4, b5, b6⟩ := KY.out.seven
        simp only at a0 a1 a2 a3 a4 a5 a6 b0 b1 b2 b3 b4 b5 b6
        go_upto_region 7 with fail
        clear c0 c1 c2 c3 c4 c5 c6 d0 d1 d2 d3 d4 d5 d6 k1
        generalize (wr.alloc (.cells (aR n1 p1 f1 l1 s1 (.slice ea1 en1.length ec1) (.slice oa1 op1.length oc1)) 42)).alloc (.cells (aR n2 p2 f2 l2 s2 (.slice ea2 en2.length ec2) (.slice oa2 op2.length oc2)) 42) = W3 at *
        by_cases h : n1 = n2
        · have t1b : (n1.toList == n2.toList) = true := by simp [h]
          have t1c : decide (n1.toList = n2.toList) = true := by simp [h]
          have Hn1n2 := hid h
          clear h
          by_cases h : p1 = p2
          · have t2 : (p1 != p2) = false := by simp [h]
            have Hp1p2 := hid h
            clear h
            by_cases h : f1 = f2
            · have t3 : (f1 != f2) = false := by simp [h]
              have Hf1f2 := hid h
              clear h
              by_cases h : l1 = l2
              · have t4 : (l1 != l2) = false := by simp [h]
                have Hl1l2 := hid h
                clear h
                by_cases h : s1 = s2
                · have t5 : (s1 != s2) = false := by simp [h]
                  have Hs1s2 := hid h
                  clear h
                  obtain ⟨⟨ea, hra⟩, hia, ⟨qa, hpa⟩, hl1, _, hp1, _⟩ := HIN.out.1
                  obtain ⟨⟨eb, hrb⟩, hib, ⟨qb, hpb⟩, _, _, hp2, _⟩ := HIN.out.2
                  have HC := hid (sameEn_c ea1 ea2 en1.length en2.length ec1 ec2 en1 en2 W3 hra hrb hia hib (by simp only at hl1; omega))
                  have HPA := hid hpa
                  have HPB := hid hpb
                  have HPL := hid (And.intro hp1 hp2)
                  clear hra hrb hl1 hia hib hpa hpb hp1 hp2
                  go_wp2_with fail
                  refine HC.out.mono ?_
                  rintro e w4 ⟨rfl, hb4⟩
                  have HB4 := hid (HB.out.trans (hb4.mono HB.out.size))
                  have HBB4 := hid (HBB2.out.trans (hb4.mono HBB2.out.size))
                  replace KX := hid (KX.out.under hb4)
                  replace KY := hid (KY.out.under hb4)
                  replace HPA := hid (HPA.out.below hb4)
                  replace HPB := hid (HPB.out.below hb4)
                  clear hb4 HC a0 a1 a2 a3 a4 a5 a6 b0 b1 b2 b3 b4 b5 b6
                  obtain ⟨a0, a1, a2, a3, a4, a5, a6⟩ := KX.out.seven
                  obtain ⟨b0, b1, b2, b3, b4, b5, b6⟩ := KY.out.seven
                  skip
                  clear a0 a1 a2 a3 a4 a5 b0 b1 b2 b3 b4 b5
                  by_cases hc : en1.map Prod.fst = en2.map Prod.fst
                  · rw [decide_eq_true hc]
                    have HE := hid hc
                    clear hc
                    obtain ⟨o1, ho1⟩ : ∃ o1, o1 = op1.length := ⟨_, rfl⟩
                    obtain ⟨o2, ho2⟩ : ∃ o2, o2 = op2.length := ⟨_, rfl⟩
                    have HO := hid (And.intro ho1 ho2)
                    replace HPA := hid (show Reads w4 qa 2 oa1 o1 (op1.flatMap cellsP) by rw [ho1]; exact HPA.out)
                    replace HPB := hid (show Reads w4 qb 2 oa2 o2 (op2.flatMap cellsP) by rw [ho2]; exact HPB.out)
                    rw [← ho1] at a6
                    rw [← ho2] at b6
                    have hol : o1 ≤ 50000 := by rw [ho1]; exact HPL.out.1
                    clear ho1 ho2
                    by_cases hlen : o1 = o2
                    · subst hlen
                      have t7 : ((o1 : Int) != o1) = false := by simp
                      go_wp2_with fail
                      go_loopw [82] (fun v wr' => ∃ j : Nat, j ≤ o1 ∧ v = .int .i64 (j : Nat) ∧ (∃ q, wr' = w4.drewN q) ∧ Hid (op1.take j = op2.take j)) (fun v _ => o1 - (intOf v).toNat)
                      case atStart => exact ⟨0, Nat.zero_le _, rfl, ⟨0, rfl⟩, hid (by simp)⟩
                      case round =>
                        obtain ⟨j, hj, rfl, ⟨q, rfl⟩, hpe⟩ := hrel
                        by_cases hjl : j < o1
                        · obtain ⟨ax, rfl, cx, cx1⟩ := pts_at HPA.out hjl
                          obtain ⟨ay, rfl, cy, cy1⟩ := pts_at HPB.out hjl
                          have cx2 : w4.cell? ⟨(ax.add (j * 2)).block, (ax.add (j * 2)).off + 1, none⟩ = _ := cx1
                          have cy2 : w4.cell? ⟨(ay.add (j * 2)).block, (ay.add (j * 2)).off + 1, none⟩ = _ := cy1
                          clear cx1 cy1
                          have hjI : (j : Int) < (o1 : Int) := by omega
                          have hj0 : (0 : Int) ≤ (j : Int) := by omega
                          have hst := take_stepP hpe.out (by rw [← HO.out.1]; exact hjl) (by rw [← HO.out.2]; exact hjl)
                          have hne : op1.getD j (0, 0) ≠ op2.getD j (0, 0) → op1 ≠ op2 := fun h e => h (by rw [e])
                          have HST2 := Lib.hid hst
                          have HNE2 := Lib.hid hne
                          clear hst hne hpe
                          generalize op1.getD j (0, 0) = x at *
                          generalize op2.getD j (0, 0) = y at *
                          obtain ⟨x1, x2⟩ := x
                          obtain ⟨y1, y2⟩ := y
                          simp only at cx cx2 cy cy2
                          by_cases hc1 : x1 = y1
                          · by_cases hc2 : x2 = y2
                            · have t1 : (x1 != y1) = false := by simp [hc1]
                              have t2 : (x2 != y2) = false := by simp [hc2]
                              have t3 : (x1 == y1) = true := by simp [hc1]
                              have t4 : (x2 == y2) = true := by simp [hc2]
                              have t5 : decide (x1 = y1) = true := by simp [hc1]
                              have t6 : decide (x2 = y2) = true := by simp [hc2]
                              have HC := Lib.hid (show (x1, x2) = (y1, y2) by rw [hc1, hc2])
                              clear hc1 hc2
                              go_wp2_with fail
                              go_quiet (fail)
                              go_wp2_with fail
                              go_roundw
                              case rel => exact ⟨j + 1, by omega, by go_num, ⟨_, rfl⟩, hid (HST2.out HC.out)⟩
                              case measure => simp [intOf]; omega
                            · have t3 : (x1 == y1) = true := by simp [hc1]
                              have t4 : (x2 == y2) = false := by simp [hc2]
                              have t5 : decide (x1 = y1) = true := by simp [hc1]
                              have t6 : decide (x2 = y2) = false := by simp [hc2]
                              have HC := Lib.hid (HNE.out (fun e => HNE2.out (fun e => hc2 (by injection e)) (by unfold RoA.d at e; injection e)))
                              clear hc1 hc2
                              go_wp2_with fail
                              go_quiet (fail)
                              go_wp2_with fail
                              go_ret
                              exact ⟨ret_b (by rw [eq_comm, decide_eq_false_iff_not]; exact HC.out), below_dn (below_dn HB4.out _) _⟩
                          · have t3 : (x1 == y1) = false := by simp [hc1]
                            have t5 : decide (x1 = y1) = false := by simp [hc1]
                            have HC := Lib.hid (HNE.out (fun e => HNE2.out (fun e => hc1 (by injection e)) (by unfold RoA.d at e; injection e)))
                            clear hc1
                            go_wp2_with fail
                            go_quiet (fail)
                            go_wp2_with fail
                            go_ret
                            exact ⟨ret_b (by rw [eq_comm, decide_eq_false_iff_not]; exact HC.out), below_dn (below_dn HB4.out _) _⟩
                        · obtain rfl : j = o1 := by omega
                          have hpeq : op1 = op2 := by
                            have h := hpe.out
                            rw [List.take_of_length_le (by rw [← HO.out.1]; exact Nat.le_refl _), List.take_of_length_le (by rw [← HO.out.2]; exact Nat.le_refl _)] at h
                            exact h
                          have HC2 := hid (HST.out (by unfold RoA.d; simp only [Hn1n2.out, Hp1p2.out, Hf1f2.out, Hl1l2.out, Hs1s2.out, HE.out, hpeq]))
                          clear hjl hpe hpeq
                          go_wp2_with fail
                          go_roundw
                          case rel => exact ⟨k + 1, by omega, by go_num, below_dn HBB4.out q, HC2⟩
                          case measure => simp [intOf]; omega
                    · have t7 : ((o1 : Int) != o2) = true := by simp; omega
                      have HC2 := hid (HNE.out (fun e => hlen (HO.out.1.trans ((congrArg List.length (show op1 = op2 by unfold RoA.d at e; injection e)).trans HO.out.2.symm))))
                      clear hlen
                      go_wp2_with fail
                      go_ret
                      exact ⟨ret_b (by rw [eq_comm, decide_eq_false_iff_not]; exact HC2.out), HB4.out⟩
                  · rw [decide_eq_false hc]
                    have HC2 := hid (HNE.out (fun e => hc (by unfold RoA.d at e; injection e)))
                    clear hc
                    go_wp2_with fail
                    go_ret
                    exact ⟨ret_b (by rw [eq_comm, decide_eq_false_iff_not]; exact HC2.out), HB4.out⟩
                · have t5 : (s1 != s2) = true := by simp [h]
                  have HC2 := hid (HNE.out (fun e => h (by unfold RoA.d at e; injection e)))
                  clear h
                  go_wp2_with fail
                  go_ret
                  exact ⟨ret_b (by rw [eq_comm, decide_eq_false_iff_not]; exact HC2.out), HB.out⟩
              · have t4 : (l1 != l2) = true := by simp [h]
                have HC2 := hid (HNE.out (fun e => h (by unfold RoA.d at e; injection e)))
                clear h
                go_wp2_with fail
                go_ret
                exact ⟨ret_b (by rw [eq_comm, decide_eq_false_iff_not]; exact HC2.out), HB.out⟩
            · have t3 : (f1 != f2) = true := by simp [h]
              have HC2 := hid (HNE.out (fun e => h (by unfold RoA.d at e; injection e)))
              clear h
              go_wp2_with fail
              go_ret
              exact ⟨ret_b (by rw [eq_comm, decide_eq_false_iff_not]; exact HC2.out), HB.out⟩
          · have t2 : (p1 != p2) = true := by simp [h]
            have HC2 := hid (HNE.out (fun e => h (by unfold RoA.d at e; injection e)))
            clear h
            go_wp2_with fail
            go_ret
            exact ⟨ret_b (by rw [eq_comm, decide_eq_false_iff_not]; exact HC2.out), HB.out⟩
        · have t1b : (n1.toList == n2.toList) = false := by simp; exact fun e => h (strL_eq e)
          have t1c : decide (n1.toList = n2.toList) = false := by simp; exact fun e => h (strL_eq e)
          have HC2 := hid (HNE.out (fun e => h (by unfold RoA.d at e; injection e)))
          clear h
          go_wp2_with fail
          go_ret
          exact ⟨ret_b (by rw [eq_comm, decide_eq_false_iff_not]; exact HC2.out), HB.out⟩
      · obtain rfl : k = n := by omega
        clear hlt
        have HF := hid (show xs.map RoA.d = ys.map RoA.d ∧ Below w.heap.size w wr from ⟨by
          have h := heq.out
          rw [List.take_of_length_le (by rw [List.length_map, HXL.out]; exact Nat.le_refl _), List.take_of_length_le (by rw [List.length_map, HYL.out]; exact Nat.le_refl _)] at h
          exact h, hb⟩)
        clear heq hb hbB
        go_wp2_with fail
        go_ret
        exact ⟨ret_b (by rw [eq_comm, decide_eq_true_iff]; exact HF.out.1), HF.out.2⟩
  · have t0 : ((n : Int) != m) = true := by simp; omega
    have HN := hid (show ¬ (xs.map RoA.d = ys.map RoA.d) from fun e => hnm (by rw [← hxl, ← hyl]; have := congrArg List.length e; simpa using this))
    clear hx hy hxl hyl hnm KK
    go_enter Try.func15, Try.ntmps15
    go_wp2_with fail
    go_ret
    exact ⟨ret_b (by rw [eq_comm, decide_eq_false_iff_not]; exact HN.out), HBB.out⟩
end Go.Proofs.Ytgdnpmjmkcccoaa
namespace Go.Proofs.Ytgdnpmjmkcccoaa
open Go.RowKit Go.Shelf VB
open Go.Lib (hid)
set_option linter.unusedVariables false
set_option linter.unusedSimpArgs false
def wkRo : Ro := ⟨⟨#[98]⟩, 0, 2, 9, 0, [⟨5, 8, 2, 30, [20]⟩], [(9, -1)]⟩
/-- a row in memory of its own types -/
structure RoFr (w : World) (x : RoA) : Prop where
  en : Reads w 45 5 x.ea x.en.length (x.en.flatMap cellsN)
  ens : ∀ e ∈ x.en, Reads w 3 1 e.2.1 e.1.ps.length (e.1.ps.map (Value.int .i64))
  op : Reads w 47 2 x.oa x.op.length (x.op.flatMap cellsP)
  pgl : ∀ e ∈ x.en, e.1.ps.length ≤ 256
  henl : x.en.length ≤ 256
  hopl : x.op.length ≤ 256
  hnm : x.nm.size ≤ 255
  hfs : ∀ e ∈ x.en, e.1.fs ≤ 9223372036854775807
  pgc : ∀ e ∈ x.en, e.1.ps.length ≤ e.2.2
theorem RoFr.inn {w : World} {x : RoA} (h : RoFr w x) : RoIn w x := by
  refine ⟨⟨_, h.en⟩, fun e he => ⟨⟨_, h.ens e he⟩, by have := h.pgl e he; omega⟩, ⟨_, h.op⟩, by have := h.henl; omega, ?_, by have := h.hopl; omega, by have := h.hnm; omega, h.hfs⟩
  have : ∀ l : List EnA, (∀ e ∈ l, e.1.ps.length ≤ 256) → (pgsA l).length ≤ l.length * 256 := by
    intro l
    induction l with
    | nil => intro _; simp [pgsA]
    | cons e l ih =>
      intro hh
      have h1 := hh e List.mem_cons_self
      have h2 := ih (fun y hy => hh y (List.mem_cons_of_mem _ hy))
      unfold pgsA at h2 ⊢
      rw [List.flatMap_cons, List.length_append, List.length_cons]
      omega
  have h1 := this x.en h.pgl
  have h2 := h.henl
  omega
theorem RoFr.keep {w w' : World} {x : RoA} (h : RoFr w x) (hk : ∀ b t, Typed w b t → (t = 45 ∨ t = 3 ∨ t = 47) → w'.heap[b]? = w.heap[b]?) : RoFr w' x :=
  ⟨h.en.keep fun b hb => hk b _ hb (.inl rfl), fun e he => (h.ens e he).keep fun b hb => hk b _ hb (.inr (.inl rfl)), h.op.keep fun b hb => hk b _ hb (.inr (.inr rfl)), h.pgl, h.henl, h.hopl, h.hnm, h.hfs, h.pgc⟩
theorem RoFr.below {w w' : World} {x : RoA} (h : RoFr w x) (hb : Below w.heap.size w w') : RoFr w' x := h.keep fun b t ht _ => hb.block b ht.lt
theorem RoFr.grown {w w' : World} {x : RoA} {base n : Nat} {v : Value} {xs : List Value} (h : RoFr w x) (hown : w.ownsRow base 42 7 v n xs) (hg : w.grownBy w' v.ownBlock) : RoFr w' x := by
  refine h.keep fun b t hb ht => hg.block b hb.lt ?_
  intro e
  obtain ⟨_, h2⟩ := hown
  rcases h2 with ⟨rfl, _⟩ | ⟨q, cap, cs, rfl, _, hh, _⟩
  · cases e
  · injection e with e
    subst e
    obtain ⟨c1, r1, h1⟩ := hb
    rw [h1] at hh
    injection hh with hh
    injection hh with _ h3
    subst h3
    rcases ht with h | h | h <;> exact absurd h (by decide)
def RetPl (w : World) (d : Ending) (w' : World) : Prop := ∃ (ad : Addr) (c : Nat) (x : RoA), x.d = wkRo ∧ d = .returned (.agg #[.slice (some ad) 1 c]) ∧ w'.ownsRow w.heap.size 42 7 (.slice (some ad) 1 c) 1 (cellsR x) ∧ RoFr w' x ∧ Below w.heap.size w w'
theorem own_newR (w : World) (e : TypeId) (sz n : Nat) (cs : List Value) (h : cs.length = n * sz) (hn : n ≤ maxLen) : (w.alloc (.cells cs.toArray e)).ownsRow w.heap.size e sz (.slice (some ⟨w.heap.size, 0, none⟩) n n) n cs :=
  ⟨h, .inr ⟨w.heap.size, n, cs.toArray, rfl, Nat.le_refl _, heap_alloc_new w _, Nat.le_refl _, hn, by simpa using h, by simp [← h]⟩⟩
set_option maxRecDepth 100000 in
set_option maxHeartbeats 1000000 in
theorem plain_22 (w : World) : Calls Try.prog 35 #[] w (RetPl w) := by
  obtain ⟨b, hb⟩ : ∃ b, b = w.heap.size := ⟨_, rfl⟩
  obtain ⟨x, hx⟩ : ∃ x : RoA, x = ⟨⟨#[98]⟩, 0, 2, 9, 0, [(⟨5, 8, 2, 30, [20]⟩, some ⟨w.heap.size + 1, 0, none⟩, 1)], some ⟨w.heap.size + 1 + 1, 0, none⟩, 1, [(9, -1)], some ⟨w.heap.size + 1 + 1 + 1, 0, none⟩, 1⟩ := ⟨_, rfl⟩
  obtain ⟨w0, h0⟩ : ∃ w0, w0 = w.alloc (.cells #[.slice (some ⟨w.heap.size + 1 + 1 + 1 + 1, 0, none⟩) 1 1] 24) := ⟨_, rfl⟩
  obtain ⟨w1, h1⟩ : ∃ w1, w1 = w0.alloc (.cells #[.int .i64 20] 3) := ⟨_, rfl⟩
  obtain ⟨w2, h2⟩ : ∃ w2, w2 = w1.alloc (.cells (aE 5 8 2 (.slice (some ⟨w.heap.size + 1, 0, none⟩) 1 1) 30) 45) := ⟨_, rfl⟩
  obtain ⟨w3, h3⟩ : ∃ w3, w3 = w2.alloc (.cells #[.int .i64 9, .int .i64 (-1)] 47) := ⟨_, rfl⟩
  obtain ⟨w4, h4⟩ : ∃ w4, w4 = w3.alloc (.cells (cellsR x).toArray 42) := ⟨_, rfl⟩
  have s0 : w0.heap.size = w.heap.size + 1 := by rw [h0]; simp
  have s1 : w1.heap.size = w.heap.size + 1 + 1 := by rw [h1]; simp [s0]
  have s2 : w2.heap.size = w.heap.size + 1 + 1 + 1 := by rw [h2]; simp [s1]
  have s3 : w3.heap.size = w.heap.size + 1 + 1 + 1 + 1 := by rw [h3]; simp [s2]
  have r1 : Reads w1 3 1 (some ⟨w.heap.size + 1, 0, none⟩) 1 (([20] : List Int).map (Value.int .i64)) := by rw [h1, ← s0]; exact new_reads w0 3 1 [.int .i64 20] rfl
  have r2 : Reads w2 45 5 (some ⟨w.heap.size + 1 + 1, 0, none⟩) 1 (x.en.flatMap cellsN) := by rw [h2, ← s1, hx]; exact new_reads w1 45 5 _ rfl
  have r3 : Reads w3 47 2 (some ⟨w.heap.size + 1 + 1 + 1, 0, none⟩) 1 (x.op.flatMap cellsP) := by rw [h3, ← s2, hx]; exact new_reads w2 47 2 _ rfl
  have o4 : w4.ownsRow w3.heap.size 42 7 (.slice (some ⟨w3.heap.size, 0, none⟩) 1 1) 1 (cellsR x) := by rw [h4]; exact own_newR w3 42 7 1 _ rfl (by decide)
  have HF := hid (show RetPl w (.returned (.agg #[.slice (some ⟨w.heap.size + 1 + 1 + 1 + 1, 0, none⟩) 1 1])) w4 by
    refine ⟨_, 1, x, by rw [hx]; rfl, rfl, by rw [← s3]; exact own_low o4 (by omega), ?_, ?_⟩
    · refine ⟨?_, ?_, ?_, ?_, ?_, ?_, ?_, ?_, ?_⟩
      · rw [show x.ea = some ⟨w.heap.size + 1 + 1, 0, none⟩ by rw [hx], show x.en.length = 1 by rw [hx]; rfl, h4]
        rw [h3]
        exact (r2.alloc _).alloc _
      · intro e he
        rw [hx] at he
        obtain rfl := List.mem_singleton.1 he
        rw [h4, h3, h2]
        exact ((r1.alloc _).alloc _).alloc _
      · rw [show x.oa = some ⟨w.heap.size + 1 + 1 + 1, 0, none⟩ by rw [hx], show x.op.length = 1 by rw [hx]; rfl, h4]
        exact r3.alloc _
      all_goals rw [hx]
      · intro e he
        obtain rfl := List.mem_singleton.1 he
        show 1 ≤ 256
        decide
      · show 1 ≤ 256; decide
      · show 1 ≤ 256; decide
      · show 1 ≤ 255; decide
      · intro e he
        obtain rfl := List.mem_singleton.1 he
        show (5 : Int) ≤ 9223372036854775807
        decide
      · intro e he
        obtain rfl := List.mem_singleton.1 he
        show 1 ≤ 1
        decide
    · rw [h4, h3, h2, h1, h0]
      exact (((((Below.refl w.heap.size w).alloc (Nat.le_refl _) _).alloc (by simp) _).alloc (by simp; omega) _).alloc (by simp; omega) _).alloc (by simp; omega) _)
  have c0 : w4.cell? ⟨w.heap.size, 0, none⟩ = some (.slice (some ⟨w.heap.size + 1 + 1 + 1 + 1, 0, none⟩) 1 1) := by
    rw [h4, h3, h2, h1, h0]
    exact ((((Blk.new w 24 #[.slice (some ⟨w.heap.size + 1 + 1 + 1 + 1, 0, none⟩) 1 1]).alloc _).alloc _).alloc _).alloc _ |>.cell 0
  have hw4 : w4 = (w3.alloc (.cells (aR ⟨#[98]⟩ 0 2 9 0 (.slice (some ⟨w.heap.size + 1 + 1, 0, none⟩) 1 1) (.slice (some ⟨w.heap.size + 1 + 1 + 1, 0, none⟩) 1 1)) 42)) := by rw [h4, hx]; rfl
  clear r1 r2 r3 o4 s0 s1 s2 s3 h4 hx
  go_enter Try.func35, Try.ntmps35
  go_wp2_with fail
  rw [← h0, ← h1, ← h2, ← h3, ← hw4]
  refine bodyPost_ret (v := .agg #[.slice (some ⟨w.heap.size + 1 + 1 + 1 + 1, 0, none⟩) 1 1]) ?_ rfl HF.out
  simp [results, Try.results35, go_sem, c0]
theorem few_22 {e' : TypeId} (A : Option Addr) (n m c : Nat) (bs : List Nat) (w : World) (hb : Reads w e' 1 A n (bsV bs)) (hc : n ≤ c) (hcm : c ≤ maxLen) (hm : m = min n 3000) :
    Calls Try.prog 19 #[.slice A n c] w (RetB (bs.take m) w) := by
  have hl : bs.length = n := by have := hb.1; rw [bsV_len] at this; omega
  have hcl : Calls Try.prog 50 #[.slice A m c] w fun e w' => ∃ C f, e = .returned (.slice C m f) ∧ w'.ownsRow w.heap.size 5 1 (.slice C m f) m (bsV (bs.take m)) ∧ Below w.heap.size w w' := by
    refine clone_b (e' := e') A m c (bs.take m) w ?_ (by omega)
    have h := hb.take (k := m) (by omega)
    rw [Nat.mul_one] at h
    rw [show bsV (bs.take m) = (bsV bs).take m by simp [bsV, List.map_take]]
    exact h
  have HC := Lib.hid hcl
  have h2 : ((m : Nat) : Int) ≤ (c : Nat) := by omega
  have hmc : m ≤ c := by omega
  have hml : (bs.take m).length = m := by rw [List.length_take]; omega
  have HL := Lib.hid hml
  have hmin : ∀ w, (Builtin.min_ #[3, 3] 3 #[.int .i64 (n : Int), .int .i64 3000]).run Try.prog w = .ok (.int .i64 (m : Nat)) w := min_at hm 3000 rfl
  clear hb hcl hl hml hm
  go_enter Try.func19, Try.ntmps19
  go_wp2_with fail
  refine HC.out.mono ?_
  clear HC
  rintro e w1 ⟨C0, f0, rfl, hown, hb1⟩
  have HF := Lib.hid (show RetB (bs.take m) w (.returned (.slice C0 m f0)) w1 from ⟨C0, f0, by rw [HL.out], by rw [HL.out]; exact hown, hb1⟩)
  clear hown hb1
  go_wp2_with fail
  go_ret
  exact HF.out
theorem mk1 : manOk [wkRo] = true := by rfl
theorem mk3 : decM [1, 1, 98, 0, 0, 2, 10, 1, 5, 3, 2, 30, 20, 1, 9, 1] = .ok [wkRo] := by kernel_rfl
theorem mk2 : manBy [wkRo] = [1, 1, 98, 0, 0, 2, 10, 1, 5, 3, 2, 30, 20, 1, 9, 1] := (dec_sound (by decide) mk3).2.2.symm
theorem mk4 : decM [1, 1, 98, 0, 0, 2, 10, 1] = .error 6 := by rfl
theorem mk5 : manE [wkRo, wkRo] = 320 := by
  have h : behN (some wkRo.nm) wkRo.nm = false := by
    unfold behN nmLt
    simp only [ByteArray.toList_eq]
    decide
  unfold manE manOk
  simp only [risesB, h, Bool.false_and, Bool.and_false]
  decide
theorem mk6 : ¬ ([wkRo] = [wkRo, wkRo]) := by intro h; injection h with _ h; cases h
end Go.Proofs.Ytgdnpmjmkcccoaa
namespace Go.Proofs.Ytgdnpmjmkcccoaa
open Go.RowKit Go.Shelf VB
open Go.Lib (hid)
set_option linter.unusedVariables false
set_option linter.unusedSimpArgs false
theorem src_new (w : World) (bs : List Nat) (n : Nat) (hn : bs.length = n) (h6 : n ≤ 1000000) (hbs : ∀ x ∈ bs, x < 256) : Src (w.alloc (.cells (bsV bs).toArray 5)) (some ⟨w.heap.size, 0, none⟩) n n bs := by
  refine ⟨⟨by rw [bsV_len, hn, Nat.mul_one], fun _ => ⟨_, rfl, (Blk.new w 5 _).typed, fun j u hu => ?_⟩⟩, h6, Nat.le_refl _, by simp only [maxLen]; omega, hbs⟩
  rw [show ((⟨w.heap.size, 0, none⟩ : Addr).add j) = ⟨w.heap.size, j, none⟩ by rw [Addr.add_lit]; simp, (Blk.new w 5 _).cell j, ← hu, List.getElem?_toArray]
theorem src_at {g : Nat} (w : World) (bs : List Nat) (n : Nat) (hg : g = w.heap.size) (hn : bs.length = n) (h6 : n ≤ 1000000) (hbs : ∀ x ∈ bs, x < 256) : Src (w.alloc (.cells (bsV bs).toArray 5)) (some ⟨g, 0, none⟩) n n bs := hg ▸ src_new w bs n hn h6 hbs
def RetEncK (w : World) (d : Ending) (w' : World) : Prop := ∃ C f, d = .returned (.tuple #[.slice C 16 f, .int .i64 0]) ∧ Below w.heap.size w w'
theorem enc_wk {w w' : World} {d : Ending} (h : RetEnc [wkRo] w d w') : RetEncK w d w' := by
  unfold RetEnc at h
  rw [if_pos mk1, mk2] at h
  obtain ⟨C, f, h1, _, h2⟩ := h
  exact ⟨C, f, h1, h2⟩
def RetDecK (w : World) (d : Ending) (w' : World) : Prop := ∃ y C f, d = .returned (.tuple #[.agg #[.slice C 1 f], .int .i64 0]) ∧ Below w.heap.size w w' ∧ y.d = wkRo ∧ ManIn w' C 1 f [y]
theorem dec_wk {w w' : World} {d : Ending} (h : RetDec (.ok [wkRo]) w d w') : RetDecK w d w' := by
  obtain ⟨xs, C, f, h1, h2, h3, h4, h5⟩ := h
  have h6 := h5.man h4
  have hl : xs.length = 1 := by have := congrArg List.length h3; simpa using this
  obtain ⟨y, hy⟩ := List.length_eq_one_iff.1 hl
  rw [hl] at h1 h6
  rw [hy] at h3 h6
  injection h3 with h3 _
  exact ⟨y, C, f, h1, h2, h3, h6⟩
def RetDecS (w : World) (d : Ending) (w' : World) : Prop := d = .returned (.tuple #[.agg #[.slice none 0 0], .int .i64 6]) ∧ Below w.heap.size w w'
theorem man_of {w : World} {base : Nat} {ad : Addr} {c : Nat} {x : RoA} (h : w.ownsRow base 42 7 (.slice (some ad) 1 c) 1 (cellsR x)) (hx : RoIn w x) : ManIn w (some ad) 1 c [x] :=
  ⟨⟨_, by simpa using Reads.of_own h⟩, fun y hy => by obtain rfl := List.mem_singleton.1 hy; exact hx, by omega⟩
set_option maxRecDepth 100000 in
set_option maxHeartbeats 4000000 in
theorem wakes_22 (w : World) : Calls Try.prog 10 #[] w fun e w' => e = .returned (.bool true) ∧ Below w.heap.size w w' := by
  obtain ⟨i0, hi0, hz0, hz1, hz2⟩ := info_parts3 row_info
  have HI := hid (And.intro hi0 (And.intro hz0 (And.intro hz1 hz2)))
  clear hi0 hz0 hz1 hz2
  have hfd : ∀ (v : Value) (w : World), (Instr.field 24 (.agg #[v]) 0).run Try.prog w = .ok v w := fun _ _ => by kernel_rfl
  go_enter Try.func10, Try.ntmps10
  go_wp2_with fail
  refine (plain_22 _).mono ?_
  rintro d w1 ⟨a1, c1, x1, hx1, rfl, ho1, hr1, hb1⟩
  have HE := hid ((Encode_c (some a1) 1 c1 [x1] w1 (man_of ho1 hr1.inn)).mono fun d w' h => enc_wk (by rw [show [x1].map RoA.d = [wkRo] by rw [List.map_singleton, hx1]] at h; exact h))
  have HB := hid hb1
  clear hx1 ho1 hr1 hb1
  go_wp2_with fail
  refine HE.out.mono ?_
  rintro d w2 ⟨C2, f2, rfl, hb2⟩
  replace HB := hid (HB.out.trans (hb2.mono HB.out.size))
  clear hb2 HE
  have HD := hid ((Decode_c (src_new w2 [1, 1, 98, 0, 0, 2, 10, 1, 5, 3, 2, 30, 20, 1, 9, 1] 16 rfl (by decide) (by decide))).mono fun d w' h => dec_wk (by rw [mk3] at h; exact h))
  have hb2 := (Below.refl w2.heap.size w2).alloc (Nat.le_refl _) (.cells (bsV [1, 1, 98, 0, 0, 2, 10, 1, 5, 3, 2, 30, 20, 1, 9, 1]).toArray 5)
  have HB2 := hid (HB.out.trans (hb2.mono HB.out.size))
  clear hb2
  go_wp2_with fail
  refine HD.out.mono ?_
  rintro d w3 ⟨y, C3, f3, rfl, hb3, hy, hm⟩
  replace HB := hid (HB2.out.trans (hb3.mono HB2.out.size))
  have K3 := hid (Blk.new w3 24 #[.slice C3 1 f3])
  have hb4 := (Below.refl w3.heap.size w3).alloc (Nat.le_refl _) (.cells #[.slice C3 1 f3] 24)
  have HM := hid (hm.below hb4)
  have HY := hid hy
  replace HB := hid (HB.out.trans (hb4.mono HB.out.size))
  obtain ⟨w4, hw4⟩ : ∃ w4, w4 = w3.alloc (.cells #[.slice C3 1 f3] 24) := ⟨_, rfl⟩
  rw [← hw4] at HB HM K3
  have HS := hid (src_at (g := w3.heap.size + 1) w4 [1, 1, 98, 0, 0, 2, 10, 1] 8 (by rw [hw4]; simp) rfl (by decide) (by decide))
  have HD2 := hid ((Decode_c HS.out).mono (R' := RetDecS _) fun d w' h => by rw [mk4] at h; exact h)
  have hb5 := (Below.refl w4.heap.size w4).alloc (Nat.le_refl _) (.cells (bsV [1, 1, 98, 0, 0, 2, 10, 1]).toArray 5)
  replace HB := hid (HB.out.trans (hb5.mono HB.out.size))
  replace HM := hid (HM.out.below hb5)
  replace K3 := hid (K3.out.under hb5)
  clear hb3 hy hm hb4 hb5 HD HS HB2
  rw [hw4] at HD2
  go_wp2_with fail
  refine HD2.out.mono ?_
  rintro d w5 ⟨rfl, hb5⟩
  rw [← hw4] at hb5
  have h56 : w4.heap.size + 1 ≤ w5.heap.size := by have := hb5.size; simpa using this
  replace HB := hid (HB.out.trans (hb5.mono HB.out.size))
  replace HM := hid (HM.out.below hb5)
  replace K3 := hid (K3.out.under hb5)
  have hb6 := (Below.refl w5.heap.size w5).alloc (Nat.le_refl _) (.cells #[.slice none 0 0] 24)
  replace HB := hid (HB.out.trans (hb6.mono HB.out.size))
  replace HM := hid (HM.out.below hb6)
  replace K3 := hid (K3.out.under hb6)
  clear hb5 hb6 HD2 hw4 h56
  go_wp2_with fail
  generalize w5.alloc (.cells #[.slice none 0 0] 24) = w6 at *
  refine (plain_22 _).mono ?_
  rintro d w7 ⟨a7, c7, x7, hx7, rfl, ho7, hr7, hb7⟩
  have HX7 := hid (And.intro hx7 (And.intro ho7 hr7))
  have HB7 := hid hb7
  have hs7 := hb7.size
  clear hx7 ho7 hr7 hb7
  go_wp2_with fail
  refine (plain_22 _).mono ?_
  rintro d w8 ⟨a8, c8, x8, hx8, rfl, ho8, hr8, hb8⟩
  have ho7 := own_below HX7.out.2.1 hb8
  have HR7 := hid (HX7.out.2.2.below hb8)
  have HR8 := hid hr8
  have hre := Reads.of_own ho8
  have HXX := hid (And.intro HX7.out.1 hx8)
  have hs8 := hb8.size
  replace HB7 := hid (HB7.out.trans (hb8.mono hs7))
  clear hx8 hr8 hb8 HX7
  go_wp2_with (at_builtin; refine wpList_append_any _ rfl (.tmp 24) (.tmp 26) 22 rfl w6.heap.size 42 i0 (.agg zRow) 7 96 Try.underlying22 HI.out.1 HI.out.2.1 HI.out.2.2.1 HI.out.2.2.2 rfl (by decide) _ 1 (cellsR x7) rfl ho7 (some a8) 1 c8 (cellsR x8) rfl hre (cellsR_one x8) (by simp only [maxLen]; omega) (by omega) (by omega) ?_; intro v' w9 hown' hgr' hv'; obtain ⟨C9, f9, hvf, _, _⟩ := own_form hown'; subst hvf; replace hgr' : w8.grownBy w9 (Value.slice (some a7) 1 c7).ownBlock := hgr'; clear hv')
  have hb9 : Below w6.heap.size w6 w9 := HB7.out.grown hgr' (by omega) (fun b hb => (ho7.lt b hb).1)
  have HM9 := hid (show ManIn w9 C9 (1 + 1) f9 [x7, x8] ∧ [x7, x8].map RoA.d = [wkRo, wkRo] from
    ⟨⟨⟨_, by simpa using Reads.of_own hown'⟩, fun z hz => by
      simp only [List.mem_cons, List.not_mem_nil, or_false] at hz
      rcases hz with rfl | rfl
      · exact (HR7.out.grown ho7 hgr').inn
      · exact (HR8.out.grown ho7 hgr').inn, by omega⟩, by
      rw [List.map_cons, List.map_singleton, HXX.out.1, HXX.out.2]⟩)
  replace HB := hid (HB.out.trans (hb9.mono HB.out.size))
  replace HM := hid (HM.out.below hb9)
  replace K3 := hid (K3.out.under hb9)
  clear hown' hgr' hb9 hs7 hs8 hre ho7 HR7 HR8 HXX HB7
  have hb10 := (Below.refl w9.heap.size w9).alloc (Nat.le_refl _) (.cells #[.slice C9 2 f9] 24)
  have K10 := hid (Blk.new w9 24 #[.slice C9 2 f9])
  replace HB := hid (HB.out.trans (hb10.mono HB.out.size))
  replace HM := hid (HM.out.below hb10)
  replace K3 := hid (K3.out.under hb10)
  replace HM9 := hid (And.intro (show ManIn _ C9 2 f9 [x7, x8] from HM9.out.1.below hb10) HM9.out.2)
  clear hb10
  generalize w9.alloc (.cells #[.slice C9 2 f9] 24) = w10 at *
  refine wp_region_noPanic ?_
  refine wp_region_held_drew (S := fun W => W.cell? ⟨w3.heap.size, 0, none⟩ = some (.slice C3 1 f3) ∧ W.cell? ⟨w9.heap.size, 0, none⟩ = some (.slice C9 2 f9)) (by kernel_rfl) ⟨K3.out.drew.cell 0, K10.out.drew.cell 0⟩ (fun hHeld => ?_)
  refine wpAnyH_take (i := 0) (v := ?_) rfl (by kernel_rfl) (by kernel_rfl) (by kernel_rfl) (fun _ _ _ h => h) (Or.inl ⟨by rfl, ?_⟩) (by assumption) ?_
  rotate_left
  · intro W hW
    obtain ⟨hm3, hm7⟩ := hW
    go_simp
    try rfl
  simp only [List.getElem_toArray, List.getElem_cons_zero, Act.put, List.setIfInBounds_toArray, List.set_cons_zero, List.set_cons_succ]
  refine wpAnyH_take (i := 1) (v := ?_) rfl (by kernel_rfl) (by kernel_rfl) (by kernel_rfl) (fun _ _ _ h => h) (Or.inl ⟨by rfl, ?_⟩) (by assumption) ?_
  rotate_left
  · intro W hW
    obtain ⟨hm3, hm7⟩ := hW
    go_simp
    try rfl
  simp only [List.getElem_toArray, List.getElem_cons_succ, List.getElem_cons_zero, Act.put, List.setIfInBounds_toArray, List.set_cons_zero, List.set_cons_succ]
  refine wpAnyH_take (i := 2) (v := ?_) rfl (by kernel_rfl) (by kernel_rfl) (by kernel_rfl) (fun _ _ _ h => h) (Or.inl ⟨by rfl, ?_⟩) (by assumption) ?_
  rotate_left
  · intro W hW
    obtain ⟨hm3, hm7⟩ := hW
    go_simp
    try rfl
  simp only [List.getElem_toArray, List.getElem_cons_succ, List.getElem_cons_zero, Act.put, List.setIfInBounds_toArray, List.set_cons_zero, List.set_cons_succ]
  refine wpAnyH_take (i := 3) (v := ?_) rfl (by kernel_rfl) (by kernel_rfl) (by kernel_rfl) (fun _ _ _ h => h) (Or.inl ⟨by rfl, ?_⟩) (by assumption) ?_
  rotate_left
  · intro W hW
    obtain ⟨hm3, hm7⟩ := hW
    go_simp
    try rfl
  simp only [List.getElem_toArray, List.getElem_cons_succ, List.getElem_cons_zero, Act.put, List.setIfInBounds_toArray, List.set_cons_zero, List.set_cons_succ]
  refine wpAnyH_take (i := 4) (v := ?_) rfl (by kernel_rfl) (by kernel_rfl) (by kernel_rfl) (fun _ _ _ h => h) (Or.inl ⟨by rfl, ?_⟩) (by assumption) ?_
  rotate_left
  · intro W hW
    obtain ⟨hm3, hm7⟩ := hW
    go_simp
    try rfl
  simp only [List.getElem_toArray, List.getElem_cons_succ, List.getElem_cons_zero, Act.put, List.setIfInBounds_toArray, List.set_cons_zero, List.set_cons_succ]
  refine wpAnyH_take (i := 5) (v := ?_) rfl (by kernel_rfl) (by kernel_rfl) (by kernel_rfl) (fun _ _ _ h => h) (Or.inl ⟨by rfl, ?_⟩) (by assumption) ?_
  rotate_left
  · intro W hW
    obtain ⟨hm3, hm7⟩ := hW
    go_simp
    try rfl
  simp only [List.getElem_toArray, List.getElem_cons_succ, List.getElem_cons_zero, Act.put, List.setIfInBounds_toArray, List.set_cons_zero, List.set_cons_succ]
  refine wpAnyH_take (i := 6) (v := ?_) rfl (by kernel_rfl) (by kernel_rfl) (by kernel_rfl) (fun _ _ _ h => h) (Or.inl ⟨by rfl, ?_⟩) (by assumption) ?_
  rotate_left
  · intro W hW
    obtain ⟨hm3, hm7⟩ := hW
    go_simp
    try rfl
  simp only [List.getElem_toArray, List.getElem_cons_succ, List.getElem_cons_zero, Act.put, List.setIfInBounds_toArray, List.set_cons_zero, List.set_cons_succ]
  refine wpAnyH_take (i := 7) (v := ?_) rfl (by kernel_rfl) (by kernel_rfl) (by kernel_rfl) (fun _ _ _ h => h) (Or.inl ⟨by rfl, ?_⟩) (by assumption) ?_
  rotate_left
  · intro W hW
    obtain ⟨hm3, hm7⟩ := hW
    go_simp
    try rfl
  simp only [List.getElem_toArray, List.getElem_cons_succ, List.getElem_cons_zero, Act.put, List.setIfInBounds_toArray, List.set_cons_zero, List.set_cons_succ]
  refine wpAnyH_take (i := 8) (v := ?_) rfl (by kernel_rfl) (by kernel_rfl) (by kernel_rfl) (fun _ _ _ h => h) (Or.inl ⟨by rfl, ?_⟩) (by assumption) ?_
  rotate_left
  · intro W hW
    obtain ⟨hm3, hm7⟩ := hW
    go_simp
    try rfl
  simp only [List.getElem_toArray, List.getElem_cons_succ, List.getElem_cons_zero, Act.put, List.setIfInBounds_toArray, List.set_cons_zero, List.set_cons_succ]
  refine wpAnyH_take (i := 9) (v := ?_) rfl (by kernel_rfl) (by kernel_rfl) (by kernel_rfl) (fun _ _ _ h => h) (Or.inl ⟨by rfl, ?_⟩) (by assumption) ?_
  rotate_left
  · intro W hW
    obtain ⟨hm3, hm7⟩ := hW
    go_simp
    try rfl
  simp only [List.getElem_toArray, List.getElem_cons_succ, List.getElem_cons_zero, Act.put, List.setIfInBounds_toArray, List.set_cons_zero, List.set_cons_succ]
  refine wpAnyH_take (i := 10) (v := ?_) rfl (by kernel_rfl) (by kernel_rfl) (by kernel_rfl) (fun _ _ _ h => h) (Or.inl ⟨by rfl, ?_⟩) (by assumption) ?_
  rotate_left
  · intro W hW
    obtain ⟨hm3, hm7⟩ := hW
    go_simp
    try rfl
  simp only [List.getElem_toArray, List.getElem_cons_succ, List.getElem_cons_zero, Act.put, List.setIfInBounds_toArray, List.set_cons_zero, List.set_cons_succ]
  refine wpAnyH_take (i := 11) (v := ?_) rfl (by kernel_rfl) (by kernel_rfl) (by kernel_rfl) (fun _ _ _ h => h) (Or.inl ⟨by rfl, ?_⟩) (by assumption) ?_
  rotate_left
  · intro W hW
    obtain ⟨hm3, hm7⟩ := hW
    go_simp
    try rfl
  simp only [List.getElem_toArray, List.getElem_cons_succ, List.getElem_cons_zero, Act.put, List.setIfInBounds_toArray, List.set_cons_zero, List.set_cons_succ]
  refine wpAnyH_take (i := 12) (v := ?_) rfl (by kernel_rfl) (by kernel_rfl) (by kernel_rfl) (fun _ _ _ h => h) (Or.inl ⟨by rfl, ?_⟩) (by assumption) ?_
  rotate_left
  · intro W hW
    obtain ⟨hm3, hm7⟩ := hW
    go_simp
    try rfl
  simp only [List.getElem_toArray, List.getElem_cons_succ, List.getElem_cons_zero, Act.put, List.setIfInBounds_toArray, List.set_cons_zero, List.set_cons_succ]
  refine wpAnyH_take (i := 13) (v := ?_) rfl (by kernel_rfl) (by kernel_rfl) (by kernel_rfl) (fun _ _ _ h => h) (Or.inl ⟨by rfl, ?_⟩) (by assumption) ?_
  rotate_left
  · intro W hW
    obtain ⟨hm3, hm7⟩ := hW
    go_simp
    try rfl
  simp only [List.getElem_toArray, List.getElem_cons_succ, List.getElem_cons_zero, Act.put, List.setIfInBounds_toArray, List.set_cons_zero, List.set_cons_succ]
  refine wpAnyH_take (i := 14) (v := ?_) rfl (by kernel_rfl) (by kernel_rfl) (by kernel_rfl) (fun _ _ _ h => h) (Or.inl ⟨by rfl, ?_⟩) (by assumption) ?_
  rotate_left
  · intro W hW
    obtain ⟨hm3, hm7⟩ := hW
    go_simp
    try rfl
  simp only [List.getElem_toArray, List.getElem_cons_succ, List.getElem_cons_zero, Act.put, List.setIfInBounds_toArray, List.set_cons_zero, List.set_cons_succ]
  refine wpAnyH_take (i := 15) (v := ?_) rfl (by kernel_rfl) (by kernel_rfl) (by kernel_rfl) (fun _ _ _ h => h) (Or.inl ⟨by rfl, ?_⟩) (by assumption) ?_
  rotate_left
  · intro W hW
    obtain ⟨hm3, hm7⟩ := hW
    go_simp
    try rfl
  simp only [List.getElem_toArray, List.getElem_cons_succ, List.getElem_cons_zero, Act.put, List.setIfInBounds_toArray, List.set_cons_zero, List.set_cons_succ]
  refine wpAnyH_take (i := 16) (v := ?_) rfl (by kernel_rfl) (by kernel_rfl) (by kernel_rfl) (fun _ _ _ h => h) (Or.inl ⟨by rfl, ?_⟩) (by assumption) ?_
  rotate_left
  · intro W hW
    obtain ⟨hm3, hm7⟩ := hW
    go_simp
    try rfl
  simp only [List.getElem_toArray, List.getElem_cons_succ, List.getElem_cons_zero, Act.put, List.setIfInBounds_toArray, List.set_cons_zero, List.set_cons_succ]
  refine wpAnyH_ready (rs := [17]) (by kernel_rfl) (by simp) ?_
  refine AllReadyH.cons rfl (fun K hK => ?_) AllReadyH.nil
  go_simp
  refine (plain_22 _).mono ?_
  rintro d w11 ⟨a11, c11, x11, hx11, rfl, ho11, hr11, hb11⟩
  refine hK.out _ _ ⟨(K3.out.drew.under hb11).cell 0, (K10.out.drew.under hb11).cell 0⟩ (fun hHeld => ?_)
  clear hK K
  try simp only [List.getElem_toArray, List.getElem_cons_succ, List.getElem_cons_zero, Act.put, List.setIfInBounds_toArray, List.set_cons_zero, List.set_cons_succ]
  have hd10 := (Below.refl w10.heap.size w10).drew.trans hb11
  replace HB := hid (HB.out.trans (hd10.mono HB.out.size))
  replace HM := hid (HM.out.below hd10)
  replace K3 := hid (K3.out.under hd10)
  replace K10 := hid (K10.out.under hd10)
  replace HM9 := hid (And.intro (HM9.out.1.below hd10) HM9.out.2)
  have HS1 := hid (sameMan_c C3 (some a11) 1 1 f3 c11 [y] [x11] w11 HM.out (man_of ho11 hr11.inn))
  rw [decide_eq_true (show [y].map RoA.d = [x11].map RoA.d by rw [List.map_singleton, List.map_singleton, HY.out, hx11])] at HS1
  clear hd10 hb11 hx11 ho11 hr11
  refine wpAnyH_ready (rs := [18]) (by kernel_rfl) (by simp) ?_
  refine AllReadyH.cons rfl (fun K hK => ?_) AllReadyH.nil
  go_simp
  refine HS1.out.mono ?_
  rintro d w12 ⟨rfl, hb12⟩
  refine hK.out _ _ ⟨(K3.out.under hb12).cell 0, (K10.out.under hb12).cell 0⟩ (fun hHeld => ?_)
  clear hK K
  try simp only [List.getElem_toArray, List.getElem_cons_succ, List.getElem_cons_zero, Act.put, List.setIfInBounds_toArray, List.set_cons_zero, List.set_cons_succ]
  replace HB := hid (HB.out.trans (hb12.mono HB.out.size))
  replace HM := hid (HM.out.below hb12)
  replace K3 := hid (K3.out.under hb12)
  replace K10 := hid (K10.out.under hb12)
  replace HM9 := hid (And.intro (HM9.out.1.below hb12) HM9.out.2)
  clear hb12 HS1
  have HC := hid (Check_c C9 2 f9 [x7, x8] w12 HM9.out.1)
  rw [HM9.out.2, mk5] at HC
  refine wpAnyH_take (i := 19) (v := ?_) rfl (by kernel_rfl) (by kernel_rfl) (by kernel_rfl) (fun _ _ _ h => h) (Or.inl ⟨by rfl, ?_⟩) (by assumption) ?_
  rotate_left
  · intro W hW
    obtain ⟨hm3, hm7⟩ := hW
    go_simp
    try rfl
  simp only [List.getElem_toArray, List.getElem_cons_succ, List.getElem_cons_zero, Act.put, List.setIfInBounds_toArray, List.set_cons_zero, List.set_cons_succ]
  refine wpAnyH_take (i := 20) (v := ?_) rfl (by kernel_rfl) (by kernel_rfl) (by kernel_rfl) (fun _ _ _ h => h) (Or.inl ⟨by rfl, ?_⟩) (by assumption) ?_
  rotate_left
  · intro W hW
    obtain ⟨hm3, hm7⟩ := hW
    go_simp
    try rfl
  simp only [List.getElem_toArray, List.getElem_cons_succ, List.getElem_cons_zero, Act.put, List.setIfInBounds_toArray, List.set_cons_zero, List.set_cons_succ]
  refine wpAnyH_take (i := 21) (v := ?_) rfl (by kernel_rfl) (by kernel_rfl) (by kernel_rfl) (fun _ _ _ h => h) (Or.inl ⟨by rfl, ?_⟩) (by assumption) ?_
  rotate_left
  · intro W hW
    obtain ⟨hm3, hm7⟩ := hW
    go_simp
    try rfl
  simp only [List.getElem_toArray, List.getElem_cons_succ, List.getElem_cons_zero, Act.put, List.setIfInBounds_toArray, List.set_cons_zero, List.set_cons_succ]
  refine wpAnyH_ready (rs := [22]) (by kernel_rfl) (by simp) ?_
  refine AllReadyH.cons rfl (fun K hK => ?_) AllReadyH.nil
  go_simp
  refine HC.out.mono ?_
  rintro d w13 ⟨rfl, hb13⟩
  refine hK.out _ _ ⟨(K3.out.under hb13).cell 0, (K10.out.under hb13).cell 0⟩ (fun hHeld => ?_)
  clear hK K
  try simp only [List.getElem_toArray, List.getElem_cons_succ, List.getElem_cons_zero, Act.put, List.setIfInBounds_toArray, List.set_cons_zero, List.set_cons_succ]
  replace HB := hid (HB.out.trans (hb13.mono HB.out.size))
  replace HM := hid (HM.out.below hb13)
  replace K3 := hid (K3.out.under hb13)
  replace K10 := hid (K10.out.under hb13)
  replace HM9 := hid (And.intro (HM9.out.1.below hb13) HM9.out.2)
  clear hb13 HC
  refine wpAnyH_take (i := 23) (v := ?_) rfl (by kernel_rfl) (by kernel_rfl) (by kernel_rfl) (fun _ _ _ h => h) (Or.inl ⟨by rfl, ?_⟩) (by assumption) ?_
  rotate_left
  · intro W hW
    obtain ⟨hm3, hm7⟩ := hW
    go_simp
    try rfl
  simp only [List.getElem_toArray, List.getElem_cons_succ, List.getElem_cons_zero, Act.put, List.setIfInBounds_toArray, List.set_cons_zero, List.set_cons_succ]
  refine wpAnyH_take (i := 24) (v := ?_) rfl (by kernel_rfl) (by kernel_rfl) (by kernel_rfl) (fun _ _ _ h => h) (Or.inl ⟨by rfl, ?_⟩) (by assumption) ?_
  rotate_left
  · intro W hW
    obtain ⟨hm3, hm7⟩ := hW
    go_simp
    try rfl
  simp only [List.getElem_toArray, List.getElem_cons_succ, List.getElem_cons_zero, Act.put, List.setIfInBounds_toArray, List.set_cons_zero, List.set_cons_succ]
  refine wpAnyH_take (i := 25) (v := ?_) rfl (by kernel_rfl) (by kernel_rfl) (by kernel_rfl) (fun _ _ _ h => h) (Or.inl ⟨by rfl, ?_⟩) (by assumption) ?_
  rotate_left
  · intro W hW
    obtain ⟨hm3, hm7⟩ := hW
    go_simp
    try rfl
  simp only [List.getElem_toArray, List.getElem_cons_succ, List.getElem_cons_zero, Act.put, List.setIfInBounds_toArray, List.set_cons_zero, List.set_cons_succ]
  refine wpAnyH_take (i := 26) (v := ?_) rfl (by kernel_rfl) (by kernel_rfl) (by kernel_rfl) (fun _ _ _ h => h) (Or.inl ⟨by rfl, ?_⟩) (by assumption) ?_
  rotate_left
  · intro W hW
    obtain ⟨hm3, hm7⟩ := hW
    go_simp
    try rfl
  simp only [List.getElem_toArray, List.getElem_cons_succ, List.getElem_cons_zero, Act.put, List.setIfInBounds_toArray, List.set_cons_zero, List.set_cons_succ]
  refine wpAnyH_ready (rs := [27]) (by kernel_rfl) (by simp) ?_
  refine AllReadyH.cons rfl (fun K hK => ?_) AllReadyH.nil
  go_simp
  refine (plain_22 _).mono ?_
  rintro d w14 ⟨a14, c14, x14, hx14, rfl, ho14, hr14, hb14⟩
  refine hK.out _ _ ⟨(K3.out.under hb14).cell 0, (K10.out.under hb14).cell 0⟩ (fun hHeld => ?_)
  clear hK K
  try simp only [List.getElem_toArray, List.getElem_cons_succ, List.getElem_cons_zero, Act.put, List.setIfInBounds_toArray, List.set_cons_zero, List.set_cons_succ]
  replace HB := hid (HB.out.trans (hb14.mono HB.out.size))
  replace HM := hid (HM.out.below hb14)
  replace K3 := hid (K3.out.under hb14)
  replace K10 := hid (K10.out.under hb14)
  replace HM9 := hid (And.intro (HM9.out.1.below hb14) HM9.out.2)
  have HS2 := hid (Same_c C3 (some a14) 1 1 f3 c14 [y] [x14] w14 HM.out (man_of ho14 hr14.inn))
  rw [decide_eq_true (show [y].map RoA.d = [x14].map RoA.d by rw [List.map_singleton, List.map_singleton, HY.out, hx14])] at HS2
  clear hb14 hx14 ho14 hr14
  refine wpAnyH_ready (rs := [28]) (by kernel_rfl) (by simp) ?_
  refine AllReadyH.cons rfl (fun K hK => ?_) AllReadyH.nil
  go_simp
  refine HS2.out.mono ?_
  rintro d w15 ⟨rfl, hb15⟩
  refine hK.out _ _ ⟨(K3.out.under hb15).cell 0, (K10.out.under hb15).cell 0⟩ (fun hHeld => ?_)
  clear hK K
  try simp only [List.getElem_toArray, List.getElem_cons_succ, List.getElem_cons_zero, Act.put, List.setIfInBounds_toArray, List.set_cons_zero, List.set_cons_succ]
  replace HB := hid (HB.out.trans (hb15.mono HB.out.size))
  replace HM := hid (HM.out.below hb15)
  replace K3 := hid (K3.out.under hb15)
  replace K10 := hid (K10.out.under hb15)
  replace HM9 := hid (And.intro (HM9.out.1.below hb15) HM9.out.2)
  have HS3 := hid (Same_c C3 C9 1 2 f3 f9 [y] [x7, x8] w15 HM.out HM9.out.1)
  rw [decide_eq_false (show ¬ [y].map RoA.d = [x7, x8].map RoA.d by rw [HM9.out.2, List.map_singleton, HY.out]; exact mk6)] at HS3
  clear hb15 HS2
  refine wpAnyH_take (i := 29) (v := ?_) rfl (by kernel_rfl) (by kernel_rfl) (by kernel_rfl) (fun _ _ _ h => h) (Or.inl ⟨by rfl, ?_⟩) (by assumption) ?_
  rotate_left
  · intro W hW
    obtain ⟨hm3, hm7⟩ := hW
    go_simp
    try rfl
  simp only [List.getElem_toArray, List.getElem_cons_succ, List.getElem_cons_zero, Act.put, List.setIfInBounds_toArray, List.set_cons_zero, List.set_cons_succ]
  refine wpAnyH_take (i := 30) (v := ?_) rfl (by kernel_rfl) (by kernel_rfl) (by kernel_rfl) (fun _ _ _ h => h) (Or.inl ⟨by rfl, ?_⟩) (by assumption) ?_
  rotate_left
  · intro W hW
    obtain ⟨hm3, hm7⟩ := hW
    go_simp
    try rfl
  simp only [List.getElem_toArray, List.getElem_cons_succ, List.getElem_cons_zero, Act.put, List.setIfInBounds_toArray, List.set_cons_zero, List.set_cons_succ]
  refine wpAnyH_take (i := 31) (v := ?_) rfl (by kernel_rfl) (by kernel_rfl) (by kernel_rfl) (fun _ _ _ h => h) (Or.inl ⟨by rfl, ?_⟩) (by assumption) ?_
  rotate_left
  · intro W hW
    obtain ⟨hm3, hm7⟩ := hW
    go_simp
    try rfl
  simp only [List.getElem_toArray, List.getElem_cons_succ, List.getElem_cons_zero, Act.put, List.setIfInBounds_toArray, List.set_cons_zero, List.set_cons_succ]
  refine wpAnyH_take (i := 32) (v := ?_) rfl (by kernel_rfl) (by kernel_rfl) (by kernel_rfl) (fun _ _ _ h => h) (Or.inl ⟨by rfl, ?_⟩) (by assumption) ?_
  rotate_left
  · intro W hW
    obtain ⟨hm3, hm7⟩ := hW
    go_simp
    try rfl
  simp only [List.getElem_toArray, List.getElem_cons_succ, List.getElem_cons_zero, Act.put, List.setIfInBounds_toArray, List.set_cons_zero, List.set_cons_succ]
  refine wpAnyH_ready (rs := [33]) (by kernel_rfl) (by simp) ?_
  refine AllReadyH.cons rfl (fun K hK => ?_) AllReadyH.nil
  go_simp
  refine HS3.out.mono ?_
  rintro d w16 ⟨rfl, hb16⟩
  refine hK.out _ _ ⟨(K3.out.under hb16).cell 0, (K10.out.under hb16).cell 0⟩ (fun hHeld => ?_)
  clear hK K
  try simp only [List.getElem_toArray, List.getElem_cons_succ, List.getElem_cons_zero, Act.put, List.setIfInBounds_toArray, List.set_cons_zero, List.set_cons_succ]
  have HF := hid (HB.out.trans (hb16.mono HB.out.size))
  clear hb16 HS3 HM HM9 K3 K10
  refine wpAnyH_take (i := 34) (v := ?_) rfl (by kernel_rfl) (by kernel_rfl) (by kernel_rfl) (fun _ _ _ h => h) (Or.inl ⟨by rfl, ?_⟩) (by assumption) ?_
  rotate_left
  · intro W hW
    go_simp
    try rfl
  simp only [List.getElem_toArray, List.getElem_cons_succ, List.getElem_cons_zero, Act.put, List.setIfInBounds_toArray, List.set_cons_zero, List.set_cons_succ]
  refine wpAnyH_take (i := 35) (v := ?_) rfl (by kernel_rfl) (by kernel_rfl) (by kernel_rfl) (fun _ _ _ h => h) (Or.inl ⟨by rfl, ?_⟩) (by assumption) ?_
  rotate_left
  · intro W hW
    go_simp
    try rfl
  simp only [List.getElem_toArray, List.getElem_cons_succ, List.getElem_cons_zero, Act.put, List.setIfInBounds_toArray, List.set_cons_zero, List.set_cons_succ]
  refine wpAnyH_take (i := 36) (v := ?_) rfl (by kernel_rfl) (by kernel_rfl) (by kernel_rfl) (fun _ _ _ h => h) (Or.inl ⟨by rfl, ?_⟩) (by assumption) ?_
  rotate_left
  · intro W hW
    go_simp
    try rfl
  simp only [List.getElem_toArray, List.getElem_cons_succ, List.getElem_cons_zero, Act.put, List.setIfInBounds_toArray, List.set_cons_zero, List.set_cons_succ]
  refine wpAnyH_done (by kernel_rfl) ?_ _
  refine NoPanic.normal ?_
  clear hHeld
  go_wp2_with fail
  go_ret
  exact ⟨rfl, HF.out⟩
end Go.Proofs.Ytgdnpmjmkcccoaa
