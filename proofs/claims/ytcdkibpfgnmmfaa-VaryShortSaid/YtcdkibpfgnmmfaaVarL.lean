/- Contracts of vary: PutRow; that the layer does something. -/
import Derived.Test.YtcdkibpfgnmmfaaVarJ
import Derived.Test.YtcdkibpfgnmmfaaVarK
namespace Go.Proofs.Ytcdkibpfgnmmfaa
open Go.RowKit Go.Shelf VB
set_option linter.unusedVariables false
theorem reads_new (w : World) (e : TypeId) (vs : List Value) : Reads (w.alloc (.cells vs.toArray e)) e 1 (some ⟨w.heap.size, 0, none⟩) vs.length vs := by
  refine ⟨by simp, fun _ => ⟨_, rfl, ⟨_, _, heap_alloc_new w _⟩, fun j u hu => ?_⟩⟩
  have hadd : (⟨w.heap.size, 0, none⟩ : Addr).add j = ⟨w.heap.size, j, none⟩ := by unfold Addr.add; split <;> simp_all
  rw [hadd, cell_of_row _ _ j vs.toArray e (0, 0) (heap_alloc_new w _)]
  simpa using hu
/-- what a row is put as -/
def rowB (zs : List Int) : List Nat := vb zs.length ++ (zs.map fold64).flatMap vb
set_option maxHeartbeats 1000000 in
theorem PutRow_c (A L : Option Addr) (n c k cl : Nat) (bs : List Nat) (zs : List Int) (w : World) (hb : Reads w 5 1 A n (bsV bs)) (hn : n ≤ 900000) (hz : Reads w 2 1 L k (zs.map (Value.int .i64))) (hk : k ≤ 1000)
    (hr : ∀ z ∈ zs, -9223372036854775808 ≤ z ∧ z ≤ 9223372036854775807) :
    Calls Try.prog 27 #[.slice A n c, .slice L k cl] w (RetB (bs ++ rowB zs) w) := by
  have hzl := ints_len hz
  have hbl : bs.length = n := by have := hb.1; rw [bsV_len] at this; omega
  have HP := Lib.hid (PutU_c A n c bs k w hb (by omega) (by omega))
  have HZ := Lib.hid hz
  have HR := Lib.hid hr
  have hv10 := vb_len10 (n := k) (by omega)
  have hll : (bs ++ vb k).length ≤ 1000000 := by rw [List.length_append, hbl]; omega
  have e1 : bs ++ rowB zs = (bs ++ vb k) ++ (zs.map fold64).flatMap vb := by unfold rowB; rw [hzl, List.append_assoc]
  have HZL := Lib.hid hzl
  obtain ⟨R, hR⟩ : ∃ R, R = bs ++ rowB zs := ⟨_, rfl⟩
  rw [← hR]
  obtain ⟨l, hl⟩ : ∃ l, l = bs ++ vb k := ⟨_, rfl⟩
  rw [← hl] at hll e1
  rw [← hl] at HP
  have HE := Lib.hid (hR.trans e1)
  clear hb hz hr hzl hbl hR hl e1
  go_enter Try.func27, Try.ntmps27
  go_wp2_with fail
  refine HP.out.mono ?_
  intro e w1 h
  obtain ⟨C, f, rfl, hf, hown, hrd, hb1⟩ := h.dig
  have HC := Lib.hid (puts_i C L l.length f k cl l zs w1 hrd rfl hll (HZ.out.below hb1) HZL.out hk HR.out)
  clear hown hrd h
  go_wp2_with fail
  refine HC.out.mono ?_
  intro e w' h
  rw [← HE.out] at h
  have h2 := ret_up h hb1
  obtain ⟨C2, f2, rfl, h3⟩ := h2
  have H3 := Lib.hid h3
  clear h h3
  go_wp2
  go_ret
  exact ⟨C2, f2, rfl, H3.out⟩
theorem vb300 : vb 300 = [172, 2] := by rw [vb_ge (by decide), vb_lt (by decide)]
theorem vb1 : vb 1 = [1] := vb_lt (by decide)
theorem vb128 : (vb 128).length = 2 := by rw [vb_ge (by decide), vb_lt (by decide)]; rfl
theorem wkA : gotN [172, 2] 0 = (300, 2, 0) := by decide
theorem wkB : gotN [9, 1] 1 = (1, 2, 0) := by decide
theorem wkC : gotN [128, 0] 0 = (0, 0, 7) := by decide
theorem wkD : rowG [2, 2, 3] 0 2 = ([1, -2], 3, 0) := by decide
theorem below_alloc {w w1 : World} (h : Below w.heap.size w w1) (o : Obj) : Below w.heap.size w (w1.alloc o) := h.alloc h.size o
theorem reads_new_at {g : Nat} (w : World) (e : TypeId) (vs : List Value) (n : Nat) (h : g = w.heap.size) (hn : n = vs.length) : Reads (w.alloc (.cells vs.toArray e)) e 1 (some ⟨g, 0, none⟩) n vs := by
  subst h hn
  exact reads_new w e vs
set_option maxRecDepth 100000 in
set_option maxHeartbeats 4000000 in
theorem wakes_c (w : World) :
    Calls Try.prog 10 #[] w fun e w' => e = .returned (.bool true) ∧ Below w.heap.size w w' := by
  go_enter Try.func10, Try.ntmps10
  go_wp2_with fail
  have hA := GetU_c (some ⟨w.heap.size, 0, none⟩) 2 2 0 [172, 2] _ (reads_new_at w 5 (bsV [172, 2]) 2 rfl rfl) (by decide) (by decide) (by decide) (by decide)
  rw [wkA] at hA
  refine hA.mono ?_
  clear hA
  rintro e w' ⟨rfl, rfl⟩
  go_wp2_with fail
  have hbw := below_alloc (Below.refl w.heap.size w) (.cells (bsV [172, 2]).toArray 5)
  have hsz : (w.alloc (.cells (bsV [172, 2]).toArray 5)).heap.size = w.heap.size + 1 := by simp
  generalize w.alloc (.cells (bsV [172, 2]).toArray 5) = w1 at *
  have hA := Get_c (some ⟨w.heap.size + 1, 0, none⟩) 2 2 1 [9, 1] _ (reads_new_at w1 5 (bsV [9, 1]) 2 hsz.symm rfl) (by decide) (by decide) (by decide) (by decide)
  rw [wkB, show unf (1, 2, (0 : Int)).1 = -1 from rfl] at hA
  refine hA.mono ?_
  clear hA
  rintro e w' ⟨rfl, rfl⟩
  have hbw := below_alloc hbw (.cells (bsV [9, 1]).toArray 5)
  have hsz : (w1.alloc (.cells (bsV [9, 1]).toArray 5)).heap.size = w.heap.size + 1 + 1 := by simp; omega
  go_wp2_with fail
  generalize w1.alloc (.cells (bsV [9, 1]).toArray 5) = w2 at *
  have hA := GetU_c (some ⟨w.heap.size + 1 + 1, 0, none⟩) 2 2 0 [128, 0] _ (reads_new_at w2 5 (bsV [128, 0]) 2 hsz.symm rfl) (by decide) (by decide) (by decide) (by decide)
  rw [wkC] at hA
  refine hA.mono ?_
  clear hA
  rintro e w' ⟨rfl, rfl⟩
  have hbw := below_alloc hbw (.cells (bsV [128, 0]).toArray 5)
  have hsz : (w2.alloc (.cells (bsV [128, 0]).toArray 5)).heap.size = w.heap.size + 1 + 1 + 1 := by simp; omega
  go_wp2_with fail
  generalize w2.alloc (.cells (bsV [128, 0]).toArray 5) = w3 at *
  have hA := GetRow_c (some ⟨w.heap.size + 1 + 1 + 1, 0, none⟩) 3 3 0 2 [2, 2, 3] _ (reads_new_at w3 5 (bsV [2, 2, 3]) 3 hsz.symm rfl) (by decide) (by decide) (by decide) (by decide) (by decide)
  rw [wkD] at hA
  refine hA.mono ?_
  clear hA
  rintro e w4 ⟨C4, f4, rfl, hf4, hr4, hb4⟩
  have hbw := (below_alloc hbw (.cells (bsV [2, 2, 3]).toArray 5)).trans (hb4.mono (below_alloc hbw (.cells (bsV [2, 2, 3]).toArray 5)).size)
  clear hb4 hsz
  have HR4 := Lib.hid hr4
  clear hr4 hf4
  dsimp only [List.length_cons, List.length_nil] at *
  go_wp2_with fail
  have hA := PutU_c none 0 0 [] 300 w4 Reads.none_ (by decide) (by decide)
  rw [vb300] at hA
  refine hA.mono ?_
  clear hA
  rintro e w5 ⟨C5, f5, rfl, hown5, hb5⟩
  have HR4 := Lib.hid (HR4.out.below hb5)
  have HR5 := Lib.hid (Reads.of_own hown5)
  have hbw := below_of' hbw hb5
  clear hown5 hb5
  dsimp only [List.length_cons, List.length_nil, List.nil_append] at *
  go_wp2_with fail
  refine (equal_bs _ _ _ _ _ _ [172, 2] [172, 2] _ (HR5.out.alloc _) (reads_new w5 5 (bsV [172, 2])) (by decide)).mono ?_
  rintro e w' ⟨rfl, q, rfl⟩
  have hbw := (below_alloc hbw (.cells (bsV [172, 2]).toArray 5))
  have HR4 := Lib.hid ((HR4.out.alloc (.cells (bsV [172, 2]).toArray 5)).drewN q)
  have hbw : Below w.heap.size w ((w5.alloc (.cells (bsV [172, 2]).toArray 5)).drewN q) := ⟨hbw.os, hbw.tape, hbw.output, hbw.size, hbw.block⟩
  rw [decide_eq_true (rfl : ([172, 2] : List Nat) = [172, 2])]
  generalize (w5.alloc (.cells (bsV [172, 2]).toArray 5)).drewN q = w6 at *
  go_wp2_with fail
  have hA := Put_c (some ⟨w6.heap.size, 0, none⟩) 1 1 [9] (-1) _ (reads_new w6 5 (bsV [9])) (by decide) (by decide) (by decide)
  rw [show fold64 (-1) = 1 from rfl, vb1] at hA
  refine hA.mono ?_
  clear hA
  rintro e w7 ⟨C7, f7, rfl, hown7, hb7⟩
  have HR4 := Lib.hid ((HR4.out.alloc (.cells (bsV [9]).toArray 5)).below hb7)
  have HR7 := Lib.hid (Reads.of_own hown7)
  have hbw := below_of' (below_alloc hbw (.cells (bsV [9]).toArray 5)) hb7
  clear hown7 hb7
  dsimp only [List.length_cons, List.length_nil, List.nil_append, List.cons_append] at *
  go_wp2_with fail
  refine (equal_bs _ _ _ _ _ _ [9, 1] [9, 1] _ (HR7.out.alloc _) (reads_new w7 5 (bsV [9, 1])) (by decide)).mono ?_
  rintro e w' ⟨rfl, q2, rfl⟩
  have hbw := (below_alloc hbw (.cells (bsV [9, 1]).toArray 5))
  have HR4 := Lib.hid ((HR4.out.alloc (.cells (bsV [9, 1]).toArray 5)).drewN q2)
  have hbw : Below w.heap.size w ((w7.alloc (.cells (bsV [9, 1]).toArray 5)).drewN q2) := ⟨hbw.os, hbw.tape, hbw.output, hbw.size, hbw.block⟩
  rw [decide_eq_true (rfl : ([9, 1] : List Nat) = [9, 1])]
  generalize (w7.alloc (.cells (bsV [9, 1]).toArray 5)).drewN q2 = w8 at *
  go_wp2_with fail
  refine (equal_i _ _ _ _ _ _ [1, -2] [1, -2] _ (HR4.out.alloc _) (reads_new w8 2 ([1, -2].map (Value.int .i64))) (by decide)).mono ?_
  rintro e w' ⟨rfl, q3, rfl⟩
  have hbw := (below_alloc hbw (.cells ([1, -2].map (Value.int .i64)).toArray 2))
  have hbw : Below w.heap.size w ((w8.alloc (.cells ([1, -2].map (Value.int .i64)).toArray 2)).drewN q3) := ⟨hbw.os, hbw.tape, hbw.output, hbw.size, hbw.block⟩
  rw [decide_eq_true (rfl : ([1, -2] : List Int) = [1, -2])]
  generalize (w8.alloc (.cells ([1, -2].map (Value.int .i64)).toArray 2)).drewN q3 = w9 at *
  go_wp2_with fail
  have hA := Size_c 64 (by decide) (by decide) w9
  rw [show fold64 64 = 128 from rfl, vb128] at hA
  refine hA.mono ?_
  clear hA
  rintro e w10 ⟨rfl, hb10⟩
  go_wp2
  go_ret
  exact ⟨rfl, below_of' hbw hb10⟩
end Go.Proofs.Ytcdkibpfgnmmfaa
