/- Contracts: slices.Equal of points, record.Same (seat Record). -/
import Derived.Test.YtedojdbihajnbaaRecK
namespace Go.Proofs.Ytedojdbihajnbaa
open Go.RowKit Go.Shelf VB
open Go.Lib (hid)
set_option linter.unusedVariables false
set_option linter.unusedSimpArgs false
theorem cellsP_at : ∀ (l : List (Int × Int)) (i : Nat), i < l.length → (l.flatMap cellsP)[i * 2]? = some (.int .i64 (l.getD i (0, 0)).1) ∧ (l.flatMap cellsP)[i * 2 + 1]? = some (.int .i64 (l.getD i (0, 0)).2)
  | [], i, h => by simp at h
  | x :: l, 0, _ => by simp [cellsP]
  | x :: l, i + 1, h => by
    have ih := cellsP_at l i (by simpa using h)
    rw [List.flatMap_cons]
    have e1 : (i + 1) * 2 = (cellsP x).length + i * 2 := by simp only [cellsP, List.length_cons, List.length_nil]; omega
    have e2 : (i + 1) * 2 + 1 = (cellsP x).length + (i * 2 + 1) := by simp only [cellsP, List.length_cons, List.length_nil]; omega
    rw [e2, e1, List.getElem?_append_right (by omega), List.getElem?_append_right (by omega), Nat.add_sub_cancel_left, Nat.add_sub_cancel_left]
    simpa using ih
theorem pts_len {w : World} {e : TypeId} {A : Option Addr} {n : Nat} {l : List (Int × Int)} (h : Reads w e 2 A n (l.flatMap cellsP)) : l.length = n := by
  have := h.1; rw [cellsP_len] at this; omega
theorem pts_at {w : World} {e : TypeId} {A : Option Addr} {n : Nat} {l : List (Int × Int)} (h : Reads w e 2 A n (l.flatMap cellsP)) {i : Nat} (hi : i < n) :
    ∃ ad, A = some ad ∧ w.cell? (ad.add (i * 2)) = some (.int .i64 (l.getD i (0, 0)).1) ∧ w.cell? ((ad.add (i * 2)).add 1) = some (.int .i64 (l.getD i (0, 0)).2) := by
  have hl := pts_len h
  obtain ⟨ad, e1, _, hc⟩ := h.2 (by omega)
  obtain ⟨c1, c2⟩ := cellsP_at l i (by omega)
  exact ⟨ad, e1, hc _ _ c1, by rw [add_of_add]; exact hc _ _ c2⟩
theorem take_stepP {xs ys : List (Int × Int)} {k : Nat} (h : xs.take k = ys.take k) (hx : k < xs.length) (hy : k < ys.length) (he : xs.getD k (0, 0) = ys.getD k (0, 0)) : xs.take (k + 1) = ys.take (k + 1) := by
  rw [List.take_succ_eq_append_getElem hx, List.take_succ_eq_append_getElem hy, h]
  rw [List.getD_eq_getElem?_getD, List.getD_eq_getElem?_getD, List.getElem?_eq_getElem hx, List.getElem?_eq_getElem hy] at he
  simp at he
  rw [he]
set_option maxHeartbeats 1000000 in
theorem equal_p {e1 e2 : TypeId} (A B : Option Addr) (n m c d : Nat) (xs ys : List (Int × Int)) (w : World) (hx : Reads w e1 2 A n (xs.flatMap cellsP)) (hy : Reads w e2 2 B m (ys.flatMap cellsP)) (hn : n ≤ 100000000) :
    Calls Try.prog 37 #[.slice A n c, .slice B m d] w fun e w' => e = .returned (.bool (decide (xs = ys))) ∧ ∃ q, w' = w.drewN q := by
  have hxl := pts_len hx
  have hyl := pts_len hy
  by_cases hnm : n = m
  · subst hnm
    have t0 : ((n : Int) != n) = false := by simp
    have HX := Lib.hid hx
    have HY := Lib.hid hy
    have HXL := Lib.hid hxl
    have HYL := Lib.hid hyl
    clear hx hy hxl hyl
    go_enter Try.func37, Try.ntmps37
    go_wp2
    go_loopw [13] (fun v wr => ∃ k : Nat, k ≤ n ∧ v = .int .i64 (k : Nat) ∧ (∃ q, wr = w.drewN q) ∧ xs.take k = ys.take k) (fun v _ => n - (intOf v).toNat)
    case atStart => exact ⟨0, Nat.zero_le _, rfl, ⟨0, rfl⟩, by simp⟩
    case round =>
      obtain ⟨k, hk, rfl, ⟨q, rfl⟩, heq⟩ := hrel
      have HE := Lib.hid heq
      clear heq
      by_cases hlt : k < n
      · obtain ⟨ad, rfl, cx, cx1⟩ := pts_at HX.out hlt
        obtain ⟨bd, rfl, cy, cy1⟩ := pts_at HY.out hlt
        have cx2 : w.cell? ⟨(ad.add (k * 2)).block, (ad.add (k * 2)).off + 1, none⟩ = _ := cx1
        have cy2 : w.cell? ⟨(bd.add (k * 2)).block, (bd.add (k * 2)).off + 1, none⟩ = _ := cy1
        clear cx1 cy1
        have hltI : (k : Int) < (n : Int) := by omega
        have h0I : (0 : Int) ≤ (k : Int) := by omega
        have hst := take_stepP HE.out (by rw [HXL.out]; exact hlt) (by rw [HYL.out]; exact hlt)
        have hne : xs.getD k (0, 0) ≠ ys.getD k (0, 0) → xs ≠ ys := fun h e => h (by rw [e])
        have HST := Lib.hid hst
        have HNE := Lib.hid hne
        clear hst hne
        generalize xs.getD k (0, 0) = x at *
        generalize ys.getD k (0, 0) = y at *
        obtain ⟨x1, x2⟩ := x
        obtain ⟨y1, y2⟩ := y
        by_cases hc1 : x1 = y1
        · by_cases hc2 : x2 = y2
          · have t1 : (x1 != y1) = false := by simp [hc1]
            have t2 : (x2 != y2) = false := by simp [hc2]
            have t3 : (x1 == y1) = true := by simp [hc1]
            have t4 : (x2 == y2) = true := by simp [hc2]
            have t5 : decide (x1 = y1) = true := by simp [hc1]
            have t6 : decide (x2 = y2) = true := by simp [hc2]
            have HC := Lib.hid (show (x1, x2) = (y1, y2) by rw [hc1, hc2])
            clear hc1 hc2
            go_wp2
            go_quiet (fail)
            go_wp2
            go_roundw
            case rel => exact ⟨k + 1, by omega, by go_num, ⟨_, rfl⟩, HST.out HC.out⟩
            case measure => simp [intOf]; omega
          · have t3 : (x1 == y1) = true := by simp [hc1]
            have t4 : (x2 == y2) = false := by simp [hc2]
            have t5 : decide (x1 = y1) = true := by simp [hc1]
            have t6 : decide (x2 = y2) = false := by simp [hc2]
            have HC := Lib.hid (HNE.out (fun e => hc2 (by injection e)))
            clear hc1 hc2
            go_wp2
            go_quiet (fail)
            go_wp2
            go_ret
            exact ⟨ret_b (by rw [eq_comm, decide_eq_false_iff_not]; exact HC.out), _, by rw [World.drewN_drewN]⟩
        · have t3 : (x1 == y1) = false := by simp [hc1]
          have t5 : decide (x1 = y1) = false := by simp [hc1]
          have HC := Lib.hid (HNE.out (fun e => hc1 (by injection e)))
          clear hc1
          go_wp2
          go_quiet (fail)
          go_wp2
          go_ret
          exact ⟨ret_b (by rw [eq_comm, decide_eq_false_iff_not]; exact HC.out), _, by rw [World.drewN_drewN]⟩
      · obtain rfl : k = n := by omega
        clear hlt
        go_wp2
        go_ret
        refine ⟨ret_b ?_, _, rfl⟩
        have h := HE.out
        rw [List.take_of_length_le (by rw [HXL.out]; exact Nat.le_refl _), List.take_of_length_le (by rw [HYL.out]; exact Nat.le_refl _)] at h
        rw [eq_comm, decide_eq_true_iff]
        exact h
  · have t0 : ((n : Int) != m) = true := by simp; omega
    have HN := Lib.hid (show xs ≠ ys from fun e => hnm (by rw [← hxl, ← hyl, e]))
    clear hx hy hxl hyl hnm
    go_enter Try.func37, Try.ntmps37
    go_wp2
    go_ret
    exact ⟨ret_b (by rw [eq_comm, decide_eq_false_iff_not]; exact HN.out), 0, rfl⟩
end Go.Proofs.Ytedojdbihajnbaa
