/- Contract of wide.Total (seat Wide). -/
import Derived.Test.YtpomhcclnhddmaaDoorWidS
import Derived.WalkMore
namespace Go.Proofs.YtpomhcclnhddmaaDoor
open Go.RowKit Go.Shelf Go.Lib
set_option linter.unusedVariables false
abbrev rW (S : Int) (f : Bool) : Array Value := #[.int .i64 (hiW S), .int .u64 (loW S), .bool f]
theorem Blk.three {w : World} {g : Nat} {t : TypeId} {x y z : Value} (h : Blk w g t #[x, y, z]) : w.cell? ⟨g, 0, none⟩ = some x ∧ w.cell? ⟨g, 1, none⟩ = some y ∧ w.cell? ⟨g, 2, none⟩ = some z ∧ w.frozen? ⟨g, 0, none⟩ = false ∧ w.frozen? ⟨g, 1, none⟩ = false ∧ w.frozen? ⟨g, 2, none⟩ = false ∧ g < w.heap.size :=
  ⟨h.cell 0, h.cell 1, h.cell 2, h.frozen 0, h.frozen 1, h.frozen 2, h.lt⟩
theorem Blk.set3 {w : World} {g : Nat} {t : TypeId} {x y z : Value} (h : Blk w g t #[x, y, z]) (a b c : Value) : Blk (((w.setCell ⟨g, 0, none⟩ a).setCell ⟨g, 1, none⟩ b).setCell ⟨g, 2, none⟩ c) g t #[a, b, c] :=
  ((h.set_ 0 a).set_ 1 b).set_ 2 c
theorem sum_wv (X Y : Int) (hX : inW X) (hY : inW Y) (w : World) : Calls Tryd.prog 44 #[wv (hiW X) (loW X), wv (hiW Y) (loW Y)] w fun e w' => e = .returned (.tuple #[wv (hiW (wr (X + Y))) (loW (wr (X + Y))), .bool (decide (inW (X + Y)))]) ∧ Below w.heap.size w w' := sum_c X Y hX hY w
def RetMore (fb : Bool) (zh zl : Int) (g : Nat) (w : World) (e : Ending) (w' : World) : Prop := e = .returned (.bool fb) ∧ ∃ w1, Below w.heap.size w w1 ∧ w' = ((w1.setCell ⟨g, 0, none⟩ (.int .i64 zh)).setCell ⟨g, 1, none⟩ (.int .u64 zl)).setCell ⟨g, 2, none⟩ (.bool fb)
set_option maxHeartbeats 400000 in
theorem more_v {sh sl xh xl zh zl : Int} {fb f0 : Bool} {g : Nat} {w : World} (hs : ∀ w, Calls Tryd.prog 44 #[wv sh sl, wv xh xl] w fun e w' => e = .returned (.tuple #[wv zh zl, .bool fb]) ∧ Below w.heap.size w w') (k : Blk w g 90 #[.int .i64 sh, .int .u64 sl, .bool f0]) :
    Calls Tryd.prog 57 #[wv xh xl, .pointer (some ⟨g, 0, none⟩)] w (RetMore fb zh zl g w) := by
  have HS := hid hs
  clear hs
  have k1 := k.alloc (oW xh xl)
  have k2 := Blk.new w 24 #[.int .i64 xh, .int .u64 xl]
  obtain ⟨c0, c1, c2, c3, c4, c5, c6⟩ := k1.three
  obtain ⟨d0, d1, d2, d3, d4⟩ := k2.two
  go_enter Tryd.func57, Tryd.ntmps57
  go_wp2_with fail
  refine (HS.out _).mono ?_
  rintro e w1 ⟨rfl, hb1⟩
  have k3 := k1.under hb1
  have hw := below1 w _ hb1
  clear c0 c1 c2 c3 c4 c5 c6 d0 d1 d2 d3 d4 k1 k2 hb1
  obtain ⟨c0, c1, c2, c3, c4, c5, c6⟩ := k3.three
  go_wp2
  go_ret
  exact ⟨rfl, w1, hw, rfl⟩
theorem more_c {S X : Int} (hS : inW S) (hX : inW X) {g : Nat} {f0 : Bool} {w : World} (k : Blk w g 90 (rW S f0)) :
    Calls Tryd.prog 57 #[wv (hiW X) (loW X), .pointer (some ⟨g, 0, none⟩)] w (RetMore (decide (inW (S + X))) (hiW (wr (S + X))) (loW (wr (S + X))) g w) := more_v (fun w => sum_wv S X hS hX w) k
/-- what a row of numbers comes to, up to the first sum that has no room -/
def sumW : Int → List Int → Int
  | s, [] => s
  | s, x :: xs => if inW (s + x) then sumW (s + x) xs else s + x
def cellsW (X : Int) : List Value := [.int .i64 (hiW X), .int .u64 (loW X)]
theorem cellsW_len (l : List Int) : (l.flatMap cellsW).length = l.length * 2 := by
  induction l with
  | nil => rfl
  | cons x l ih => rw [List.flatMap_cons, List.length_append, ih, List.length_cons]; simp only [cellsW, List.length_cons, List.length_nil]; omega
theorem cellsW_at : ∀ (l : List Int) (i : Nat), i < l.length → (l.flatMap cellsW)[i * 2]? = some (.int .i64 (hiW (l.getD i 0))) ∧ (l.flatMap cellsW)[i * 2 + 1]? = some (.int .u64 (loW (l.getD i 0)))
  | [], i, h => by simp at h
  | x :: l, 0, _ => by simp [cellsW]
  | x :: l, i + 1, h => by
    have ih := cellsW_at l i (by simpa using h)
    rw [List.flatMap_cons]
    have e1 : (i + 1) * 2 = (cellsW x).length + i * 2 := by simp only [cellsW, List.length_cons, List.length_nil]; omega
    have e2 : (i + 1) * 2 + 1 = (cellsW x).length + (i * 2 + 1) := by simp only [cellsW, List.length_cons, List.length_nil]; omega
    rw [e2, e1, List.getElem?_append_right (by omega), List.getElem?_append_right (by omega), Nat.add_sub_cancel_left, Nat.add_sub_cancel_left]
    simpa using ih
theorem wreads_at {w : World} {e : TypeId} {A : Option Addr} {n : Nat} {Xs : List Int} (h : Reads w e 2 A n (Xs.flatMap cellsW)) {i : Nat} (hi : i < n) :
    ∃ ad, A = some ad ∧ w.cell? (ad.add (i * 2)) = some (.int .i64 (hiW (Xs.getD i 0))) ∧ w.cell? (ad.add (i * 2 + 1)) = some (.int .u64 (loW (Xs.getD i 0))) := by
  have hl : Xs.length = n := by have := h.1; rw [cellsW_len] at this; omega
  obtain ⟨ad, e1, _, hc⟩ := h.2 (by omega)
  obtain ⟨c1, c2⟩ := cellsW_at Xs i (by omega)
  exact ⟨ad, e1, hc _ _ c1, hc _ _ c2⟩
theorem sumW_step {Xs : List Int} {i : Nat} {S : Int} (hi : i < Xs.length) : sumW S (Xs.drop i) = if inW (S + Xs.getD i 0) then sumW (S + Xs.getD i 0) (Xs.drop (i + 1)) else S + Xs.getD i 0 := by
  rw [List.drop_eq_getElem_cons hi, List.getD_eq_getElem?_getD, List.getElem?_eq_getElem hi]
  rfl
set_option maxRecDepth 100000 in
set_option maxHeartbeats 400000 in
theorem Total_c {e' : TypeId} (A : Option Addr) (n c : Nat) (Xs : List Int) (w : World) (hz : Reads w e' 2 A n (Xs.flatMap cellsW)) (hX : ∀ i, i < n → inW (Xs.getD i 0)) (hn : n ≤ 1000) :
    Calls Tryd.prog 35 #[.slice A n c] w (RetTW (sumW 0 Xs) w) := by
  have hl : Xs.length = n := by have := hz.1; rw [cellsW_len] at this; omega
  have HZ := hid hz
  have HX := hid hX
  have HL := hid hl
  clear hz hX hl
  have hmf : ∀ (fn : Fn) (first cap : Array Value) (w : World), (Instr.makeFunc fn first cap).run Tryd.prog w = .ok (.func fn first cap) w := fun _ _ _ _ => rfl
  go_enter Tryd.func35, Tryd.ntmps35
  go_wp2_with fail
  go_step3
  go_wp2_with fail
  go_step3
  go_wp2_with fail
  go_loopw [12] (fun u12 wr => ∃ (i : Nat) (S : Int), i ≤ n ∧ u12 = .int .i64 (i : Nat) ∧ Hid (inW S) ∧ sumW 0 Xs = sumW S (Xs.drop i) ∧ Blk wr w.heap.size 24 #[.int .i64 0, .int .u64 0] ∧ Blk wr (w.heap.size + 1) 90 (rW S true) ∧ Below w.heap.size w wr)
    (fun u12 _ => n - (RowKit.intOf u12).toNat)
  case atStart => exact ⟨0, 0, Nat.zero_le _, rfl, hid (by decide), rfl, (Blk.new w _ _).alloc _, Blk.new_at (w.alloc _) _ _ (by simp), below2 w _ _ (Below.refl _ _)⟩
  case round =>
    obtain ⟨i, S, hi, rfl, hS, hsum, k0, k1, hb⟩ := hrel
    have HSUM := hid hsum
    clear hsum
    by_cases hlt : i < n
    · obtain ⟨ad, rfl, c0, c1⟩ := wreads_at (HZ.out.below hb) hlt
      have HXi := hid (HX.out i hlt)
      have HST := hid (sumW_step (S := S) (show i < Xs.length by rw [HL.out]; exact hlt))
      obtain ⟨X, hXe⟩ : ∃ X, X = Xs.getD i 0 := ⟨_, rfl⟩
      rw [← hXe] at c0 c1 HXi HST
      have HM := hid (fun W k => more_c (g := w.heap.size + 1) (f0 := true) (w := W) hS.out HXi.out k)
      clear hXe
      rw [← add_of_add] at c1
      have c2 : wr.cell? ⟨(ad.add (i * 2)).block, (ad.add (i * 2)).off + 1, none⟩ = some (.int .u64 (loW X)) := c1
      clear c1
      go_wp2_with fail
      refine (HM.out _ (k1.alloc _)).mono ?_
      rintro e w2 ⟨rfl, w3, hb3, rfl⟩
      have k1 := ((k1.alloc (oW (hiW X) (loW X))).under hb3).set3 (.int .i64 (hiW (Go.Proofs.YtpomhcclnhddmaaDoor.wr (S + X)))) (.int .u64 (loW (Go.Proofs.YtpomhcclnhddmaaDoor.wr (S + X)))) (.bool (decide (inW (S + X))))
      have k0 := ((((k0.alloc (oW (hiW X) (loW X))).under hb3).far (p := ⟨w.heap.size + 1, 0, none⟩) (by simp) (.int .i64 (hiW (Go.Proofs.YtpomhcclnhddmaaDoor.wr (S + X))))).far (p := ⟨w.heap.size + 1, 1, none⟩) (by simp) (.int .u64 (loW (Go.Proofs.YtpomhcclnhddmaaDoor.wr (S + X))))).far (p := ⟨w.heap.size + 1, 2, none⟩) (by simp) (.bool (decide (inW (S + X))))
      have hb := (((below_two (below_alloc hb (Nat.le_refl _) (oW (hiW X) (loW X))) hb3).setCell (p := ⟨w.heap.size + 1, 0, none⟩) (by simp) (.int .i64 (hiW (Go.Proofs.YtpomhcclnhddmaaDoor.wr (S + X))))).setCell (p := ⟨w.heap.size + 1, 1, none⟩) (by simp) (.int .u64 (loW (Go.Proofs.YtpomhcclnhddmaaDoor.wr (S + X))))).setCell (p := ⟨w.heap.size + 1, 2, none⟩) (by simp) (.bool (decide (inW (S + X))))
      clear hb3 HM c0 c2
      generalize ((w3.setCell ⟨w.heap.size + 1, 0, none⟩ (.int .i64 (hiW (Go.Proofs.YtpomhcclnhddmaaDoor.wr (S + X))))).setCell ⟨w.heap.size + 1, 1, none⟩ (.int .u64 (loW (Go.Proofs.YtpomhcclnhddmaaDoor.wr (S + X))))).setCell ⟨w.heap.size + 1, 2, none⟩ (.bool (decide (inW (S + X)))) = w4 at *
      by_cases hin : inW (S + X)
      · rw [decide_eq_true hin] at k1 ⊢
        rw [wr_id hin] at k1
        have HIN := hid hin
        clear hin
        have HS2 := hid (show sumW 0 Xs = sumW (S + X) (Xs.drop (i + 1)) by rw [HSUM.out, HST.out, if_pos HIN.out])
        go_wp2
        exact ⟨⟨i + 1, S + X, by omega, by go_num, HIN, HS2.out, k0, k1, hb⟩, by simp [RowKit.intOf]; omega⟩
      · have HT := hid (fun w => tw_of (told_c (S + X) w))
        rw [decide_eq_false hin] at k1 HT ⊢
        have HS2 := hid (show sumW 0 Xs = S + X by rw [HSUM.out, HST.out, if_neg hin])
        clear hin
        change Hid (∀ w, Calls Tryd.prog 43 #[wv (hiW (Go.Proofs.YtpomhcclnhddmaaDoor.wr (S + X))) (loW (Go.Proofs.YtpomhcclnhddmaaDoor.wr (S + X))), .bool false] w (RetTW (S + X) w)) at HT
        generalize hiW (Go.Proofs.YtpomhcclnhddmaaDoor.wr (S + X)) = zh at *
        generalize loW (Go.Proofs.YtpomhcclnhddmaaDoor.wr (S + X)) = zl at *
        obtain ⟨c0, c1, c3, f0, f1, f3, hl⟩ := k1.three
        obtain ⟨d0, d1, g0, g1, hm⟩ := k0.two
        go_wp2_with fail
        refine (HT.out _).mono ?_
        rintro e w5 ⟨h, l, k, rfl, HTW, hb5⟩
        have k05 := k0.under hb5
        have hb05 := below_two hb hb5
        clear c0 c1 c3 f0 f1 f3 hl d0 d1 g0 g1 hm
        obtain ⟨d0, d1, g0, g1, hm⟩ := k05.two
        go_wp2
        try rw [Exit.noGoto_ret]
        exact ret_wt rfl rfl rfl rfl (k05.set2 _ _) ⟨h, l, k, rfl, (by rw [HS2.out]; exact HTW), (hb05.setCell (p := ⟨_, 0, none⟩) (Nat.le_refl _) _).setCell (p := ⟨_, 1, none⟩) (Nat.le_refl _) _⟩
    · obtain rfl : i = n := by omega
      have HT := hid (fun w => tw_of (told_c S w))
      rw [wr_id hS.out, decide_eq_true hS.out] at HT
      have HS2 := hid (show sumW 0 Xs = S by rw [HSUM.out, List.drop_of_length_le (by rw [HL.out]; exact Nat.le_refl _)]; rfl)
      change Hid (∀ w, Calls Tryd.prog 43 #[wv (hiW S) (loW S), .bool true] w (RetTW S w)) at HT
      obtain ⟨c0, c1, c3, f0, f1, f3, hl⟩ := k1.three
      obtain ⟨d0, d1, g0, g1, hm⟩ := k0.two
      go_wp2_with fail
      refine (HT.out _).mono ?_
      rintro e w5 ⟨h, l, k, rfl, HTW, hb5⟩
      have k05 := k0.under hb5
      have hb05 := below_two hb hb5
      clear c0 c1 c3 f0 f1 f3 hl d0 d1 g0 g1 hm
      obtain ⟨d0, d1, g0, g1, hm⟩ := k05.two
      go_wp2
      try rw [Exit.noGoto_ret]
      exact ret_wt rfl rfl rfl rfl (k05.set2 _ _) ⟨h, l, k, rfl, (by rw [HS2.out]; exact HTW), (hb05.setCell (p := ⟨_, 0, none⟩) (Nat.le_refl _) _).setCell (p := ⟨_, 1, none⟩) (Nat.le_refl _) _⟩
end Go.Proofs.YtpomhcclnhddmaaDoor
