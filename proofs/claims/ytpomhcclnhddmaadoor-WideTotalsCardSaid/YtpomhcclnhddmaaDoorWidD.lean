/- Contracts of the package wide: difference. -/
import Derived.Test.YtpomhcclnhddmaaDoorWidC
namespace Go.Proofs.YtpomhcclnhddmaaDoor
open Go.RowKit Go.Shelf
set_option linter.unusedVariables false
set_option maxRecDepth 100000 in
set_option maxHeartbeats 4000000 in
theorem dif_c (X Y : Int) (hX : inW X) (hY : inW Y) (w : World) :
    Calls Tryd.prog 45 #[wV X, wV Y] w fun e w' => e = .returned (.tuple #[wV (wr (X - Y)), .bool (decide (inW (X - Y)))]) ∧ Below w.heap.size w w' := by
  have hft := dif_fits hX hY
  have hwo := @dif_words (X / 18446744073709551616) (X % 18446744073709551616) (Y / 18446744073709551616) (Y % 18446744073709551616)
  rw [show X / 18446744073709551616 * 18446744073709551616 + X % 18446744073709551616 = X by omega, show Y / 18446744073709551616 * 18446744073709551616 + Y % 18446744073709551616 = Y by omega] at hwo
  have hwo := hwo (lo_in X).1 (lo_in X).2 (lo_in Y).1 (lo_in Y).2
  have hsg := hi_neg (wr (X - Y))
  obtain ⟨s0, s1⟩ := hi_in (wr_in (X - Y))
  obtain ⟨l0, l1⟩ := lo_in (wr (X - Y))
  have hxg := hi_neg X
  have hyg := hi_neg Y
  obtain ⟨a0, a1⟩ := hi_in hX
  obtain ⟨b0, b1⟩ := lo_in X
  obtain ⟨c0, c1⟩ := hi_in hY
  obtain ⟨d0, d1⟩ := lo_in Y
  show Calls Tryd.prog 45 #[wv (X / 18446744073709551616) (X % 18446744073709551616), wv (Y / 18446744073709551616) (Y % 18446744073709551616)] w fun e w' => e = .returned (.tuple #[wv (wr (X - Y) / 18446744073709551616) (wr (X - Y) % 18446744073709551616), .bool (decide (inW (X - Y)))]) ∧ Below w.heap.size w w'
  rw [hft]
  simp only [← hsg, ← hxg, ← hyg]
  clear hsg hxg hyg hft hX hY
  generalize wr (X - Y) / 18446744073709551616 = s at *
  generalize wr (X - Y) % 18446744073709551616 = lo at *
  generalize X / 18446744073709551616 = a at *
  generalize X % 18446744073709551616 = b at *
  generalize Y / 18446744073709551616 = c at *
  generalize Y % 18446744073709551616 = d at *
  obtain ⟨hh, hl⟩ := hwo
  obtain ⟨cy, hcy⟩ : ∃ z, z = bor b d := ⟨_, rfl⟩
  have q0 : 0 ≤ cy := by rw [hcy]; exact (bor_01 b d).1
  have q1 : cy ≤ 1 := by rw [hcy]; exact (bor_01 b d).2
  obtain ⟨ua, hua⟩ : ∃ z, z = a % 18446744073709551616 := ⟨_, rfl⟩
  obtain ⟨uc, huc⟩ : ∃ z, z = c % 18446744073709551616 := ⟨_, rfl⟩
  have e1 : IntKind.u64.wrap a = ua := by rw [hua]; exact IntKind.wrap_u64 a
  have e2 : IntKind.u64.wrap c = uc := by rw [huc]; exact IntKind.wrap_u64 c
  have f1 := fun w => sub64 b d 0 b0 d0 d1 (by decide) (by decide) w
  rw [Int.sub_zero, Int.add_zero, hl, show (if b < d then (1 : Int) else 0) = cy from hcy.symm] at f1
  have f2 := fun w => sub64 ua uc cy (by omega) (by omega) (by omega) q0 q1 w
  obtain ⟨c2, hc2⟩ : ∃ z : Int, z = if ua < uc + cy then 1 else 0 := ⟨_, rfl⟩
  rw [← hc2] at f2
  obtain ⟨uh, huh⟩ : ∃ z, z = (ua - uc - cy) % 18446744073709551616 := ⟨_, rfl⟩
  rw [← huh] at f2
  have e3 : wrap64 uh = s := by rw [huh, hua, huc, hcy]; exact hh
  have g1 : 0 ≤ ua := by omega
  have g2 : 0 ≤ uc := by omega
  have hW := below_two (ba3 w (oW a b) (oW c d) (oW 0 0)) (ba1 _ (oW s lo))
  have K2 := ((((Blk.new w 24 #[.int .i64 a, .int .u64 b]).alloc (oW c d)).alloc (oW 0 0)).alloc (oW s lo))
  have K3 := (((Blk.new_at (g := w.heap.size + 1) (w.alloc (oW a b)) 24 #[.int .i64 c, .int .u64 d] (by simp)).alloc (oW 0 0)).alloc (oW s lo))
  have K4 := ((Blk.new_at (g := w.heap.size + 1 + 1) ((w.alloc (oW a b)).alloc (oW c d)) 24 #[.int .i64 0, .int .u64 0] (by simp)).alloc (oW s lo))
  have K10 := (Blk.new_at (g := w.heap.size + 1 + 1 + 1) (((w.alloc (oW a b)).alloc (oW c d)).alloc (oW 0 0)) 24 #[.int .i64 s, .int .u64 lo] (by simp))
  clear hh hl hcy hua huc huh hc2
  go_enter Tryd.func45, Tryd.ntmps45
  go_wp2_with (first | simp only [f1] | simp only [f2])
  have hw4 : (w.alloc (oW a b)).alloc (oW c d) = (w.alloc (oW a b)).alloc (oW c d) := rfl
  generalize (((w.alloc (oW a b)).alloc (oW c d)).alloc (oW 0 0)).alloc (oW s lo) = W at *
  clear hw4
  obtain ⟨g2, hg2⟩ : ∃ g, g = w.heap.size := ⟨_, rfl⟩
  obtain ⟨g3, hg3⟩ : ∃ g, g = w.heap.size + 1 := ⟨_, rfl⟩
  obtain ⟨g4, hg4⟩ : ∃ g, g = w.heap.size + 1 + 1 := ⟨_, rfl⟩
  obtain ⟨g10, hg10⟩ : ∃ g, g = w.heap.size + 1 + 1 + 1 := ⟨_, rfl⟩
  rw [← hg10] at K10 ⊢
  rw [← hg4] at K4 ⊢
  rw [← hg3] at K3 ⊢
  rw [← hg2] at K2
  rw [show (⟨w.heap.size, 0, none⟩ : Addr) = ⟨g2, 0, none⟩ by rw [hg2]]
  have n1 : g10 ≠ g4 := by omega
  have n2 : g2 ≠ g4 := by omega
  have n3 : g3 ≠ g4 := by omega
  have hB4 : w.heap.size ≤ g4 := by omega
  have HW := Lib.hid hW
  have HB := Lib.hid hB4
  clear hg2 hg3 hg4 hg10 hW hB4 f1 f2 e1 e2 e3
  obtain ⟨c40, c41, f40, f41, l4⟩ := K4.two
  have hend : ∀ (a' : Act) (F G : Bool), F = G → a'.tmps.getD 4 undef = .pointer (some ⟨g4, 0, none⟩) → a'.tmps.getD 5 undef = .bool F → a'.defers = [] → bodyPost Tryd.prog Tryd.f45 (fun e w' => e = .returned (.tuple #[wv s lo, .bool G]) ∧ Below w.heap.size w w') .ret a' ((W.setCell ⟨g4, 0, none⟩ (.int .i64 s)).setCell ⟨g4, 1, none⟩ (.int .u64 lo)).drew := by
    intro a' F G hF h4 h5 h6
    subst hF
    have k4 := (K4.set2 (.int .i64 s) (.int .u64 lo)).drew
    obtain ⟨c40', c41', _, _, _⟩ := k4.two
    refine bodyPost_ret (v := .tuple #[wv s lo, .bool F]) ?_ h6 ⟨rfl, ?_⟩
    · rw [Array.getD_eq_getD_getElem?] at h4 h5
      simp [results, Tryd.results45, go_sem, h4, h5, c40', c41']
    · have hb := (HW.out.setCell (p := ⟨g4, 0, none⟩) HB.out (.int .i64 s)).setCell (p := ⟨g4, 1, none⟩) HB.out (.int .u64 lo)
      exact ⟨hb.os, hb.tape, hb.output, hb.size, hb.block⟩
  by_cases hz : a < 0 <;> by_cases hy : c < 0
  · refine wp_region_noPanic ?_
    refine wp_region_held_drew (S := (fun w' => Blk w' g10 24 #[.int .i64 s, .int .u64 lo] ∧ Blk w' g2 24 #[.int .i64 a, .int .u64 b] ∧ Blk w' g3 24 #[.int .i64 c, .int .u64 d])) (by kernel_rfl) ⟨K10.drew, K2.drew, K3.drew⟩ (fun hHeld => ?_)
    refine wpAnyH_take (i := 0) (v := ?_) rfl (by kernel_rfl) (by kernel_rfl) (by kernel_rfl) (fun _ _ _ h => h) (Or.inl ⟨by rfl, ?_⟩) (by assumption) ?_
    rotate_left
    · intro W hW
      obtain ⟨k10, k2, k3⟩ := hW
      obtain ⟨c100, c101, f100, f101, l10⟩ := k10.two
      obtain ⟨c20, c21, f20, f21, l2⟩ := k2.two
      obtain ⟨c30, c31, f30, f31, l3⟩ := k3.two
      go_simp
      try rfl
    simp only [List.getElem_toArray, List.getElem_cons_zero, Act.put, List.setIfInBounds_toArray, List.set_cons_zero, List.set_cons_succ]
    refine wpAnyH_take (i := 1) (v := ?_) rfl (by kernel_rfl) (by kernel_rfl) (by kernel_rfl) (fun _ _ _ h => h) (Or.inl ⟨by rfl, ?_⟩) (by assumption) ?_
    rotate_left
    · intro W hW
      obtain ⟨k10, k2, k3⟩ := hW
      obtain ⟨c100, c101, f100, f101, l10⟩ := k10.two
      obtain ⟨c20, c21, f20, f21, l2⟩ := k2.two
      obtain ⟨c30, c31, f30, f31, l3⟩ := k3.two
      go_simp
      try rfl
    simp only [List.getElem_toArray, List.getElem_cons_succ, List.getElem_cons_zero, Act.put, List.setIfInBounds_toArray, List.set_cons_zero, List.set_cons_succ]
    refine wpAnyH_take (i := 2) (v := ?_) rfl (by kernel_rfl) (by kernel_rfl) (by kernel_rfl) (fun _ _ _ h => h) (Or.inl ⟨by rfl, ?_⟩) (by assumption) ?_
    rotate_left
    · intro W hW
      obtain ⟨k10, k2, k3⟩ := hW
      obtain ⟨c100, c101, f100, f101, l10⟩ := k10.two
      obtain ⟨c20, c21, f20, f21, l2⟩ := k2.two
      obtain ⟨c30, c31, f30, f31, l3⟩ := k3.two
      go_simp
      try rfl
    simp only [List.getElem_toArray, List.getElem_cons_succ, List.getElem_cons_zero, Act.put, List.setIfInBounds_toArray, List.set_cons_zero, List.set_cons_succ]
    refine wpAnyH_take (i := 3) (v := ?_) rfl (by kernel_rfl) (by kernel_rfl) (by kernel_rfl) (fun _ _ _ h => h) (Or.inl ⟨by rfl, ?_⟩) (by assumption) ?_
    rotate_left
    · intro W hW
      obtain ⟨k10, k2, k3⟩ := hW
      obtain ⟨c100, c101, f100, f101, l10⟩ := k10.two
      obtain ⟨c20, c21, f20, f21, l2⟩ := k2.two
      obtain ⟨c30, c31, f30, f31, l3⟩ := k3.two
      go_simp
      try rfl
    simp only [List.getElem_toArray, List.getElem_cons_succ, List.getElem_cons_zero, Act.put, List.setIfInBounds_toArray, List.set_cons_zero, List.set_cons_succ]
    refine wpAnyH_take (i := 4) (v := ?_) rfl (by kernel_rfl) (by kernel_rfl) (by kernel_rfl) (fun _ _ _ h => h) (Or.inl ⟨by rfl, ?_⟩) (by assumption) ?_
    rotate_left
    · intro W hW
      obtain ⟨k10, k2, k3⟩ := hW
      obtain ⟨c100, c101, f100, f101, l10⟩ := k10.two
      obtain ⟨c20, c21, f20, f21, l2⟩ := k2.two
      obtain ⟨c30, c31, f30, f31, l3⟩ := k3.two
      go_simp
      try rfl
    simp only [List.getElem_toArray, List.getElem_cons_succ, List.getElem_cons_zero, Act.put, List.setIfInBounds_toArray, List.set_cons_zero, List.set_cons_succ]
    refine wpAnyH_take (i := 5) (v := ?_) rfl (by kernel_rfl) (by kernel_rfl) (by kernel_rfl) (fun _ _ _ h => h) (Or.inl ⟨by rfl, ?_⟩) (by assumption) ?_
    rotate_left
    · intro W hW
      obtain ⟨k10, k2, k3⟩ := hW
      obtain ⟨c100, c101, f100, f101, l10⟩ := k10.two
      obtain ⟨c20, c21, f20, f21, l2⟩ := k2.two
      obtain ⟨c30, c31, f30, f31, l3⟩ := k3.two
      go_simp
      try rfl
    simp only [List.getElem_toArray, List.getElem_cons_succ, List.getElem_cons_zero, Act.put, List.setIfInBounds_toArray, List.set_cons_zero, List.set_cons_succ]
    refine wpAnyH_take (i := 6) (v := ?_) rfl (by kernel_rfl) (by kernel_rfl) (by kernel_rfl) (fun _ _ _ h => h) (Or.inl ⟨by rfl, ?_⟩) (by assumption) ?_
    rotate_left
    · intro W hW
      obtain ⟨k10, k2, k3⟩ := hW
      obtain ⟨c100, c101, f100, f101, l10⟩ := k10.two
      obtain ⟨c20, c21, f20, f21, l2⟩ := k2.two
      obtain ⟨c30, c31, f30, f31, l3⟩ := k3.two
      go_simp
      try rfl
    simp only [List.getElem_toArray, List.getElem_cons_succ, List.getElem_cons_zero, Act.put, List.setIfInBounds_toArray, List.set_cons_zero, List.set_cons_succ]
    refine wpAnyH_take (i := 7) (v := ?_) rfl (by kernel_rfl) (by kernel_rfl) (by kernel_rfl) (fun _ _ _ h => h) (Or.inl ⟨by rfl, ?_⟩) (by assumption) ?_
    rotate_left
    · intro W hW
      obtain ⟨k10, k2, k3⟩ := hW
      obtain ⟨c100, c101, f100, f101, l10⟩ := k10.two
      obtain ⟨c20, c21, f20, f21, l2⟩ := k2.two
      obtain ⟨c30, c31, f30, f31, l3⟩ := k3.two
      go_simp
      try rfl
    simp only [List.getElem_toArray, List.getElem_cons_succ, List.getElem_cons_zero, Act.put, List.setIfInBounds_toArray, List.set_cons_zero, List.set_cons_succ]
    refine wpAnyH_take (i := 8) (v := ?_) rfl (by kernel_rfl) (by kernel_rfl) (by kernel_rfl) (fun _ _ _ h => h) (Or.inl ⟨by rfl, ?_⟩) (by assumption) ?_
    rotate_left
    · intro W hW
      obtain ⟨k10, k2, k3⟩ := hW
      obtain ⟨c100, c101, f100, f101, l10⟩ := k10.two
      obtain ⟨c20, c21, f20, f21, l2⟩ := k2.two
      obtain ⟨c30, c31, f30, f31, l3⟩ := k3.two
      go_simp
      try rfl
    simp only [List.getElem_toArray, List.getElem_cons_succ, List.getElem_cons_zero, Act.put, List.setIfInBounds_toArray, List.set_cons_zero, List.set_cons_succ]
    refine wpAnyH_take (i := 9) (v := undef) rfl (by kernel_rfl) (by kernel_rfl) (by kernel_rfl) (fun _ _ _ h => h) (Or.inr ⟨by rfl, rfl⟩) (by assumption) ?_
    simp only [List.getElem_toArray, List.getElem_cons_succ, List.getElem_cons_zero, Act.put, List.setIfInBounds_toArray, List.set_cons_zero, List.set_cons_succ]
    refine wpAnyH_take (i := 10) (v := undef) rfl (by kernel_rfl) (by kernel_rfl) (by kernel_rfl) (fun _ _ _ h => h) (Or.inr ⟨by rfl, rfl⟩) (by assumption) ?_
    simp only [List.getElem_toArray, List.getElem_cons_succ, List.getElem_cons_zero, Act.put, List.setIfInBounds_toArray, List.set_cons_zero, List.set_cons_succ]
    refine wpAnyH_take (i := 11) (v := undef) rfl (by kernel_rfl) (by kernel_rfl) (by kernel_rfl) (fun _ _ _ h => h) (Or.inr ⟨by rfl, rfl⟩) (by assumption) ?_
    simp only [List.getElem_toArray, List.getElem_cons_succ, List.getElem_cons_zero, Act.put, List.setIfInBounds_toArray, List.set_cons_zero, List.set_cons_succ]
    refine wpAnyH_take (i := 12) (v := undef) rfl (by kernel_rfl) (by kernel_rfl) (by kernel_rfl) (fun _ _ _ h => h) (Or.inr ⟨by rfl, rfl⟩) (by assumption) ?_
    simp only [List.getElem_toArray, List.getElem_cons_succ, List.getElem_cons_zero, Act.put, List.setIfInBounds_toArray, List.set_cons_zero, List.set_cons_succ]
    refine wpAnyH_take (i := 13) (v := undef) rfl (by kernel_rfl) (by kernel_rfl) (by kernel_rfl) (fun _ _ _ h => h) (Or.inr ⟨by rfl, rfl⟩) (by assumption) ?_
    simp only [List.getElem_toArray, List.getElem_cons_succ, List.getElem_cons_zero, Act.put, List.setIfInBounds_toArray, List.set_cons_zero, List.set_cons_succ]
    refine wpAnyH_take (i := 14) (v := undef) rfl (by kernel_rfl) (by kernel_rfl) (by kernel_rfl) (fun _ _ _ h => h) (Or.inr ⟨by rfl, rfl⟩) (by assumption) ?_
    simp only [List.getElem_toArray, List.getElem_cons_succ, List.getElem_cons_zero, Act.put, List.setIfInBounds_toArray, List.set_cons_zero, List.set_cons_succ]
    refine wpAnyH_take (i := 15) (v := undef) rfl (by kernel_rfl) (by kernel_rfl) (by kernel_rfl) (fun _ _ _ h => h) (Or.inr ⟨by rfl, rfl⟩) (by assumption) ?_
    simp only [List.getElem_toArray, List.getElem_cons_succ, List.getElem_cons_zero, Act.put, List.setIfInBounds_toArray, List.set_cons_zero, List.set_cons_succ]
    refine wpAnyH_take (i := 16) (v := ?_) rfl (by kernel_rfl) (by kernel_rfl) (by kernel_rfl) (fun _ _ _ h => h) (Or.inl ⟨by rfl, ?_⟩) (by assumption) ?_
    rotate_left
    · intro W hW
      obtain ⟨k10, k2, k3⟩ := hW
      obtain ⟨c100, c101, f100, f101, l10⟩ := k10.two
      obtain ⟨c20, c21, f20, f21, l2⟩ := k2.two
      obtain ⟨c30, c31, f30, f31, l3⟩ := k3.two
      go_simp
      try rfl
    simp only [List.getElem_toArray, List.getElem_cons_succ, List.getElem_cons_zero, Act.put, List.setIfInBounds_toArray, List.set_cons_zero, List.set_cons_succ]
    refine wpAnyH_ready (rs := [17]) (by kernel_rfl) (by simp) ?_
    refine AllReadyH.cons rfl (fun K hK => ?_) AllReadyH.nil
    go_simp
    refine hK.out _ _ ⟨(K10.far (p := ⟨g4, 0, none⟩) n1 _).far (p := ⟨g4, 1, none⟩) n1 _, (K2.far (p := ⟨g4, 0, none⟩) n2 _).far (p := ⟨g4, 1, none⟩) n2 _, (K3.far (p := ⟨g4, 0, none⟩) n3 _).far (p := ⟨g4, 1, none⟩) n3 _⟩ (fun hHeld => ?_)
    clear hK K
    try simp only [List.getElem_toArray, List.getElem_cons_succ, List.getElem_cons_zero, Act.put, List.setIfInBounds_toArray, List.set_cons_zero, List.set_cons_succ]
    refine wpAnyH_take (i := 18) (v := ?_) rfl (by kernel_rfl) (by kernel_rfl) (by kernel_rfl) (fun _ _ _ h => h) (Or.inl ⟨by rfl, ?_⟩) (by assumption) ?_
    rotate_left
    · intro W hW
      obtain ⟨k10, k2, k3⟩ := hW
      obtain ⟨c100, c101, f100, f101, l10⟩ := k10.two
      obtain ⟨c20, c21, f20, f21, l2⟩ := k2.two
      obtain ⟨c30, c31, f30, f31, l3⟩ := k3.two
      go_simp
      try rfl
    simp only [List.getElem_toArray, List.getElem_cons_succ, List.getElem_cons_zero, Act.put, List.setIfInBounds_toArray, List.set_cons_zero, List.set_cons_succ]
    refine wpAnyH_done (by kernel_rfl) ?_ _
    refine NoPanic.normal ?_
    go_wp2
  · have ty : decide (c < 0) = false := decide_eq_false hy
    refine wp_region_noPanic ?_
    refine wp_region_held_drew (S := (fun w' => Blk w' g10 24 #[.int .i64 s, .int .u64 lo] ∧ Blk w' g2 24 #[.int .i64 a, .int .u64 b] ∧ Blk w' g3 24 #[.int .i64 c, .int .u64 d])) (by kernel_rfl) ⟨K10.drew, K2.drew, K3.drew⟩ (fun hHeld => ?_)
    refine wpAnyH_take (i := 0) (v := ?_) rfl (by kernel_rfl) (by kernel_rfl) (by kernel_rfl) (fun _ _ _ h => h) (Or.inl ⟨by rfl, ?_⟩) (by assumption) ?_
    rotate_left
    · intro W hW
      obtain ⟨k10, k2, k3⟩ := hW
      obtain ⟨c100, c101, f100, f101, l10⟩ := k10.two
      obtain ⟨c20, c21, f20, f21, l2⟩ := k2.two
      obtain ⟨c30, c31, f30, f31, l3⟩ := k3.two
      go_simp
      try rfl
    simp only [List.getElem_toArray, List.getElem_cons_zero, Act.put, List.setIfInBounds_toArray, List.set_cons_zero, List.set_cons_succ]
    refine wpAnyH_take (i := 1) (v := ?_) rfl (by kernel_rfl) (by kernel_rfl) (by kernel_rfl) (fun _ _ _ h => h) (Or.inl ⟨by rfl, ?_⟩) (by assumption) ?_
    rotate_left
    · intro W hW
      obtain ⟨k10, k2, k3⟩ := hW
      obtain ⟨c100, c101, f100, f101, l10⟩ := k10.two
      obtain ⟨c20, c21, f20, f21, l2⟩ := k2.two
      obtain ⟨c30, c31, f30, f31, l3⟩ := k3.two
      go_simp
      try rfl
    simp only [List.getElem_toArray, List.getElem_cons_succ, List.getElem_cons_zero, Act.put, List.setIfInBounds_toArray, List.set_cons_zero, List.set_cons_succ]
    refine wpAnyH_take (i := 2) (v := ?_) rfl (by kernel_rfl) (by kernel_rfl) (by kernel_rfl) (fun _ _ _ h => h) (Or.inl ⟨by rfl, ?_⟩) (by assumption) ?_
    rotate_left
    · intro W hW
      obtain ⟨k10, k2, k3⟩ := hW
      obtain ⟨c100, c101, f100, f101, l10⟩ := k10.two
      obtain ⟨c20, c21, f20, f21, l2⟩ := k2.two
      obtain ⟨c30, c31, f30, f31, l3⟩ := k3.two
      go_simp
      try rfl
    simp only [List.getElem_toArray, List.getElem_cons_succ, List.getElem_cons_zero, Act.put, List.setIfInBounds_toArray, List.set_cons_zero, List.set_cons_succ]
    refine wpAnyH_take (i := 3) (v := ?_) rfl (by kernel_rfl) (by kernel_rfl) (by kernel_rfl) (fun _ _ _ h => h) (Or.inl ⟨by rfl, ?_⟩) (by assumption) ?_
    rotate_left
    · intro W hW
      obtain ⟨k10, k2, k3⟩ := hW
      obtain ⟨c100, c101, f100, f101, l10⟩ := k10.two
      obtain ⟨c20, c21, f20, f21, l2⟩ := k2.two
      obtain ⟨c30, c31, f30, f31, l3⟩ := k3.two
      go_simp
      try rfl
    simp only [List.getElem_toArray, List.getElem_cons_succ, List.getElem_cons_zero, Act.put, List.setIfInBounds_toArray, List.set_cons_zero, List.set_cons_succ]
    refine wpAnyH_take (i := 4) (v := ?_) rfl (by kernel_rfl) (by kernel_rfl) (by kernel_rfl) (fun _ _ _ h => h) (Or.inl ⟨by rfl, ?_⟩) (by assumption) ?_
    rotate_left
    · intro W hW
      obtain ⟨k10, k2, k3⟩ := hW
      obtain ⟨c100, c101, f100, f101, l10⟩ := k10.two
      obtain ⟨c20, c21, f20, f21, l2⟩ := k2.two
      obtain ⟨c30, c31, f30, f31, l3⟩ := k3.two
      go_simp
      try rfl
    simp only [List.getElem_toArray, List.getElem_cons_succ, List.getElem_cons_zero, Act.put, List.setIfInBounds_toArray, List.set_cons_zero, List.set_cons_succ]
    refine wpAnyH_take (i := 5) (v := ?_) rfl (by kernel_rfl) (by kernel_rfl) (by kernel_rfl) (fun _ _ _ h => h) (Or.inl ⟨by rfl, ?_⟩) (by assumption) ?_
    rotate_left
    · intro W hW
      obtain ⟨k10, k2, k3⟩ := hW
      obtain ⟨c100, c101, f100, f101, l10⟩ := k10.two
      obtain ⟨c20, c21, f20, f21, l2⟩ := k2.two
      obtain ⟨c30, c31, f30, f31, l3⟩ := k3.two
      go_simp
      try rfl
    simp only [List.getElem_toArray, List.getElem_cons_succ, List.getElem_cons_zero, Act.put, List.setIfInBounds_toArray, List.set_cons_zero, List.set_cons_succ]
    refine wpAnyH_take (i := 6) (v := ?_) rfl (by kernel_rfl) (by kernel_rfl) (by kernel_rfl) (fun _ _ _ h => h) (Or.inl ⟨by rfl, ?_⟩) (by assumption) ?_
    rotate_left
    · intro W hW
      obtain ⟨k10, k2, k3⟩ := hW
      obtain ⟨c100, c101, f100, f101, l10⟩ := k10.two
      obtain ⟨c20, c21, f20, f21, l2⟩ := k2.two
      obtain ⟨c30, c31, f30, f31, l3⟩ := k3.two
      go_simp
      try rfl
    simp only [List.getElem_toArray, List.getElem_cons_succ, List.getElem_cons_zero, Act.put, List.setIfInBounds_toArray, List.set_cons_zero, List.set_cons_succ]
    refine wpAnyH_take (i := 7) (v := ?_) rfl (by kernel_rfl) (by kernel_rfl) (by kernel_rfl) (fun _ _ _ h => h) (Or.inl ⟨by rfl, ?_⟩) (by assumption) ?_
    rotate_left
    · intro W hW
      obtain ⟨k10, k2, k3⟩ := hW
      obtain ⟨c100, c101, f100, f101, l10⟩ := k10.two
      obtain ⟨c20, c21, f20, f21, l2⟩ := k2.two
      obtain ⟨c30, c31, f30, f31, l3⟩ := k3.two
      go_simp
      try rfl
    simp only [List.getElem_toArray, List.getElem_cons_succ, List.getElem_cons_zero, Act.put, List.setIfInBounds_toArray, List.set_cons_zero, List.set_cons_succ]
    refine wpAnyH_take (i := 8) (v := ?_) rfl (by kernel_rfl) (by kernel_rfl) (by kernel_rfl) (fun _ _ _ h => h) (Or.inl ⟨by rfl, ?_⟩) (by assumption) ?_
    rotate_left
    · intro W hW
      obtain ⟨k10, k2, k3⟩ := hW
      obtain ⟨c100, c101, f100, f101, l10⟩ := k10.two
      obtain ⟨c20, c21, f20, f21, l2⟩ := k2.two
      obtain ⟨c30, c31, f30, f31, l3⟩ := k3.two
      go_simp
      try rfl
    simp only [List.getElem_toArray, List.getElem_cons_succ, List.getElem_cons_zero, Act.put, List.setIfInBounds_toArray, List.set_cons_zero, List.set_cons_succ]
    refine wpAnyH_take (i := 9) (v := ?_) rfl (by kernel_rfl) (by kernel_rfl) (by kernel_rfl) (fun _ _ _ h => h) (Or.inl ⟨by rfl, ?_⟩) (by assumption) ?_
    rotate_left
    · intro W hW
      obtain ⟨k10, k2, k3⟩ := hW
      obtain ⟨c100, c101, f100, f101, l10⟩ := k10.two
      obtain ⟨c20, c21, f20, f21, l2⟩ := k2.two
      obtain ⟨c30, c31, f30, f31, l3⟩ := k3.two
      go_simp
      try rfl
    simp only [List.getElem_toArray, List.getElem_cons_succ, List.getElem_cons_zero, Act.put, List.setIfInBounds_toArray, List.set_cons_zero, List.set_cons_succ]
    refine wpAnyH_take (i := 10) (v := ?_) rfl (by kernel_rfl) (by kernel_rfl) (by kernel_rfl) (fun _ _ _ h => h) (Or.inl ⟨by rfl, ?_⟩) (by assumption) ?_
    rotate_left
    · intro W hW
      obtain ⟨k10, k2, k3⟩ := hW
      obtain ⟨c100, c101, f100, f101, l10⟩ := k10.two
      obtain ⟨c20, c21, f20, f21, l2⟩ := k2.two
      obtain ⟨c30, c31, f30, f31, l3⟩ := k3.two
      go_simp
      try rfl
    simp only [List.getElem_toArray, List.getElem_cons_succ, List.getElem_cons_zero, Act.put, List.setIfInBounds_toArray, List.set_cons_zero, List.set_cons_succ]
    refine wpAnyH_take (i := 11) (v := ?_) rfl (by kernel_rfl) (by kernel_rfl) (by kernel_rfl) (fun _ _ _ h => h) (Or.inl ⟨by rfl, ?_⟩) (by assumption) ?_
    rotate_left
    · intro W hW
      obtain ⟨k10, k2, k3⟩ := hW
      obtain ⟨c100, c101, f100, f101, l10⟩ := k10.two
      obtain ⟨c20, c21, f20, f21, l2⟩ := k2.two
      obtain ⟨c30, c31, f30, f31, l3⟩ := k3.two
      go_simp
      try rfl
    simp only [List.getElem_toArray, List.getElem_cons_succ, List.getElem_cons_zero, Act.put, List.setIfInBounds_toArray, List.set_cons_zero, List.set_cons_succ]
    refine wpAnyH_take (i := 12) (v := ?_) rfl (by kernel_rfl) (by kernel_rfl) (by kernel_rfl) (fun _ _ _ h => h) (Or.inl ⟨by rfl, ?_⟩) (by assumption) ?_
    rotate_left
    · intro W hW
      obtain ⟨k10, k2, k3⟩ := hW
      obtain ⟨c100, c101, f100, f101, l10⟩ := k10.two
      obtain ⟨c20, c21, f20, f21, l2⟩ := k2.two
      obtain ⟨c30, c31, f30, f31, l3⟩ := k3.two
      go_simp
      try rfl
    simp only [List.getElem_toArray, List.getElem_cons_succ, List.getElem_cons_zero, Act.put, List.setIfInBounds_toArray, List.set_cons_zero, List.set_cons_succ]
    refine wpAnyH_take (i := 13) (v := ?_) rfl (by kernel_rfl) (by kernel_rfl) (by kernel_rfl) (fun _ _ _ h => h) (Or.inl ⟨by rfl, ?_⟩) (by assumption) ?_
    rotate_left
    · intro W hW
      obtain ⟨k10, k2, k3⟩ := hW
      obtain ⟨c100, c101, f100, f101, l10⟩ := k10.two
      obtain ⟨c20, c21, f20, f21, l2⟩ := k2.two
      obtain ⟨c30, c31, f30, f31, l3⟩ := k3.two
      go_simp
      try rfl
    simp only [List.getElem_toArray, List.getElem_cons_succ, List.getElem_cons_zero, Act.put, List.setIfInBounds_toArray, List.set_cons_zero, List.set_cons_succ]
    refine wpAnyH_take (i := 14) (v := ?_) rfl (by kernel_rfl) (by kernel_rfl) (by kernel_rfl) (fun _ _ _ h => h) (Or.inl ⟨by rfl, ?_⟩) (by assumption) ?_
    rotate_left
    · intro W hW
      obtain ⟨k10, k2, k3⟩ := hW
      obtain ⟨c100, c101, f100, f101, l10⟩ := k10.two
      obtain ⟨c20, c21, f20, f21, l2⟩ := k2.two
      obtain ⟨c30, c31, f30, f31, l3⟩ := k3.two
      go_simp
      try rfl
    simp only [List.getElem_toArray, List.getElem_cons_succ, List.getElem_cons_zero, Act.put, List.setIfInBounds_toArray, List.set_cons_zero, List.set_cons_succ]
    refine wpAnyH_take (i := 15) (v := ?_) rfl (by kernel_rfl) (by kernel_rfl) (by kernel_rfl) (fun _ _ _ h => h) (Or.inl ⟨by rfl, ?_⟩) (by assumption) ?_
    rotate_left
    · intro W hW
      obtain ⟨k10, k2, k3⟩ := hW
      obtain ⟨c100, c101, f100, f101, l10⟩ := k10.two
      obtain ⟨c20, c21, f20, f21, l2⟩ := k2.two
      obtain ⟨c30, c31, f30, f31, l3⟩ := k3.two
      go_simp
      try rfl
    simp only [List.getElem_toArray, List.getElem_cons_succ, List.getElem_cons_zero, Act.put, List.setIfInBounds_toArray, List.set_cons_zero, List.set_cons_succ]
    refine wpAnyH_take (i := 16) (v := ?_) rfl (by kernel_rfl) (by kernel_rfl) (by kernel_rfl) (fun _ _ _ h => h) (Or.inl ⟨by rfl, ?_⟩) (by assumption) ?_
    rotate_left
    · intro W hW
      obtain ⟨k10, k2, k3⟩ := hW
      obtain ⟨c100, c101, f100, f101, l10⟩ := k10.two
      obtain ⟨c20, c21, f20, f21, l2⟩ := k2.two
      obtain ⟨c30, c31, f30, f31, l3⟩ := k3.two
      go_simp
      try rfl
    simp only [List.getElem_toArray, List.getElem_cons_succ, List.getElem_cons_zero, Act.put, List.setIfInBounds_toArray, List.set_cons_zero, List.set_cons_succ]
    refine wpAnyH_ready (rs := [17]) (by kernel_rfl) (by simp) ?_
    refine AllReadyH.cons rfl (fun K hK => ?_) AllReadyH.nil
    go_simp
    refine hK.out _ _ ⟨(K10.far (p := ⟨g4, 0, none⟩) n1 _).far (p := ⟨g4, 1, none⟩) n1 _, (K2.far (p := ⟨g4, 0, none⟩) n2 _).far (p := ⟨g4, 1, none⟩) n2 _, (K3.far (p := ⟨g4, 0, none⟩) n3 _).far (p := ⟨g4, 1, none⟩) n3 _⟩ (fun hHeld => ?_)
    clear hK K
    try simp only [List.getElem_toArray, List.getElem_cons_succ, List.getElem_cons_zero, Act.put, List.setIfInBounds_toArray, List.set_cons_zero, List.set_cons_succ]
    refine wpAnyH_take (i := 18) (v := ?_) rfl (by kernel_rfl) (by kernel_rfl) (by kernel_rfl) (fun _ _ _ h => h) (Or.inl ⟨by rfl, ?_⟩) (by assumption) ?_
    rotate_left
    · intro W hW
      obtain ⟨k10, k2, k3⟩ := hW
      obtain ⟨c100, c101, f100, f101, l10⟩ := k10.two
      obtain ⟨c20, c21, f20, f21, l2⟩ := k2.two
      obtain ⟨c30, c31, f30, f31, l3⟩ := k3.two
      go_simp
      try rfl
    simp only [List.getElem_toArray, List.getElem_cons_succ, List.getElem_cons_zero, Act.put, List.setIfInBounds_toArray, List.set_cons_zero, List.set_cons_succ]
    refine wpAnyH_done (by kernel_rfl) ?_ _
    refine NoPanic.normal ?_
    go_wp2
  · have tz : decide (a < 0) = false := decide_eq_false hz
    refine wp_region_noPanic ?_
    refine wp_region_held_drew (S := (fun w' => Blk w' g10 24 #[.int .i64 s, .int .u64 lo] ∧ Blk w' g2 24 #[.int .i64 a, .int .u64 b] ∧ Blk w' g3 24 #[.int .i64 c, .int .u64 d])) (by kernel_rfl) ⟨K10.drew, K2.drew, K3.drew⟩ (fun hHeld => ?_)
    refine wpAnyH_take (i := 0) (v := ?_) rfl (by kernel_rfl) (by kernel_rfl) (by kernel_rfl) (fun _ _ _ h => h) (Or.inl ⟨by rfl, ?_⟩) (by assumption) ?_
    rotate_left
    · intro W hW
      obtain ⟨k10, k2, k3⟩ := hW
      obtain ⟨c100, c101, f100, f101, l10⟩ := k10.two
      obtain ⟨c20, c21, f20, f21, l2⟩ := k2.two
      obtain ⟨c30, c31, f30, f31, l3⟩ := k3.two
      go_simp
      try rfl
    simp only [List.getElem_toArray, List.getElem_cons_zero, Act.put, List.setIfInBounds_toArray, List.set_cons_zero, List.set_cons_succ]
    refine wpAnyH_take (i := 1) (v := ?_) rfl (by kernel_rfl) (by kernel_rfl) (by kernel_rfl) (fun _ _ _ h => h) (Or.inl ⟨by rfl, ?_⟩) (by assumption) ?_
    rotate_left
    · intro W hW
      obtain ⟨k10, k2, k3⟩ := hW
      obtain ⟨c100, c101, f100, f101, l10⟩ := k10.two
      obtain ⟨c20, c21, f20, f21, l2⟩ := k2.two
      obtain ⟨c30, c31, f30, f31, l3⟩ := k3.two
      go_simp
      try rfl
    simp only [List.getElem_toArray, List.getElem_cons_succ, List.getElem_cons_zero, Act.put, List.setIfInBounds_toArray, List.set_cons_zero, List.set_cons_succ]
    refine wpAnyH_take (i := 2) (v := ?_) rfl (by kernel_rfl) (by kernel_rfl) (by kernel_rfl) (fun _ _ _ h => h) (Or.inl ⟨by rfl, ?_⟩) (by assumption) ?_
    rotate_left
    · intro W hW
      obtain ⟨k10, k2, k3⟩ := hW
      obtain ⟨c100, c101, f100, f101, l10⟩ := k10.two
      obtain ⟨c20, c21, f20, f21, l2⟩ := k2.two
      obtain ⟨c30, c31, f30, f31, l3⟩ := k3.two
      go_simp
      try rfl
    simp only [List.getElem_toArray, List.getElem_cons_succ, List.getElem_cons_zero, Act.put, List.setIfInBounds_toArray, List.set_cons_zero, List.set_cons_succ]
    refine wpAnyH_take (i := 3) (v := ?_) rfl (by kernel_rfl) (by kernel_rfl) (by kernel_rfl) (fun _ _ _ h => h) (Or.inl ⟨by rfl, ?_⟩) (by assumption) ?_
    rotate_left
    · intro W hW
      obtain ⟨k10, k2, k3⟩ := hW
      obtain ⟨c100, c101, f100, f101, l10⟩ := k10.two
      obtain ⟨c20, c21, f20, f21, l2⟩ := k2.two
      obtain ⟨c30, c31, f30, f31, l3⟩ := k3.two
      go_simp
      try rfl
    simp only [List.getElem_toArray, List.getElem_cons_succ, List.getElem_cons_zero, Act.put, List.setIfInBounds_toArray, List.set_cons_zero, List.set_cons_succ]
    refine wpAnyH_take (i := 4) (v := ?_) rfl (by kernel_rfl) (by kernel_rfl) (by kernel_rfl) (fun _ _ _ h => h) (Or.inl ⟨by rfl, ?_⟩) (by assumption) ?_
    rotate_left
    · intro W hW
      obtain ⟨k10, k2, k3⟩ := hW
      obtain ⟨c100, c101, f100, f101, l10⟩ := k10.two
      obtain ⟨c20, c21, f20, f21, l2⟩ := k2.two
      obtain ⟨c30, c31, f30, f31, l3⟩ := k3.two
      go_simp
      try rfl
    simp only [List.getElem_toArray, List.getElem_cons_succ, List.getElem_cons_zero, Act.put, List.setIfInBounds_toArray, List.set_cons_zero, List.set_cons_succ]
    refine wpAnyH_take (i := 5) (v := ?_) rfl (by kernel_rfl) (by kernel_rfl) (by kernel_rfl) (fun _ _ _ h => h) (Or.inl ⟨by rfl, ?_⟩) (by assumption) ?_
    rotate_left
    · intro W hW
      obtain ⟨k10, k2, k3⟩ := hW
      obtain ⟨c100, c101, f100, f101, l10⟩ := k10.two
      obtain ⟨c20, c21, f20, f21, l2⟩ := k2.two
      obtain ⟨c30, c31, f30, f31, l3⟩ := k3.two
      go_simp
      try rfl
    simp only [List.getElem_toArray, List.getElem_cons_succ, List.getElem_cons_zero, Act.put, List.setIfInBounds_toArray, List.set_cons_zero, List.set_cons_succ]
    refine wpAnyH_take (i := 6) (v := ?_) rfl (by kernel_rfl) (by kernel_rfl) (by kernel_rfl) (fun _ _ _ h => h) (Or.inl ⟨by rfl, ?_⟩) (by assumption) ?_
    rotate_left
    · intro W hW
      obtain ⟨k10, k2, k3⟩ := hW
      obtain ⟨c100, c101, f100, f101, l10⟩ := k10.two
      obtain ⟨c20, c21, f20, f21, l2⟩ := k2.two
      obtain ⟨c30, c31, f30, f31, l3⟩ := k3.two
      go_simp
      try rfl
    simp only [List.getElem_toArray, List.getElem_cons_succ, List.getElem_cons_zero, Act.put, List.setIfInBounds_toArray, List.set_cons_zero, List.set_cons_succ]
    refine wpAnyH_take (i := 7) (v := ?_) rfl (by kernel_rfl) (by kernel_rfl) (by kernel_rfl) (fun _ _ _ h => h) (Or.inl ⟨by rfl, ?_⟩) (by assumption) ?_
    rotate_left
    · intro W hW
      obtain ⟨k10, k2, k3⟩ := hW
      obtain ⟨c100, c101, f100, f101, l10⟩ := k10.two
      obtain ⟨c20, c21, f20, f21, l2⟩ := k2.two
      obtain ⟨c30, c31, f30, f31, l3⟩ := k3.two
      go_simp
      try rfl
    simp only [List.getElem_toArray, List.getElem_cons_succ, List.getElem_cons_zero, Act.put, List.setIfInBounds_toArray, List.set_cons_zero, List.set_cons_succ]
    refine wpAnyH_take (i := 8) (v := ?_) rfl (by kernel_rfl) (by kernel_rfl) (by kernel_rfl) (fun _ _ _ h => h) (Or.inl ⟨by rfl, ?_⟩) (by assumption) ?_
    rotate_left
    · intro W hW
      obtain ⟨k10, k2, k3⟩ := hW
      obtain ⟨c100, c101, f100, f101, l10⟩ := k10.two
      obtain ⟨c20, c21, f20, f21, l2⟩ := k2.two
      obtain ⟨c30, c31, f30, f31, l3⟩ := k3.two
      go_simp
      try rfl
    simp only [List.getElem_toArray, List.getElem_cons_succ, List.getElem_cons_zero, Act.put, List.setIfInBounds_toArray, List.set_cons_zero, List.set_cons_succ]
    refine wpAnyH_take (i := 9) (v := ?_) rfl (by kernel_rfl) (by kernel_rfl) (by kernel_rfl) (fun _ _ _ h => h) (Or.inl ⟨by rfl, ?_⟩) (by assumption) ?_
    rotate_left
    · intro W hW
      obtain ⟨k10, k2, k3⟩ := hW
      obtain ⟨c100, c101, f100, f101, l10⟩ := k10.two
      obtain ⟨c20, c21, f20, f21, l2⟩ := k2.two
      obtain ⟨c30, c31, f30, f31, l3⟩ := k3.two
      go_simp
      try rfl
    simp only [List.getElem_toArray, List.getElem_cons_succ, List.getElem_cons_zero, Act.put, List.setIfInBounds_toArray, List.set_cons_zero, List.set_cons_succ]
    refine wpAnyH_take (i := 10) (v := ?_) rfl (by kernel_rfl) (by kernel_rfl) (by kernel_rfl) (fun _ _ _ h => h) (Or.inl ⟨by rfl, ?_⟩) (by assumption) ?_
    rotate_left
    · intro W hW
      obtain ⟨k10, k2, k3⟩ := hW
      obtain ⟨c100, c101, f100, f101, l10⟩ := k10.two
      obtain ⟨c20, c21, f20, f21, l2⟩ := k2.two
      obtain ⟨c30, c31, f30, f31, l3⟩ := k3.two
      go_simp
      try rfl
    simp only [List.getElem_toArray, List.getElem_cons_succ, List.getElem_cons_zero, Act.put, List.setIfInBounds_toArray, List.set_cons_zero, List.set_cons_succ]
    refine wpAnyH_take (i := 11) (v := ?_) rfl (by kernel_rfl) (by kernel_rfl) (by kernel_rfl) (fun _ _ _ h => h) (Or.inl ⟨by rfl, ?_⟩) (by assumption) ?_
    rotate_left
    · intro W hW
      obtain ⟨k10, k2, k3⟩ := hW
      obtain ⟨c100, c101, f100, f101, l10⟩ := k10.two
      obtain ⟨c20, c21, f20, f21, l2⟩ := k2.two
      obtain ⟨c30, c31, f30, f31, l3⟩ := k3.two
      go_simp
      try rfl
    simp only [List.getElem_toArray, List.getElem_cons_succ, List.getElem_cons_zero, Act.put, List.setIfInBounds_toArray, List.set_cons_zero, List.set_cons_succ]
    refine wpAnyH_take (i := 12) (v := ?_) rfl (by kernel_rfl) (by kernel_rfl) (by kernel_rfl) (fun _ _ _ h => h) (Or.inl ⟨by rfl, ?_⟩) (by assumption) ?_
    rotate_left
    · intro W hW
      obtain ⟨k10, k2, k3⟩ := hW
      obtain ⟨c100, c101, f100, f101, l10⟩ := k10.two
      obtain ⟨c20, c21, f20, f21, l2⟩ := k2.two
      obtain ⟨c30, c31, f30, f31, l3⟩ := k3.two
      go_simp
      try rfl
    simp only [List.getElem_toArray, List.getElem_cons_succ, List.getElem_cons_zero, Act.put, List.setIfInBounds_toArray, List.set_cons_zero, List.set_cons_succ]
    refine wpAnyH_take (i := 13) (v := ?_) rfl (by kernel_rfl) (by kernel_rfl) (by kernel_rfl) (fun _ _ _ h => h) (Or.inl ⟨by rfl, ?_⟩) (by assumption) ?_
    rotate_left
    · intro W hW
      obtain ⟨k10, k2, k3⟩ := hW
      obtain ⟨c100, c101, f100, f101, l10⟩ := k10.two
      obtain ⟨c20, c21, f20, f21, l2⟩ := k2.two
      obtain ⟨c30, c31, f30, f31, l3⟩ := k3.two
      go_simp
      try rfl
    simp only [List.getElem_toArray, List.getElem_cons_succ, List.getElem_cons_zero, Act.put, List.setIfInBounds_toArray, List.set_cons_zero, List.set_cons_succ]
    refine wpAnyH_take (i := 14) (v := ?_) rfl (by kernel_rfl) (by kernel_rfl) (by kernel_rfl) (fun _ _ _ h => h) (Or.inl ⟨by rfl, ?_⟩) (by assumption) ?_
    rotate_left
    · intro W hW
      obtain ⟨k10, k2, k3⟩ := hW
      obtain ⟨c100, c101, f100, f101, l10⟩ := k10.two
      obtain ⟨c20, c21, f20, f21, l2⟩ := k2.two
      obtain ⟨c30, c31, f30, f31, l3⟩ := k3.two
      go_simp
      try rfl
    simp only [List.getElem_toArray, List.getElem_cons_succ, List.getElem_cons_zero, Act.put, List.setIfInBounds_toArray, List.set_cons_zero, List.set_cons_succ]
    refine wpAnyH_take (i := 15) (v := ?_) rfl (by kernel_rfl) (by kernel_rfl) (by kernel_rfl) (fun _ _ _ h => h) (Or.inl ⟨by rfl, ?_⟩) (by assumption) ?_
    rotate_left
    · intro W hW
      obtain ⟨k10, k2, k3⟩ := hW
      obtain ⟨c100, c101, f100, f101, l10⟩ := k10.two
      obtain ⟨c20, c21, f20, f21, l2⟩ := k2.two
      obtain ⟨c30, c31, f30, f31, l3⟩ := k3.two
      go_simp
      try rfl
    simp only [List.getElem_toArray, List.getElem_cons_succ, List.getElem_cons_zero, Act.put, List.setIfInBounds_toArray, List.set_cons_zero, List.set_cons_succ]
    refine wpAnyH_take (i := 16) (v := ?_) rfl (by kernel_rfl) (by kernel_rfl) (by kernel_rfl) (fun _ _ _ h => h) (Or.inl ⟨by rfl, ?_⟩) (by assumption) ?_
    rotate_left
    · intro W hW
      obtain ⟨k10, k2, k3⟩ := hW
      obtain ⟨c100, c101, f100, f101, l10⟩ := k10.two
      obtain ⟨c20, c21, f20, f21, l2⟩ := k2.two
      obtain ⟨c30, c31, f30, f31, l3⟩ := k3.two
      go_simp
      try rfl
    simp only [List.getElem_toArray, List.getElem_cons_succ, List.getElem_cons_zero, Act.put, List.setIfInBounds_toArray, List.set_cons_zero, List.set_cons_succ]
    refine wpAnyH_ready (rs := [17]) (by kernel_rfl) (by simp) ?_
    refine AllReadyH.cons rfl (fun K hK => ?_) AllReadyH.nil
    go_simp
    refine hK.out _ _ ⟨(K10.far (p := ⟨g4, 0, none⟩) n1 _).far (p := ⟨g4, 1, none⟩) n1 _, (K2.far (p := ⟨g4, 0, none⟩) n2 _).far (p := ⟨g4, 1, none⟩) n2 _, (K3.far (p := ⟨g4, 0, none⟩) n3 _).far (p := ⟨g4, 1, none⟩) n3 _⟩ (fun hHeld => ?_)
    clear hK K
    try simp only [List.getElem_toArray, List.getElem_cons_succ, List.getElem_cons_zero, Act.put, List.setIfInBounds_toArray, List.set_cons_zero, List.set_cons_succ]
    refine wpAnyH_take (i := 18) (v := ?_) rfl (by kernel_rfl) (by kernel_rfl) (by kernel_rfl) (fun _ _ _ h => h) (Or.inl ⟨by rfl, ?_⟩) (by assumption) ?_
    rotate_left
    · intro W hW
      obtain ⟨k10, k2, k3⟩ := hW
      obtain ⟨c100, c101, f100, f101, l10⟩ := k10.two
      obtain ⟨c20, c21, f20, f21, l2⟩ := k2.two
      obtain ⟨c30, c31, f30, f31, l3⟩ := k3.two
      go_simp
      try rfl
    simp only [List.getElem_toArray, List.getElem_cons_succ, List.getElem_cons_zero, Act.put, List.setIfInBounds_toArray, List.set_cons_zero, List.set_cons_succ]
    refine wpAnyH_done (by kernel_rfl) ?_ _
    refine NoPanic.normal ?_
    go_wp2
  · have tz : decide (a < 0) = false := decide_eq_false hz
    have ty : decide (c < 0) = false := decide_eq_false hy
    refine wp_region_noPanic ?_
    refine wp_region_held_drew (S := (fun w' => Blk w' g10 24 #[.int .i64 s, .int .u64 lo] ∧ Blk w' g2 24 #[.int .i64 a, .int .u64 b] ∧ Blk w' g3 24 #[.int .i64 c, .int .u64 d])) (by kernel_rfl) ⟨K10.drew, K2.drew, K3.drew⟩ (fun hHeld => ?_)
    refine wpAnyH_take (i := 0) (v := ?_) rfl (by kernel_rfl) (by kernel_rfl) (by kernel_rfl) (fun _ _ _ h => h) (Or.inl ⟨by rfl, ?_⟩) (by assumption) ?_
    rotate_left
    · intro W hW
      obtain ⟨k10, k2, k3⟩ := hW
      obtain ⟨c100, c101, f100, f101, l10⟩ := k10.two
      obtain ⟨c20, c21, f20, f21, l2⟩ := k2.two
      obtain ⟨c30, c31, f30, f31, l3⟩ := k3.two
      go_simp
      try rfl
    simp only [List.getElem_toArray, List.getElem_cons_zero, Act.put, List.setIfInBounds_toArray, List.set_cons_zero, List.set_cons_succ]
    refine wpAnyH_take (i := 1) (v := ?_) rfl (by kernel_rfl) (by kernel_rfl) (by kernel_rfl) (fun _ _ _ h => h) (Or.inl ⟨by rfl, ?_⟩) (by assumption) ?_
    rotate_left
    · intro W hW
      obtain ⟨k10, k2, k3⟩ := hW
      obtain ⟨c100, c101, f100, f101, l10⟩ := k10.two
      obtain ⟨c20, c21, f20, f21, l2⟩ := k2.two
      obtain ⟨c30, c31, f30, f31, l3⟩ := k3.two
      go_simp
      try rfl
    simp only [List.getElem_toArray, List.getElem_cons_succ, List.getElem_cons_zero, Act.put, List.setIfInBounds_toArray, List.set_cons_zero, List.set_cons_succ]
    refine wpAnyH_take (i := 2) (v := ?_) rfl (by kernel_rfl) (by kernel_rfl) (by kernel_rfl) (fun _ _ _ h => h) (Or.inl ⟨by rfl, ?_⟩) (by assumption) ?_
    rotate_left
    · intro W hW
      obtain ⟨k10, k2, k3⟩ := hW
      obtain ⟨c100, c101, f100, f101, l10⟩ := k10.two
      obtain ⟨c20, c21, f20, f21, l2⟩ := k2.two
      obtain ⟨c30, c31, f30, f31, l3⟩ := k3.two
      go_simp
      try rfl
    simp only [List.getElem_toArray, List.getElem_cons_succ, List.getElem_cons_zero, Act.put, List.setIfInBounds_toArray, List.set_cons_zero, List.set_cons_succ]
    refine wpAnyH_take (i := 3) (v := ?_) rfl (by kernel_rfl) (by kernel_rfl) (by kernel_rfl) (fun _ _ _ h => h) (Or.inl ⟨by rfl, ?_⟩) (by assumption) ?_
    rotate_left
    · intro W hW
      obtain ⟨k10, k2, k3⟩ := hW
      obtain ⟨c100, c101, f100, f101, l10⟩ := k10.two
      obtain ⟨c20, c21, f20, f21, l2⟩ := k2.two
      obtain ⟨c30, c31, f30, f31, l3⟩ := k3.two
      go_simp
      try rfl
    simp only [List.getElem_toArray, List.getElem_cons_succ, List.getElem_cons_zero, Act.put, List.setIfInBounds_toArray, List.set_cons_zero, List.set_cons_succ]
    refine wpAnyH_take (i := 4) (v := ?_) rfl (by kernel_rfl) (by kernel_rfl) (by kernel_rfl) (fun _ _ _ h => h) (Or.inl ⟨by rfl, ?_⟩) (by assumption) ?_
    rotate_left
    · intro W hW
      obtain ⟨k10, k2, k3⟩ := hW
      obtain ⟨c100, c101, f100, f101, l10⟩ := k10.two
      obtain ⟨c20, c21, f20, f21, l2⟩ := k2.two
      obtain ⟨c30, c31, f30, f31, l3⟩ := k3.two
      go_simp
      try rfl
    simp only [List.getElem_toArray, List.getElem_cons_succ, List.getElem_cons_zero, Act.put, List.setIfInBounds_toArray, List.set_cons_zero, List.set_cons_succ]
    refine wpAnyH_take (i := 5) (v := ?_) rfl (by kernel_rfl) (by kernel_rfl) (by kernel_rfl) (fun _ _ _ h => h) (Or.inl ⟨by rfl, ?_⟩) (by assumption) ?_
    rotate_left
    · intro W hW
      obtain ⟨k10, k2, k3⟩ := hW
      obtain ⟨c100, c101, f100, f101, l10⟩ := k10.two
      obtain ⟨c20, c21, f20, f21, l2⟩ := k2.two
      obtain ⟨c30, c31, f30, f31, l3⟩ := k3.two
      go_simp
      try rfl
    simp only [List.getElem_toArray, List.getElem_cons_succ, List.getElem_cons_zero, Act.put, List.setIfInBounds_toArray, List.set_cons_zero, List.set_cons_succ]
    refine wpAnyH_take (i := 6) (v := ?_) rfl (by kernel_rfl) (by kernel_rfl) (by kernel_rfl) (fun _ _ _ h => h) (Or.inl ⟨by rfl, ?_⟩) (by assumption) ?_
    rotate_left
    · intro W hW
      obtain ⟨k10, k2, k3⟩ := hW
      obtain ⟨c100, c101, f100, f101, l10⟩ := k10.two
      obtain ⟨c20, c21, f20, f21, l2⟩ := k2.two
      obtain ⟨c30, c31, f30, f31, l3⟩ := k3.two
      go_simp
      try rfl
    simp only [List.getElem_toArray, List.getElem_cons_succ, List.getElem_cons_zero, Act.put, List.setIfInBounds_toArray, List.set_cons_zero, List.set_cons_succ]
    refine wpAnyH_take (i := 7) (v := ?_) rfl (by kernel_rfl) (by kernel_rfl) (by kernel_rfl) (fun _ _ _ h => h) (Or.inl ⟨by rfl, ?_⟩) (by assumption) ?_
    rotate_left
    · intro W hW
      obtain ⟨k10, k2, k3⟩ := hW
      obtain ⟨c100, c101, f100, f101, l10⟩ := k10.two
      obtain ⟨c20, c21, f20, f21, l2⟩ := k2.two
      obtain ⟨c30, c31, f30, f31, l3⟩ := k3.two
      go_simp
      try rfl
    simp only [List.getElem_toArray, List.getElem_cons_succ, List.getElem_cons_zero, Act.put, List.setIfInBounds_toArray, List.set_cons_zero, List.set_cons_succ]
    refine wpAnyH_take (i := 8) (v := ?_) rfl (by kernel_rfl) (by kernel_rfl) (by kernel_rfl) (fun _ _ _ h => h) (Or.inl ⟨by rfl, ?_⟩) (by assumption) ?_
    rotate_left
    · intro W hW
      obtain ⟨k10, k2, k3⟩ := hW
      obtain ⟨c100, c101, f100, f101, l10⟩ := k10.two
      obtain ⟨c20, c21, f20, f21, l2⟩ := k2.two
      obtain ⟨c30, c31, f30, f31, l3⟩ := k3.two
      go_simp
      try rfl
    simp only [List.getElem_toArray, List.getElem_cons_succ, List.getElem_cons_zero, Act.put, List.setIfInBounds_toArray, List.set_cons_zero, List.set_cons_succ]
    refine wpAnyH_take (i := 9) (v := undef) rfl (by kernel_rfl) (by kernel_rfl) (by kernel_rfl) (fun _ _ _ h => h) (Or.inr ⟨by rfl, rfl⟩) (by assumption) ?_
    simp only [List.getElem_toArray, List.getElem_cons_succ, List.getElem_cons_zero, Act.put, List.setIfInBounds_toArray, List.set_cons_zero, List.set_cons_succ]
    refine wpAnyH_take (i := 10) (v := undef) rfl (by kernel_rfl) (by kernel_rfl) (by kernel_rfl) (fun _ _ _ h => h) (Or.inr ⟨by rfl, rfl⟩) (by assumption) ?_
    simp only [List.getElem_toArray, List.getElem_cons_succ, List.getElem_cons_zero, Act.put, List.setIfInBounds_toArray, List.set_cons_zero, List.set_cons_succ]
    refine wpAnyH_take (i := 11) (v := undef) rfl (by kernel_rfl) (by kernel_rfl) (by kernel_rfl) (fun _ _ _ h => h) (Or.inr ⟨by rfl, rfl⟩) (by assumption) ?_
    simp only [List.getElem_toArray, List.getElem_cons_succ, List.getElem_cons_zero, Act.put, List.setIfInBounds_toArray, List.set_cons_zero, List.set_cons_succ]
    refine wpAnyH_take (i := 12) (v := undef) rfl (by kernel_rfl) (by kernel_rfl) (by kernel_rfl) (fun _ _ _ h => h) (Or.inr ⟨by rfl, rfl⟩) (by assumption) ?_
    simp only [List.getElem_toArray, List.getElem_cons_succ, List.getElem_cons_zero, Act.put, List.setIfInBounds_toArray, List.set_cons_zero, List.set_cons_succ]
    refine wpAnyH_take (i := 13) (v := undef) rfl (by kernel_rfl) (by kernel_rfl) (by kernel_rfl) (fun _ _ _ h => h) (Or.inr ⟨by rfl, rfl⟩) (by assumption) ?_
    simp only [List.getElem_toArray, List.getElem_cons_succ, List.getElem_cons_zero, Act.put, List.setIfInBounds_toArray, List.set_cons_zero, List.set_cons_succ]
    refine wpAnyH_take (i := 14) (v := undef) rfl (by kernel_rfl) (by kernel_rfl) (by kernel_rfl) (fun _ _ _ h => h) (Or.inr ⟨by rfl, rfl⟩) (by assumption) ?_
    simp only [List.getElem_toArray, List.getElem_cons_succ, List.getElem_cons_zero, Act.put, List.setIfInBounds_toArray, List.set_cons_zero, List.set_cons_succ]
    refine wpAnyH_take (i := 15) (v := undef) rfl (by kernel_rfl) (by kernel_rfl) (by kernel_rfl) (fun _ _ _ h => h) (Or.inr ⟨by rfl, rfl⟩) (by assumption) ?_
    simp only [List.getElem_toArray, List.getElem_cons_succ, List.getElem_cons_zero, Act.put, List.setIfInBounds_toArray, List.set_cons_zero, List.set_cons_succ]
    refine wpAnyH_take (i := 16) (v := ?_) rfl (by kernel_rfl) (by kernel_rfl) (by kernel_rfl) (fun _ _ _ h => h) (Or.inl ⟨by rfl, ?_⟩) (by assumption) ?_
    rotate_left
    · intro W hW
      obtain ⟨k10, k2, k3⟩ := hW
      obtain ⟨c100, c101, f100, f101, l10⟩ := k10.two
      obtain ⟨c20, c21, f20, f21, l2⟩ := k2.two
      obtain ⟨c30, c31, f30, f31, l3⟩ := k3.two
      go_simp
      try rfl
    simp only [List.getElem_toArray, List.getElem_cons_succ, List.getElem_cons_zero, Act.put, List.setIfInBounds_toArray, List.set_cons_zero, List.set_cons_succ]
    refine wpAnyH_ready (rs := [17]) (by kernel_rfl) (by simp) ?_
    refine AllReadyH.cons rfl (fun K hK => ?_) AllReadyH.nil
    go_simp
    refine hK.out _ _ ⟨(K10.far (p := ⟨g4, 0, none⟩) n1 _).far (p := ⟨g4, 1, none⟩) n1 _, (K2.far (p := ⟨g4, 0, none⟩) n2 _).far (p := ⟨g4, 1, none⟩) n2 _, (K3.far (p := ⟨g4, 0, none⟩) n3 _).far (p := ⟨g4, 1, none⟩) n3 _⟩ (fun hHeld => ?_)
    clear hK K
    try simp only [List.getElem_toArray, List.getElem_cons_succ, List.getElem_cons_zero, Act.put, List.setIfInBounds_toArray, List.set_cons_zero, List.set_cons_succ]
    refine wpAnyH_take (i := 18) (v := ?_) rfl (by kernel_rfl) (by kernel_rfl) (by kernel_rfl) (fun _ _ _ h => h) (Or.inl ⟨by rfl, ?_⟩) (by assumption) ?_
    rotate_left
    · intro W hW
      obtain ⟨k10, k2, k3⟩ := hW
      obtain ⟨c100, c101, f100, f101, l10⟩ := k10.two
      obtain ⟨c20, c21, f20, f21, l2⟩ := k2.two
      obtain ⟨c30, c31, f30, f31, l3⟩ := k3.two
      go_simp
      try rfl
    simp only [List.getElem_toArray, List.getElem_cons_succ, List.getElem_cons_zero, Act.put, List.setIfInBounds_toArray, List.set_cons_zero, List.set_cons_succ]
    refine wpAnyH_done (by kernel_rfl) ?_ _
    refine NoPanic.normal ?_
    go_wp2
end Go.Proofs.YtpomhcclnhddmaaDoor
