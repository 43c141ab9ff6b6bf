/- Contracts of the package wide: told, Of, sum, difference, size, signed. -/
import Derived.Test.YtpomhcclnhddmaaDoorWidB
import Derived.Test.YtpomhcclnhddmaaDoorWidM
import Derived.Deep.RegionHeld3
namespace Go.Proofs.YtpomhcclnhddmaaDoor
open Go.RowKit Go.Shelf
set_option linter.unusedVariables false
/-- a wide number, by its words -/
abbrev wv (h l : Int) : Value := .agg #[.int .i64 h, .int .u64 l]
/-- a wide number -/
abbrev wV (x : Int) : Value := wv (x / 18446744073709551616) (x % 18446744073709551616)
abbrev oW (h l : Int) : Obj := .cells #[.int .i64 h, .int .u64 l] 24
theorem below_alloc {B : Nat} {w w1 : World} (h : Below B w w1) (hB : B ≤ w.heap.size) (o : Obj) : Below B w (w1.alloc o) := h.alloc (Nat.le_trans hB h.size) o
theorem below_two {w w1 w2 : World} (h : Below w.heap.size w w1) (h2 : Below w1.heap.size w1 w2) : Below w.heap.size w w2 := h.trans (h2.mono h.size)
theorem ba1 (w : World) (a : Obj) : Below w.heap.size w (w.alloc a) := (Below.refl _ _).alloc (Nat.le_refl _) _
theorem ba2 (w : World) (a b : Obj) : Below w.heap.size w ((w.alloc a).alloc b) := below_two (ba1 w a) (ba1 _ b)
theorem ba3 (w : World) (a b c : Obj) : Below w.heap.size w (((w.alloc a).alloc b).alloc c) := below_two (ba2 w a b) (ba1 _ c)
theorem told_yes (h l : Int) (w : World) : Calls Tryd.prog 43 #[wv h l, .bool true] w fun e w' => e = .returned (.tuple #[wv h l, .int .i64 0]) ∧ Below w.heap.size w w' := by
  go_enter Tryd.func43, Tryd.ntmps43
  go_wp2
  simp [bodyPost, results, Tryd.results43, go_sem]
  exact ba2 _ _ _
theorem told_no (h l : Int) (w : World) : Calls Tryd.prog 43 #[wv h l, .bool false] w fun e w' => e = .returned (.tuple #[wv 0 0, .int .i64 5]) ∧ Below w.heap.size w w' := by
  go_enter Tryd.func43, Tryd.ntmps43
  go_wp2
  simp [bodyPost, results, Tryd.results43, go_sem]
  exact ba3 _ _ _ _
theorem told64_yes (n : Int) (w : World) : Calls Tryd.prog 53 #[.int .i64 n, .bool true] w fun e w' => e = .returned (.tuple #[.int .i64 n, .int .i64 0]) ∧ w = w' := by
  go_enter Tryd.func53, Tryd.ntmps53
  go_wp2
  go_ret2
  exact ⟨rfl, rfl⟩
theorem told64_no (n : Int) (w : World) : Calls Tryd.prog 53 #[.int .i64 n, .bool false] w fun e w' => e = .returned (.tuple #[.int .i64 0, .int .i64 5]) ∧ w = w' := by
  go_enter Tryd.func53, Tryd.ntmps53
  go_wp2
  go_ret2
  exact ⟨rfl, rfl⟩
theorem of_c (n : Int) (h0 : -9223372036854775808 ≤ n) (h1 : n ≤ 9223372036854775807) (w : World) : Calls Tryd.prog 23 #[.int .i64 n] w fun e w' => e = .returned (wv (n / 9223372036854775808) (n % 18446744073709551616)) ∧ Below w.heap.size w w' := by
  have e1 : IntKind.u64.wrap n = n % 18446744073709551616 := IntKind.wrap_u64 n
  go_enter Tryd.func23, Tryd.ntmps23
  go_wp2
  simp [bodyPost, results, Tryd.results23, go_sem]
  exact ba1 _ _
set_option maxRecDepth 100000 in
set_option maxHeartbeats 4000000 in
theorem sum_c (X Y : Int) (hX : inW X) (hY : inW Y) (w : World) :
    Calls Tryd.prog 44 #[wV X, wV Y] w fun e w' => e = .returned (.tuple #[wV (wr (X + Y)), .bool (decide (inW (X + Y)))]) ∧ Below w.heap.size w w' := by
  have hft := sum_fits hX hY
  have hwo := @sum_words (X / 18446744073709551616) (X % 18446744073709551616) (Y / 18446744073709551616) (Y % 18446744073709551616)
  rw [show X / 18446744073709551616 * 18446744073709551616 + X % 18446744073709551616 = X by omega, show Y / 18446744073709551616 * 18446744073709551616 + Y % 18446744073709551616 = Y by omega] at hwo
  have hwo := hwo 
  have hsg := hi_neg (wr (X + Y))
  obtain ⟨s0, s1⟩ := hi_in (wr_in (X + Y))
  obtain ⟨l0, l1⟩ := lo_in (wr (X + Y))
  have hxg := hi_neg X
  have hyg := hi_neg Y
  obtain ⟨a0, a1⟩ := hi_in hX
  obtain ⟨b0, b1⟩ := lo_in X
  obtain ⟨c0, c1⟩ := hi_in hY
  obtain ⟨d0, d1⟩ := lo_in Y
  show Calls Tryd.prog 44 #[wv (X / 18446744073709551616) (X % 18446744073709551616), wv (Y / 18446744073709551616) (Y % 18446744073709551616)] w fun e w' => e = .returned (.tuple #[wv (wr (X + Y) / 18446744073709551616) (wr (X + Y) % 18446744073709551616), .bool (decide (inW (X + Y)))]) ∧ Below w.heap.size w w'
  rw [hft]
  simp only [← hsg, ← hxg, ← hyg]
  clear hsg hxg hyg hft hX hY
  generalize wr (X + Y) / 18446744073709551616 = s at *
  generalize wr (X + Y) % 18446744073709551616 = lo at *
  generalize X / 18446744073709551616 = a at *
  generalize X % 18446744073709551616 = b at *
  generalize Y / 18446744073709551616 = c at *
  generalize Y % 18446744073709551616 = d at *
  obtain ⟨hh, hl⟩ := hwo
  obtain ⟨cy, hcy⟩ : ∃ z, z = (b + d) / 18446744073709551616 := ⟨_, rfl⟩
  have q0 : 0 ≤ cy := by omega
  have q1 : cy ≤ 1 := by omega
  obtain ⟨ua, hua⟩ : ∃ z, z = a % 18446744073709551616 := ⟨_, rfl⟩
  obtain ⟨uc, huc⟩ : ∃ z, z = c % 18446744073709551616 := ⟨_, rfl⟩
  have e1 : IntKind.u64.wrap a = ua := by rw [hua]; exact IntKind.wrap_u64 a
  have e2 : IntKind.u64.wrap c = uc := by rw [huc]; exact IntKind.wrap_u64 c
  have f1 := fun w => add64 b d 0 b0 d0 (by decide) (by decide) w
  rw [Int.add_zero, hl, ← hcy] at f1
  have f2 := fun w => add64 ua uc cy (by omega) (by omega) q0 q1 w
  obtain ⟨c2, hc2⟩ : ∃ z : Int, z = (ua + uc + cy) / 18446744073709551616 := ⟨_, rfl⟩
  rw [← hc2] at f2
  obtain ⟨uh, huh⟩ : ∃ z, z = (ua + uc + cy) % 18446744073709551616 := ⟨_, rfl⟩
  rw [← huh] at f2
  have e3 : wrap64 uh = s := by rw [huh, hua, huc, hcy]; exact hh
  have g1 : 0 ≤ ua := by omega
  have g2 : 0 ≤ uc := by omega
  have hW := below_two (ba3 w (oW a b) (oW c d) (oW 0 0)) (ba1 _ (oW s lo))
  have K2 := ((((Blk.new w 24 #[.int .i64 a, .int .u64 b]).alloc (oW c d)).alloc (oW 0 0)).alloc (oW s lo))
  have K3 := (((Blk.new_at (g := w.heap.size + 1) (w.alloc (oW a b)) 24 #[.int .i64 c, .int .u64 d] (by simp)).alloc (oW 0 0)).alloc (oW s lo))
  have K4 := ((Blk.new_at (g := w.heap.size + 1 + 1) ((w.alloc (oW a b)).alloc (oW c d)) 24 #[.int .i64 0, .int .u64 0] (by simp)).alloc (oW s lo))
  have K10 := (Blk.new_at (g := w.heap.size + 1 + 1 + 1) (((w.alloc (oW a b)).alloc (oW c d)).alloc (oW 0 0)) 24 #[.int .i64 s, .int .u64 lo] (by simp))
  clear hh hl hcy hua huc huh hc2
  go_enter Tryd.func44, Tryd.ntmps44
  go_wp2_with (first | simp only [f1] | simp only [f2])
  have hw4 : (w.alloc (oW a b)).alloc (oW c d) = (w.alloc (oW a b)).alloc (oW c d) := rfl
  generalize (((w.alloc (oW a b)).alloc (oW c d)).alloc (oW 0 0)).alloc (oW s lo) = W at *
  clear hw4
  obtain ⟨g2, hg2⟩ : ∃ g, g = w.heap.size := ⟨_, rfl⟩
  obtain ⟨g3, hg3⟩ : ∃ g, g = w.heap.size + 1 := ⟨_, rfl⟩
  obtain ⟨g4, hg4⟩ : ∃ g, g = w.heap.size + 1 + 1 := ⟨_, rfl⟩
  obtain ⟨g10, hg10⟩ : ∃ g, g = w.heap.size + 1 + 1 + 1 := ⟨_, rfl⟩
  rw [← hg10] at K10 ⊢
  rw [← hg4] at K4 ⊢
  rw [← hg3] at K3 ⊢
  rw [← hg2] at K2
  rw [show (⟨w.heap.size, 0, none⟩ : Addr) = ⟨g2, 0, none⟩ by rw [hg2]]
  have n1 : g10 ≠ g4 := by omega
  have n2 : g2 ≠ g4 := by omega
  have n3 : g3 ≠ g4 := by omega
  have hB4 : w.heap.size ≤ g4 := by omega
  have HW := Lib.hid hW
  have HB := Lib.hid hB4
  clear hg2 hg3 hg4 hg10 hW hB4 f1 f2 e1 e2 e3
  obtain ⟨c40, c41, f40, f41, l4⟩ := K4.two
  have hend : ∀ (a' : Act) (F G : Bool), F = G → a'.tmps.getD 4 undef = .pointer (some ⟨g4, 0, none⟩) → a'.tmps.getD 5 undef = .bool F → a'.defers = [] → bodyPost Tryd.prog Tryd.f44 (fun e w' => e = .returned (.tuple #[wv s lo, .bool G]) ∧ Below w.heap.size w w') .ret a' ((W.setCell ⟨g4, 0, none⟩ (.int .i64 s)).setCell ⟨g4, 1, none⟩ (.int .u64 lo)).drew := by
    intro a' F G hF h4 h5 h6
    subst hF
    have k4 := (K4.set2 (.int .i64 s) (.int .u64 lo)).drew
    obtain ⟨c40', c41', _, _, _⟩ := k4.two
    refine bodyPost_ret (v := .tuple #[wv s lo, .bool F]) ?_ h6 ⟨rfl, ?_⟩
    · rw [Array.getD_eq_getD_getElem?] at h4 h5
      simp [results, Tryd.results44, go_sem, h4, h5, c40', c41']
    · have hb := (HW.out.setCell (p := ⟨g4, 0, none⟩) HB.out (.int .i64 s)).setCell (p := ⟨g4, 1, none⟩) HB.out (.int .u64 lo)
      exact ⟨hb.os, hb.tape, hb.output, hb.size, hb.block⟩
  by_cases hz : a < 0 <;> by_cases hy : c < 0
  · refine wp_region_noPanic ?_
    refine wp_region_held_drew (S := (fun w' => Blk w' g10 24 #[.int .i64 s, .int .u64 lo] ∧ Blk w' g2 24 #[.int .i64 a, .int .u64 b] ∧ Blk w' g3 24 #[.int .i64 c, .int .u64 d])) (by kernel_rfl) ⟨K10.drew, K2.drew, K3.drew⟩ (fun hHeld => ?_)
    refine wpAnyH_take (i := 0) (v := ?_) rfl (by kernel_rfl) (by kernel_rfl) (by kernel_rfl) (fun _ _ _ h => h) (Or.inl ⟨by rfl, ?_⟩) (by assumption) ?_
    rotate_left
    · intro W hW
      obtain ⟨k10, k2, k3⟩ := hW
      obtain ⟨c100, c101, f100, f101, l10⟩ := k10.two
      obtain ⟨c20, c21, f20, f21, l2⟩ := k2.two
      obtain ⟨c30, c31, f30, f31, l3⟩ := k3.two
      go_simp
      try rfl
    simp only [List.getElem_toArray, List.getElem_cons_zero, Act.put, List.setIfInBounds_toArray, List.set_cons_zero, List.set_cons_succ]
    refine wpAnyH_take (i := 1) (v := ?_) rfl (by kernel_rfl) (by kernel_rfl) (by kernel_rfl) (fun _ _ _ h => h) (Or.inl ⟨by rfl, ?_⟩) (by assumption) ?_
    rotate_left
    · intro W hW
      obtain ⟨k10, k2, k3⟩ := hW
      obtain ⟨c100, c101, f100, f101, l10⟩ := k10.two
      obtain ⟨c20, c21, f20, f21, l2⟩ := k2.two
      obtain ⟨c30, c31, f30, f31, l3⟩ := k3.two
      go_simp
      try rfl
    simp only [List.getElem_toArray, List.getElem_cons_succ, List.getElem_cons_zero, Act.put, List.setIfInBounds_toArray, List.set_cons_zero, List.set_cons_succ]
    refine wpAnyH_take (i := 2) (v := ?_) rfl (by kernel_rfl) (by kernel_rfl) (by kernel_rfl) (fun _ _ _ h => h) (Or.inl ⟨by rfl, ?_⟩) (by assumption) ?_
    rotate_left
    · intro W hW
      obtain ⟨k10, k2, k3⟩ := hW
      obtain ⟨c100, c101, f100, f101, l10⟩ := k10.two
      obtain ⟨c20, c21, f20, f21, l2⟩ := k2.two
      obtain ⟨c30, c31, f30, f31, l3⟩ := k3.two
      go_simp
      try rfl
    simp only [List.getElem_toArray, List.getElem_cons_succ, List.getElem_cons_zero, Act.put, List.setIfInBounds_toArray, List.set_cons_zero, List.set_cons_succ]
    refine wpAnyH_take (i := 3) (v := ?_) rfl (by kernel_rfl) (by kernel_rfl) (by kernel_rfl) (fun _ _ _ h => h) (Or.inl ⟨by rfl, ?_⟩) (by assumption) ?_
    rotate_left
    · intro W hW
      obtain ⟨k10, k2, k3⟩ := hW
      obtain ⟨c100, c101, f100, f101, l10⟩ := k10.two
      obtain ⟨c20, c21, f20, f21, l2⟩ := k2.two
      obtain ⟨c30, c31, f30, f31, l3⟩ := k3.two
      go_simp
      try rfl
    simp only [List.getElem_toArray, List.getElem_cons_succ, List.getElem_cons_zero, Act.put, List.setIfInBounds_toArray, List.set_cons_zero, List.set_cons_succ]
    refine wpAnyH_take (i := 4) (v := ?_) rfl (by kernel_rfl) (by kernel_rfl) (by kernel_rfl) (fun _ _ _ h => h) (Or.inl ⟨by rfl, ?_⟩) (by assumption) ?_
    rotate_left
    · intro W hW
      obtain ⟨k10, k2, k3⟩ := hW
      obtain ⟨c100, c101, f100, f101, l10⟩ := k10.two
      obtain ⟨c20, c21, f20, f21, l2⟩ := k2.two
      obtain ⟨c30, c31, f30, f31, l3⟩ := k3.two
      go_simp
      try rfl
    simp only [List.getElem_toArray, List.getElem_cons_succ, List.getElem_cons_zero, Act.put, List.setIfInBounds_toArray, List.set_cons_zero, List.set_cons_succ]
    refine wpAnyH_take (i := 5) (v := ?_) rfl (by kernel_rfl) (by kernel_rfl) (by kernel_rfl) (fun _ _ _ h => h) (Or.inl ⟨by rfl, ?_⟩) (by assumption) ?_
    rotate_left
    · intro W hW
      obtain ⟨k10, k2, k3⟩ := hW
      obtain ⟨c100, c101, f100, f101, l10⟩ := k10.two
      obtain ⟨c20, c21, f20, f21, l2⟩ := k2.two
      obtain ⟨c30, c31, f30, f31, l3⟩ := k3.two
      go_simp
      try rfl
    simp only [List.getElem_toArray, List.getElem_cons_succ, List.getElem_cons_zero, Act.put, List.setIfInBounds_toArray, List.set_cons_zero, List.set_cons_succ]
    refine wpAnyH_take (i := 6) (v := ?_) rfl (by kernel_rfl) (by kernel_rfl) (by kernel_rfl) (fun _ _ _ h => h) (Or.inl ⟨by rfl, ?_⟩) (by assumption) ?_
    rotate_left
    · intro W hW
      obtain ⟨k10, k2, k3⟩ := hW
      obtain ⟨c100, c101, f100, f101, l10⟩ := k10.two
      obtain ⟨c20, c21, f20, f21, l2⟩ := k2.two
      obtain ⟨c30, c31, f30, f31, l3⟩ := k3.two
      go_simp
      try rfl
    simp only [List.getElem_toArray, List.getElem_cons_succ, List.getElem_cons_zero, Act.put, List.setIfInBounds_toArray, List.set_cons_zero, List.set_cons_succ]
    refine wpAnyH_take (i := 7) (v := ?_) rfl (by kernel_rfl) (by kernel_rfl) (by kernel_rfl) (fun _ _ _ h => h) (Or.inl ⟨by rfl, ?_⟩) (by assumption) ?_
    rotate_left
    · intro W hW
      obtain ⟨k10, k2, k3⟩ := hW
      obtain ⟨c100, c101, f100, f101, l10⟩ := k10.two
      obtain ⟨c20, c21, f20, f21, l2⟩ := k2.two
      obtain ⟨c30, c31, f30, f31, l3⟩ := k3.two
      go_simp
      try rfl
    simp only [List.getElem_toArray, List.getElem_cons_succ, List.getElem_cons_zero, Act.put, List.setIfInBounds_toArray, List.set_cons_zero, List.set_cons_succ]
    refine wpAnyH_take (i := 8) (v := ?_) rfl (by kernel_rfl) (by kernel_rfl) (by kernel_rfl) (fun _ _ _ h => h) (Or.inl ⟨by rfl, ?_⟩) (by assumption) ?_
    rotate_left
    · intro W hW
      obtain ⟨k10, k2, k3⟩ := hW
      obtain ⟨c100, c101, f100, f101, l10⟩ := k10.two
      obtain ⟨c20, c21, f20, f21, l2⟩ := k2.two
      obtain ⟨c30, c31, f30, f31, l3⟩ := k3.two
      go_simp
      try rfl
    simp only [List.getElem_toArray, List.getElem_cons_succ, List.getElem_cons_zero, Act.put, List.setIfInBounds_toArray, List.set_cons_zero, List.set_cons_succ]
    refine wpAnyH_take (i := 9) (v := ?_) rfl (by kernel_rfl) (by kernel_rfl) (by kernel_rfl) (fun _ _ _ h => h) (Or.inl ⟨by rfl, ?_⟩) (by assumption) ?_
    rotate_left
    · intro W hW
      obtain ⟨k10, k2, k3⟩ := hW
      obtain ⟨c100, c101, f100, f101, l10⟩ := k10.two
      obtain ⟨c20, c21, f20, f21, l2⟩ := k2.two
      obtain ⟨c30, c31, f30, f31, l3⟩ := k3.two
      go_simp
      try rfl
    simp only [List.getElem_toArray, List.getElem_cons_succ, List.getElem_cons_zero, Act.put, List.setIfInBounds_toArray, List.set_cons_zero, List.set_cons_succ]
    refine wpAnyH_take (i := 10) (v := ?_) rfl (by kernel_rfl) (by kernel_rfl) (by kernel_rfl) (fun _ _ _ h => h) (Or.inl ⟨by rfl, ?_⟩) (by assumption) ?_
    rotate_left
    · intro W hW
      obtain ⟨k10, k2, k3⟩ := hW
      obtain ⟨c100, c101, f100, f101, l10⟩ := k10.two
      obtain ⟨c20, c21, f20, f21, l2⟩ := k2.two
      obtain ⟨c30, c31, f30, f31, l3⟩ := k3.two
      go_simp
      try rfl
    simp only [List.getElem_toArray, List.getElem_cons_succ, List.getElem_cons_zero, Act.put, List.setIfInBounds_toArray, List.set_cons_zero, List.set_cons_succ]
    refine wpAnyH_take (i := 11) (v := ?_) rfl (by kernel_rfl) (by kernel_rfl) (by kernel_rfl) (fun _ _ _ h => h) (Or.inl ⟨by rfl, ?_⟩) (by assumption) ?_
    rotate_left
    · intro W hW
      obtain ⟨k10, k2, k3⟩ := hW
      obtain ⟨c100, c101, f100, f101, l10⟩ := k10.two
      obtain ⟨c20, c21, f20, f21, l2⟩ := k2.two
      obtain ⟨c30, c31, f30, f31, l3⟩ := k3.two
      go_simp
      try rfl
    simp only [List.getElem_toArray, List.getElem_cons_succ, List.getElem_cons_zero, Act.put, List.setIfInBounds_toArray, List.set_cons_zero, List.set_cons_succ]
    refine wpAnyH_take (i := 12) (v := ?_) rfl (by kernel_rfl) (by kernel_rfl) (by kernel_rfl) (fun _ _ _ h => h) (Or.inl ⟨by rfl, ?_⟩) (by assumption) ?_
    rotate_left
    · intro W hW
      obtain ⟨k10, k2, k3⟩ := hW
      obtain ⟨c100, c101, f100, f101, l10⟩ := k10.two
      obtain ⟨c20, c21, f20, f21, l2⟩ := k2.two
      obtain ⟨c30, c31, f30, f31, l3⟩ := k3.two
      go_simp
      try rfl
    simp only [List.getElem_toArray, List.getElem_cons_succ, List.getElem_cons_zero, Act.put, List.setIfInBounds_toArray, List.set_cons_zero, List.set_cons_succ]
    refine wpAnyH_take (i := 13) (v := ?_) rfl (by kernel_rfl) (by kernel_rfl) (by kernel_rfl) (fun _ _ _ h => h) (Or.inl ⟨by rfl, ?_⟩) (by assumption) ?_
    rotate_left
    · intro W hW
      obtain ⟨k10, k2, k3⟩ := hW
      obtain ⟨c100, c101, f100, f101, l10⟩ := k10.two
      obtain ⟨c20, c21, f20, f21, l2⟩ := k2.two
      obtain ⟨c30, c31, f30, f31, l3⟩ := k3.two
      go_simp
      try rfl
    simp only [List.getElem_toArray, List.getElem_cons_succ, List.getElem_cons_zero, Act.put, List.setIfInBounds_toArray, List.set_cons_zero, List.set_cons_succ]
    refine wpAnyH_take (i := 14) (v := ?_) rfl (by kernel_rfl) (by kernel_rfl) (by kernel_rfl) (fun _ _ _ h => h) (Or.inl ⟨by rfl, ?_⟩) (by assumption) ?_
    rotate_left
    · intro W hW
      obtain ⟨k10, k2, k3⟩ := hW
      obtain ⟨c100, c101, f100, f101, l10⟩ := k10.two
      obtain ⟨c20, c21, f20, f21, l2⟩ := k2.two
      obtain ⟨c30, c31, f30, f31, l3⟩ := k3.two
      go_simp
      try rfl
    simp only [List.getElem_toArray, List.getElem_cons_succ, List.getElem_cons_zero, Act.put, List.setIfInBounds_toArray, List.set_cons_zero, List.set_cons_succ]
    refine wpAnyH_take (i := 15) (v := ?_) rfl (by kernel_rfl) (by kernel_rfl) (by kernel_rfl) (fun _ _ _ h => h) (Or.inl ⟨by rfl, ?_⟩) (by assumption) ?_
    rotate_left
    · intro W hW
      obtain ⟨k10, k2, k3⟩ := hW
      obtain ⟨c100, c101, f100, f101, l10⟩ := k10.two
      obtain ⟨c20, c21, f20, f21, l2⟩ := k2.two
      obtain ⟨c30, c31, f30, f31, l3⟩ := k3.two
      go_simp
      try rfl
    simp only [List.getElem_toArray, List.getElem_cons_succ, List.getElem_cons_zero, Act.put, List.setIfInBounds_toArray, List.set_cons_zero, List.set_cons_succ]
    refine wpAnyH_take (i := 16) (v := ?_) rfl (by kernel_rfl) (by kernel_rfl) (by kernel_rfl) (fun _ _ _ h => h) (Or.inl ⟨by rfl, ?_⟩) (by assumption) ?_
    rotate_left
    · intro W hW
      obtain ⟨k10, k2, k3⟩ := hW
      obtain ⟨c100, c101, f100, f101, l10⟩ := k10.two
      obtain ⟨c20, c21, f20, f21, l2⟩ := k2.two
      obtain ⟨c30, c31, f30, f31, l3⟩ := k3.two
      go_simp
      try rfl
    simp only [List.getElem_toArray, List.getElem_cons_succ, List.getElem_cons_zero, Act.put, List.setIfInBounds_toArray, List.set_cons_zero, List.set_cons_succ]
    refine wpAnyH_ready (rs := [17]) (by kernel_rfl) (by simp) ?_
    refine AllReadyH.cons rfl (fun K hK => ?_) AllReadyH.nil
    go_simp
    refine hK.out _ _ ⟨(K10.far (p := ⟨g4, 0, none⟩) n1 _).far (p := ⟨g4, 1, none⟩) n1 _, (K2.far (p := ⟨g4, 0, none⟩) n2 _).far (p := ⟨g4, 1, none⟩) n2 _, (K3.far (p := ⟨g4, 0, none⟩) n3 _).far (p := ⟨g4, 1, none⟩) n3 _⟩ (fun hHeld => ?_)
    clear hK K
    try simp only [List.getElem_toArray, List.getElem_cons_succ, List.getElem_cons_zero, Act.put, List.setIfInBounds_toArray, List.set_cons_zero, List.set_cons_succ]
    refine wpAnyH_take (i := 18) (v := ?_) rfl (by kernel_rfl) (by kernel_rfl) (by kernel_rfl) (fun _ _ _ h => h) (Or.inl ⟨by rfl, ?_⟩) (by assumption) ?_
    rotate_left
    · intro W hW
      obtain ⟨k10, k2, k3⟩ := hW
      obtain ⟨c100, c101, f100, f101, l10⟩ := k10.two
      obtain ⟨c20, c21, f20, f21, l2⟩ := k2.two
      obtain ⟨c30, c31, f30, f31, l3⟩ := k3.two
      go_simp
      try rfl
    simp only [List.getElem_toArray, List.getElem_cons_succ, List.getElem_cons_zero, Act.put, List.setIfInBounds_toArray, List.set_cons_zero, List.set_cons_succ]
    refine wpAnyH_done (by kernel_rfl) ?_ _
    refine NoPanic.normal ?_
    go_wp2
  · have ty : decide (c < 0) = false := decide_eq_false hy
    refine wp_region_noPanic ?_
    refine wp_region_held_drew (S := (fun w' => Blk w' g10 24 #[.int .i64 s, .int .u64 lo] ∧ Blk w' g2 24 #[.int .i64 a, .int .u64 b] ∧ Blk w' g3 24 #[.int .i64 c, .int .u64 d])) (by kernel_rfl) ⟨K10.drew, K2.drew, K3.drew⟩ (fun hHeld => ?_)
    refine wpAnyH_take (i := 0) (v := ?_) rfl (by kernel_rfl) (by kernel_rfl) (by kernel_rfl) (fun _ _ _ h => h) (Or.inl ⟨by rfl, ?_⟩) (by assumption) ?_
    rotate_left
    · intro W hW
      obtain ⟨k10, k2, k3⟩ := hW
      obtain ⟨c100, c101, f100, f101, l10⟩ := k10.two
      obtain ⟨c20, c21, f20, f21, l2⟩ := k2.two
      obtain ⟨c30, c31, f30, f31, l3⟩ := k3.two
      go_simp
      try rfl
    simp only [List.getElem_toArray, List.getElem_cons_zero, Act.put, List.setIfInBounds_toArray, List.set_cons_zero, List.set_cons_succ]
    refine wpAnyH_take (i := 1) (v := ?_) rfl (by kernel_rfl) (by kernel_rfl) (by kernel_rfl) (fun _ _ _ h => h) (Or.inl ⟨by rfl, ?_⟩) (by assumption) ?_
    rotate_left
    · intro W hW
      obtain ⟨k10, k2, k3⟩ := hW
      obtain ⟨c100, c101, f100, f101, l10⟩ := k10.two
      obtain ⟨c20, c21, f20, f21, l2⟩ := k2.two
      obtain ⟨c30, c31, f30, f31, l3⟩ := k3.two
      go_simp
      try rfl
    simp only [List.getElem_toArray, List.getElem_cons_succ, List.getElem_cons_zero, Act.put, List.setIfInBounds_toArray, List.set_cons_zero, List.set_cons_succ]
    refine wpAnyH_take (i := 2) (v := ?_) rfl (by kernel_rfl) (by kernel_rfl) (by kernel_rfl) (fun _ _ _ h => h) (Or.inl ⟨by rfl, ?_⟩) (by assumption) ?_
    rotate_left
    · intro W hW
      obtain ⟨k10, k2, k3⟩ := hW
      obtain ⟨c100, c101, f100, f101, l10⟩ := k10.two
      obtain ⟨c20, c21, f20, f21, l2⟩ := k2.two
      obtain ⟨c30, c31, f30, f31, l3⟩ := k3.two
      go_simp
      try rfl
    simp only [List.getElem_toArray, List.getElem_cons_succ, List.getElem_cons_zero, Act.put, List.setIfInBounds_toArray, List.set_cons_zero, List.set_cons_succ]
    refine wpAnyH_take (i := 3) (v := ?_) rfl (by kernel_rfl) (by kernel_rfl) (by kernel_rfl) (fun _ _ _ h => h) (Or.inl ⟨by rfl, ?_⟩) (by assumption) ?_
    rotate_left
    · intro W hW
      obtain ⟨k10, k2, k3⟩ := hW
      obtain ⟨c100, c101, f100, f101, l10⟩ := k10.two
      obtain ⟨c20, c21, f20, f21, l2⟩ := k2.two
      obtain ⟨c30, c31, f30, f31, l3⟩ := k3.two
      go_simp
      try rfl
    simp only [List.getElem_toArray, List.getElem_cons_succ, List.getElem_cons_zero, Act.put, List.setIfInBounds_toArray, List.set_cons_zero, List.set_cons_succ]
    refine wpAnyH_take (i := 4) (v := ?_) rfl (by kernel_rfl) (by kernel_rfl) (by kernel_rfl) (fun _ _ _ h => h) (Or.inl ⟨by rfl, ?_⟩) (by assumption) ?_
    rotate_left
    · intro W hW
      obtain ⟨k10, k2, k3⟩ := hW
      obtain ⟨c100, c101, f100, f101, l10⟩ := k10.two
      obtain ⟨c20, c21, f20, f21, l2⟩ := k2.two
      obtain ⟨c30, c31, f30, f31, l3⟩ := k3.two
      go_simp
      try rfl
    simp only [List.getElem_toArray, List.getElem_cons_succ, List.getElem_cons_zero, Act.put, List.setIfInBounds_toArray, List.set_cons_zero, List.set_cons_succ]
    refine wpAnyH_take (i := 5) (v := ?_) rfl (by kernel_rfl) (by kernel_rfl) (by kernel_rfl) (fun _ _ _ h => h) (Or.inl ⟨by rfl, ?_⟩) (by assumption) ?_
    rotate_left
    · intro W hW
      obtain ⟨k10, k2, k3⟩ := hW
      obtain ⟨c100, c101, f100, f101, l10⟩ := k10.two
      obtain ⟨c20, c21, f20, f21, l2⟩ := k2.two
      obtain ⟨c30, c31, f30, f31, l3⟩ := k3.two
      go_simp
      try rfl
    simp only [List.getElem_toArray, List.getElem_cons_succ, List.getElem_cons_zero, Act.put, List.setIfInBounds_toArray, List.set_cons_zero, List.set_cons_succ]
    refine wpAnyH_take (i := 6) (v := ?_) rfl (by kernel_rfl) (by kernel_rfl) (by kernel_rfl) (fun _ _ _ h => h) (Or.inl ⟨by rfl, ?_⟩) (by assumption) ?_
    rotate_left
    · intro W hW
      obtain ⟨k10, k2, k3⟩ := hW
      obtain ⟨c100, c101, f100, f101, l10⟩ := k10.two
      obtain ⟨c20, c21, f20, f21, l2⟩ := k2.two
      obtain ⟨c30, c31, f30, f31, l3⟩ := k3.two
      go_simp
      try rfl
    simp only [List.getElem_toArray, List.getElem_cons_succ, List.getElem_cons_zero, Act.put, List.setIfInBounds_toArray, List.set_cons_zero, List.set_cons_succ]
    refine wpAnyH_take (i := 7) (v := ?_) rfl (by kernel_rfl) (by kernel_rfl) (by kernel_rfl) (fun _ _ _ h => h) (Or.inl ⟨by rfl, ?_⟩) (by assumption) ?_
    rotate_left
    · intro W hW
      obtain ⟨k10, k2, k3⟩ := hW
      obtain ⟨c100, c101, f100, f101, l10⟩ := k10.two
      obtain ⟨c20, c21, f20, f21, l2⟩ := k2.two
      obtain ⟨c30, c31, f30, f31, l3⟩ := k3.two
      go_simp
      try rfl
    simp only [List.getElem_toArray, List.getElem_cons_succ, List.getElem_cons_zero, Act.put, List.setIfInBounds_toArray, List.set_cons_zero, List.set_cons_succ]
    refine wpAnyH_take (i := 8) (v := ?_) rfl (by kernel_rfl) (by kernel_rfl) (by kernel_rfl) (fun _ _ _ h => h) (Or.inl ⟨by rfl, ?_⟩) (by assumption) ?_
    rotate_left
    · intro W hW
      obtain ⟨k10, k2, k3⟩ := hW
      obtain ⟨c100, c101, f100, f101, l10⟩ := k10.two
      obtain ⟨c20, c21, f20, f21, l2⟩ := k2.two
      obtain ⟨c30, c31, f30, f31, l3⟩ := k3.two
      go_simp
      try rfl
    simp only [List.getElem_toArray, List.getElem_cons_succ, List.getElem_cons_zero, Act.put, List.setIfInBounds_toArray, List.set_cons_zero, List.set_cons_succ]
    refine wpAnyH_take (i := 9) (v := undef) rfl (by kernel_rfl) (by kernel_rfl) (by kernel_rfl) (fun _ _ _ h => h) (Or.inr ⟨by rfl, rfl⟩) (by assumption) ?_
    simp only [List.getElem_toArray, List.getElem_cons_succ, List.getElem_cons_zero, Act.put, List.setIfInBounds_toArray, List.set_cons_zero, List.set_cons_succ]
    refine wpAnyH_take (i := 10) (v := undef) rfl (by kernel_rfl) (by kernel_rfl) (by kernel_rfl) (fun _ _ _ h => h) (Or.inr ⟨by rfl, rfl⟩) (by assumption) ?_
    simp only [List.getElem_toArray, List.getElem_cons_succ, List.getElem_cons_zero, Act.put, List.setIfInBounds_toArray, List.set_cons_zero, List.set_cons_succ]
    refine wpAnyH_take (i := 11) (v := undef) rfl (by kernel_rfl) (by kernel_rfl) (by kernel_rfl) (fun _ _ _ h => h) (Or.inr ⟨by rfl, rfl⟩) (by assumption) ?_
    simp only [List.getElem_toArray, List.getElem_cons_succ, List.getElem_cons_zero, Act.put, List.setIfInBounds_toArray, List.set_cons_zero, List.set_cons_succ]
    refine wpAnyH_take (i := 12) (v := undef) rfl (by kernel_rfl) (by kernel_rfl) (by kernel_rfl) (fun _ _ _ h => h) (Or.inr ⟨by rfl, rfl⟩) (by assumption) ?_
    simp only [List.getElem_toArray, List.getElem_cons_succ, List.getElem_cons_zero, Act.put, List.setIfInBounds_toArray, List.set_cons_zero, List.set_cons_succ]
    refine wpAnyH_take (i := 13) (v := undef) rfl (by kernel_rfl) (by kernel_rfl) (by kernel_rfl) (fun _ _ _ h => h) (Or.inr ⟨by rfl, rfl⟩) (by assumption) ?_
    simp only [List.getElem_toArray, List.getElem_cons_succ, List.getElem_cons_zero, Act.put, List.setIfInBounds_toArray, List.set_cons_zero, List.set_cons_succ]
    refine wpAnyH_take (i := 14) (v := undef) rfl (by kernel_rfl) (by kernel_rfl) (by kernel_rfl) (fun _ _ _ h => h) (Or.inr ⟨by rfl, rfl⟩) (by assumption) ?_
    simp only [List.getElem_toArray, List.getElem_cons_succ, List.getElem_cons_zero, Act.put, List.setIfInBounds_toArray, List.set_cons_zero, List.set_cons_succ]
    refine wpAnyH_take (i := 15) (v := undef) rfl (by kernel_rfl) (by kernel_rfl) (by kernel_rfl) (fun _ _ _ h => h) (Or.inr ⟨by rfl, rfl⟩) (by assumption) ?_
    simp only [List.getElem_toArray, List.getElem_cons_succ, List.getElem_cons_zero, Act.put, List.setIfInBounds_toArray, List.set_cons_zero, List.set_cons_succ]
    refine wpAnyH_take (i := 16) (v := ?_) rfl (by kernel_rfl) (by kernel_rfl) (by kernel_rfl) (fun _ _ _ h => h) (Or.inl ⟨by rfl, ?_⟩) (by assumption) ?_
    rotate_left
    · intro W hW
      obtain ⟨k10, k2, k3⟩ := hW
      obtain ⟨c100, c101, f100, f101, l10⟩ := k10.two
      obtain ⟨c20, c21, f20, f21, l2⟩ := k2.two
      obtain ⟨c30, c31, f30, f31, l3⟩ := k3.two
      go_simp
      try rfl
    simp only [List.getElem_toArray, List.getElem_cons_succ, List.getElem_cons_zero, Act.put, List.setIfInBounds_toArray, List.set_cons_zero, List.set_cons_succ]
    refine wpAnyH_ready (rs := [17]) (by kernel_rfl) (by simp) ?_
    refine AllReadyH.cons rfl (fun K hK => ?_) AllReadyH.nil
    go_simp
    refine hK.out _ _ ⟨(K10.far (p := ⟨g4, 0, none⟩) n1 _).far (p := ⟨g4, 1, none⟩) n1 _, (K2.far (p := ⟨g4, 0, none⟩) n2 _).far (p := ⟨g4, 1, none⟩) n2 _, (K3.far (p := ⟨g4, 0, none⟩) n3 _).far (p := ⟨g4, 1, none⟩) n3 _⟩ (fun hHeld => ?_)
    clear hK K
    try simp only [List.getElem_toArray, List.getElem_cons_succ, List.getElem_cons_zero, Act.put, List.setIfInBounds_toArray, List.set_cons_zero, List.set_cons_succ]
    refine wpAnyH_take (i := 18) (v := ?_) rfl (by kernel_rfl) (by kernel_rfl) (by kernel_rfl) (fun _ _ _ h => h) (Or.inl ⟨by rfl, ?_⟩) (by assumption) ?_
    rotate_left
    · intro W hW
      obtain ⟨k10, k2, k3⟩ := hW
      obtain ⟨c100, c101, f100, f101, l10⟩ := k10.two
      obtain ⟨c20, c21, f20, f21, l2⟩ := k2.two
      obtain ⟨c30, c31, f30, f31, l3⟩ := k3.two
      go_simp
      try rfl
    simp only [List.getElem_toArray, List.getElem_cons_succ, List.getElem_cons_zero, Act.put, List.setIfInBounds_toArray, List.set_cons_zero, List.set_cons_succ]
    refine wpAnyH_done (by kernel_rfl) ?_ _
    refine NoPanic.normal ?_
    go_wp2
  · have tz : decide (a < 0) = false := decide_eq_false hz
    refine wp_region_noPanic ?_
    refine wp_region_held_drew (S := (fun w' => Blk w' g10 24 #[.int .i64 s, .int .u64 lo] ∧ Blk w' g2 24 #[.int .i64 a, .int .u64 b] ∧ Blk w' g3 24 #[.int .i64 c, .int .u64 d])) (by kernel_rfl) ⟨K10.drew, K2.drew, K3.drew⟩ (fun hHeld => ?_)
    refine wpAnyH_take (i := 0) (v := ?_) rfl (by kernel_rfl) (by kernel_rfl) (by kernel_rfl) (fun _ _ _ h => h) (Or.inl ⟨by rfl, ?_⟩) (by assumption) ?_
    rotate_left
    · intro W hW
      obtain ⟨k10, k2, k3⟩ := hW
      obtain ⟨c100, c101, f100, f101, l10⟩ := k10.two
      obtain ⟨c20, c21, f20, f21, l2⟩ := k2.two
      obtain ⟨c30, c31, f30, f31, l3⟩ := k3.two
      go_simp
      try rfl
    simp only [List.getElem_toArray, List.getElem_cons_zero, Act.put, List.setIfInBounds_toArray, List.set_cons_zero, List.set_cons_succ]
    refine wpAnyH_take (i := 1) (v := ?_) rfl (by kernel_rfl) (by kernel_rfl) (by kernel_rfl) (fun _ _ _ h => h) (Or.inl ⟨by rfl, ?_⟩) (by assumption) ?_
    rotate_left
    · intro W hW
      obtain ⟨k10, k2, k3⟩ := hW
      obtain ⟨c100, c101, f100, f101, l10⟩ := k10.two
      obtain ⟨c20, c21, f20, f21, l2⟩ := k2.two
      obtain ⟨c30, c31, f30, f31, l3⟩ := k3.two
      go_simp
      try rfl
    simp only [List.getElem_toArray, List.getElem_cons_succ, List.getElem_cons_zero, Act.put, List.setIfInBounds_toArray, List.set_cons_zero, List.set_cons_succ]
    refine wpAnyH_take (i := 2) (v := ?_) rfl (by kernel_rfl) (by kernel_rfl) (by kernel_rfl) (fun _ _ _ h => h) (Or.inl ⟨by rfl, ?_⟩) (by assumption) ?_
    rotate_left
    · intro W hW
      obtain ⟨k10, k2, k3⟩ := hW
      obtain ⟨c100, c101, f100, f101, l10⟩ := k10.two
      obtain ⟨c20, c21, f20, f21, l2⟩ := k2.two
      obtain ⟨c30, c31, f30, f31, l3⟩ := k3.two
      go_simp
      try rfl
    simp only [List.getElem_toArray, List.getElem_cons_succ, List.getElem_cons_zero, Act.put, List.setIfInBounds_toArray, List.set_cons_zero, List.set_cons_succ]
    refine wpAnyH_take (i := 3) (v := ?_) rfl (by kernel_rfl) (by kernel_rfl) (by kernel_rfl) (fun _ _ _ h => h) (Or.inl ⟨by rfl, ?_⟩) (by assumption) ?_
    rotate_left
    · intro W hW
      obtain ⟨k10, k2, k3⟩ := hW
      obtain ⟨c100, c101, f100, f101, l10⟩ := k10.two
      obtain ⟨c20, c21, f20, f21, l2⟩ := k2.two
      obtain ⟨c30, c31, f30, f31, l3⟩ := k3.two
      go_simp
      try rfl
    simp only [List.getElem_toArray, List.getElem_cons_succ, List.getElem_cons_zero, Act.put, List.setIfInBounds_toArray, List.set_cons_zero, List.set_cons_succ]
    refine wpAnyH_take (i := 4) (v := ?_) rfl (by kernel_rfl) (by kernel_rfl) (by kernel_rfl) (fun _ _ _ h => h) (Or.inl ⟨by rfl, ?_⟩) (by assumption) ?_
    rotate_left
    · intro W hW
      obtain ⟨k10, k2, k3⟩ := hW
      obtain ⟨c100, c101, f100, f101, l10⟩ := k10.two
      obtain ⟨c20, c21, f20, f21, l2⟩ := k2.two
      obtain ⟨c30, c31, f30, f31, l3⟩ := k3.two
      go_simp
      try rfl
    simp only [List.getElem_toArray, List.getElem_cons_succ, List.getElem_cons_zero, Act.put, List.setIfInBounds_toArray, List.set_cons_zero, List.set_cons_succ]
    refine wpAnyH_take (i := 5) (v := ?_) rfl (by kernel_rfl) (by kernel_rfl) (by kernel_rfl) (fun _ _ _ h => h) (Or.inl ⟨by rfl, ?_⟩) (by assumption) ?_
    rotate_left
    · intro W hW
      obtain ⟨k10, k2, k3⟩ := hW
      obtain ⟨c100, c101, f100, f101, l10⟩ := k10.two
      obtain ⟨c20, c21, f20, f21, l2⟩ := k2.two
      obtain ⟨c30, c31, f30, f31, l3⟩ := k3.two
      go_simp
      try rfl
    simp only [List.getElem_toArray, List.getElem_cons_succ, List.getElem_cons_zero, Act.put, List.setIfInBounds_toArray, List.set_cons_zero, List.set_cons_succ]
    refine wpAnyH_take (i := 6) (v := ?_) rfl (by kernel_rfl) (by kernel_rfl) (by kernel_rfl) (fun _ _ _ h => h) (Or.inl ⟨by rfl, ?_⟩) (by assumption) ?_
    rotate_left
    · intro W hW
      obtain ⟨k10, k2, k3⟩ := hW
      obtain ⟨c100, c101, f100, f101, l10⟩ := k10.two
      obtain ⟨c20, c21, f20, f21, l2⟩ := k2.two
      obtain ⟨c30, c31, f30, f31, l3⟩ := k3.two
      go_simp
      try rfl
    simp only [List.getElem_toArray, List.getElem_cons_succ, List.getElem_cons_zero, Act.put, List.setIfInBounds_toArray, List.set_cons_zero, List.set_cons_succ]
    refine wpAnyH_take (i := 7) (v := ?_) rfl (by kernel_rfl) (by kernel_rfl) (by kernel_rfl) (fun _ _ _ h => h) (Or.inl ⟨by rfl, ?_⟩) (by assumption) ?_
    rotate_left
    · intro W hW
      obtain ⟨k10, k2, k3⟩ := hW
      obtain ⟨c100, c101, f100, f101, l10⟩ := k10.two
      obtain ⟨c20, c21, f20, f21, l2⟩ := k2.two
      obtain ⟨c30, c31, f30, f31, l3⟩ := k3.two
      go_simp
      try rfl
    simp only [List.getElem_toArray, List.getElem_cons_succ, List.getElem_cons_zero, Act.put, List.setIfInBounds_toArray, List.set_cons_zero, List.set_cons_succ]
    refine wpAnyH_take (i := 8) (v := ?_) rfl (by kernel_rfl) (by kernel_rfl) (by kernel_rfl) (fun _ _ _ h => h) (Or.inl ⟨by rfl, ?_⟩) (by assumption) ?_
    rotate_left
    · intro W hW
      obtain ⟨k10, k2, k3⟩ := hW
      obtain ⟨c100, c101, f100, f101, l10⟩ := k10.two
      obtain ⟨c20, c21, f20, f21, l2⟩ := k2.two
      obtain ⟨c30, c31, f30, f31, l3⟩ := k3.two
      go_simp
      try rfl
    simp only [List.getElem_toArray, List.getElem_cons_succ, List.getElem_cons_zero, Act.put, List.setIfInBounds_toArray, List.set_cons_zero, List.set_cons_succ]
    refine wpAnyH_take (i := 9) (v := undef) rfl (by kernel_rfl) (by kernel_rfl) (by kernel_rfl) (fun _ _ _ h => h) (Or.inr ⟨by rfl, rfl⟩) (by assumption) ?_
    simp only [List.getElem_toArray, List.getElem_cons_succ, List.getElem_cons_zero, Act.put, List.setIfInBounds_toArray, List.set_cons_zero, List.set_cons_succ]
    refine wpAnyH_take (i := 10) (v := undef) rfl (by kernel_rfl) (by kernel_rfl) (by kernel_rfl) (fun _ _ _ h => h) (Or.inr ⟨by rfl, rfl⟩) (by assumption) ?_
    simp only [List.getElem_toArray, List.getElem_cons_succ, List.getElem_cons_zero, Act.put, List.setIfInBounds_toArray, List.set_cons_zero, List.set_cons_succ]
    refine wpAnyH_take (i := 11) (v := undef) rfl (by kernel_rfl) (by kernel_rfl) (by kernel_rfl) (fun _ _ _ h => h) (Or.inr ⟨by rfl, rfl⟩) (by assumption) ?_
    simp only [List.getElem_toArray, List.getElem_cons_succ, List.getElem_cons_zero, Act.put, List.setIfInBounds_toArray, List.set_cons_zero, List.set_cons_succ]
    refine wpAnyH_take (i := 12) (v := undef) rfl (by kernel_rfl) (by kernel_rfl) (by kernel_rfl) (fun _ _ _ h => h) (Or.inr ⟨by rfl, rfl⟩) (by assumption) ?_
    simp only [List.getElem_toArray, List.getElem_cons_succ, List.getElem_cons_zero, Act.put, List.setIfInBounds_toArray, List.set_cons_zero, List.set_cons_succ]
    refine wpAnyH_take (i := 13) (v := undef) rfl (by kernel_rfl) (by kernel_rfl) (by kernel_rfl) (fun _ _ _ h => h) (Or.inr ⟨by rfl, rfl⟩) (by assumption) ?_
    simp only [List.getElem_toArray, List.getElem_cons_succ, List.getElem_cons_zero, Act.put, List.setIfInBounds_toArray, List.set_cons_zero, List.set_cons_succ]
    refine wpAnyH_take (i := 14) (v := undef) rfl (by kernel_rfl) (by kernel_rfl) (by kernel_rfl) (fun _ _ _ h => h) (Or.inr ⟨by rfl, rfl⟩) (by assumption) ?_
    simp only [List.getElem_toArray, List.getElem_cons_succ, List.getElem_cons_zero, Act.put, List.setIfInBounds_toArray, List.set_cons_zero, List.set_cons_succ]
    refine wpAnyH_take (i := 15) (v := undef) rfl (by kernel_rfl) (by kernel_rfl) (by kernel_rfl) (fun _ _ _ h => h) (Or.inr ⟨by rfl, rfl⟩) (by assumption) ?_
    simp only [List.getElem_toArray, List.getElem_cons_succ, List.getElem_cons_zero, Act.put, List.setIfInBounds_toArray, List.set_cons_zero, List.set_cons_succ]
    refine wpAnyH_take (i := 16) (v := ?_) rfl (by kernel_rfl) (by kernel_rfl) (by kernel_rfl) (fun _ _ _ h => h) (Or.inl ⟨by rfl, ?_⟩) (by assumption) ?_
    rotate_left
    · intro W hW
      obtain ⟨k10, k2, k3⟩ := hW
      obtain ⟨c100, c101, f100, f101, l10⟩ := k10.two
      obtain ⟨c20, c21, f20, f21, l2⟩ := k2.two
      obtain ⟨c30, c31, f30, f31, l3⟩ := k3.two
      go_simp
      try rfl
    simp only [List.getElem_toArray, List.getElem_cons_succ, List.getElem_cons_zero, Act.put, List.setIfInBounds_toArray, List.set_cons_zero, List.set_cons_succ]
    refine wpAnyH_ready (rs := [17]) (by kernel_rfl) (by simp) ?_
    refine AllReadyH.cons rfl (fun K hK => ?_) AllReadyH.nil
    go_simp
    refine hK.out _ _ ⟨(K10.far (p := ⟨g4, 0, none⟩) n1 _).far (p := ⟨g4, 1, none⟩) n1 _, (K2.far (p := ⟨g4, 0, none⟩) n2 _).far (p := ⟨g4, 1, none⟩) n2 _, (K3.far (p := ⟨g4, 0, none⟩) n3 _).far (p := ⟨g4, 1, none⟩) n3 _⟩ (fun hHeld => ?_)
    clear hK K
    try simp only [List.getElem_toArray, List.getElem_cons_succ, List.getElem_cons_zero, Act.put, List.setIfInBounds_toArray, List.set_cons_zero, List.set_cons_succ]
    refine wpAnyH_take (i := 18) (v := ?_) rfl (by kernel_rfl) (by kernel_rfl) (by kernel_rfl) (fun _ _ _ h => h) (Or.inl ⟨by rfl, ?_⟩) (by assumption) ?_
    rotate_left
    · intro W hW
      obtain ⟨k10, k2, k3⟩ := hW
      obtain ⟨c100, c101, f100, f101, l10⟩ := k10.two
      obtain ⟨c20, c21, f20, f21, l2⟩ := k2.two
      obtain ⟨c30, c31, f30, f31, l3⟩ := k3.two
      go_simp
      try rfl
    simp only [List.getElem_toArray, List.getElem_cons_succ, List.getElem_cons_zero, Act.put, List.setIfInBounds_toArray, List.set_cons_zero, List.set_cons_succ]
    refine wpAnyH_done (by kernel_rfl) ?_ _
    refine NoPanic.normal ?_
    go_wp2
  · have tz : decide (a < 0) = false := decide_eq_false hz
    have ty : decide (c < 0) = false := decide_eq_false hy
    refine wp_region_noPanic ?_
    refine wp_region_held_drew (S := (fun w' => Blk w' g10 24 #[.int .i64 s, .int .u64 lo] ∧ Blk w' g2 24 #[.int .i64 a, .int .u64 b] ∧ Blk w' g3 24 #[.int .i64 c, .int .u64 d])) (by kernel_rfl) ⟨K10.drew, K2.drew, K3.drew⟩ (fun hHeld => ?_)
    refine wpAnyH_take (i := 0) (v := ?_) rfl (by kernel_rfl) (by kernel_rfl) (by kernel_rfl) (fun _ _ _ h => h) (Or.inl ⟨by rfl, ?_⟩) (by assumption) ?_
    rotate_left
    · intro W hW
      obtain ⟨k10, k2, k3⟩ := hW
      obtain ⟨c100, c101, f100, f101, l10⟩ := k10.two
      obtain ⟨c20, c21, f20, f21, l2⟩ := k2.two
      obtain ⟨c30, c31, f30, f31, l3⟩ := k3.two
      go_simp
      try rfl
    simp only [List.getElem_toArray, List.getElem_cons_zero, Act.put, List.setIfInBounds_toArray, List.set_cons_zero, List.set_cons_succ]
    refine wpAnyH_take (i := 1) (v := ?_) rfl (by kernel_rfl) (by kernel_rfl) (by kernel_rfl) (fun _ _ _ h => h) (Or.inl ⟨by rfl, ?_⟩) (by assumption) ?_
    rotate_left
    · intro W hW
      obtain ⟨k10, k2, k3⟩ := hW
      obtain ⟨c100, c101, f100, f101, l10⟩ := k10.two
      obtain ⟨c20, c21, f20, f21, l2⟩ := k2.two
      obtain ⟨c30, c31, f30, f31, l3⟩ := k3.two
      go_simp
      try rfl
    simp only [List.getElem_toArray, List.getElem_cons_succ, List.getElem_cons_zero, Act.put, List.setIfInBounds_toArray, List.set_cons_zero, List.set_cons_succ]
    refine wpAnyH_take (i := 2) (v := ?_) rfl (by kernel_rfl) (by kernel_rfl) (by kernel_rfl) (fun _ _ _ h => h) (Or.inl ⟨by rfl, ?_⟩) (by assumption) ?_
    rotate_left
    · intro W hW
      obtain ⟨k10, k2, k3⟩ := hW
      obtain ⟨c100, c101, f100, f101, l10⟩ := k10.two
      obtain ⟨c20, c21, f20, f21, l2⟩ := k2.two
      obtain ⟨c30, c31, f30, f31, l3⟩ := k3.two
      go_simp
      try rfl
    simp only [List.getElem_toArray, List.getElem_cons_succ, List.getElem_cons_zero, Act.put, List.setIfInBounds_toArray, List.set_cons_zero, List.set_cons_succ]
    refine wpAnyH_take (i := 3) (v := ?_) rfl (by kernel_rfl) (by kernel_rfl) (by kernel_rfl) (fun _ _ _ h => h) (Or.inl ⟨by rfl, ?_⟩) (by assumption) ?_
    rotate_left
    · intro W hW
      obtain ⟨k10, k2, k3⟩ := hW
      obtain ⟨c100, c101, f100, f101, l10⟩ := k10.two
      obtain ⟨c20, c21, f20, f21, l2⟩ := k2.two
      obtain ⟨c30, c31, f30, f31, l3⟩ := k3.two
      go_simp
      try rfl
    simp only [List.getElem_toArray, List.getElem_cons_succ, List.getElem_cons_zero, Act.put, List.setIfInBounds_toArray, List.set_cons_zero, List.set_cons_succ]
    refine wpAnyH_take (i := 4) (v := ?_) rfl (by kernel_rfl) (by kernel_rfl) (by kernel_rfl) (fun _ _ _ h => h) (Or.inl ⟨by rfl, ?_⟩) (by assumption) ?_
    rotate_left
    · intro W hW
      obtain ⟨k10, k2, k3⟩ := hW
      obtain ⟨c100, c101, f100, f101, l10⟩ := k10.two
      obtain ⟨c20, c21, f20, f21, l2⟩ := k2.two
      obtain ⟨c30, c31, f30, f31, l3⟩ := k3.two
      go_simp
      try rfl
    simp only [List.getElem_toArray, List.getElem_cons_succ, List.getElem_cons_zero, Act.put, List.setIfInBounds_toArray, List.set_cons_zero, List.set_cons_succ]
    refine wpAnyH_take (i := 5) (v := ?_) rfl (by kernel_rfl) (by kernel_rfl) (by kernel_rfl) (fun _ _ _ h => h) (Or.inl ⟨by rfl, ?_⟩) (by assumption) ?_
    rotate_left
    · intro W hW
      obtain ⟨k10, k2, k3⟩ := hW
      obtain ⟨c100, c101, f100, f101, l10⟩ := k10.two
      obtain ⟨c20, c21, f20, f21, l2⟩ := k2.two
      obtain ⟨c30, c31, f30, f31, l3⟩ := k3.two
      go_simp
      try rfl
    simp only [List.getElem_toArray, List.getElem_cons_succ, List.getElem_cons_zero, Act.put, List.setIfInBounds_toArray, List.set_cons_zero, List.set_cons_succ]
    refine wpAnyH_take (i := 6) (v := ?_) rfl (by kernel_rfl) (by kernel_rfl) (by kernel_rfl) (fun _ _ _ h => h) (Or.inl ⟨by rfl, ?_⟩) (by assumption) ?_
    rotate_left
    · intro W hW
      obtain ⟨k10, k2, k3⟩ := hW
      obtain ⟨c100, c101, f100, f101, l10⟩ := k10.two
      obtain ⟨c20, c21, f20, f21, l2⟩ := k2.two
      obtain ⟨c30, c31, f30, f31, l3⟩ := k3.two
      go_simp
      try rfl
    simp only [List.getElem_toArray, List.getElem_cons_succ, List.getElem_cons_zero, Act.put, List.setIfInBounds_toArray, List.set_cons_zero, List.set_cons_succ]
    refine wpAnyH_take (i := 7) (v := ?_) rfl (by kernel_rfl) (by kernel_rfl) (by kernel_rfl) (fun _ _ _ h => h) (Or.inl ⟨by rfl, ?_⟩) (by assumption) ?_
    rotate_left
    · intro W hW
      obtain ⟨k10, k2, k3⟩ := hW
      obtain ⟨c100, c101, f100, f101, l10⟩ := k10.two
      obtain ⟨c20, c21, f20, f21, l2⟩ := k2.two
      obtain ⟨c30, c31, f30, f31, l3⟩ := k3.two
      go_simp
      try rfl
    simp only [List.getElem_toArray, List.getElem_cons_succ, List.getElem_cons_zero, Act.put, List.setIfInBounds_toArray, List.set_cons_zero, List.set_cons_succ]
    refine wpAnyH_take (i := 8) (v := ?_) rfl (by kernel_rfl) (by kernel_rfl) (by kernel_rfl) (fun _ _ _ h => h) (Or.inl ⟨by rfl, ?_⟩) (by assumption) ?_
    rotate_left
    · intro W hW
      obtain ⟨k10, k2, k3⟩ := hW
      obtain ⟨c100, c101, f100, f101, l10⟩ := k10.two
      obtain ⟨c20, c21, f20, f21, l2⟩ := k2.two
      obtain ⟨c30, c31, f30, f31, l3⟩ := k3.two
      go_simp
      try rfl
    simp only [List.getElem_toArray, List.getElem_cons_succ, List.getElem_cons_zero, Act.put, List.setIfInBounds_toArray, List.set_cons_zero, List.set_cons_succ]
    refine wpAnyH_take (i := 9) (v := ?_) rfl (by kernel_rfl) (by kernel_rfl) (by kernel_rfl) (fun _ _ _ h => h) (Or.inl ⟨by rfl, ?_⟩) (by assumption) ?_
    rotate_left
    · intro W hW
      obtain ⟨k10, k2, k3⟩ := hW
      obtain ⟨c100, c101, f100, f101, l10⟩ := k10.two
      obtain ⟨c20, c21, f20, f21, l2⟩ := k2.two
      obtain ⟨c30, c31, f30, f31, l3⟩ := k3.two
      go_simp
      try rfl
    simp only [List.getElem_toArray, List.getElem_cons_succ, List.getElem_cons_zero, Act.put, List.setIfInBounds_toArray, List.set_cons_zero, List.set_cons_succ]
    refine wpAnyH_take (i := 10) (v := ?_) rfl (by kernel_rfl) (by kernel_rfl) (by kernel_rfl) (fun _ _ _ h => h) (Or.inl ⟨by rfl, ?_⟩) (by assumption) ?_
    rotate_left
    · intro W hW
      obtain ⟨k10, k2, k3⟩ := hW
      obtain ⟨c100, c101, f100, f101, l10⟩ := k10.two
      obtain ⟨c20, c21, f20, f21, l2⟩ := k2.two
      obtain ⟨c30, c31, f30, f31, l3⟩ := k3.two
      go_simp
      try rfl
    simp only [List.getElem_toArray, List.getElem_cons_succ, List.getElem_cons_zero, Act.put, List.setIfInBounds_toArray, List.set_cons_zero, List.set_cons_succ]
    refine wpAnyH_take (i := 11) (v := ?_) rfl (by kernel_rfl) (by kernel_rfl) (by kernel_rfl) (fun _ _ _ h => h) (Or.inl ⟨by rfl, ?_⟩) (by assumption) ?_
    rotate_left
    · intro W hW
      obtain ⟨k10, k2, k3⟩ := hW
      obtain ⟨c100, c101, f100, f101, l10⟩ := k10.two
      obtain ⟨c20, c21, f20, f21, l2⟩ := k2.two
      obtain ⟨c30, c31, f30, f31, l3⟩ := k3.two
      go_simp
      try rfl
    simp only [List.getElem_toArray, List.getElem_cons_succ, List.getElem_cons_zero, Act.put, List.setIfInBounds_toArray, List.set_cons_zero, List.set_cons_succ]
    refine wpAnyH_take (i := 12) (v := ?_) rfl (by kernel_rfl) (by kernel_rfl) (by kernel_rfl) (fun _ _ _ h => h) (Or.inl ⟨by rfl, ?_⟩) (by assumption) ?_
    rotate_left
    · intro W hW
      obtain ⟨k10, k2, k3⟩ := hW
      obtain ⟨c100, c101, f100, f101, l10⟩ := k10.two
      obtain ⟨c20, c21, f20, f21, l2⟩ := k2.two
      obtain ⟨c30, c31, f30, f31, l3⟩ := k3.two
      go_simp
      try rfl
    simp only [List.getElem_toArray, List.getElem_cons_succ, List.getElem_cons_zero, Act.put, List.setIfInBounds_toArray, List.set_cons_zero, List.set_cons_succ]
    refine wpAnyH_take (i := 13) (v := ?_) rfl (by kernel_rfl) (by kernel_rfl) (by kernel_rfl) (fun _ _ _ h => h) (Or.inl ⟨by rfl, ?_⟩) (by assumption) ?_
    rotate_left
    · intro W hW
      obtain ⟨k10, k2, k3⟩ := hW
      obtain ⟨c100, c101, f100, f101, l10⟩ := k10.two
      obtain ⟨c20, c21, f20, f21, l2⟩ := k2.two
      obtain ⟨c30, c31, f30, f31, l3⟩ := k3.two
      go_simp
      try rfl
    simp only [List.getElem_toArray, List.getElem_cons_succ, List.getElem_cons_zero, Act.put, List.setIfInBounds_toArray, List.set_cons_zero, List.set_cons_succ]
    refine wpAnyH_take (i := 14) (v := ?_) rfl (by kernel_rfl) (by kernel_rfl) (by kernel_rfl) (fun _ _ _ h => h) (Or.inl ⟨by rfl, ?_⟩) (by assumption) ?_
    rotate_left
    · intro W hW
      obtain ⟨k10, k2, k3⟩ := hW
      obtain ⟨c100, c101, f100, f101, l10⟩ := k10.two
      obtain ⟨c20, c21, f20, f21, l2⟩ := k2.two
      obtain ⟨c30, c31, f30, f31, l3⟩ := k3.two
      go_simp
      try rfl
    simp only [List.getElem_toArray, List.getElem_cons_succ, List.getElem_cons_zero, Act.put, List.setIfInBounds_toArray, List.set_cons_zero, List.set_cons_succ]
    refine wpAnyH_take (i := 15) (v := ?_) rfl (by kernel_rfl) (by kernel_rfl) (by kernel_rfl) (fun _ _ _ h => h) (Or.inl ⟨by rfl, ?_⟩) (by assumption) ?_
    rotate_left
    · intro W hW
      obtain ⟨k10, k2, k3⟩ := hW
      obtain ⟨c100, c101, f100, f101, l10⟩ := k10.two
      obtain ⟨c20, c21, f20, f21, l2⟩ := k2.two
      obtain ⟨c30, c31, f30, f31, l3⟩ := k3.two
      go_simp
      try rfl
    simp only [List.getElem_toArray, List.getElem_cons_succ, List.getElem_cons_zero, Act.put, List.setIfInBounds_toArray, List.set_cons_zero, List.set_cons_succ]
    refine wpAnyH_take (i := 16) (v := ?_) rfl (by kernel_rfl) (by kernel_rfl) (by kernel_rfl) (fun _ _ _ h => h) (Or.inl ⟨by rfl, ?_⟩) (by assumption) ?_
    rotate_left
    · intro W hW
      obtain ⟨k10, k2, k3⟩ := hW
      obtain ⟨c100, c101, f100, f101, l10⟩ := k10.two
      obtain ⟨c20, c21, f20, f21, l2⟩ := k2.two
      obtain ⟨c30, c31, f30, f31, l3⟩ := k3.two
      go_simp
      try rfl
    simp only [List.getElem_toArray, List.getElem_cons_succ, List.getElem_cons_zero, Act.put, List.setIfInBounds_toArray, List.set_cons_zero, List.set_cons_succ]
    refine wpAnyH_ready (rs := [17]) (by kernel_rfl) (by simp) ?_
    refine AllReadyH.cons rfl (fun K hK => ?_) AllReadyH.nil
    go_simp
    refine hK.out _ _ ⟨(K10.far (p := ⟨g4, 0, none⟩) n1 _).far (p := ⟨g4, 1, none⟩) n1 _, (K2.far (p := ⟨g4, 0, none⟩) n2 _).far (p := ⟨g4, 1, none⟩) n2 _, (K3.far (p := ⟨g4, 0, none⟩) n3 _).far (p := ⟨g4, 1, none⟩) n3 _⟩ (fun hHeld => ?_)
    clear hK K
    try simp only [List.getElem_toArray, List.getElem_cons_succ, List.getElem_cons_zero, Act.put, List.setIfInBounds_toArray, List.set_cons_zero, List.set_cons_succ]
    refine wpAnyH_take (i := 18) (v := ?_) rfl (by kernel_rfl) (by kernel_rfl) (by kernel_rfl) (fun _ _ _ h => h) (Or.inl ⟨by rfl, ?_⟩) (by assumption) ?_
    rotate_left
    · intro W hW
      obtain ⟨k10, k2, k3⟩ := hW
      obtain ⟨c100, c101, f100, f101, l10⟩ := k10.two
      obtain ⟨c20, c21, f20, f21, l2⟩ := k2.two
      obtain ⟨c30, c31, f30, f31, l3⟩ := k3.two
      go_simp
      try rfl
    simp only [List.getElem_toArray, List.getElem_cons_succ, List.getElem_cons_zero, Act.put, List.setIfInBounds_toArray, List.set_cons_zero, List.set_cons_succ]
    refine wpAnyH_done (by kernel_rfl) ?_ _
    refine NoPanic.normal ?_
    go_wp2
end Go.Proofs.YtpomhcclnhddmaaDoor
