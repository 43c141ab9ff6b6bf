/- Contracts of the package wide: signed, Mul. -/
import Derived.Test.YtpomhcclnhddmaaDoorWidD
import Derived.Test.YtpomhcclnhddmaaDoorWidE
namespace Go.Proofs.YtpomhcclnhddmaaDoor
open Go.RowKit Go.Shelf
set_option linter.unusedVariables false
section
variable {fn : Func} {a : Act} {w1 : World} {p q r : Tmp} {g : Nat} {h l : Int} {v u : Value} {Post : Ending → World → Prop}
theorem ret_w (hres : fn.results = #[.cell p 24]) (ht : a.tmps.getD p undef = .pointer (some ⟨g, 0, none⟩)) (hd : a.defers = []) (k : Blk w1 g 24 #[.int .i64 h, .int .u64 l]) (hP : Post (.returned (wv h l)) w1) : bodyPost Tryd.prog fn Post .ret a w1 := by
  obtain ⟨c0, c1, _, _, _⟩ := k.two
  rw [Array.getD_eq_getD_getElem?] at ht
  exact bodyPost_ret (v := wv h l) (by simp [results, hres, go_sem, ht, c0, c1]) hd hP
theorem ret_wt (hres : fn.results = #[.cell p 24, .tmp q]) (ht : a.tmps.getD p undef = .pointer (some ⟨g, 0, none⟩)) (hq : a.tmps.getD q undef = v) (hd : a.defers = []) (k : Blk w1 g 24 #[.int .i64 h, .int .u64 l]) (hP : Post (.returned (.tuple #[wv h l, v])) w1) : bodyPost Tryd.prog fn Post .ret a w1 := by
  obtain ⟨c0, c1, _, _, _⟩ := k.two
  rw [Array.getD_eq_getD_getElem?] at ht hq
  exact bodyPost_ret (v := .tuple #[wv h l, v]) (by simp [results, hres, go_sem, ht, hq, c0, c1]) hd hP
theorem ret_wtt (hres : fn.results = #[.cell p 24, .tmp q, .tmp r]) (ht : a.tmps.getD p undef = .pointer (some ⟨g, 0, none⟩)) (hq : a.tmps.getD q undef = v) (hr : a.tmps.getD r undef = u) (hd : a.defers = []) (k : Blk w1 g 24 #[.int .i64 h, .int .u64 l]) (hP : Post (.returned (.tuple #[wv h l, v, u])) w1) : bodyPost Tryd.prog fn Post .ret a w1 := by
  obtain ⟨c0, c1, _, _, _⟩ := k.two
  rw [Array.getD_eq_getD_getElem?] at ht hq hr
  exact bodyPost_ret (v := .tuple #[wv h l, v, u]) (by simp [results, hres, go_sem, ht, hq, hr, c0, c1]) hd hP
end
theorem wr_neg (z : Int) : wr (0 - wr z) = wr (-z) := by unfold wr; omega
theorem wr_nat {hi lo : Int} (hl : 0 ≤ lo) (hl' : lo < 18446744073709551616) : wr (hi * 18446744073709551616 + lo) / 18446744073709551616 = wrap64 hi ∧ wr (hi * 18446744073709551616 + lo) % 18446744073709551616 = lo := by
  have h := wr_hi _ hi lo rfl hl hl'
  rw [h.1, h.2]
  unfold wrap64
  exact ⟨rfl, rfl⟩
theorem zeroV : wV 0 = wv 0 0 := rfl
set_option maxRecDepth 100000 in
set_option maxHeartbeats 2000000 in
theorem signed_no (hi lo : Int) (h0 : 0 ≤ hi) (h1 : hi < 18446744073709551616) (l0 : 0 ≤ lo) (l1 : lo < 18446744073709551616) (w : World) :
    Calls Tryd.prog 51 #[.bool false, .int .u64 hi, .int .u64 lo] w fun e w' => e = .returned (.tuple #[wV (wr (hi * 18446744073709551616 + lo)), .bool (decide (inW (hi * 18446744073709551616 + lo)))]) ∧ Below w.heap.size w w' := by
  obtain ⟨a, b⟩ := @wr_nat hi lo l0 l1
  show Calls Tryd.prog 51 #[.bool false, .int .u64 hi, .int .u64 lo] w fun e w' => e = .returned (.tuple #[wv (wr (hi * 18446744073709551616 + lo) / 18446744073709551616) (wr (hi * 18446744073709551616 + lo) % 18446744073709551616), _]) ∧ _
  rw [a, b, show decide (inW (hi * 18446744073709551616 + lo)) = decide (hi < 9223372036854775808) from decide_eq_decide.2 (by omega)]
  clear a b
  by_cases hh : hi < 9223372036854775808
  · rw [show wrap64 hi = hi by unfold wrap64; omega, decide_eq_true hh]
    go_enter Tryd.func51, Tryd.ntmps51
    go_wp2
    simp [bodyPost, results, Tryd.results51, go_sem]
    exact ba1 _ _
  · have ht : decide (hi < 9223372036854775808) = false := decide_eq_false hh
    obtain ⟨v, hv⟩ : ∃ v, wrap64 hi = v := ⟨_, rfl⟩
    rw [hv, ht]
    go_enter Tryd.func51, Tryd.ntmps51
    go_wp2
    simp [bodyPost, results, Tryd.results51, go_sem]
    exact ba1 _ _
set_option maxRecDepth 100000 in
set_option maxHeartbeats 2000000 in
theorem signed_yes (hi lo : Int) (h0 : 0 ≤ hi) (h1 : hi < 18446744073709551616) (l0 : 0 ≤ lo) (l1 : lo < 18446744073709551616) (w : World) :
    Calls Tryd.prog 51 #[.bool true, .int .u64 hi, .int .u64 lo] w fun e w' => e = .returned (.tuple #[wV (wr (-(hi * 18446744073709551616 + lo))), .bool (decide (inW (-(hi * 18446744073709551616 + lo))))]) ∧ Below w.heap.size w w' := by
  have hc := fun w => dif_c 0 (wr (hi * 18446744073709551616 + lo)) (by decide) (wr_in _) w
  rw [wr_neg, zeroV] at hc
  obtain ⟨a, b⟩ := @wr_nat hi lo l0 l1
  have hc : ∀ w, Calls Tryd.prog 45 #[wv 0 0, wv (wr (hi * 18446744073709551616 + lo) / 18446744073709551616) (wr (hi * 18446744073709551616 + lo) % 18446744073709551616)] w _ := hc
  rw [a, b] at hc
  clear a b
  show Calls Tryd.prog 51 #[.bool true, .int .u64 hi, .int .u64 lo] w fun e w' => e = .returned (.tuple #[wv (wr (-(hi * 18446744073709551616 + lo)) / 18446744073709551616) (wr (-(hi * 18446744073709551616 + lo)) % 18446744073709551616), _]) ∧ _
  have hc : ∀ w, Calls Tryd.prog 45 #[wv 0 0, wv (wrap64 hi) lo] w fun e w' => e = .returned (.tuple #[wv (wr (-(hi * 18446744073709551616 + lo)) / 18446744073709551616) (wr (-(hi * 18446744073709551616 + lo)) % 18446744073709551616), _]) ∧ _ := hc
  rw [show decide (inW (-(hi * 18446744073709551616 + lo))) = decide (hi < 9223372036854775808 ∨ (hi = 9223372036854775808 ∧ lo = 0)) from decide_eq_decide.2 (by omega)]
  generalize wr (-(hi * 18446744073709551616 + lo)) / 18446744073709551616 = s at *
  generalize wr (-(hi * 18446744073709551616 + lo)) % 18446744073709551616 = t at *
  by_cases hh : hi < 9223372036854775808
  · rw [show decide (hi < 9223372036854775808 ∨ (hi = 9223372036854775808 ∧ lo = 0)) = true from decide_eq_true (Or.inl hh)]
    rw [show wrap64 hi = hi by unfold wrap64; omega] at hc
    have HC := Lib.hid hc
    clear hc
    go_enter Tryd.func51, Tryd.ntmps51
    go_wp2_with fail
    refine (HC.out _).mono ?_
    rintro e w1 ⟨rfl, hb1⟩
    have hB1 := below_two (ba1 w (oW 0 0)) hb1
    have K6 := (Blk.new w 24 #[.int .i64 0, .int .u64 0]).under hb1
    obtain ⟨c0, c1, f0, f1, hl⟩ := K6.two
    have KF := Lib.hid ((K6.set2 (.int .i64 s) (.int .u64 t)).alloc (oW s t))
    have HB := Lib.hid (below_alloc ((hB1.setCell (p := ⟨w.heap.size, 0, none⟩) (Nat.le_refl _) (.int .i64 s)).setCell (p := ⟨w.heap.size, 1, none⟩) (Nat.le_refl _) (.int .u64 t)) (Nat.le_refl _) (oW s t))
    clear hb1 K6 HC hB1
    go_wp2_with fail
    exact ret_wt rfl rfl rfl rfl KF.out ⟨rfl, HB.out⟩
  · have ht : decide (hi < 9223372036854775808) = false := decide_eq_false hh
    obtain ⟨v, hv⟩ : ∃ v, wrap64 hi = v := ⟨_, rfl⟩
    rw [hv] at hc
    have HC := Lib.hid hc
    clear hc
    by_cases he : hi = 9223372036854775808
    · have te : (hi == 9223372036854775808) = true := beq_iff_eq.2 he
      by_cases hz : lo = 0
      · rw [show decide (hi < 9223372036854775808 ∨ (hi = 9223372036854775808 ∧ lo = 0)) = true from decide_eq_true (Or.inr ⟨he, hz⟩)]
        have tz : (lo == 0) = true := beq_iff_eq.2 hz
        clear he hz hh
        go_enter Tryd.func51, Tryd.ntmps51
        go_wp2_with fail
        refine (HC.out _).mono ?_
        rintro e w1 ⟨rfl, hb1⟩
        have hB1 := below_two (ba1 w (oW 0 0)) hb1
        have K6 := (Blk.new w 24 #[.int .i64 0, .int .u64 0]).under hb1
        obtain ⟨c0, c1, f0, f1, hl⟩ := K6.two
        have KF := Lib.hid ((K6.set2 (.int .i64 s) (.int .u64 t)).alloc (oW s t))
        have HB := Lib.hid (below_alloc ((hB1.setCell (p := ⟨w.heap.size, 0, none⟩) (Nat.le_refl _) (.int .i64 s)).setCell (p := ⟨w.heap.size, 1, none⟩) (Nat.le_refl _) (.int .u64 t)) (Nat.le_refl _) (oW s t))
        clear hb1 K6 HC hB1
        go_wp2_with fail
        exact ret_wt rfl rfl rfl rfl KF.out ⟨rfl, HB.out⟩
      · rw [show decide (hi < 9223372036854775808 ∨ (hi = 9223372036854775808 ∧ lo = 0)) = false from decide_eq_false (by omega)]
        have tz : (lo == 0) = false := beq_eq_false_iff_ne.2 hz
        clear he hz hh
        go_enter Tryd.func51, Tryd.ntmps51
        go_wp2_with fail
        refine (HC.out _).mono ?_
        rintro e w1 ⟨rfl, hb1⟩
        have hB1 := below_two (ba1 w (oW 0 0)) hb1
        have K6 := (Blk.new w 24 #[.int .i64 0, .int .u64 0]).under hb1
        obtain ⟨c0, c1, f0, f1, hl⟩ := K6.two
        have KF := Lib.hid ((K6.set2 (.int .i64 s) (.int .u64 t)).alloc (oW s t))
        have HB := Lib.hid (below_alloc ((hB1.setCell (p := ⟨w.heap.size, 0, none⟩) (Nat.le_refl _) (.int .i64 s)).setCell (p := ⟨w.heap.size, 1, none⟩) (Nat.le_refl _) (.int .u64 t)) (Nat.le_refl _) (oW s t))
        clear hb1 K6 HC hB1
        go_wp2_with fail
        exact ret_wt rfl rfl rfl rfl KF.out ⟨rfl, HB.out⟩
    · rw [show decide (hi < 9223372036854775808 ∨ (hi = 9223372036854775808 ∧ lo = 0)) = false from decide_eq_false (by omega)]
      have te : (hi == 9223372036854775808) = false := beq_eq_false_iff_ne.2 he
      clear he hh
      go_enter Tryd.func51, Tryd.ntmps51
      go_wp2_with fail
      refine (HC.out _).mono ?_
      rintro e w1 ⟨rfl, hb1⟩
      have hB1 := below_two (ba1 w (oW 0 0)) hb1
      have K6 := (Blk.new w 24 #[.int .i64 0, .int .u64 0]).under hb1
      obtain ⟨c0, c1, f0, f1, hl⟩ := K6.two
      have KF := Lib.hid ((K6.set2 (.int .i64 s) (.int .u64 t)).alloc (oW s t))
      have HB := Lib.hid (below_alloc ((hB1.setCell (p := ⟨w.heap.size, 0, none⟩) (Nat.le_refl _) (.int .i64 s)).setCell (p := ⟨w.heap.size, 1, none⟩) (Nat.le_refl _) (.int .u64 t)) (Nat.le_refl _) (oW s t))
      clear hb1 K6 HC hB1
      go_wp2_with fail
      exact ret_wt rfl rfl rfl rfl KF.out ⟨rfl, HB.out⟩
end Go.Proofs.YtpomhcclnhddmaaDoor
