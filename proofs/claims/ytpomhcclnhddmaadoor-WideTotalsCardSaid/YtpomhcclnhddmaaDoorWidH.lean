/- Contracts of the package wide: Compare, Int. -/
import Derived.Test.YtpomhcclnhddmaaDoorWidG
namespace Go.Proofs.YtpomhcclnhddmaaDoor
open Go.RowKit Go.Shelf
set_option linter.unusedVariables false
def cmpV (X Y : Int) : Int := if X = Y then 0 else if X < Y then -1 else 1
set_option maxRecDepth 100000 in
set_option maxHeartbeats 2000000 in
theorem compare_w (X Y : Int) (w : World) : Calls Tryd.prog 29 #[wV X, wV Y] w fun e w' => e = .returned (.int .i64 (cmpV X Y)) ∧ Below w.heap.size w w' := by
  have hx : X = X / 18446744073709551616 * 18446744073709551616 + X % 18446744073709551616 := by omega
  have hy : Y = Y / 18446744073709551616 * 18446744073709551616 + Y % 18446744073709551616 := by omega
  obtain ⟨b0, b1⟩ := lo_in X
  obtain ⟨d0, d1⟩ := lo_in Y
  show Calls Tryd.prog 29 #[wv (X / 18446744073709551616) (X % 18446744073709551616), wv (Y / 18446744073709551616) (Y % 18446744073709551616)] w _
  rw [show cmpV X Y = cmpV (X / 18446744073709551616 * 18446744073709551616 + X % 18446744073709551616) (Y / 18446744073709551616 * 18446744073709551616 + Y % 18446744073709551616) by rw [← hx, ← hy]]
  clear hx hy
  generalize X / 18446744073709551616 = a at *
  generalize X % 18446744073709551616 = b at *
  generalize Y / 18446744073709551616 = c at *
  generalize Y % 18446744073709551616 = d at *
  have HB := Lib.hid (ba2 w (oW a b) (oW c d))
  by_cases h1 : a = c
  · subst h1
    by_cases h2 : b = d
    · subst h2
      rw [show cmpV (a * 18446744073709551616 + b) (a * 18446744073709551616 + b) = 0 from if_pos rfl]
      go_enter Tryd.func29, Tryd.ntmps29
      go_wp2
      go_ret
      exact ⟨rfl, HB.out⟩
    · have t1 : (b == d) = false := beq_eq_false_iff_ne.2 h2
      have t2 : ¬ a < a := by omega
      by_cases h3 : b < d
      · rw [show cmpV (a * 18446744073709551616 + b) (a * 18446744073709551616 + d) = -1 by unfold cmpV; rw [if_neg (by omega), if_pos (by omega)]]
        clear h2
        go_enter Tryd.func29, Tryd.ntmps29
        go_wp2
        go_ret
        exact ⟨rfl, HB.out⟩
      · rw [show cmpV (a * 18446744073709551616 + b) (a * 18446744073709551616 + d) = 1 by unfold cmpV; rw [if_neg (by omega), if_neg (by omega)]]
        have t3 : decide (b < d) = false := decide_eq_false h3
        clear h2 h3
        go_enter Tryd.func29, Tryd.ntmps29
        go_wp2
        go_ret
        exact ⟨rfl, HB.out⟩
  · have t1 : (a == c) = false := beq_eq_false_iff_ne.2 h1
    by_cases h3 : a < c
    · rw [show cmpV (a * 18446744073709551616 + b) (c * 18446744073709551616 + d) = -1 by unfold cmpV; rw [if_neg (by omega), if_pos (by omega)]]
      clear h1
      go_enter Tryd.func29, Tryd.ntmps29
      go_wp2
      go_ret
      exact ⟨rfl, HB.out⟩
    · rw [show cmpV (a * 18446744073709551616 + b) (c * 18446744073709551616 + d) = 1 by unfold cmpV; rw [if_neg (by omega), if_neg (by omega)]]
      have t3 : decide (a < c) = false := decide_eq_false h3
      clear h1 h3
      go_enter Tryd.func29, Tryd.ntmps29
      go_wp2
      go_ret
      exact ⟨rfl, HB.out⟩
/-- a number told as one of 64 bits, or that it is none -/
abbrev in64 (x : Int) : Prop := -9223372036854775808 ≤ x ∧ x ≤ 9223372036854775807
set_option maxRecDepth 100000 in
set_option maxHeartbeats 2000000 in
theorem int_w (X : Int) (hX : inW X) (w : World) : Calls Tryd.prog 28 #[wV X] w fun e w' => e = .returned (.tuple #[.int .i64 (if in64 X then X else 0), .int .i64 (if in64 X then 0 else 5)]) ∧ Below w.heap.size w w' := by
  obtain ⟨b0, b1⟩ := lo_in X
  have hv : (in64 X → wrap64 (X % 18446744073709551616) = X ∧ X / 18446744073709551616 = wrap64 (X % 18446744073709551616) / 9223372036854775808) ∧ (¬ in64 X → ¬ X / 18446744073709551616 = wrap64 (X % 18446744073709551616) / 9223372036854775808) := by
    unfold wrap64; omega
  have hm : wrap64 (X % 18446744073709551616) % 18446744073709551616 = X % 18446744073709551616 := by unfold wrap64; omega
  have hb : -9223372036854775808 ≤ wrap64 (X % 18446744073709551616) ∧ wrap64 (X % 18446744073709551616) ≤ 9223372036854775807 := by unfold wrap64; omega
  have ho := fun w => of_c (wrap64 (X % 18446744073709551616)) hb.1 hb.2 w
  rw [hm] at ho
  show Calls Tryd.prog 28 #[wv (X / 18446744073709551616) (X % 18446744073709551616)] w _
  obtain ⟨v, hv'⟩ : ∃ v, wrap64 (X % 18446744073709551616) = v := ⟨_, rfl⟩
  rw [hv'] at ho hv
  clear hm hb hX
  generalize hq : v / 9223372036854775808 = q at *
  have S0 : (w.alloc (oW (X / 18446744073709551616) (X % 18446744073709551616))).drew.cell? ⟨w.heap.size, 0, none⟩ = some (.int .i64 (X / 18446744073709551616)) ∧ (w.alloc (oW (X / 18446744073709551616) (X % 18446744073709551616))).drew.cell? ⟨w.heap.size, 1, none⟩ = some (.int .u64 (X % 18446744073709551616)) := ⟨(Blk.new w 24 _).drew.two.1, (Blk.new w 24 _).drew.two.2.1⟩
  have K0 := Blk.new w 24 #[.int .i64 (X / 18446744073709551616), .int .u64 (X % 18446744073709551616)]
  generalize X / 18446744073709551616 = a at *
  generalize X % 18446744073709551616 = b at *
  have HO := Lib.hid ho
  have hvw : IntKind.i64.wrap b = v := by rw [IntKind.wrap_i64]; unfold wrap64 at hv'; exact hv'
  clear ho hq
  by_cases h : in64 X
  · obtain ⟨e1, e2⟩ := hv.1 h
    rw [if_pos h, if_pos h]
    subst e1 e2
    clear hv h
    have t1 := fun w => told64_yes v w
    go_enter Tryd.func28, Tryd.ntmps28
    go_upto_region 1 with fail
    refine wp_region_noPanic ?_
    refine wp_region_held_drew (S := (fun w' => w'.cell? ⟨w.heap.size, 0, none⟩ = some (.int .i64 a) ∧ w'.cell? ⟨w.heap.size, 1, none⟩ = some (.int .u64 b))) (by kernel_rfl) S0 (fun hHeld => ?_)
    refine wpAnyH_take (i := 0) (v := ?_) rfl (by kernel_rfl) (by kernel_rfl) (by kernel_rfl) (fun _ _ _ h => h) (Or.inl ⟨by rfl, ?_⟩) (by assumption) ?_
    rotate_left
    · intro W hW
      obtain ⟨x0, x1⟩ := hW
      go_simp
      try rfl
    simp only [List.getElem_toArray, List.getElem_cons_zero, Act.put, List.setIfInBounds_toArray, List.set_cons_zero, List.set_cons_succ]
    refine wpAnyH_take (i := 1) (v := ?_) rfl (by kernel_rfl) (by kernel_rfl) (by kernel_rfl) (fun _ _ _ h => h) (Or.inl ⟨by rfl, ?_⟩) (by assumption) ?_
    rotate_left
    · intro W hW
      obtain ⟨x0, x1⟩ := hW
      go_simp
      try rfl
    simp only [List.getElem_toArray, List.getElem_cons_succ, List.getElem_cons_zero, Act.put, List.setIfInBounds_toArray, List.set_cons_zero, List.set_cons_succ]
    refine wpAnyH_take (i := 2) (v := ?_) rfl (by kernel_rfl) (by kernel_rfl) (by kernel_rfl) (fun _ _ _ h => h) (Or.inl ⟨by rfl, ?_⟩) (by assumption) ?_
    rotate_left
    · intro W hW
      obtain ⟨x0, x1⟩ := hW
      go_simp
      try rfl
    simp only [List.getElem_toArray, List.getElem_cons_succ, List.getElem_cons_zero, Act.put, List.setIfInBounds_toArray, List.set_cons_zero, List.set_cons_succ]
    refine wpAnyH_take (i := 3) (v := ?_) rfl (by kernel_rfl) (by kernel_rfl) (by kernel_rfl) (fun _ _ _ h => h) (Or.inl ⟨by rfl, ?_⟩) (by assumption) ?_
    rotate_left
    · intro W hW
      obtain ⟨x0, x1⟩ := hW
      go_simp
      try rfl
    simp only [List.getElem_toArray, List.getElem_cons_succ, List.getElem_cons_zero, Act.put, List.setIfInBounds_toArray, List.set_cons_zero, List.set_cons_succ]
    refine wpAnyH_take (i := 4) (v := ?_) rfl (by kernel_rfl) (by kernel_rfl) (by kernel_rfl) (fun _ _ _ h => h) (Or.inl ⟨by rfl, ?_⟩) (by assumption) ?_
    rotate_left
    · intro W hW
      obtain ⟨x0, x1⟩ := hW
      go_simp
      try rfl
    simp only [List.getElem_toArray, List.getElem_cons_succ, List.getElem_cons_zero, Act.put, List.setIfInBounds_toArray, List.set_cons_zero, List.set_cons_succ]
    refine wpAnyH_take (i := 5) (v := ?_) rfl (by kernel_rfl) (by kernel_rfl) (by kernel_rfl) (fun _ _ _ h => h) (Or.inl ⟨by rfl, ?_⟩) (by assumption) ?_
    rotate_left
    · intro W hW
      obtain ⟨x0, x1⟩ := hW
      go_simp
      try rfl
    simp only [List.getElem_toArray, List.getElem_cons_succ, List.getElem_cons_zero, Act.put, List.setIfInBounds_toArray, List.set_cons_zero, List.set_cons_succ]
    refine wpAnyH_take (i := 6) (v := ?_) rfl (by kernel_rfl) (by kernel_rfl) (by kernel_rfl) (fun _ _ _ h => h) (Or.inl ⟨by rfl, ?_⟩) (by assumption) ?_
    rotate_left
    · intro W hW
      obtain ⟨x0, x1⟩ := hW
      go_simp
      try rfl
    simp only [List.getElem_toArray, List.getElem_cons_succ, List.getElem_cons_zero, Act.put, List.setIfInBounds_toArray, List.set_cons_zero, List.set_cons_succ]
    refine wpAnyH_ready (rs := [7]) (by kernel_rfl) (by simp) ?_
    refine AllReadyH.cons rfl (fun K hK => ?_) AllReadyH.nil
    go_simp
    refine (HO.out _).mono ?_
    rintro e w1 ⟨rfl, hb1⟩
    have S1 := (K0.drew.under hb1).two
    refine hK.out _ _ ⟨S1.1, S1.2.1⟩ (fun hHeld => ?_)
    clear hK K
    try simp only [List.getElem_toArray, List.getElem_cons_succ, List.getElem_cons_zero, Act.put, List.setIfInBounds_toArray, List.set_cons_zero, List.set_cons_succ]
    refine wpAnyH_take (i := 8) (v := ?_) rfl (by kernel_rfl) (by kernel_rfl) (by kernel_rfl) (fun _ _ _ h => h) (Or.inl ⟨by rfl, ?_⟩) (by assumption) ?_
    rotate_left
    · intro W hW
      obtain ⟨x0, x1⟩ := hW
      go_simp
      try rfl
    simp only [List.getElem_toArray, List.getElem_cons_succ, List.getElem_cons_zero, Act.put, List.setIfInBounds_toArray, List.set_cons_zero, List.set_cons_succ]
    refine wpAnyH_ready (rs := [9]) (by kernel_rfl) (by simp) ?_
    refine AllReadyH.cons rfl (fun K hK => ?_) AllReadyH.nil
    go_simp
    refine (t1 _).mono ?_
    rintro e w2 ⟨rfl, rfl⟩
    refine hK.out _ _ ⟨S1.1, S1.2.1⟩ (fun hHeld => ?_)
    clear hK K
    try simp only [List.getElem_toArray, List.getElem_cons_succ, List.getElem_cons_zero, Act.put, List.setIfInBounds_toArray, List.set_cons_zero, List.set_cons_succ]
    refine wpAnyH_take (i := 10) (v := ?_) rfl (by kernel_rfl) (by kernel_rfl) (by kernel_rfl) (fun _ _ _ h => h) (Or.inl ⟨by rfl, ?_⟩) (by assumption) ?_
    rotate_left
    · intro W hW
      obtain ⟨x0, x1⟩ := hW
      go_simp
      try rfl
    simp only [List.getElem_toArray, List.getElem_cons_succ, List.getElem_cons_zero, Act.put, List.setIfInBounds_toArray, List.set_cons_zero, List.set_cons_succ]
    refine wpAnyH_take (i := 11) (v := ?_) rfl (by kernel_rfl) (by kernel_rfl) (by kernel_rfl) (fun _ _ _ h => h) (Or.inl ⟨by rfl, ?_⟩) (by assumption) ?_
    rotate_left
    · intro W hW
      obtain ⟨x0, x1⟩ := hW
      go_simp
      try rfl
    simp only [List.getElem_toArray, List.getElem_cons_succ, List.getElem_cons_zero, Act.put, List.setIfInBounds_toArray, List.set_cons_zero, List.set_cons_succ]
    refine wpAnyH_take (i := 12) (v := ?_) rfl (by kernel_rfl) (by kernel_rfl) (by kernel_rfl) (fun _ _ _ h => h) (Or.inl ⟨by rfl, ?_⟩) (by assumption) ?_
    rotate_left
    · intro W hW
      obtain ⟨x0, x1⟩ := hW
      go_simp
      try rfl
    simp only [List.getElem_toArray, List.getElem_cons_succ, List.getElem_cons_zero, Act.put, List.setIfInBounds_toArray, List.set_cons_zero, List.set_cons_succ]
    refine wpAnyH_take (i := 13) (v := ?_) rfl (by kernel_rfl) (by kernel_rfl) (by kernel_rfl) (fun _ _ _ h => h) (Or.inl ⟨by rfl, ?_⟩) (by assumption) ?_
    rotate_left
    · intro W hW
      obtain ⟨x0, x1⟩ := hW
      go_simp
      try rfl
    simp only [List.getElem_toArray, List.getElem_cons_succ, List.getElem_cons_zero, Act.put, List.setIfInBounds_toArray, List.set_cons_zero, List.set_cons_succ]
    refine wpAnyH_done (by kernel_rfl) ?_ _
    refine NoPanic.normal ?_
    have hB : Below w.heap.size w w1 := by
      have h1 : Below (w.alloc (oW a b)).heap.size (w.alloc (oW a b)) w1 := ⟨hb1.os, hb1.tape, hb1.output, hb1.size, hb1.block⟩
      exact below_two (ba1 w (oW a b)) h1
    clear hb1 S1 K0 HO
    go_wp2
    go_ret2
    exact ⟨rfl, hB⟩
  · have e1 := hv.2 h
    rw [if_neg h, if_neg h]
    have te : (a == q) = false := beq_eq_false_iff_ne.2 e1
    clear hv h e1
    have t1 := fun w => told64_no v w
    go_enter Tryd.func28, Tryd.ntmps28
    go_upto_region 1 with fail
    refine wp_region_noPanic ?_
    refine wp_region_held_drew (S := (fun w' => w'.cell? ⟨w.heap.size, 0, none⟩ = some (.int .i64 a) ∧ w'.cell? ⟨w.heap.size, 1, none⟩ = some (.int .u64 b))) (by kernel_rfl) S0 (fun hHeld => ?_)
    refine wpAnyH_take (i := 0) (v := ?_) rfl (by kernel_rfl) (by kernel_rfl) (by kernel_rfl) (fun _ _ _ h => h) (Or.inl ⟨by rfl, ?_⟩) (by assumption) ?_
    rotate_left
    · intro W hW
      obtain ⟨x0, x1⟩ := hW
      go_simp
      try rfl
    simp only [List.getElem_toArray, List.getElem_cons_zero, Act.put, List.setIfInBounds_toArray, List.set_cons_zero, List.set_cons_succ]
    refine wpAnyH_take (i := 1) (v := ?_) rfl (by kernel_rfl) (by kernel_rfl) (by kernel_rfl) (fun _ _ _ h => h) (Or.inl ⟨by rfl, ?_⟩) (by assumption) ?_
    rotate_left
    · intro W hW
      obtain ⟨x0, x1⟩ := hW
      go_simp
      try rfl
    simp only [List.getElem_toArray, List.getElem_cons_succ, List.getElem_cons_zero, Act.put, List.setIfInBounds_toArray, List.set_cons_zero, List.set_cons_succ]
    refine wpAnyH_take (i := 2) (v := ?_) rfl (by kernel_rfl) (by kernel_rfl) (by kernel_rfl) (fun _ _ _ h => h) (Or.inl ⟨by rfl, ?_⟩) (by assumption) ?_
    rotate_left
    · intro W hW
      obtain ⟨x0, x1⟩ := hW
      go_simp
      try rfl
    simp only [List.getElem_toArray, List.getElem_cons_succ, List.getElem_cons_zero, Act.put, List.setIfInBounds_toArray, List.set_cons_zero, List.set_cons_succ]
    refine wpAnyH_take (i := 3) (v := ?_) rfl (by kernel_rfl) (by kernel_rfl) (by kernel_rfl) (fun _ _ _ h => h) (Or.inl ⟨by rfl, ?_⟩) (by assumption) ?_
    rotate_left
    · intro W hW
      obtain ⟨x0, x1⟩ := hW
      go_simp
      try rfl
    simp only [List.getElem_toArray, List.getElem_cons_succ, List.getElem_cons_zero, Act.put, List.setIfInBounds_toArray, List.set_cons_zero, List.set_cons_succ]
    refine wpAnyH_take (i := 4) (v := ?_) rfl (by kernel_rfl) (by kernel_rfl) (by kernel_rfl) (fun _ _ _ h => h) (Or.inl ⟨by rfl, ?_⟩) (by assumption) ?_
    rotate_left
    · intro W hW
      obtain ⟨x0, x1⟩ := hW
      go_simp
      try rfl
    simp only [List.getElem_toArray, List.getElem_cons_succ, List.getElem_cons_zero, Act.put, List.setIfInBounds_toArray, List.set_cons_zero, List.set_cons_succ]
    refine wpAnyH_take (i := 5) (v := ?_) rfl (by kernel_rfl) (by kernel_rfl) (by kernel_rfl) (fun _ _ _ h => h) (Or.inl ⟨by rfl, ?_⟩) (by assumption) ?_
    rotate_left
    · intro W hW
      obtain ⟨x0, x1⟩ := hW
      go_simp
      try rfl
    simp only [List.getElem_toArray, List.getElem_cons_succ, List.getElem_cons_zero, Act.put, List.setIfInBounds_toArray, List.set_cons_zero, List.set_cons_succ]
    refine wpAnyH_take (i := 6) (v := ?_) rfl (by kernel_rfl) (by kernel_rfl) (by kernel_rfl) (fun _ _ _ h => h) (Or.inl ⟨by rfl, ?_⟩) (by assumption) ?_
    rotate_left
    · intro W hW
      obtain ⟨x0, x1⟩ := hW
      go_simp
      try rfl
    simp only [List.getElem_toArray, List.getElem_cons_succ, List.getElem_cons_zero, Act.put, List.setIfInBounds_toArray, List.set_cons_zero, List.set_cons_succ]
    refine wpAnyH_ready (rs := [7]) (by kernel_rfl) (by simp) ?_
    refine AllReadyH.cons rfl (fun K hK => ?_) AllReadyH.nil
    go_simp
    refine (HO.out _).mono ?_
    rintro e w1 ⟨rfl, hb1⟩
    have S1 := (K0.drew.under hb1).two
    refine hK.out _ _ ⟨S1.1, S1.2.1⟩ (fun hHeld => ?_)
    clear hK K
    try simp only [List.getElem_toArray, List.getElem_cons_succ, List.getElem_cons_zero, Act.put, List.setIfInBounds_toArray, List.set_cons_zero, List.set_cons_succ]
    refine wpAnyH_take (i := 8) (v := ?_) rfl (by kernel_rfl) (by kernel_rfl) (by kernel_rfl) (fun _ _ _ h => h) (Or.inl ⟨by rfl, ?_⟩) (by assumption) ?_
    rotate_left
    · intro W hW
      obtain ⟨x0, x1⟩ := hW
      go_simp
      try rfl
    simp only [List.getElem_toArray, List.getElem_cons_succ, List.getElem_cons_zero, Act.put, List.setIfInBounds_toArray, List.set_cons_zero, List.set_cons_succ]
    refine wpAnyH_ready (rs := [9]) (by kernel_rfl) (by simp) ?_
    refine AllReadyH.cons rfl (fun K hK => ?_) AllReadyH.nil
    go_simp
    refine (t1 _).mono ?_
    rintro e w2 ⟨rfl, rfl⟩
    refine hK.out _ _ ⟨S1.1, S1.2.1⟩ (fun hHeld => ?_)
    clear hK K
    try simp only [List.getElem_toArray, List.getElem_cons_succ, List.getElem_cons_zero, Act.put, List.setIfInBounds_toArray, List.set_cons_zero, List.set_cons_succ]
    refine wpAnyH_take (i := 10) (v := ?_) rfl (by kernel_rfl) (by kernel_rfl) (by kernel_rfl) (fun _ _ _ h => h) (Or.inl ⟨by rfl, ?_⟩) (by assumption) ?_
    rotate_left
    · intro W hW
      obtain ⟨x0, x1⟩ := hW
      go_simp
      try rfl
    simp only [List.getElem_toArray, List.getElem_cons_succ, List.getElem_cons_zero, Act.put, List.setIfInBounds_toArray, List.set_cons_zero, List.set_cons_succ]
    refine wpAnyH_take (i := 11) (v := ?_) rfl (by kernel_rfl) (by kernel_rfl) (by kernel_rfl) (fun _ _ _ h => h) (Or.inl ⟨by rfl, ?_⟩) (by assumption) ?_
    rotate_left
    · intro W hW
      obtain ⟨x0, x1⟩ := hW
      go_simp
      try rfl
    simp only [List.getElem_toArray, List.getElem_cons_succ, List.getElem_cons_zero, Act.put, List.setIfInBounds_toArray, List.set_cons_zero, List.set_cons_succ]
    refine wpAnyH_take (i := 12) (v := ?_) rfl (by kernel_rfl) (by kernel_rfl) (by kernel_rfl) (fun _ _ _ h => h) (Or.inl ⟨by rfl, ?_⟩) (by assumption) ?_
    rotate_left
    · intro W hW
      obtain ⟨x0, x1⟩ := hW
      go_simp
      try rfl
    simp only [List.getElem_toArray, List.getElem_cons_succ, List.getElem_cons_zero, Act.put, List.setIfInBounds_toArray, List.set_cons_zero, List.set_cons_succ]
    refine wpAnyH_take (i := 13) (v := ?_) rfl (by kernel_rfl) (by kernel_rfl) (by kernel_rfl) (fun _ _ _ h => h) (Or.inl ⟨by rfl, ?_⟩) (by assumption) ?_
    rotate_left
    · intro W hW
      obtain ⟨x0, x1⟩ := hW
      go_simp
      try rfl
    simp only [List.getElem_toArray, List.getElem_cons_succ, List.getElem_cons_zero, Act.put, List.setIfInBounds_toArray, List.set_cons_zero, List.set_cons_succ]
    refine wpAnyH_done (by kernel_rfl) ?_ _
    refine NoPanic.normal ?_
    have hB : Below w.heap.size w w1 := by
      have h1 : Below (w.alloc (oW a b)).heap.size (w.alloc (oW a b)) w1 := ⟨hb1.os, hb1.tape, hb1.output, hb1.size, hb1.block⟩
      exact below_two (ba1 w (oW a b)) h1
    clear hb1 S1 K0 HO
    go_wp2
    go_ret2
    exact ⟨rfl, hB⟩
end Go.Proofs.YtpomhcclnhddmaaDoor
