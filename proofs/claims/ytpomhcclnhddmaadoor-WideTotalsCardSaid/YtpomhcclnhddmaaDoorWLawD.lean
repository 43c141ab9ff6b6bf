/- Walks of the laws over wide: WideProducts. -/
import Derived.Test.YtpomhcclnhddmaaDoorWLawC
import Derived.Deep.QuietTactic
import Derived.BigQuiet
import Derived.Deep.DeepCutAuto
namespace Go.Proofs.YtpomhcclnhddmaaDoor
open Go.RowKit Go.Shelf
open Go.Lib (hid)
set_option linter.unusedVariables false
theorem i32_wf {v : Int} (h : (Lit.int .i32 v).wf = true) : -2147483648 ≤ v ∧ v ≤ 2147483647 := by
  rw [Lit.wf_int_iff] at h
  exact h
theorem mul_wv (a b : Int) (h0 : -9223372036854775808 ≤ a) (h1 : a ≤ 9223372036854775807) (h2 : -9223372036854775808 ≤ b) (h3 : b ≤ 9223372036854775807) (w : World) :
    Calls Tryd.prog 24 #[.int .i64 a, .int .i64 b] w fun e w' => e = .returned (wv (hiW (a * b)) (loW (a * b))) ∧ Below w.heap.size w w' := mul_w a b h0 h1 h2 h3 w
theorem inW_small {x : Int} (h0 : -9223372036854775808 ≤ x) (h1 : x ≤ 9223372036854775807) : inW x := by omega
theorem sum_in {a b c : Int} (h0 : -9223372036854775808 ≤ a) (h1 : a ≤ 9223372036854775807) (h2 : -9223372036854775808 ≤ b) (h3 : b ≤ 9223372036854775807) (h4 : -2147483648 ≤ c) (h5 : c ≤ 2147483647) : inW (a * c + b * c) := by
  have e1 : (a * c).natAbs = a.natAbs * c.natAbs := Int.natAbs_mul a c
  have e2 : a.natAbs * c.natAbs ≤ 9223372036854775808 * 2147483648 := Nat.mul_le_mul (by omega) (by omega)
  have f1 : (b * c).natAbs = b.natAbs * c.natAbs := Int.natAbs_mul b c
  have f2 : b.natAbs * c.natAbs ≤ 9223372036854775808 * 2147483648 := Nat.mul_le_mul (by omega) (by omega)
  omega
set_option maxRecDepth 100000 in
set_option maxHeartbeats 2000000 in
theorem wProducts_core (a b c : Int) (w : World) (w0 : (Lit.int .i64 a).wf = true) (w1 : (Lit.int .i64 b).wf = true) (w2 : (Lit.int .i32 c).wf = true) (htab : Tab w) :
    Calls Tryd.prog 8 #[.int .i64 a, .int .i64 b, .int .i32 c] w fun e w' => e = .returned (.bool true) ∧ Below w.heap.size w w' := by
  obtain ⟨a0, a1⟩ := i64_wf w0
  obtain ⟨b0, b1⟩ := i64_wf w1
  obtain ⟨c0, c1⟩ := i32_wf w2
  clear w0 w1 w2
  have HTAB := hid htab
  have HWK := hid (fun w h => wakes_c w h)
  clear htab
  have hcw : IntKind.i64.wrap c = c := by rw [IntKind.wrap_i64]; omega
  have HOA := hid (fun w => of_wv a a0 a1 w)
  have HOB := hid (fun w => of_wv b b0 b1 w)
  have HOZ := hid (fun w => show Calls Tryd.prog 23 #[.int .i64 0] w fun e w' => e = .returned (wv 0 0) ∧ Below w.heap.size w w' from of_wv 0 (by decide) (by decide) w)
  have HSC := hid (fun w => scale_yes a b (inW_small a0 a1) b0 b1 w (mul_in a0 a1 b0 b1))
  have HM1 := hid (fun w => mul_wv a b a0 a1 b0 b1 w)
  have HM2 := hid (fun w => show Calls Tryd.prog 24 #[.int .i64 b, .int .i64 a] w fun e w' => e = .returned (wv (hiW (a * b)) (loW (a * b))) ∧ Below w.heap.size w w' from by have := mul_wv b a b0 b1 a0 a1 w; rw [Int.mul_comm b a] at this; exact this)
  have HM3 := hid (fun w => show Calls Tryd.prog 24 #[.int .i64 a, .int .i64 1] w fun e w' => e = .returned (wv (hiW a) (loW a)) ∧ Below w.heap.size w w' from by have := mul_wv a 1 a0 a1 (by decide) (by decide) w; rw [Int.mul_one] at this; exact this)
  have HM4 := hid (fun w => show Calls Tryd.prog 24 #[.int .i64 a, .int .i64 0] w fun e w' => e = .returned (wv 0 0) ∧ Below w.heap.size w w' from by have := mul_wv a 0 a0 a1 (by decide) (by decide) w; rw [Int.mul_zero] at this; exact this)
  have HMA := hid (fun w => mul_wv a c a0 a1 (by omega) (by omega) w)
  have HMB := hid (fun w => mul_wv b c b0 b1 (by omega) (by omega) w)
  have hsin := sum_in a0 a1 b0 b1 c0 c1
  have HAD := hid (fun w => add_yes (a * c) (b * c) (mul_in a0 a1 (by omega) (by omega)) (mul_in b0 b1 (by omega) (by omega)) w hsin)
  have HSU := hid (fun w => add_yes a b (inW_small a0 a1) (inW_small b0 b1) w (by omega))
  have hab : inW (a + b) := by omega
  have hdist : (a + b) * c = a * c + b * c := Int.add_mul a b c
  have HSY := hid (fun w => show Calls Tryd.prog 22 #[wv (hiW (a + b)) (loW (a + b)), .int .i64 c] w fun e w' => e = .returned (.tuple #[wv (hiW (a * c + b * c)) (loW (a * c + b * c)), .int .i64 0]) ∧ Below w.heap.size w w' from by have := scale_yes (a + b) c hab (by omega) (by omega) w (by rw [hdist]; exact hsin); rw [hdist] at this; exact this)
  clear hsin hab hdist a0 a1 b0 b1 c0 c1
  generalize hiW (a * c + b * c) = sh at *
  generalize loW (a * c + b * c) = sl at *
  generalize hiW (a * c) = ach at *
  generalize loW (a * c) = acl at *
  generalize hiW (b * c) = bch at *
  generalize loW (b * c) = bcl at *
  generalize hiW (a + b) = uh at *
  generalize loW (a + b) = ul at *
  generalize hiW (a * b) = ph at *
  generalize loW (a * b) = pl at *
  generalize hiW a = ah at *
  generalize loW a = al at *
  generalize hiW b = bh at *
  generalize loW b = bl at *
  have hw0 := (show Below w.heap.size w w from Below.refl _ _)
  go_enter Tryd.func8, Tryd.ntmps8
  have ht1 := HTAB.out.below hw0
  go_wp2_with fail
  refine (HWK.out _ ht1).mono ?_
  rintro e w1 ⟨rfl, hb1⟩
  have hw1 := below_two hw0 hb1
  clear hw0 hb1 ht1
  clear HWK
  go_wp2_with fail
  refine (HOA.out _).mono ?_
  rintro e w2 ⟨rfl, hb2⟩
  have hw2 := below_two hw1 hb2
  clear hw1 hb2
  go_wp2_with fail
  refine (HSC.out _).mono ?_
  rintro e w3 ⟨rfl, hb3⟩
  have hw3 := below_two hw2 hb3
  clear hw2 hb3
  clear HSC
  have kP := Blk.new w3 24 #[.int .i64 ph, .int .u64 pl]
  have hwp := below_alloc hw3 (Nat.le_refl _) (oW ph pl)
  go_upto_region 4 with fail
  clear hw3
  generalize w3.alloc (oW ph pl) = wr at *
  generalize w3.heap.size = gp at *
  go_cut [53] (fun u53 wx => u53 = .bool false ∧ Blk wx gp 24 #[.int .i64 ph, .int .u64 pl] ∧ Below w.heap.size w wx)
  case first =>
    clear HMA HMB HAD HSU HSY HOB HTAB hcw
    refine wp_region_noPanic ?_
    refine wp_region_held_drew (S := (fun w' => Blk w' gp 24 #[.int .i64 ph, .int .u64 pl] ∧ Below w.heap.size w w')) (by kernel_rfl) ⟨kP.drew, ⟨hwp.os, hwp.tape, hwp.output, hwp.size, hwp.block⟩⟩ (fun hHeld => ?_)
    clear kP hwp
    refine wpAnyH_take (i := 0) (v := ?_) rfl (by kernel_rfl) (by kernel_rfl) (by kernel_rfl) (fun _ _ _ h => h) (Or.inl ⟨by rfl, ?_⟩) (by assumption) ?_
    rotate_left
    · intro W hW
      obtain ⟨kx, kz⟩ := hW
      obtain ⟨x0, x1, x2, x3, x4⟩ := kx.two
      go_simp
      try rfl
    simp only [List.getElem_toArray, List.getElem_cons_zero, Act.put, List.setIfInBounds_toArray, List.set_cons_zero, List.set_cons_succ]
    refine wpAnyH_take (i := 1) (v := ?_) rfl (by kernel_rfl) (by kernel_rfl) (by kernel_rfl) (fun _ _ _ h => h) (Or.inl ⟨by rfl, ?_⟩) (by assumption) ?_
    rotate_left
    · intro W hW
      obtain ⟨kx, kz⟩ := hW
      obtain ⟨x0, x1, x2, x3, x4⟩ := kx.two
      go_simp
      try rfl
    simp only [List.getElem_toArray, List.getElem_cons_succ, List.getElem_cons_zero, Act.put, List.setIfInBounds_toArray, List.set_cons_zero, List.set_cons_succ]
    refine wpAnyH_take (i := 2) (v := ?_) rfl (by kernel_rfl) (by kernel_rfl) (by kernel_rfl) (fun _ _ _ h => h) (Or.inl ⟨by rfl, ?_⟩) (by assumption) ?_
    rotate_left
    · intro W hW
      obtain ⟨kx, kz⟩ := hW
      obtain ⟨x0, x1, x2, x3, x4⟩ := kx.two
      go_simp
      try rfl
    simp only [List.getElem_toArray, List.getElem_cons_succ, List.getElem_cons_zero, Act.put, List.setIfInBounds_toArray, List.set_cons_zero, List.set_cons_succ]
    refine wpAnyH_take (i := 3) (v := ?_) rfl (by kernel_rfl) (by kernel_rfl) (by kernel_rfl) (fun _ _ _ h => h) (Or.inl ⟨by rfl, ?_⟩) (by assumption) ?_
    rotate_left
    · intro W hW
      obtain ⟨kx, kz⟩ := hW
      obtain ⟨x0, x1, x2, x3, x4⟩ := kx.two
      go_simp
      try rfl
    simp only [List.getElem_toArray, List.getElem_cons_succ, List.getElem_cons_zero, Act.put, List.setIfInBounds_toArray, List.set_cons_zero, List.set_cons_succ]
    refine wpAnyH_take (i := 4) (v := ?_) rfl (by kernel_rfl) (by kernel_rfl) (by kernel_rfl) (fun _ _ _ h => h) (Or.inl ⟨by rfl, ?_⟩) (by assumption) ?_
    rotate_left
    · intro W hW
      obtain ⟨kx, kz⟩ := hW
      obtain ⟨x0, x1, x2, x3, x4⟩ := kx.two
      go_simp
      try rfl
    simp only [List.getElem_toArray, List.getElem_cons_succ, List.getElem_cons_zero, Act.put, List.setIfInBounds_toArray, List.set_cons_zero, List.set_cons_succ]
    refine wpAnyH_take (i := 5) (v := ?_) rfl (by kernel_rfl) (by kernel_rfl) (by kernel_rfl) (fun _ _ _ h => h) (Or.inl ⟨by rfl, ?_⟩) (by assumption) ?_
    rotate_left
    · intro W hW
      obtain ⟨kx, kz⟩ := hW
      obtain ⟨x0, x1, x2, x3, x4⟩ := kx.two
      go_simp
      try rfl
    simp only [List.getElem_toArray, List.getElem_cons_succ, List.getElem_cons_zero, Act.put, List.setIfInBounds_toArray, List.set_cons_zero, List.set_cons_succ]
    refine wpAnyH_ready (rs := [6]) (by kernel_rfl) (by simp) ?_
    refine AllReadyH.cons rfl (fun K hK => ?_) AllReadyH.nil
    go_simp
    refine (HM1.out _).mono ?_
    rintro e wc6 ⟨rfl, hbc6⟩
    refine hK.out _ _ ⟨hHeld.1.under hbc6, below_two hHeld.2 hbc6⟩ (fun hHeld => ?_)
    clear hK K
    try simp only [List.getElem_toArray, List.getElem_cons_succ, List.getElem_cons_zero, Act.put, List.setIfInBounds_toArray, List.set_cons_zero, List.set_cons_succ]
    refine wpAnyH_take (i := 7) (v := ?_) rfl (by kernel_rfl) (by kernel_rfl) (by kernel_rfl) (fun _ _ _ h => h) (Or.inl ⟨by rfl, ?_⟩) (by assumption) ?_
    rotate_left
    · intro W hW
      obtain ⟨kx, kz⟩ := hW
      obtain ⟨x0, x1, x2, x3, x4⟩ := kx.two
      go_simp
      try rfl
    simp only [List.getElem_toArray, List.getElem_cons_succ, List.getElem_cons_zero, Act.put, List.setIfInBounds_toArray, List.set_cons_zero, List.set_cons_succ]
    refine wpAnyH_take (i := 8) (v := ?_) rfl (by kernel_rfl) (by kernel_rfl) (by kernel_rfl) (fun _ _ _ h => h) (Or.inl ⟨by rfl, ?_⟩) (by assumption) ?_
    rotate_left
    · intro W hW
      obtain ⟨kx, kz⟩ := hW
      obtain ⟨x0, x1, x2, x3, x4⟩ := kx.two
      go_simp
      try rfl
    simp only [List.getElem_toArray, List.getElem_cons_succ, List.getElem_cons_zero, Act.put, List.setIfInBounds_toArray, List.set_cons_zero, List.set_cons_succ]
    refine wpAnyH_take (i := 9) (v := ?_) rfl (by kernel_rfl) (by kernel_rfl) (by kernel_rfl) (fun _ _ _ h => h) (Or.inl ⟨by rfl, ?_⟩) (by assumption) ?_
    rotate_left
    · intro W hW
      obtain ⟨kx, kz⟩ := hW
      obtain ⟨x0, x1, x2, x3, x4⟩ := kx.two
      go_simp
      try rfl
    simp only [List.getElem_toArray, List.getElem_cons_succ, List.getElem_cons_zero, Act.put, List.setIfInBounds_toArray, List.set_cons_zero, List.set_cons_succ]
    refine wpAnyH_take (i := 10) (v := ?_) rfl (by kernel_rfl) (by kernel_rfl) (by kernel_rfl) (fun _ _ _ h => h) (Or.inl ⟨by rfl, ?_⟩) (by assumption) ?_
    rotate_left
    · intro W hW
      obtain ⟨kx, kz⟩ := hW
      obtain ⟨x0, x1, x2, x3, x4⟩ := kx.two
      go_simp
      try rfl
    simp only [List.getElem_toArray, List.getElem_cons_succ, List.getElem_cons_zero, Act.put, List.setIfInBounds_toArray, List.set_cons_zero, List.set_cons_succ]
    refine wpAnyH_take (i := 11) (v := ?_) rfl (by kernel_rfl) (by kernel_rfl) (by kernel_rfl) (fun _ _ _ h => h) (Or.inl ⟨by rfl, ?_⟩) (by assumption) ?_
    rotate_left
    · intro W hW
      obtain ⟨kx, kz⟩ := hW
      obtain ⟨x0, x1, x2, x3, x4⟩ := kx.two
      go_simp
      try rfl
    simp only [List.getElem_toArray, List.getElem_cons_succ, List.getElem_cons_zero, Act.put, List.setIfInBounds_toArray, List.set_cons_zero, List.set_cons_succ]
    refine wpAnyH_take (i := 12) (v := ?_) rfl (by kernel_rfl) (by kernel_rfl) (by kernel_rfl) (fun _ _ _ h => h) (Or.inl ⟨by rfl, ?_⟩) (by assumption) ?_
    rotate_left
    · intro W hW
      obtain ⟨kx, kz⟩ := hW
      obtain ⟨x0, x1, x2, x3, x4⟩ := kx.two
      go_simp
      try rfl
    simp only [List.getElem_toArray, List.getElem_cons_succ, List.getElem_cons_zero, Act.put, List.setIfInBounds_toArray, List.set_cons_zero, List.set_cons_succ]
    refine wpAnyH_ready (rs := [13]) (by kernel_rfl) (by simp) ?_
    refine AllReadyH.cons rfl (fun K hK => ?_) AllReadyH.nil
    go_simp
    refine (HM2.out _).mono ?_
    rintro e wc13 ⟨rfl, hbc13⟩
    refine hK.out _ _ ⟨hHeld.1.under hbc13, below_two hHeld.2 hbc13⟩ (fun hHeld => ?_)
    clear hK K
    try simp only [List.getElem_toArray, List.getElem_cons_succ, List.getElem_cons_zero, Act.put, List.setIfInBounds_toArray, List.set_cons_zero, List.set_cons_succ]
    refine wpAnyH_take (i := 14) (v := ?_) rfl (by kernel_rfl) (by kernel_rfl) (by kernel_rfl) (fun _ _ _ h => h) (Or.inl ⟨by rfl, ?_⟩) (by assumption) ?_
    rotate_left
    · intro W hW
      obtain ⟨kx, kz⟩ := hW
      obtain ⟨x0, x1, x2, x3, x4⟩ := kx.two
      go_simp
      try rfl
    simp only [List.getElem_toArray, List.getElem_cons_succ, List.getElem_cons_zero, Act.put, List.setIfInBounds_toArray, List.set_cons_zero, List.set_cons_succ]
    refine wpAnyH_take (i := 15) (v := ?_) rfl (by kernel_rfl) (by kernel_rfl) (by kernel_rfl) (fun _ _ _ h => h) (Or.inl ⟨by rfl, ?_⟩) (by assumption) ?_
    rotate_left
    · intro W hW
      obtain ⟨kx, kz⟩ := hW
      obtain ⟨x0, x1, x2, x3, x4⟩ := kx.two
      go_simp
      try rfl
    simp only [List.getElem_toArray, List.getElem_cons_succ, List.getElem_cons_zero, Act.put, List.setIfInBounds_toArray, List.set_cons_zero, List.set_cons_succ]
    refine wpAnyH_take (i := 16) (v := ?_) rfl (by kernel_rfl) (by kernel_rfl) (by kernel_rfl) (fun _ _ _ h => h) (Or.inl ⟨by rfl, ?_⟩) (by assumption) ?_
    rotate_left
    · intro W hW
      obtain ⟨kx, kz⟩ := hW
      obtain ⟨x0, x1, x2, x3, x4⟩ := kx.two
      go_simp
      try rfl
    simp only [List.getElem_toArray, List.getElem_cons_succ, List.getElem_cons_zero, Act.put, List.setIfInBounds_toArray, List.set_cons_zero, List.set_cons_succ]
    refine wpAnyH_take (i := 17) (v := ?_) rfl (by kernel_rfl) (by kernel_rfl) (by kernel_rfl) (fun _ _ _ h => h) (Or.inl ⟨by rfl, ?_⟩) (by assumption) ?_
    rotate_left
    · intro W hW
      obtain ⟨kx, kz⟩ := hW
      obtain ⟨x0, x1, x2, x3, x4⟩ := kx.two
      go_simp
      try rfl
    simp only [List.getElem_toArray, List.getElem_cons_succ, List.getElem_cons_zero, Act.put, List.setIfInBounds_toArray, List.set_cons_zero, List.set_cons_succ]
    refine wpAnyH_take (i := 19) (v := ?_) rfl (by kernel_rfl) (by kernel_rfl) (by kernel_rfl) (fun _ _ _ h => h) (Or.inl ⟨by rfl, ?_⟩) (by assumption) ?_
    rotate_left
    · intro W hW
      obtain ⟨kx, kz⟩ := hW
      obtain ⟨x0, x1, x2, x3, x4⟩ := kx.two
      go_simp
      try rfl
    simp only [List.getElem_toArray, List.getElem_cons_succ, List.getElem_cons_zero, Act.put, List.setIfInBounds_toArray, List.set_cons_zero, List.set_cons_succ]
    refine wpAnyH_ready (rs := [18]) (by kernel_rfl) (by simp) ?_
    refine AllReadyH.cons rfl (fun K hK => ?_) AllReadyH.nil
    go_simp
    refine (HM3.out _).mono ?_
    rintro e wc18 ⟨rfl, hbc18⟩
    refine hK.out _ _ ⟨hHeld.1.under hbc18, below_two hHeld.2 hbc18⟩ (fun hHeld => ?_)
    clear hK K
    try simp only [List.getElem_toArray, List.getElem_cons_succ, List.getElem_cons_zero, Act.put, List.setIfInBounds_toArray, List.set_cons_zero, List.set_cons_succ]
    refine wpAnyH_ready (rs := [20]) (by kernel_rfl) (by simp) ?_
    refine AllReadyH.cons rfl (fun K hK => ?_) AllReadyH.nil
    go_simp
    refine (HOA.out _).mono ?_
    rintro e wc20 ⟨rfl, hbc20⟩
    refine hK.out _ _ ⟨hHeld.1.under hbc20, below_two hHeld.2 hbc20⟩ (fun hHeld => ?_)
    clear hK K
    try simp only [List.getElem_toArray, List.getElem_cons_succ, List.getElem_cons_zero, Act.put, List.setIfInBounds_toArray, List.set_cons_zero, List.set_cons_succ]
    refine wpAnyH_take (i := 21) (v := ?_) rfl (by kernel_rfl) (by kernel_rfl) (by kernel_rfl) (fun _ _ _ h => h) (Or.inl ⟨by rfl, ?_⟩) (by assumption) ?_
    rotate_left
    · intro W hW
      obtain ⟨kx, kz⟩ := hW
      obtain ⟨x0, x1, x2, x3, x4⟩ := kx.two
      go_simp
      try rfl
    simp only [List.getElem_toArray, List.getElem_cons_succ, List.getElem_cons_zero, Act.put, List.setIfInBounds_toArray, List.set_cons_zero, List.set_cons_succ]
    refine wpAnyH_take (i := 22) (v := ?_) rfl (by kernel_rfl) (by kernel_rfl) (by kernel_rfl) (fun _ _ _ h => h) (Or.inl ⟨by rfl, ?_⟩) (by assumption) ?_
    rotate_left
    · intro W hW
      obtain ⟨kx, kz⟩ := hW
      obtain ⟨x0, x1, x2, x3, x4⟩ := kx.two
      go_simp
      try rfl
    simp only [List.getElem_toArray, List.getElem_cons_succ, List.getElem_cons_zero, Act.put, List.setIfInBounds_toArray, List.set_cons_zero, List.set_cons_succ]
    refine wpAnyH_take (i := 23) (v := ?_) rfl (by kernel_rfl) (by kernel_rfl) (by kernel_rfl) (fun _ _ _ h => h) (Or.inl ⟨by rfl, ?_⟩) (by assumption) ?_
    rotate_left
    · intro W hW
      obtain ⟨kx, kz⟩ := hW
      obtain ⟨x0, x1, x2, x3, x4⟩ := kx.two
      go_simp
      try rfl
    simp only [List.getElem_toArray, List.getElem_cons_succ, List.getElem_cons_zero, Act.put, List.setIfInBounds_toArray, List.set_cons_zero, List.set_cons_succ]
    refine wpAnyH_take (i := 24) (v := ?_) rfl (by kernel_rfl) (by kernel_rfl) (by kernel_rfl) (fun _ _ _ h => h) (Or.inl ⟨by rfl, ?_⟩) (by assumption) ?_
    rotate_left
    · intro W hW
      obtain ⟨kx, kz⟩ := hW
      obtain ⟨x0, x1, x2, x3, x4⟩ := kx.two
      go_simp
      try rfl
    simp only [List.getElem_toArray, List.getElem_cons_succ, List.getElem_cons_zero, Act.put, List.setIfInBounds_toArray, List.set_cons_zero, List.set_cons_succ]
    refine wpAnyH_ready (rs := [25]) (by kernel_rfl) (by simp) ?_
    refine AllReadyH.cons rfl (fun K hK => ?_) AllReadyH.nil
    go_simp
    refine (HM4.out _).mono ?_
    rintro e wc25 ⟨rfl, hbc25⟩
    refine hK.out _ _ ⟨hHeld.1.under hbc25, below_two hHeld.2 hbc25⟩ (fun hHeld => ?_)
    clear hK K
    try simp only [List.getElem_toArray, List.getElem_cons_succ, List.getElem_cons_zero, Act.put, List.setIfInBounds_toArray, List.set_cons_zero, List.set_cons_succ]
    refine wpAnyH_ready (rs := [26]) (by kernel_rfl) (by simp) ?_
    refine AllReadyH.cons rfl (fun K hK => ?_) AllReadyH.nil
    go_simp
    refine (HOZ.out _).mono ?_
    rintro e wc26 ⟨rfl, hbc26⟩
    refine hK.out _ _ ⟨hHeld.1.under hbc26, below_two hHeld.2 hbc26⟩ (fun hHeld => ?_)
    clear hK K
    try simp only [List.getElem_toArray, List.getElem_cons_succ, List.getElem_cons_zero, Act.put, List.setIfInBounds_toArray, List.set_cons_zero, List.set_cons_succ]
    refine wpAnyH_take (i := 27) (v := ?_) rfl (by kernel_rfl) (by kernel_rfl) (by kernel_rfl) (fun _ _ _ h => h) (Or.inl ⟨by rfl, ?_⟩) (by assumption) ?_
    rotate_left
    · intro W hW
      obtain ⟨kx, kz⟩ := hW
      obtain ⟨x0, x1, x2, x3, x4⟩ := kx.two
      go_simp
      try rfl
    simp only [List.getElem_toArray, List.getElem_cons_succ, List.getElem_cons_zero, Act.put, List.setIfInBounds_toArray, List.set_cons_zero, List.set_cons_succ]
    refine wpAnyH_take (i := 28) (v := ?_) rfl (by kernel_rfl) (by kernel_rfl) (by kernel_rfl) (fun _ _ _ h => h) (Or.inl ⟨by rfl, ?_⟩) (by assumption) ?_
    rotate_left
    · intro W hW
      obtain ⟨kx, kz⟩ := hW
      obtain ⟨x0, x1, x2, x3, x4⟩ := kx.two
      go_simp
      try rfl
    simp only [List.getElem_toArray, List.getElem_cons_succ, List.getElem_cons_zero, Act.put, List.setIfInBounds_toArray, List.set_cons_zero, List.set_cons_succ]
    refine wpAnyH_done (by kernel_rfl) ?_ _
    refine NoPanic.normal ?_
    obtain ⟨kP9, hw9⟩ := hHeld
    obtain ⟨x0, x1, x2, x3, x4⟩ := kP9.two
    go_wp2_with fail
    go_meet
    exact ⟨rfl, kP9, hw9⟩
  case rest =>
    obtain ⟨rfl, kP9, hw20⟩ := hcut
    clear HM1 HM2 HM3 HM4 HOZ kP9 kP hwp
    go_wp2_with fail
    refine (HMA.out _).mono ?_
    rintro e w21 ⟨rfl, hb21⟩
    have hw21 := below_two hw20 hb21
    clear hw20 hb21
    go_wp2_with fail
    refine (HMB.out _).mono ?_
    rintro e w22 ⟨rfl, hb22⟩
    have hw22 := below_two hw21 hb22
    clear hw21 hb22
    go_wp2_with fail
    refine (HAD.out _).mono ?_
    rintro e w23 ⟨rfl, hb23⟩
    have hw23 := below_two hw22 hb23
    clear hw22 hb23
    go_wp2_with fail
    refine (HOA.out _).mono ?_
    rintro e w24 ⟨rfl, hb24⟩
    have hp24 := below_alloc hw23 (Nat.le_refl _) (oW sh sl)
    have kb_x_24 := (Blk.new w23 24 #[.int .i64 sh, .int .u64 sl]).under hb24
    have hw24 := below_two hp24 hb24
    clear hw23 hp24 hb24
    obtain ⟨cx0_24, cx1_24, fx0_24, fx1_24, lx_24⟩ := kb_x_24.two
    go_wp2_with fail
    refine (HOB.out _).mono ?_
    rintro e w25 ⟨rfl, hb25⟩
    have kb_x_25 := (kb_x_24).under hb25
    have hw25 := below_two hw24 hb25
    clear kb_x_24 hw24 hb25
    clear cx0_24 cx1_24 fx0_24 fx1_24 lx_24
    obtain ⟨cx0_25, cx1_25, fx0_25, fx1_25, lx_25⟩ := kb_x_25.two
    go_wp2_with fail
    refine (HSU.out _).mono ?_
    rintro e w26 ⟨rfl, hb26⟩
    have kb_x_26 := (kb_x_25).under hb26
    have hw26 := below_two hw25 hb26
    clear kb_x_25 hw25 hb26
    clear cx0_25 cx1_25 fx0_25 fx1_25 lx_25
    obtain ⟨cx0_26, cx1_26, fx0_26, fx1_26, lx_26⟩ := kb_x_26.two
    go_wp2_with fail
    refine (HSY.out _).mono ?_
    rintro e w27 ⟨rfl, hb27⟩
    have hp27 := below_alloc hw26 (Nat.le_refl _) (oW uh ul)
    have kb_x_27 := (kb_x_26.alloc (oW uh ul)).under hb27
    have kb_sum_27 := (Blk.new w26 24 #[.int .i64 uh, .int .u64 ul]).under hb27
    have hw27 := below_two hp27 hb27
    clear kb_x_26 hw26 hp27 hb27
    clear cx0_26 cx1_26 fx0_26 fx1_26 lx_26
    obtain ⟨cx0_27, cx1_27, fx0_27, fx1_27, lx_27⟩ := kb_x_27.two
    obtain ⟨csum0_27, csum1_27, fsum0_27, fsum1_27, lsum_27⟩ := kb_sum_27.two
    go_wp2
    have hpe := below_alloc hw27 (Nat.le_refl _) (oW sh sl)
    go_ret
    exact ⟨rfl, hpe⟩
end Go.Proofs.YtpomhcclnhddmaaDoor
