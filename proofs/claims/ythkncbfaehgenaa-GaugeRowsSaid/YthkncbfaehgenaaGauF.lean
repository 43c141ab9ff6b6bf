/- Contracts of the gauge: kinds of readings. -/
import Derived.Test.YthkncbfaehgenaaRefF
import Derived.Test.YthkncbfaehgenaaFlp
import Derived.WalkLawsBesides
import Derived.Laws.EntriesVeiled
namespace Go.Proofs.Ythkncbfaehgenaa
open Go.RowKit NB
theorem float64bits (b : Nat) (w : World) : (callFunc 15 #[.float .f64 b]).run Try.prog w = .ok (.value (.int .u64 b)) w := by kernel_rfl
theorem and_ex {b : Nat} (hb : b < 18446744073709551616) : bits .and .u64 ((b : Int) / 4503599627370496) 2047 = (ex b : Nat) := by
  have h := u64_and_nat (b / 4503599627370496) 2047 (by omega) (by decide)
  have e : ((b / 4503599627370496 : Nat) : Int) = (b : Int) / 4503599627370496 := by omega
  rw [e] at h
  rw [show ((2047 : Nat) : Int) = 2047 from rfl] at h
  rw [h, show 2047 = 2 ^ 11 - 1 from rfl, Nat.and_two_pow_sub_one_eq_mod]
  rfl
theorem ret_i {k : IntKind} {a b : Int} (h : a = b) : Ending.returned (.int k a) = .returned (.int k b) := by rw [h]
theorem ret_b {a b : Bool} (h : a = b) : Ending.returned (.bool a) = .returned (.bool b) := by rw [h]

section
variable (b g : Nat) (w : World) (hb : b < 18446744073709551616) (hc : w.cell? ⟨g, 0, none⟩ = some (.float .f64 b))
include hb hc
set_option maxHeartbeats 400000 in
theorem kind1_c : Calls Try.prog 38 #[.pointer (some ⟨g, 0, none⟩)] w fun e w' => e = .returned (.bool (decide (kindV b = 1))) ∧ w = w' := by
  go_enter Try.func38, Try.ntmps38
  go_wp2
  go_ret
  exact ⟨ret_b (isNaN_eq hb), rfl⟩
omit hc in
set_option maxHeartbeats 400000 in
theorem endless_c : Calls Try.prog 40 #[.float .f64 b] w fun e w' => e = .returned (.bool (decide (kindV b = 2))) ∧ w = w' := by
  have he := endless_eq hb
  generalize decide (kindV b = 2) = r at he ⊢
  have HE := Lib.hid he
  clear he
  by_cases h1 : (FloatKind.f64.format.order b 9218868437227405311 == some Ordering.gt) = true
  · go_enter Try.func40, Try.ntmps40
    go_wp2
    go_ret
    exact ⟨ret_b (by rw [← HE.out, h1]; rfl), rfl⟩
  · have h2 : (FloatKind.f64.format.order b 9218868437227405311 == some Ordering.gt) = false := by simpa using h1
    clear h1
    go_enter Try.func40, Try.ntmps40
    go_wp2
    go_ret
    exact ⟨ret_b (by rw [← HE.out, h2]; rfl), rfl⟩
set_option maxHeartbeats 400000 in
theorem kind2_c : Calls Try.prog 39 #[.pointer (some ⟨g, 0, none⟩)] w fun e w' => e = .returned (.bool (decide (kindV b = 2))) ∧ w = w' := by
  have E := Lib.hid (endless_c b w hb)
  go_enter Try.func39, Try.ntmps39
  go_wp2_with (go_at_call 40; refine E.out.mono ?_; rintro e w' ⟨rfl, rfl⟩)
  go_ret
  exact ⟨rfl, rfl⟩
set_option maxHeartbeats 400000 in
theorem kind3_c : Calls Try.prog 41 #[.pointer (some ⟨g, 0, none⟩)] w fun e w' => e = .returned (.bool (decide (kindV b = 3))) ∧ w = w' := by
  go_enter Try.func41, Try.ntmps41
  go_wp2
  go_ret
  exact ⟨ret_b (nought_eq hb), rfl⟩
set_option maxHeartbeats 400000 in
theorem kind4_c : Calls Try.prog 42 #[.pointer (some ⟨g, 0, none⟩)] w fun e w' => e = .returned (.bool (decide (ex b = 0))) ∧ w = w' := by
  have hfb := float64bits b
  go_enter Try.func42, Try.ntmps42
  go_wp2
  go_ret
  refine ⟨ret_b ?_, rfl⟩
  rw [and_ex hb, Bool.eq_iff_iff, beq_iff_eq, decide_eq_true_iff]
  omega
end
set_option maxHeartbeats 400000 in
theorem kind5_c (w : World) : Calls Try.prog 43 #[] w fun e w' => e = .returned (.bool true) ∧ w = w' := by
  go_enter Try.func43, Try.ntmps43
  go_wp2
  go_ret
  exact ⟨rfl, rfl⟩

/-- the row of kinds, the reading's box being block g -/
abbrev kindRow (g : Nat) : Array Value := #[.nilFunc, .func (.func 38) #[] #[.pointer (some ⟨g, 0, none⟩)], .func (.func 39) #[] #[.pointer (some ⟨g, 0, none⟩)], .func (.func 41) #[] #[.pointer (some ⟨g, 0, none⟩)], .func (.func 42) #[] #[.pointer (some ⟨g, 0, none⟩)], .func (.func 43) #[] #[]]
section
variable (g : Nat) (w : World)
theorem ki0 : (Instr.index 78 (.agg (kindRow g)) (.int .i64 0)).run Try.prog w = .ok .nilFunc w := by kernel_rfl
theorem ki1 : (Instr.index 78 (.agg (kindRow g)) (.int .i64 1)).run Try.prog w = .ok (.func (.func 38) #[] #[.pointer (some ⟨g, 0, none⟩)]) w := by kernel_rfl
theorem ki2 : (Instr.index 78 (.agg (kindRow g)) (.int .i64 2)).run Try.prog w = .ok (.func (.func 39) #[] #[.pointer (some ⟨g, 0, none⟩)]) w := by kernel_rfl
theorem ki3 : (Instr.index 78 (.agg (kindRow g)) (.int .i64 3)).run Try.prog w = .ok (.func (.func 41) #[] #[.pointer (some ⟨g, 0, none⟩)]) w := by kernel_rfl
theorem ki4 : (Instr.index 78 (.agg (kindRow g)) (.int .i64 4)).run Try.prog w = .ok (.func (.func 42) #[] #[.pointer (some ⟨g, 0, none⟩)]) w := by kernel_rfl
theorem ki5 : (Instr.index 78 (.agg (kindRow g)) (.int .i64 5)).run Try.prog w = .ok (.func (.func 43) #[] #[]) w := by kernel_rfl
end
set_option maxRecDepth 100000 in
set_option maxHeartbeats 2000000 in
theorem kind_c (b : Nat) (w : World) (hb : b < 18446744073709551616) :
    Calls Try.prog 21 #[.float .f64 b] w fun e w' => e = .returned (.int .i64 (kindV b)) ∧ Below w.heap.size w w' := by
  have i0 := ki0 w.heap.size
  have i1 := ki1 w.heap.size
  have i2 := ki2 w.heap.size
  have i3 := ki3 w.heap.size
  have i4 := ki4 w.heap.size
  have i5 := ki5 w.heap.size
  go_enter Try.func21, Try.ntmps21
  go_wp2_with fail
  have hc : ((w.alloc (Obj.cells #[Value.float FloatKind.f64 b] 23)).alloc (Obj.cells (kindRow w.heap.size) 78)).cell? ⟨w.heap.size, 0, none⟩ = some (.float .f64 b) := by
    rw [World.cell?_alloc_lt _ _ _ (by simp), World.cell?_alloc_at _ _ _ _ rfl]; rfl
  have hbw : Below w.heap.size w ((w.alloc (Obj.cells #[Value.float FloatKind.f64 b] 23)).alloc (Obj.cells (kindRow w.heap.size) 78)) := ((Below.refl _ _).alloc (Nat.le_refl _) _).alloc (by simp) _
  have C1 := Lib.hid (kind1_c b w.heap.size _ hb hc)
  have C2 := Lib.hid (kind2_c b w.heap.size _ hb hc)
  have C3 := Lib.hid (kind3_c b w.heap.size _ hb hc)
  have C4 := Lib.hid (kind4_c b w.heap.size _ hb hc)
  have C5 := Lib.hid (kind5_c ((w.alloc (Obj.cells #[Value.float FloatKind.f64 b] 23)).alloc (Obj.cells (kindRow w.heap.size) 78)))
  clear hc
  generalize (w.alloc (Obj.cells #[Value.float FloatKind.f64 b] 23)).alloc (Obj.cells (kindRow w.heap.size) 78) = W at *
  have K := kind_cases b
  have K1 : decide (kindV b = 1) = true → kindV b = 1 := fun h => by simpa using h
  have K2 : decide (kindV b = 2) = true → kindV b = 2 := fun h => by simpa using h
  have K3 : decide (kindV b = 3) = true → kindV b = 3 := fun h => by simpa using h
  have K4 : decide (ex b = 0) = true → decide (kindV b = 1) = false → decide (kindV b = 2) = false → decide (kindV b = 3) = false → kindV b = 4 := fun h h1 h2 h3 => by
    simp at h h1 h2 h3
    rcases K with k | k | k | k | k <;> omega
  have K5 : decide (ex b = 0) = false → decide (kindV b = 1) = false → decide (kindV b = 2) = false → decide (kindV b = 3) = false → kindV b = 5 := fun h h1 h2 h3 => by
    simp at h h1 h2 h3
    rcases K with k | k | k | k | k <;> omega
  clear K
  have HK1 := Lib.hid K1
  have HK2 := Lib.hid K2
  have HK3 := Lib.hid K3
  have HK4 := Lib.hid K4
  have HK5 := Lib.hid K5
  clear K1 K2 K3 K4 K5
  generalize decide (kindV b = 1) = r1 at *
  generalize decide (kindV b = 2) = r2 at *
  generalize decide (kindV b = 3) = r3 at *
  generalize decide (ex b = 0) = r4 at *
  have n0 : ∀ w : World, (binOp .neq 22 .nilFunc .nilFunc).run Try.prog w = .ok (.bool false) w := fun _ => by kernel_rfl
  have n1 : ∀ (f : Fn) (x y : Array Value) (w : World), (binOp .neq 22 (.func f x y) .nilFunc).run Try.prog w = .ok (.bool true) w := fun _ _ _ _ => by kernel_rfl
  refine wp_loop_rounds 6 ?_
  rw [rounds_succ]
  go_wp2_with fail
  rw [rounds_succ]
  go_wp2_with fail
  refine C1.out.mono ?_
  rintro e w' ⟨rfl, rfl⟩
  cases r1
  rotate_left
  · go_wp2
    go_ret
    exact ⟨ret_i (HK1.out (by simp)).symm, hbw⟩
  go_wp2_with fail
  rw [rounds_succ]
  go_wp2_with fail
  refine C2.out.mono ?_
  rintro e w' ⟨rfl, rfl⟩
  cases r2
  rotate_left
  · go_wp2
    go_ret
    exact ⟨ret_i (HK2.out (by simp)).symm, hbw⟩
  go_wp2_with fail
  rw [rounds_succ]
  go_wp2_with fail
  refine C3.out.mono ?_
  rintro e w' ⟨rfl, rfl⟩
  cases r3
  rotate_left
  · go_wp2
    go_ret
    exact ⟨ret_i (HK3.out (by simp)).symm, hbw⟩
  go_wp2_with fail
  rw [rounds_succ]
  go_wp2_with fail
  refine C4.out.mono ?_
  rintro e w' ⟨rfl, rfl⟩
  cases r4
  rotate_left
  · go_wp2
    go_ret
    exact ⟨ret_i (HK4.out (by simp) (by simp) (by simp) (by simp)).symm, hbw⟩
  go_wp2_with fail
  rw [rounds_succ]
  go_wp2_with fail
  refine C5.out.mono ?_
  rintro e w' ⟨rfl, rfl⟩
  go_wp2
  go_ret
  exact ⟨ret_i (HK5.out (by simp) (by simp) (by simp) (by simp)).symm, hbw⟩
end Go.Proofs.Ythkncbfaehgenaa
