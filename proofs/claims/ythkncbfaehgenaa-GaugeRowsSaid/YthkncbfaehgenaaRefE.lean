/- Contracts of the reference's whole numbers of any size (Num): Less, Same, Div, Fits, Value. -/
import Derived.Test.YthkncbfaehgenaaRefD
namespace Go.Proofs.Ythkncbfaehgenaa
open Go.RowKit NB

theorem lt_neg {x y : Int} (hb : true = decide (x < 0)) (hd : true = decide (y < 0)) : decide (y.natAbs < x.natAbs) = decide (x < y) := by
  have h1 : x < 0 := by simpa using hb.symm
  have h2 : y < 0 := by simpa using hd.symm
  rw [decide_eq_decide]; omega
theorem lt_pos {x y : Int} (hb : false = decide (x < 0)) (hd : false = decide (y < 0)) : decide (x.natAbs < y.natAbs) = decide (x < y) := by
  have h1 : ¬ x < 0 := by simpa using hb.symm
  have h2 : ¬ y < 0 := by simpa using hd.symm
  rw [decide_eq_decide]; omega
theorem lt_tf {x y : Int} (hb : true = decide (x < 0)) (hd : false = decide (y < 0)) : true = decide (x < y) := by
  have h1 : x < 0 := by simpa using hb.symm
  have h2 : ¬ y < 0 := by simpa using hd.symm
  rw [eq_comm, decide_eq_true_iff]; omega
theorem lt_ft {x y : Int} (hb : false = decide (x < 0)) (hd : true = decide (y < 0)) : false = decide (x < y) := by
  have h1 : ¬ x < 0 := by simpa using hb.symm
  have h2 : y < 0 := by simpa using hd.symm
  rw [eq_comm, decide_eq_false_iff_not]; omega
theorem twoB (w : World) (o1 o2 : Obj) : Below w.heap.size w ((w.alloc o1).alloc o2) := ((Below.refl _ _).alloc (Nat.le_refl _) o1).alloc (by simp) o2

set_option maxHeartbeats 1000000 in
theorem Less_c {x y : Int} {b d : Bool} {A B : Option Addr} {p r c f : Nat} {w : World} (h : NumIs w x b A p c) (k : NumIs w y d B r f) (hp : p ≤ 1000000) (hr : r ≤ 1000000) :
    Calls Try.prog 46 #[.agg #[.bool b, .slice A p c], .agg #[.bool d, .slice B r f]] w fun e w' => e = .returned (.bool (decide (x < y))) ∧ Below w.heap.size w w' := by
  have h0 := ((h.dig.alloc (bNum b A p c)).alloc (bNum d B r f))
  have k0 := ((k.dig.alloc (bNum b A p c)).alloc (bNum d B r f))
  have hb := Lib.hid h.neg
  have hd := Lib.hid k.neg
  clear h k
  cases b <;> cases d
  · have t : (false == false) = true := rfl
    go_enter Try.func46, Try.ntmps46
    go_wp2_with fail
    refine (le_c h0 k0 hp).mono ?_
    rintro e w' ⟨rfl, q, rfl⟩
    go_wp2
    go_ret
    exact ⟨ret_bool (lt_pos hb.out hd.out), below_drewN (twoB _ _ _) _⟩
  · go_enter Try.func46, Try.ntmps46
    go_wp2
    go_ret
    exact ⟨ret_bool (lt_ft hb.out hd.out), twoB _ _ _⟩
  · go_enter Try.func46, Try.ntmps46
    go_wp2
    go_ret
    exact ⟨ret_bool (lt_tf hb.out hd.out), twoB _ _ _⟩
  · go_enter Try.func46, Try.ntmps46
    go_wp2_with fail
    refine (le_c k0 h0 hr).mono ?_
    rintro e w' ⟨rfl, q, rfl⟩
    go_wp2
    go_ret
    exact ⟨ret_bool (lt_neg hb.out hd.out), below_drewN (twoB _ _ _) _⟩

set_option maxHeartbeats 1000000 in
theorem Same_c {x y : Int} {b d : Bool} {A B : Option Addr} {p r c f : Nat} {w : World} (h : NumIs w x b A p c) (k : NumIs w y d B r f) (hp : p ≤ 1000000) (hr : r ≤ 1000000) :
    Calls Try.prog 29 #[.agg #[.bool b, .slice A p c], .agg #[.bool d, .slice B r f]] w fun e w' => e = .returned (.bool (decide (x = y))) ∧ Below w.heap.size w w' := by
  have h0 := ((h.alloc (bNum b A p c)).alloc (bNum d B r f))
  have k0 := ((k.alloc (bNum b A p c)).alloc (bNum d B r f))
  go_enter Try.func29, Try.ntmps29
  go_wp2_with fail
  refine (Less_c h0 k0 hp hr).mono ?_
  rintro e w1 ⟨rfl, hb1⟩
  have S0 : ((w.alloc (bNum b A p c)).alloc (bNum d B r f)).cell? ⟨w.heap.size, 0, none⟩ = some (.bool b) ∧ ((w.alloc (bNum b A p c)).alloc (bNum d B r f)).cell? ⟨w.heap.size, 1, none⟩ = some (.slice A p c) ∧
    ((w.alloc (bNum b A p c)).alloc (bNum d B r f)).cell? ⟨w.heap.size + 1, 0, none⟩ = some (.bool d) ∧ ((w.alloc (bNum b A p c)).alloc (bNum d B r f)).cell? ⟨w.heap.size + 1, 1, none⟩ = some (.slice B r f) := by
    have k1 : Blk ((w.alloc (bNum b A p c)).alloc (bNum d B r f)) w.heap.size 59 #[.bool b, .slice A p c] := (Blk.new w _ _).alloc _
    have k2 : Blk ((w.alloc (bNum b A p c)).alloc (bNum d B r f)) (w.heap.size + 1) 59 #[.bool d, .slice B r f] := Blk.new_at _ _ _ (by simp)
    exact ⟨k1.two.1, k1.two.2.1, k2.two.1, k2.two.2.1⟩
  obtain ⟨s0, s1, s2, s3⟩ := keep4 S0 hb1
  have h1 := h0.below hb1
  have k1 := k0.below hb1
  clear S0 h k h0 k0
  by_cases hlt : x < y
  · rw [decide_eq_true hlt]
    go_wp2
    go_ret
    refine ⟨ret_bool ?_, below2 w _ _ hb1⟩
    rw [eq_comm, decide_eq_false_iff_not]; omega
  · rw [decide_eq_false hlt]
    have HL := Lib.hid hlt
    clear hlt
    go_wp2_with fail
    refine (Less_c k1 h1 hr hp).mono ?_
    rintro e w2 ⟨rfl, hb2⟩
    go_wp2
    go_ret
    refine ⟨ret_bool ?_, below_of (below2 w _ _ hb1) hb2 (below2 w _ _ hb1).size⟩
    have := HL.out
    rw [← decide_not, decide_eq_decide]; omega
end Go.Proofs.Ythkncbfaehgenaa
