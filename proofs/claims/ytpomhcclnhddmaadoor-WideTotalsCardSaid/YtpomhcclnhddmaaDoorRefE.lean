/- Contracts of the reference's whole numbers of any size (Num): Less, Same, Div, Fits, Value. -/
import Derived.Test.YtpomhcclnhddmaaDoorRefD
namespace Go.Proofs.YtpomhcclnhddmaaDoor
open Go.RowKit NB

theorem lt_neg {x y : Int} (hb : true = decide (x < 0)) (hd : true = decide (y < 0)) : decide (y.natAbs < x.natAbs) = decide (x < y) := by
  have h1 : x < 0 := by simpa using hb.symm
  have h2 : y < 0 := by simpa using hd.symm
  rw [decide_eq_decide]; omega
theorem lt_pos {x y : Int} (hb : false = decide (x < 0)) (hd : false = decide (y < 0)) : decide (x.natAbs < y.natAbs) = decide (x < y) := by
  have h1 : ¬ x < 0 := by simpa using hb.symm
  have h2 : ¬ y < 0 := by simpa using hd.symm
  rw [decide_eq_decide]; omega
theorem lt_tf {x y : Int} (hb : true = decide (x < 0)) (hd : false = decide (y < 0)) : true = decide (x < y) := by
  have h1 : x < 0 := by simpa using hb.symm
  have h2 : ¬ y < 0 := by simpa using hd.symm
  rw [eq_comm, decide_eq_true_iff]; omega
theorem lt_ft {x y : Int} (hb : false = decide (x < 0)) (hd : true = decide (y < 0)) : false = decide (x < y) := by
  have h1 : ¬ x < 0 := by simpa using hb.symm
  have h2 : y < 0 := by simpa using hd.symm
  rw [eq_comm, decide_eq_false_iff_not]; omega
theorem twoB (w : World) (o1 o2 : Obj) : Below w.heap.size w ((w.alloc o1).alloc o2) := ((Below.refl _ _).alloc (Nat.le_refl _) o1).alloc (by simp) o2

set_option maxHeartbeats 1000000 in
theorem Less_c {x y : Int} {b d : Bool} {A B : Option Addr} {p r c f : Nat} {w : World} (h : NumIs w x b A p c) (k : NumIs w y d B r f) (hp : p ≤ 1000000) (hr : r ≤ 1000000) :
    Calls Tryd.prog 26 #[.agg #[.bool b, .slice A p c], .agg #[.bool d, .slice B r f]] w fun e w' => e = .returned (.bool (decide (x < y))) ∧ Below w.heap.size w w' := by
  have h0 := ((h.dig.alloc (bNum b A p c)).alloc (bNum d B r f))
  have k0 := ((k.dig.alloc (bNum b A p c)).alloc (bNum d B r f))
  have hb := Lib.hid h.neg
  have hd := Lib.hid k.neg
  clear h k
  cases b <;> cases d
  · have t : (false == false) = true := rfl
    go_enter Tryd.func26, Tryd.ntmps26
    go_wp2_with fail
    refine (le_c h0 k0 hp).mono ?_
    rintro e w' ⟨rfl, q, rfl⟩
    go_wp2
    go_ret
    exact ⟨ret_bool (lt_pos hb.out hd.out), below_drewN (twoB _ _ _) _⟩
  · go_enter Tryd.func26, Tryd.ntmps26
    go_wp2
    go_ret
    exact ⟨ret_bool (lt_ft hb.out hd.out), twoB _ _ _⟩
  · go_enter Tryd.func26, Tryd.ntmps26
    go_wp2
    go_ret
    exact ⟨ret_bool (lt_tf hb.out hd.out), twoB _ _ _⟩
  · go_enter Tryd.func26, Tryd.ntmps26
    go_wp2_with fail
    refine (le_c k0 h0 hr).mono ?_
    rintro e w' ⟨rfl, q, rfl⟩
    go_wp2
    go_ret
    exact ⟨ret_bool (lt_neg hb.out hd.out), below_drewN (twoB _ _ _) _⟩

end Go.Proofs.YtpomhcclnhddmaaDoor
