/- Contracts: record.Same (seat Record). -/
import Derived.Test.YtedojdbihajnbaaRecL
import Derived.Laws.Strings
namespace Go.Proofs.Ytedojdbihajnbaa
open Go.RowKit Go.Shelf VB
open Go.Lib (hid)
set_option linter.unusedVariables false
set_option linter.unusedSimpArgs false
theorem below2' (w : World) (o1 o2 : Obj) {w1 : World} (hb : Below ((w.alloc o1).alloc o2).heap.size ((w.alloc o1).alloc o2) w1) : Below w.heap.size w w1 :=
  (((Below.refl _ _).alloc (Nat.le_refl _) o1).alloc (by simp) o2).trans (hb.mono (by simp; omega))
theorem below_dn {B : Nat} {w w' : World} (h : Below B w w') (q : Nat) : Below B w (w'.drewN q) := ⟨h.os, h.tape, h.output, h.size, h.block⟩
theorem strL_eq {a b : ByteArray} (h : a.toList = b.toList) : a = b := by
  rw [ByteArray.toList_eq, ByteArray.toList_eq] at h
  exact ByteArray.ext (Array.ext' h)
theorem strL_ne {a b : ByteArray} (h : ¬ a.toList = b.toList) : ¬ a = b := fun e => h (by rw [e])
abbrev aM (k : Int) (nm : ByteArray) (ep fl sc : Int) (pv : Value) : Array Value := #[.int .i64 k, .string nm, .int .i64 ep, .int .i64 fl, .int .i64 sc, pv]
theorem Blk.sixc {w : World} {g : Nat} {t : TypeId} {v0 v1 v2 v3 v4 v5 : Value} (h : Blk w g t #[v0, v1, v2, v3, v4, v5]) : w.cell? ⟨g, 0, none⟩ = some v0 ∧ w.cell? ⟨g, 1, none⟩ = some v1 ∧ w.cell? ⟨g, 2, none⟩ = some v2 ∧ w.cell? ⟨g, 3, none⟩ = some v3 ∧ w.cell? ⟨g, 4, none⟩ = some v4 ∧ w.cell? ⟨g, 5, none⟩ = some v5 :=
  ⟨h.cell 0, h.cell 1, h.cell 2, h.cell 3, h.cell 4, h.cell 5⟩
set_option maxHeartbeats 1000000 in
theorem Same_c {e1 e2 : TypeId} (x y : Mu) (A B : Option Addr) (c d : Nat) (w : World) (hx : Reads w e1 2 A x.pts.length (x.pts.flatMap cellsP)) (hy : Reads w e2 2 B y.pts.length (y.pts.flatMap cellsP)) (hn : x.pts.length ≤ 100000000) :
    Calls Try.prog 13 #[vM x A c, vM y B d] w fun e w' => e = .returned (.bool (decide (x = y))) ∧ Below w.heap.size w w' := by
  obtain ⟨k1, n1, p1, f1, s1, l1⟩ := x
  obtain ⟨k2, n2, p2, f2, s2, l2⟩ := y
  have HQ : Hid (∀ o1 o2, Calls Try.prog 37 #[.slice A l1.length c, .slice B l2.length d] ((w.alloc o1).alloc o2) fun e w' => e = .returned (.bool (decide (l1 = l2))) ∧ ∃ q, w' = ((w.alloc o1).alloc o2).drewN q) := Lib.hid fun o1 o2 => equal_p A B l1.length l2.length c d l1 l2 _ ((hx.alloc o1).alloc o2) ((hy.alloc o1).alloc o2) hn
  obtain ⟨a0, a1, a2, a3, a4, a5⟩ := ((Blk.new w 24 (aM k1 n1 p1 f1 s1 (.slice A l1.length c))).alloc (.cells (aM k2 n2 p2 f2 s2 (.slice B l2.length d)) 24)).sixc
  obtain ⟨b0, b1, b2, b3, b4, b5⟩ := (Blk.new_at (g := w.heap.size + 1) (w.alloc (.cells (aM k1 n1 p1 f1 s1 (.slice A l1.length c)) 24)) 24 (aM k2 n2 p2 f2 s2 (.slice B l2.length d)) (by simp)).sixc
  have HB : Hid (∀ o1 o2, Below w.heap.size w ((w.alloc o1).alloc o2)) := Lib.hid fun o1 o2 => below2' w o1 o2 (Below.refl _ _)
  clear hx hy
  go_enter Try.func13, Try.ntmps13
  go_wp2_with fail
  case isTrue =>
    have h1 : k1 = k2 := by assumption
    have h2 := strL_eq (show n1.toList = n2.toList by assumption)
    have h3 : p1 = p2 := by assumption
    have h4 : f1 = f2 := by assumption
    have h5 : s1 = s2 := by assumption
    subst h1 h2 h3 h4 h5
    refine (HQ.out _ _).mono ?_
    rintro e w3 ⟨rfl, q, rfl⟩
    go_wp2
    go_ret
    exact ⟨ret_b (by simp), below_dn (HB.out _ _) q⟩
  all_goals
    go_ret
    refine ⟨ret_b ?_, HB.out _ _⟩
  · rfl
  · rfl
  · rfl
  · simp [strL_ne (show ¬ n1.toList = n2.toList by assumption)]
  · rfl
end Go.Proofs.Ytedojdbihajnbaa
