/- Contracts: record.bare (seat Record). -/
import Derived.Test.YtedojdbihajnbaaRecM
import Derived.RegionTactic
import Derived.ChangeAlike
namespace Go.Proofs.Ytedojdbihajnbaa
open Go.RowKit Go.Shelf VB
open Go.Lib (hid)
set_option linter.unusedVariables false
set_option linter.unusedSimpArgs false
theorem below3' (w : World) (o1 o2 o3 : Obj) : Below w.heap.size w (((w.alloc o1).alloc o2).alloc o3) := below_alloc (below2' w o1 o2 (Below.refl _ _)) o3
/-- of a mutation just what counts -/
def bareM (m : Mu) : Mu := ⟨m.kind, m.name, if m.kind = 1 then m.eps else 0, if m.kind = 4 then m.floor else 0, if m.kind = 1 then m.scale else 0, if m.kind = 3 then m.pts else []⟩
def RetBare (k : Int) (nm : ByteArray) (ep fl sc : Int) (pv : Value) (w : World) (e : Ending) (w' : World) : Prop := e = .returned (.agg (aM k nm ep fl sc pv)) ∧ Below w.heap.size w w'
theorem ret_bare {fn : Func} {a : Act} {W w1 : World} {p : Tmp} {g : Nat} {k : Int} {nm : ByteArray} {ep fl sc : Int} {pv : Value} (hres : fn.results = #[.cell p 24]) (ht : a.tmps.getD p undef = .pointer (some ⟨g, 0, none⟩)) (hd : a.defers = [])
    (hk : Blk w1 g 24 (aM k nm ep fl sc pv)) (hb : Below W.heap.size W w1) : bodyPost Try.prog fn (RetBare k nm ep fl sc pv W) .ret a w1 :=
  ret_mu hres ht hd hk ⟨rfl, hb⟩
set_option maxHeartbeats 1000000 in
theorem bare_v (k : Int) (nm : ByteArray) (ep fl sc : Int) (A : Option Addr) (n c : Nat) (w : World) :
    Calls Try.prog 32 #[.agg (aM k nm ep fl sc (.slice A n c))] w (RetBare k nm (if k = 1 then ep else 0) (if k = 4 then fl else 0) (if k = 1 then sc else 0) (if k = 3 then .slice A n c else .slice none 0 0) w) := by
  have HB : Hid (∀ o1 o2 o3, Below w.heap.size w (((w.alloc o1).alloc o2).alloc o3)) := Lib.hid fun o1 o2 o3 => below3' w o1 o2 o3
  by_cases h1 : k = 1
  · subst h1
    show Calls _ _ _ _ (RetBare 1 nm ep 0 sc (.slice none 0 0) w)
    go_enter Try.func32, Try.ntmps32
    go_wp2_with fail
    go_region
    go_wp2
    exact ret_bare rfl rfl rfl ((Blk.new_at (w.alloc _) _ _ (by simp)).alloc _).drew (below_dn (HB.out _ _ _) 1)
  by_cases h3 : k = 3
  · subst h3
    show Calls _ _ _ _ (RetBare 3 nm 0 0 0 (.slice A n c) w)
    go_enter Try.func32, Try.ntmps32
    go_wp2_with fail
    exact ret_bare rfl rfl rfl ((Blk.new_at (w.alloc _) _ _ (by simp)).alloc _) (HB.out _ _ _)
  by_cases h4 : k = 4
  · subst h4
    show Calls _ _ _ _ (RetBare 4 nm 0 fl 0 (.slice none 0 0) w)
    go_enter Try.func32, Try.ntmps32
    go_wp2_with fail
    exact ret_bare rfl rfl rfl ((Blk.new_at (w.alloc _) _ _ (by simp)).alloc _) (HB.out _ _ _)
  rw [if_neg h1, if_neg h3, if_neg h4, if_neg h1]
  have t1 : (k == 1) = false := beq_eq_false_iff_ne.2 h1
  have t3 : (k == 3) = false := beq_eq_false_iff_ne.2 h3
  have t4 : (k == 4) = false := beq_eq_false_iff_ne.2 h4
  clear h1 h3 h4
  go_enter Try.func32, Try.ntmps32
  go_wp2_with fail
  exact ret_bare rfl rfl rfl ((Blk.new_at (w.alloc _) _ _ (by simp)).alloc _) (HB.out _ _ _)
end Go.Proofs.Ytedojdbihajnbaa
