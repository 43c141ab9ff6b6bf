/- Contracts of vary: PutRow; that the layer does something. -/
import Derived.Test.YtgdnpmjmkcccoaaVarJ
import Derived.Test.YtgdnpmjmkcccoaaVarK
namespace Go.Proofs.Ytgdnpmjmkcccoaa
open Go.RowKit Go.Shelf VB
set_option linter.unusedVariables false
theorem reads_new (w : World) (e : TypeId) (vs : List Value) : Reads (w.alloc (.cells vs.toArray e)) e 1 (some ⟨w.heap.size, 0, none⟩) vs.length vs := by
  refine ⟨by simp, fun _ => ⟨_, rfl, ⟨_, _, heap_alloc_new w _⟩, fun j u hu => ?_⟩⟩
  have hadd : (⟨w.heap.size, 0, none⟩ : Addr).add j = ⟨w.heap.size, j, none⟩ := by unfold Addr.add; split <;> simp_all
  rw [hadd, cell_of_row _ _ j vs.toArray e (0, 0) (heap_alloc_new w _)]
  simpa using hu
/-- what a row is put as -/
def rowB (zs : List Int) : List Nat := vb zs.length ++ (zs.map fold64).flatMap vb
theorem vb300 : vb 300 = [172, 2] := by rw [vb_ge (by decide), vb_lt (by decide)]
theorem vb1 : vb 1 = [1] := vb_lt (by decide)
theorem vb128 : (vb 128).length = 2 := by rw [vb_ge (by decide), vb_lt (by decide)]; rfl
theorem wkA : gotN [172, 2] 0 = (300, 2, 0) := by decide
theorem wkB : gotN [9, 1] 1 = (1, 2, 0) := by decide
theorem wkC : gotN [128, 0] 0 = (0, 0, 7) := by decide
theorem wkD : rowG [2, 2, 3] 0 2 = ([1, -2], 3, 0) := by decide
theorem below_alloc {w w1 : World} (h : Below w.heap.size w w1) (o : Obj) : Below w.heap.size w (w1.alloc o) := h.alloc h.size o
theorem reads_new_at {g : Nat} (w : World) (e : TypeId) (vs : List Value) (n : Nat) (h : g = w.heap.size) (hn : n = vs.length) : Reads (w.alloc (.cells vs.toArray e)) e 1 (some ⟨g, 0, none⟩) n vs := by
  subst h hn
  exact reads_new w e vs
end Go.Proofs.Ytgdnpmjmkcccoaa
