/- Contracts of the laws of vary: head, kept. -/
import Derived.Test.YtgdnpmjmkcccoaaVarM
namespace Go.Proofs.Ytgdnpmjmkcccoaa
open Go.RowKit Go.Shelf VB
set_option linter.unusedVariables false
/-- what head hands back: bytes, and twelve marked ones behind them, in memory of its own -/
def Head (hs : List Nat) (w0 : World) (C : Option Addr) (n f : Nat) (w : World) : Prop := hs.length = n ∧ w.ownsRow w0.heap.size 5 1 (.slice C (n + 12) f) (n + 12) (bsV (hs ++ List.replicate 12 238))
theorem rep_snoc (hs : List Nat) (k : Nat) : bsV (hs ++ List.replicate (k + 1) 238) = bsV (hs ++ List.replicate k 238) ++ [.int .u8 238] := by
  rw [List.replicate_succ', ← List.append_assoc, bsV_app]; rfl
end Go.Proofs.Ytgdnpmjmkcccoaa
