/- Contracts of the laws of vary: kept. -/
import Derived.Test.YtedojdbihajnbaaVarN
namespace Go.Proofs.Ytedojdbihajnbaa
open Go.RowKit Go.Shelf VB
set_option linter.unusedVariables false
end Go.Proofs.Ytedojdbihajnbaa
