/- Contracts of the laws of vary: kept. -/
import Derived.Test.YtgdnpmjmkcccoaaVarN
namespace Go.Proofs.Ytgdnpmjmkcccoaa
open Go.RowKit Go.Shelf VB
set_option linter.unusedVariables false
end Go.Proofs.Ytgdnpmjmkcccoaa
