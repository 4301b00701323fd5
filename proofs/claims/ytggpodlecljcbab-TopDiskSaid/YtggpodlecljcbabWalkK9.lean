/- The walk of the reference's Restart. -/
import Derived.Test.YtggpodlecljcbabWalkK8
namespace Go.Proofs.Ytggpodlecljcbab
open Go.RowKit Go.Sort
set_option linter.unusedSimpArgs false
set_option linter.unusedVariables false
end Go.Proofs.Ytggpodlecljcbab
