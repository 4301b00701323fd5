/- The walk of the document's answer: which copies are wrong. -/
import Derived.Test.YtggpodlecljcbabWalkD2
namespace Go.Proofs.Ytggpodlecljcbab
set_option linter.unusedSimpArgs false
set_option linter.unusedVariables false
open Go.RowKit Go.Sort

end Go.Proofs.Ytggpodlecljcbab
