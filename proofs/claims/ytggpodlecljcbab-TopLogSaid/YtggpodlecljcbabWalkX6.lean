/- The walks of chapter 7: slices.Insert of one change, into a row of one's own. -/
import Derived.Test.YtggpodlecljcbabWalkX5
namespace Go.Proofs.Ytggpodlecljcbab
set_option linter.unusedSimpArgs false
set_option linter.unusedVariables false
open Go.RowKit Go.Sort
theorem insert_endX (l : List Change) (f : Change) : l.take l.length ++ f :: l.drop l.length = l ++ [f] := by rw [List.take_length, List.drop_length]

end Go.Proofs.Ytggpodlecljcbab
