/- The walks of chapter 7: slices.Clone and the search on changes. -/
import Derived.Test.YtggpodlecljcbaaGreatDoorSpecX2
import Derived.Test.YtggpodlecljcbaaGreatDoorWalkG3
import Derived.Test.YtggpodlecljcbaaGreatDoorWalkX
namespace Go.Proofs.YtggpodlecljcbaaGreatDoor
set_option linter.unusedSimpArgs false
set_option linter.unusedVariables false
open Go.RowKit Go.Sort
theorem I_changes : ElemInfo Tryz.prog 25 41 3 40 := elemInfo_of (z := .agg #[.string ⟨#[]⟩, .string ⟨#[]⟩, .bool false]) Tryz.underlying25 (by kernel_rfl) rfl (by decide) (by decide)
theorem change_one (f : Change) : ∀ u ∈ f.cells, u.oneCell' = true := by
  intro u hu
  simp [Change.cells] at hu
  rcases hu with rfl | rfl | rfl <;> rfl
def RetFindX (l : List Change) (name : ByteArray) (w : World) (e : Ending) (w' : World) : Prop := e = .returned (.tuple #[.int .i64 (rankX l name), .bool (isAtX l name (rankX l name))]) ∧ Below w.heap.size w w'
end Go.Proofs.YtggpodlecljcbaaGreatDoor
