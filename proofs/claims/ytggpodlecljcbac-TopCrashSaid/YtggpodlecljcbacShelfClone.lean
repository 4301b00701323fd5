/-
  DERIVED: THE SHELF's CONTRACTS AT THIS DUMP, IN PLAIN WORDS (tools/lay-plain.mjs out of 'TryShelfClone.lean', which tools/lay-shelf.mjs wrote): THE SAME DECLARATIONS UNDER THE SAME NAMES: 'import', 'namespace', 'open', 'def', 'theorem' AND NOTHING ELSE: no command of the shelf's: FOR A HAND-IN. Each laying: the table of numbers ('.._ren') and one theorem, a field a fact of the dump's own or the kernel's comparison; each contract: ONE APPLICATION.
-/
import Derived.Ground.SlgnProg
import Derived.Shelf.SlicesE.Clone
import Derived.Test.YtggpodlecljcbacProg
namespace Go.Proofs
open Go.Shelf
def Try.cloneFiles_ren : Go.Shelf.Ren := ⟨fun | 41 => 58 | n => n, fun | 22 => 25 | 23 => 41 | 4 => 4 | n => n, fun | n => n⟩
theorem Try.cloneFiles : Go.Proofs.SlLaysE0.n41 Try.prog Try.cloneFiles_ren := {
  mixed := by kernel_rfl
  f41 := ⟨Try.f58.name, by decide, Try.func58.trans (congrArg some (by kernel_rfl))⟩
  t4 := Try.underlying4
  a4 := Try.isAgg4
  z4 := Try.sizeOf4
  v4 := Try.zeroValue4
  t22 := Try.underlying25
  a22 := Try.isAgg25
  z22 := Try.sizeOf25
  v22 := Try.zeroValue25 }
def Try.cloneChanges_ren : Go.Shelf.Ren := ⟨fun | 41 => 57 | n => n, fun | 22 => 34 | 23 => 75 | 4 => 4 | n => n, fun | n => n⟩
theorem Try.cloneChanges : Go.Proofs.SlLaysE0.n41 Try.prog Try.cloneChanges_ren := {
  mixed := by kernel_rfl
  f41 := ⟨Try.f57.name, by decide, Try.func57.trans (congrArg some (by kernel_rfl))⟩
  t4 := Try.underlying4
  a4 := Try.isAgg4
  z4 := Try.sizeOf4
  v4 := Try.zeroValue4
  t22 := Try.underlying34
  a22 := Try.isAgg34
  z22 := Try.sizeOf34
  v22 := Try.zeroValue34 }
end Go.Proofs
