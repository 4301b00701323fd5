/-
  DERIVED: THE SHELF's CONTRACTS AT THIS DUMP, IN PLAIN WORDS (tools/lay-plain.mjs out of 'TryShelfClone.lean', which tools/lay-shelf.mjs wrote): THE SAME DECLARATIONS UNDER THE SAME NAMES: 'import', 'namespace', 'open', 'def', 'theorem' AND NOTHING ELSE: no command of the shelf's: FOR A HAND-IN. Each laying: the table of numbers ('.._ren') and one theorem, a field a fact of the dump's own or the kernel's comparison; each contract: ONE APPLICATION.
-/
import Derived.Ground.SlgnProg
import Derived.Shelf.SlicesE.Clone
import Derived.Test.YtggpodlecljcbaaProg
namespace Go.Proofs
open Go.Shelf
def Try.cloneFiles_ren : Go.Shelf.Ren := ⟨fun | 41 => 119 | n => n, fun | 22 => 32 | 23 => 23 | 4 => 4 | n => n, fun | n => n⟩
theorem Try.cloneFiles : Go.Proofs.SlLaysE0.n41 Try.prog Try.cloneFiles_ren := {
  mixed := by kernel_rfl
  f41 := ⟨Try.f119.name, by decide, Try.func119.trans (congrArg some (by kernel_rfl))⟩
  t4 := Try.underlying4
  a4 := Try.isAgg4
  z4 := Try.sizeOf4
  v4 := Try.zeroValue4
  t22 := Try.underlying32
  a22 := Try.isAgg32
  z22 := Try.sizeOf32
  v22 := Try.zeroValue32 }
def Try.cloneChanges_ren : Go.Shelf.Ren := ⟨fun | 41 => 105 | n => n, fun | 22 => 60 | 23 => 78 | 4 => 4 | n => n, fun | n => n⟩
theorem Try.cloneChanges : Go.Proofs.SlLaysE0.n41 Try.prog Try.cloneChanges_ren := {
  mixed := by kernel_rfl
  f41 := ⟨Try.f105.name, by decide, Try.func105.trans (congrArg some (by kernel_rfl))⟩
  t4 := Try.underlying4
  a4 := Try.isAgg4
  z4 := Try.sizeOf4
  v4 := Try.zeroValue4
  t22 := Try.underlying60
  a22 := Try.isAgg60
  z22 := Try.sizeOf60
  v22 := Try.zeroValue60 }
end Go.Proofs
