/-
  DERIVED: THE SHELF's CONTRACTS AT THIS DUMP, IN PLAIN WORDS (tools/lay-plain.mjs out of 'TryzShelfClone.lean', which tools/lay-shelf.mjs wrote): THE SAME DECLARATIONS UNDER THE SAME NAMES: 'import', 'namespace', 'open', 'def', 'theorem' AND NOTHING ELSE: no command of the shelf's: FOR A HAND-IN. Each laying: the table of numbers ('.._ren') and one theorem, a field a fact of the dump's own or the kernel's comparison; each contract: ONE APPLICATION.
-/
import Derived.Ground.SlgnProg
import Derived.Shelf.SlicesE.Clone
import Derived.Test.YtggpodlecljcbacGreatDoorProg
namespace Go.Proofs
open Go.Shelf
def Tryz.cloneFiles_ren : Go.Shelf.Ren := ⟨fun | 41 => 54 | n => n, fun | 22 => 29 | 23 => 96 | 4 => 4 | n => n, fun | n => n⟩
theorem Tryz.cloneFiles : Go.Proofs.SlLaysE0.n41 Tryz.prog Tryz.cloneFiles_ren := {
  mixed := by kernel_rfl
  f41 := ⟨Tryz.f54.name, by decide, Tryz.func54.trans (congrArg some (by kernel_rfl))⟩
  t4 := Tryz.underlying4
  a4 := Tryz.isAgg4
  z4 := Tryz.sizeOf4
  v4 := Tryz.zeroValue4
  t22 := Tryz.underlying29
  a22 := Tryz.isAgg29
  z22 := Tryz.sizeOf29
  v22 := Tryz.zeroValue29 }
def Tryz.cloneChanges_ren : Go.Shelf.Ren := ⟨fun | 41 => 73 | n => n, fun | 22 => 41 | 23 => 98 | 4 => 4 | n => n, fun | n => n⟩
theorem Tryz.cloneChanges : Go.Proofs.SlLaysE0.n41 Tryz.prog Tryz.cloneChanges_ren := {
  mixed := by kernel_rfl
  f41 := ⟨Tryz.f73.name, by decide, Tryz.func73.trans (congrArg some (by kernel_rfl))⟩
  t4 := Tryz.underlying4
  a4 := Tryz.isAgg4
  z4 := Tryz.sizeOf4
  v4 := Tryz.zeroValue4
  t22 := Tryz.underlying41
  a22 := Tryz.isAgg41
  z22 := Tryz.sizeOf41
  v22 := Tryz.zeroValue41 }
end Go.Proofs
