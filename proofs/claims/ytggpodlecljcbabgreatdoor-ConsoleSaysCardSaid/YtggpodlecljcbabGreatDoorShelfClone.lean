/- The library's contracts at this dump, laid by the kit's shelf. -/
import Derived.Ground.SlgnProg
import Derived.Shelf.SlicesE.Clone
import Derived.Test.YtggpodlecljcbabGreatDoorProg
namespace Go.Proofs
open Go.Shelf
def Tryz.cloneFiles_ren :Go.Shelf.Ren:=⟨fun | 41=>116 | n=>n,fun | 22=>30 | 23=>102 | 4=>4 | n=>n,fun | n=>n⟩
theorem Tryz.cloneFiles :Go.Proofs.SlLaysE0.n41 Tryz.prog Tryz.cloneFiles_ren:= {
 mixed:=by kernel_rfl
 f41:=⟨Tryz.f116.name,by decide,Tryz.func116.trans (congrArg some (by kernel_rfl))⟩
 t4:=Tryz.underlying4
 a4:=Tryz.isAgg4
 z4:=Tryz.sizeOf4
 v4:=Tryz.zeroValue4
 t22:=Tryz.underlying30
 a22:=Tryz.isAgg30
 z22:=Tryz.sizeOf30
 v22:=Tryz.zeroValue30 }
def Tryz.cloneChanges_ren :Go.Shelf.Ren:=⟨fun | 41=>104 | n=>n,fun | 22=>34 | 23=>109 | 4=>4 | n=>n,fun | n=>n⟩
theorem Tryz.cloneChanges :Go.Proofs.SlLaysE0.n41 Tryz.prog Tryz.cloneChanges_ren:= {
 mixed:=by kernel_rfl
 f41:=⟨Tryz.f104.name,by decide,Tryz.func104.trans (congrArg some (by kernel_rfl))⟩
 t4:=Tryz.underlying4
 a4:=Tryz.isAgg4
 z4:=Tryz.sizeOf4
 v4:=Tryz.zeroValue4
 t22:=Tryz.underlying34
 a22:=Tryz.isAgg34
 z22:=Tryz.sizeOf34
 v22:=Tryz.zeroValue34 }
end Go.Proofs
