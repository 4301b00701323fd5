/- The library's contracts at this dump, laid by the kit's shelf. -/
import Derived.Shelf.Sort.Plain
import Derived.Shelf.Slices.In.SortNone
import Derived.Test.YtggpodlecljcbabGreatDoorShelf
namespace Go.Proofs
open Go.Shelf Go.Sort Go.RowKit Go.Lib
def Tryz.lays190_ren :Go.Shelf.Ren:=⟨fun | 190=>162 | 125=>148 | 258=>200 | 128=>180 | 129=>181 | 302=>223 | 303=>224 | 304=>225 | 305=>226 | 306=>227 | 307=>228 | 308=>229 | 309=>230 | 310=>231 | 333=>243 | 329=>205 | 330=>206 | 334=>244 | 335=>245 | 336=>246 | 344=>247 | n=>n,fun | 31=>56 | 9=>9 | 3=>3 | 46=>135 | 0=>0 | 51=>176 | 53=>33 | 4=>4 | 183=>219 | 182=>218 | 131=>160 | 5=>5 | 218=>245 | 222=>249 | 228=>270 | 229=>271 | n=>n,fun | n=>n⟩
theorem Tryz.lays190 :Go.Proofs.Lays.n190 Tryz.prog Tryz.lays190_ren:= {
 mixed:=by kernel_rfl
 f125:=Tryz.func148.trans (congrArg some (by kernel_rfl))
 f128:=Tryz.func180.trans (congrArg some (by kernel_rfl))
 f129:=Tryz.func181.trans (congrArg some (by kernel_rfl))
 f190:=Tryz.func162.trans (congrArg some (by kernel_rfl))
 f258:=Tryz.func200.trans (congrArg some (by kernel_rfl))
 f302:=Tryz.func223.trans (congrArg some (by kernel_rfl))
 f303:=Tryz.func224.trans (congrArg some (by kernel_rfl))
 f304:=Tryz.func225.trans (congrArg some (by kernel_rfl))
 f305:=Tryz.func226.trans (congrArg some (by kernel_rfl))
 f306:=Tryz.func227.trans (congrArg some (by kernel_rfl))
 f307:=Tryz.func228.trans (congrArg some (by kernel_rfl))
 f308:=Tryz.func229.trans (congrArg some (by kernel_rfl))
 f309:=Tryz.func230.trans (congrArg some (by kernel_rfl))
 f310:=Tryz.func231.trans (congrArg some (by kernel_rfl))
 f329:=Tryz.func205.trans (congrArg some (by kernel_rfl))
 f330:=Tryz.func206.trans (congrArg some (by kernel_rfl))
 f333:=Tryz.func243.trans (congrArg some (by kernel_rfl))
 f334:=Tryz.func244.trans (congrArg some (by kernel_rfl))
 f335:=Tryz.func245.trans (congrArg some (by kernel_rfl))
 f336:=Tryz.func246.trans (congrArg some (by kernel_rfl))
 f344:=Tryz.func247.trans (congrArg some (by kernel_rfl))
 t0:=Tryz.underlying0
 a0:=Tryz.isAgg0
 z0:=Tryz.sizeOf0
 v0:=Tryz.zeroValue0
 t3:=Tryz.underlying3
 a3:=Tryz.isAgg3
 z3:=Tryz.sizeOf3
 v3:=Tryz.zeroValue3
 t4:=Tryz.underlying4
 a4:=Tryz.isAgg4
 z4:=Tryz.sizeOf4
 v4:=Tryz.zeroValue4
 t5:=Tryz.underlying5
 a5:=Tryz.isAgg5
 z5:=Tryz.sizeOf5
 v5:=Tryz.zeroValue5
 t9:=Tryz.underlying9
 a9:=Tryz.isAgg9
 z9:=Tryz.sizeOf9
 v9:=Tryz.zeroValue9
 t31:=Tryz.underlying56
 a31:=Tryz.isAgg56
 z31:=Tryz.sizeOf56
 v31:=Tryz.zeroValue56
 t46:=Tryz.underlying135
 a46:=Tryz.isAgg135
 z46:=Tryz.sizeOf135
 v46:=Tryz.zeroValue135
 t51:=Tryz.underlying176
 a51:=Tryz.isAgg176
 z51:=Tryz.sizeOf176
 v51:=Tryz.zeroValue176
 t53:=Tryz.underlying33
 a53:=Tryz.isAgg33
 z53:=Tryz.sizeOf33
 v53:=Tryz.zeroValue33
 t131:=Tryz.underlying160
 a131:=Tryz.isAgg160
 z131:=Tryz.sizeOf160
 v131:=Tryz.zeroValue160
 t182:=Tryz.underlying218
 a182:=Tryz.isAgg218
 z182:=Tryz.sizeOf218
 v182:=Tryz.zeroValue218
 t183:=Tryz.underlying219
 a183:=Tryz.isAgg219
 z183:=Tryz.sizeOf219
 v183:=Tryz.zeroValue219
 t218:=Tryz.underlying245
 a218:=Tryz.isAgg245
 z218:=Tryz.sizeOf245
 v218:=Tryz.zeroValue245
 t222:=Tryz.underlying249
 a222:=Tryz.isAgg249
 z222:=Tryz.sizeOf249
 v222:=Tryz.zeroValue249
 t228:=Tryz.underlying270
 a228:=Tryz.isAgg270
 z228:=Tryz.sizeOf270
 v228:=Tryz.zeroValue270
 t229:=Tryz.underlying271
 a229:=Tryz.isAgg271
 z229:=Tryz.sizeOf271
 v229:=Tryz.zeroValue271 }
theorem Tryz.slices_Sort_string (blk off cap:Nat)(ss:List (List UInt8))(w:World)(hH:Holds encStr w blk off ss.toArray)(hblk:blk<w.heap.size)(hsz:ss.length<4611686018427387904):
 Calls Tryz.prog 162 #[.slice (some ⟨blk,off,none⟩) ss.length cap] w fun e w' =>
  e= .returned (.tuple #[])∧∃n os,w' =grow (putRow encStr (Sort.ahead w n) blk off (ss.mergeSort fun x y=>decide (x≤y)).toArray) os:=Any.slices_Sort_string Tryz.lays190 blk off cap ss w hH hblk hsz
theorem Tryz.slices_Sort_string_none (p:Option Addr)(cap:Nat)(w:World):
 Calls Tryz.prog 162 #[.slice p 0 cap] w fun e w' =>e= .returned (.tuple #[])∧w' =w:=Any.slices_Sort_string_none Tryz.lays190 p cap w
end Go.Proofs
