/- (*strings.Builder).WriteString at this dump. -/
import Derived.Shelf.Strings.Builder1
import Derived.Shelf.Small.Strs
import Derived.Test.YtggpodlecljcbaaShelf
import Derived.Test.YtggpodlecljcbaaProg
namespace Go.Proofs
open Go.Shelf
def Try.laysB240_ren : Go.Shelf.Ren := ⟨fun | 166 => 152 | 240 => 163 | 276 => 177 | n => n, fun | 0 => 0 | 3 => 3 | 4 => 4 | 9 => 9 | 20 => 20 | 37 => 155 | 5 => 5 | 70 => 202 | 72 => 204 | 75 => 25 | 80 => 186 | 164 => 229 | n => n, fun | n => n⟩
theorem Try.laysB240 : Go.Proofs.Lays.n240 Try.prog Try.laysB240_ren := {
  mixed := by kernel_rfl
  f240 := Try.func163.trans (congrArg some (by kernel_rfl))
  f276 := Try.func177.trans (congrArg some (by kernel_rfl))
  t0 := Try.underlying0
  a0 := Try.isAgg0
  z0 := Try.sizeOf0
  v0 := Try.zeroValue0
  t4 := Try.underlying4
  a4 := Try.isAgg4
  z4 := Try.sizeOf4
  v4 := Try.zeroValue4
  t9 := Try.underlying9
  a9 := Try.isAgg9
  z9 := Try.sizeOf9
  v9 := Try.zeroValue9
  t20 := Try.underlying20
  a20 := Try.isAgg20
  z20 := Try.sizeOf20
  v20 := Try.zeroValue20
  t70 := Try.underlying202
  a70 := Try.isAgg202
  z70 := Try.sizeOf202
  v70 := Try.zeroValue202
  t72 := Try.underlying204
  a72 := Try.isAgg204
  z72 := Try.sizeOf204
  v72 := Try.zeroValue204
  t164 := Try.underlying229
  a164 := Try.isAgg229
  z164 := Try.sizeOf229
  v164 := Try.zeroValue229 }
def Try.laysB166_ren : Go.Shelf.Ren := ⟨fun | 166 => 152 | 240 => 163 | 276 => 177 | n => n, fun | 0 => 0 | 3 => 3 | 4 => 4 | 9 => 9 | 20 => 20 | 37 => 155 | 5 => 5 | 70 => 202 | 72 => 204 | 75 => 25 | 80 => 186 | 164 => 229 | n => n, fun | n => n⟩
theorem Try.laysB166 : Go.Proofs.Lays.n166 Try.prog Try.laysB166_ren := {
  mixed := by kernel_rfl
  f166 := Try.func152.trans (congrArg some (by kernel_rfl))
  f240 := Try.func163.trans (congrArg some (by kernel_rfl))
  f276 := Try.func177.trans (congrArg some (by kernel_rfl))
  t0 := Try.underlying0
  a0 := Try.isAgg0
  z0 := Try.sizeOf0
  v0 := Try.zeroValue0
  t3 := Try.underlying3
  a3 := Try.isAgg3
  z3 := Try.sizeOf3
  v3 := Try.zeroValue3
  t4 := Try.underlying4
  a4 := Try.isAgg4
  z4 := Try.sizeOf4
  v4 := Try.zeroValue4
  t9 := Try.underlying9
  a9 := Try.isAgg9
  z9 := Try.sizeOf9
  v9 := Try.zeroValue9
  t20 := Try.underlying20
  a20 := Try.isAgg20
  z20 := Try.sizeOf20
  v20 := Try.zeroValue20
  t37 := Try.underlying155
  a37 := Try.isAgg155
  z37 := Try.sizeOf155
  v37 := Try.zeroValue155
  t70 := Try.underlying202
  a70 := Try.isAgg202
  z70 := Try.sizeOf202
  v70 := Try.zeroValue202
  t72 := Try.underlying204
  a72 := Try.isAgg204
  z72 := Try.sizeOf204
  v72 := Try.zeroValue204
  t75 := Try.underlying25
  a75 := Try.isAgg25
  z75 := Try.sizeOf25
  v75 := Try.zeroValue25
  t164 := Try.underlying229
  a164 := Try.isAgg229
  z164 := Try.sizeOf229
  v164 := Try.zeroValue229 }
theorem Try.Builder_ExtraB : Builder.Extra Try.prog Try.laysB166_ren := {
  sizeBuilder := by kernel_rfl
  liesBuilder := by kernel_rfl
  t5 := Try.underlying5
  a5 := Try.isAgg5
  z5 := Try.sizeOf5
  v5 := Try.zeroValue5
  infoByte := by kernel_rfl
  cellsByte := by kernel_rfl
  sizeByte := by kernel_rfl
  neB5 := by decide }
open Go.RowKit in
theorem Try.Builder_WriteString (B b : Nat) (bs : List Value) (s : ByteArray) (w : World) (h : Lib.IsBuilder 204 5 B b bs w) (hlen : bs.length + s.size ≤ 140737488355328) (hBw : B ≤ w.heap.size) :
    Calls Try.prog 152 #[.pointer (some ⟨b, 0, none⟩), .string s] w fun e w' => e = .returned (.tuple #[.int .i64 s.size, .nilIface]) ∧ (Lib.BuilderAt 204 5 B b (.pointer (some ⟨b, 0, none⟩)) (bs ++ Lib.strCells s) w' ∧ Below B w w') := Any.Builder_WriteString Try.laysB166 Try.Builder_ExtraB B b bs s w h hlen hBw
end Go.Proofs
