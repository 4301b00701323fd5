/- What a reading of an argument says of memory: numbers. -/
import Derived.Test.YtggpodlecljcbacGreatDoorMOA
namespace Go.Proofs.YtggpodlecljcbacGreatDoor
open Go.ChangeShapes Go.WideShapes Go.ChangeAt Go.RowKit Go.Deep Go.Joins
section
variable {H : Type} {enc : TypeId × Value → H} {w : World} {base : Nat} {spare : Nat → Bool} {held : Bool}
theorem trod_num {n : Nat} {cs : List Value} {y : DataW H × List MemPlace} (h : DataW.trod enc Tryz.prog w base spare held n 3 cs = some y) : ∃ i : Int, cs = intCells i ∧ (Lit.int .i64 i).wf = true := by
  obtain ⟨i, k0, _, o0⟩ := DataW.trod_int Tryz.underlying3 h
  exact ⟨i, k0, o0⟩
theorem trod_ints {n : Nat} {cs : List Value} {y : DataW H × List MemPlace} (h : DataW.trod enc Tryz.prog w base spare held n 54 cs = some y) : ∃ v l, cs = [v] ∧ Nums w v l ∧ ∀ i ∈ l, (Lit.int .i64 i).wf = true :=
  trod_rd Tryz.underlying54 (by kernel_rfl) (by decide) intCells_len (fun _ _ _ h => trod_num h) h
end
end Go.Proofs.YtggpodlecljcbacGreatDoor
