/- The walk of the statement TopRead. -/
import Derived.Test.YtggpodlecljcbaaGreatDoorWalkI3
import Derived.Test.YtggpodlecljcbaaGreatDoorWalkR2
namespace Go.Proofs.YtggpodlecljcbaaGreatDoor
set_option linter.unusedSimpArgs false
set_option linter.unusedVariables false
open Go.RowKit Go.Sort
theorem light_lenI {l : List Change} {most : Int} (h : lightChanges l most = true) : (l.length : Int) ≤ most := by
  unfold lightChanges at h
  simp only [Bool.and_eq_true, decide_eq_true_eq] at h
  exact h.1
theorem fine_ok {q : Quilt} (h : quiltFault q = 0) : ∀ f ∈ q.files, f.ok := fun f hf => by
  have hf0 := (quilt_good h).2.2.1 f hf
  have h1 := name_len hf0
  have h2 := (file_parts hf0).2.1
  have hml : maxLen = 9223372036854775807 := rfl
  exact ⟨by omega, by omega⟩
theorem OwnQ.quilts {B : Nat} {w : World} {qv : Value} {q : Quilt} (h : OwnQ B w qv q) : Quilts w qv q := by
  obtain ⟨v, rfl, ho⟩ := h
  exact ⟨v, rfl, SL.of_own ho⟩
/-- rows of a quilt that may be. -/
theorem image_RowsG (qv : Value) (q : Quilt) (w : World) (hq : Quilts w qv q) (hg : GlobI w) (h : quiltFault q = 0) :
    Calls Tryz.prog 9 #[qv] w fun e w' => ∃ v, e = .returned v ∧ w'.ownsRow w.heap.size 41 3 v (rowsQ q).length ((rowsQ q).flatMap Change.cells) ∧ Below w.heap.size w w' := by
  obtain ⟨h1, h2, h3, h4, h5⟩ := quilt_good h
  exact image_Rows qv q w hq hg (by omega) (fun f hf => ⟨(file_parts (h3 f hf)).2.2.1, (file_parts (h3 f hf)).2.2.2, by have := name_len (h3 f hf); omega, by have := (file_parts (h3 f hf)).2.1; omega⟩) ⟨by omega, h5⟩
theorem fault_some {l : List Change} (h : faultI l = 0) : parseQ l = some (quiltI l) := by
  unfold faultI at h
  unfold quiltI
  cases hp : parseQ l with
  | none => rw [hp] at h; simp at h
  | some q => rfl
theorem fault_none {l : List Change} (h : faultI l ≠ 0) : faultI l = 4 ∧ quiltI l = noQuilt := by
  unfold faultI at h ⊢
  unfold quiltI
  cases hp : parseQ l with
  | none => exact ⟨by simp, rfl⟩
  | some q => rw [hp] at h; simp at h
theorem parse_nil : faultI [] = 4 := by
  unfold faultI parseQ foldQ
  decide
end Go.Proofs.YtggpodlecljcbaaGreatDoor
