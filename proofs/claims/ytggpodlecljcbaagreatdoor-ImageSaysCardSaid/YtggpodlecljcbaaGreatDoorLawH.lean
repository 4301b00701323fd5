/- The law of chapter 2: ShelfSays, walked. -/
import Derived.Test.YtggpodlecljcbaaGreatDoorWalkG6
import Derived.Test.YtggpodlecljcbaaGreatDoorWalkB
namespace Go.Proofs.YtggpodlecljcbaaGreatDoor
open Go.RowKit Go.Sort
set_option linter.unusedSimpArgs false
set_option linter.unusedVariables false
theorem same_eq (n : Nat) (w : World) :
    Calls Tryz.prog 13 #[errV n, .int .i64 n] w fun e w' => e = .returned (.bool true) ∧ Below w.heap.size w w' :=
  (law_same n n w).mono fun e w' ⟨h1, h2⟩ => ⟨by rw [h1]; exact ret_bool (by simp), h2 ▸ Below.refl _ _⟩
/-- A box of one file, in all later worlds. -/
def BoxF (b : Nat) (f : File) (w0 : World) : Prop := ∀ W, Below w0.heap.size w0 W → W.cell? ⟨b, 0, none⟩ = some (.string f.name) ∧ W.cell? ⟨b, 1, none⟩ = some (.string f.text) ∧ W.cell? ⟨b, 2, none⟩ = some (.int .i64 f.times)
theorem box_of {b : Nat} {f : File} {w0 : World} (hb : b < w0.heap.size) (c0 : w0.cell? ⟨b, 0, none⟩ = some (.string f.name)) (c1 : w0.cell? ⟨b, 1, none⟩ = some (.string f.text)) (c2 : w0.cell? ⟨b, 2, none⟩ = some (.int .i64 f.times)) : BoxF b f w0 := fun W h => by
  obtain ⟨hc, _⟩ := bcell h
  exact ⟨(hc _ _ hb).trans c0, (hc _ _ hb).trans c1, (hc _ _ hb).trans c2⟩
theorem box_new (w : World) (f : File) : BoxF w.heap.size f (w.alloc (.cells #[.string f.name, .string f.text, .int .i64 f.times] 48)) :=
  box_of (by simp) (by simp) (by simp) (by simp)
theorem BoxF.later {b : Nat} {f : File} {w0 w1 : World} (h : BoxF b f w0) (hb : Below w0.heap.size w0 w1) : BoxF b f w1 := fun W hW => h W (two hb hW)
theorem BoxF.now {b : Nat} {f : File} {w0 : World} (h : BoxF b f w0) : w0.cell? ⟨b, 0, none⟩ = some (.string f.name) ∧ w0.cell? ⟨b, 1, none⟩ = some (.string f.text) ∧ w0.cell? ⟨b, 2, none⟩ = some (.int .i64 f.times) := h _ (Below.refl _ _)

def fileA : File := ⟨⟨#[97]⟩, ⟨#[120]⟩, 1⟩
theorem fileA_ok : fileA.ok := ⟨by decide, by decide⟩
theorem fileA_put : putAt [] fileA = ([fileA], 0) := put_new [] fileA (by decide) List.Pairwise.nil 0 rfl rfl (by decide)
theorem fileA_get : getAt [fileA] fileA.name = some fileA := by unfold getAt; simp
theorem fileA_rises : Rises [fileA] := List.pairwise_singleton _ _

theorem fault_same (l : List File) (va : Value) (w : World) (ha : Files w va l) (hok : ∀ f ∈ l, f.ok) :
    Calls Tryz.prog 37 #[va] w fun e w' => e = .returned (errV (filesFault l)) ∧ Below w.heap.size w w' := shelf_Check va l w ha hok
theorem fault_len {l : List File} (h : filesFault l = 0) : l.length ≤ 8 := by
  unfold filesFault at h
  split at h
  · cases h
  · omega
theorem fault_rises {l : List File} (h : filesFault l = 0) : Rises l := by
  have hl := fault_len h
  unfold filesFault at h
  rw [if_neg (by omega)] at h
  exact (rises_of l none h).1
theorem one_file {w : World} {b : Nat} (f : File) (h0 : w.cell? ⟨b, 0, none⟩ = some (.string f.name)) (h1 : w.cell? ⟨b, 1, none⟩ = some (.string f.text)) (h2 : w.cell? ⟨b, 2, none⟩ = some (.int .i64 f.times)) : Files w (.slice (some ⟨b, 0, none⟩) 1 1) [f] := by
  refine read_list rfl (Nat.le_refl _) (by decide) fun j u hj => ?_
  match j, hj with
  | 0, hj => simp [File.cells] at hj; subst hj; exact h0
  | 1, hj => simp [File.cells] at hj; subst hj; exact h1
  | 2, hj => simp [File.cells] at hj; subst hj; exact h2
  | j + 3, hj => simp [File.cells] at hj

end Go.Proofs.YtggpodlecljcbaaGreatDoor
