/- The walks of chapter 3: renaming. -/
import Derived.Test.YtggpodlecljcbaaGreatDoorWalkQ
namespace Go.Proofs.YtggpodlecljcbaaGreatDoor
open Go.RowKit Go.Sort
set_option linter.unusedSimpArgs false
set_option linter.unusedVariables false
theorem box_fz (w : World) (f : File) : ∀ W, Below (w.alloc (.cells #[.string f.name, .string f.text, .int .i64 f.times] 48)).heap.size (w.alloc (.cells #[.string f.name, .string f.text, .int .i64 f.times] 48)) W → ∀ j, W.frozen? ⟨w.heap.size, j, none⟩ = false := by
  intro W hb j
  obtain ⟨_, hf⟩ := bcell hb
  rw [hf _ _ (by simp)]
  simp
theorem files_set_fresh {w : World} {v : Value} {l : List File} {B b : Nat} (h : Files w v l) (hf : Fresh B v) (hb : b < B) (o : Nat) (x : Value) : Files (w.setCell ⟨b, o, none⟩ x) v l := by
  obtain ⟨h1, ao, cap, rfl, h3, h4, h5, h6⟩ := h
  refine ⟨h1, ao, cap, rfl, h3, h4, h5, fun j u hj => ?_⟩
  obtain ⟨b', off, e, hc⟩ := h6 j u hj
  refine ⟨b', off, e, ?_⟩
  have := hf b' (by rw [e]; rfl)
  rw [World.cell?_setCell_other _ _ _ _ (by intro h; cases h; omega)]
  exact hc

end Go.Proofs.YtggpodlecljcbaaGreatDoor
