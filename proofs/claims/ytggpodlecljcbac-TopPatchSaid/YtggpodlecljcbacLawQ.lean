/- The law of chapter 3: QuiltSays, walked. -/
import Derived.Test.YtggpodlecljcbacWalkR3
namespace Go.Proofs.Ytggpodlecljcbac
open Go.RowKit Go.Sort
set_option linter.unusedSimpArgs false
set_option linter.unusedVariables false
/-- A box of a quilt. -/
structure QAt (w : World) (b : Nat) (v : Value) (t : Int) : Prop where
  c0 : w.cell? ⟨b, 0, none⟩ = some v
  c1 : w.cell? ⟨b, 1, none⟩ = some (.int .i64 t)
  f0 : w.frozen? ⟨b, 0, none⟩ = false
  f1 : w.frozen? ⟨b, 1, none⟩ = false
  ns : NoStr w b
  lt : b < w.heap.size
theorem NoStr.below {w w' : World} {b : Nat} (h : NoStr w b) (hb : Below w.heap.size w w') (hl : b < w.heap.size) : NoStr w' b := fun o s hc => by
  obtain ⟨k, _⟩ := bcell hb
  rw [k _ _ hl] at hc
  exact h o s hc
theorem QAt.below {w w' : World} {b : Nat} {v : Value} {t : Int} (h : QAt w b v t) (hb : Below w.heap.size w w') : QAt w' b v t := by
  obtain ⟨k, f⟩ := bcell hb
  exact ⟨(k _ _ h.lt).trans h.c0, (k _ _ h.lt).trans h.c1, (f _ _ h.lt).trans h.f0, (f _ _ h.lt).trans h.f1, h.ns.below hb h.lt, Nat.lt_of_lt_of_le h.lt hb.size⟩
theorem QAt.new (w : World) (v : Value) (t : Int) (hv : ∀ s, v ≠ .string s) : QAt (w.alloc (.cells #[v, .int .i64 t] 27)) w.heap.size v t := by
  refine ⟨by simp, by simp, by simp, by simp, ?_, by simp⟩
  intro o s h
  rw [World.cell?_alloc_new] at h
  match o with
  | 0 => simp at h; exact hv s h
  | 1 => simp at h
  | o + 2 => simp at h
theorem setCell_size (w : World) (a : Addr) (v : Value) : (w.setCell a v).heap.size = w.heap.size := by simp [World.setCell]
theorem QAt.set {w : World} {b : Nat} {v : Value} {t : Int} (h : QAt w b v t) (v' : Value) (t' : Int) (hv : ∀ s, v' ≠ .string s) : QAt ((w.setCell ⟨b, 0, none⟩ v').setCell ⟨b, 1, none⟩ (.int .i64 t')) b v' t' := by
  have h0 := h.c0
  have h1 := h.c1
  refine ⟨?_, ?_, ?_, ?_, (h.ns.set 0 v' hv).set 1 _ (fun s h => by cases h), by rw [setCell_size, setCell_size]; exact h.lt⟩
  · rw [World.cell?_setCell_other _ _ _ _ (by intro h; cases h)]; exact World.cell?_setCell_same w _ v' h0
  · exact World.cell?_setCell_same _ _ _ ((World.cell?_setCell_other w _ _ v' (by intro h; cases h)).trans h1)
  · rw [World.frozen?_setCell, World.frozen?_setCell]; exact h.f0
  · rw [World.frozen?_setCell, World.frozen?_setCell]; exact h.f1
theorem QAt.far {w : World} {b : Nat} {v : Value} {t : Int} (h : QAt w b v t) (b' : Nat) (hne : b' ≠ b) (v' : Value) (t' : Int) : QAt ((w.setCell ⟨b', 0, none⟩ v').setCell ⟨b', 1, none⟩ (.int .i64 t')) b v t := by
  have k : ∀ o, ((w.setCell ⟨b', 0, none⟩ v').setCell ⟨b', 1, none⟩ (.int .i64 t')).cell? ⟨b, o, none⟩ = w.cell? ⟨b, o, none⟩ := fun o => by
    rw [World.cell?_setCell_other _ _ _ _ (by intro h; cases h; exact hne rfl), World.cell?_setCell_other _ _ _ _ (by intro h; cases h; exact hne rfl)]
  refine ⟨(k 0).trans h.c0, (k 1).trans h.c1, ?_, ?_, fun o s hc => h.ns o s ((k o).symm.trans hc), by rw [setCell_size, setCell_size]; exact h.lt⟩
  · rw [World.frozen?_setCell, World.frozen?_setCell]; exact h.f0
  · rw [World.frozen?_setCell, World.frozen?_setCell]; exact h.f1
theorem files_set_box {w : World} {v : Value} {l : List File} {b : Nat} (h : Files w v l) (hb : NoStr w b) (x : Value) (hx : ∀ s, x ≠ .string s) (t : Int) : Files ((w.setCell ⟨b, 0, none⟩ x).setCell ⟨b, 1, none⟩ (.int .i64 t)) v l :=
  files_box (files_box h hb 0 x) (hb.set 0 x hx) 1 _
theorem quiltA : writtenQ ⟨[], 1⟩ fileA.name fileA.text = (⟨[fileA], 2⟩, 0) := by
  have h : putAt [] ⟨fileA.name, fileA.text, timesOf ⟨[], 1⟩ fileA.name + 1⟩ = ([fileA], 0) := fileA_put
  unfold writtenQ
  show nextQ ⟨[], 1⟩ (putAt [] _) = _
  rw [h]; rfl

end Go.Proofs.Ytggpodlecljcbac
