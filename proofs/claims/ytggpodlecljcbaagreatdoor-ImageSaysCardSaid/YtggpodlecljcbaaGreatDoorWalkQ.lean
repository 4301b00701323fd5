/- The walks of chapter 3: is a quilt fine; the next one. The walks of chapter 3: writing, dropping. -/
import Derived.Test.YtggpodlecljcbaaGreatDoorSpecQ
import Derived.Test.YtggpodlecljcbaaGreatDoorWalkG6
import Derived.Test.YtggpodlecljcbaaGreatDoorLawH
namespace Go.Proofs.YtggpodlecljcbaaGreatDoor
open Go.RowKit Go.Sort
set_option linter.unusedSimpArgs false
set_option linter.unusedVariables false
def RetQE (p : Quilt × Nat) (w : World) (e : Ending) (w' : World) : Prop := ∃ qv, e = .returned (.tuple #[qv, errV p.2]) ∧ Quilts w' qv p.1 ∧ Below w.heap.size w w'
def RetQN (p : Quilt × Nat) (w : World) (e : Ending) (w' : World) : Prop := ∃ qv, e = .returned (.tuple #[qv, .int .i64 p.2]) ∧ Quilts w' qv p.1 ∧ Below w.heap.size w w'
/-- No string lies in block b. -/
def NoStr (w : World) (b : Nat) : Prop := ∀ o s, w.cell? ⟨b, o, none⟩ ≠ some (.string s)
theorem setCell_read (w : World) (p a : Addr) (v u : Value) (h : (w.setCell p v).cell? a = some u) : (u = v ∧ p = a) ∨ w.cell? a = some u := by
  by_cases e : p = a
  · subst e
    simp only [World.setCell, World.cell?, Array.getElem?_modify, if_true] at h
    cases hb : w.heap[p.block]? with
    | none => rw [hb] at h; simp at h
    | some o =>
      rw [hb] at h
      cases o <;> simp at h
      obtain ⟨hs, h⟩ := h
      rw [if_neg (by simp [hs])] at h
      rw [Array.getElem?_setIfInBounds] at h
      simp only [if_true] at h
      split at h
      · left; exact ⟨by simpa using h.symm, rfl⟩
      · cases h
  · rw [World.cell?_setCell_other w p a v e] at h
    exact Or.inr h
theorem NoStr.set {w : World} {b : Nat} (h : NoStr w b) (o : Nat) (v : Value) (hv : ∀ s, v ≠ .string s) : NoStr (w.setCell ⟨b, o, none⟩ v) b := by
  intro o' s h2
  rcases setCell_read w _ _ v _ h2 with ⟨e, _⟩ | h2
  · exact hv s e.symm
  · exact h o' s h2
theorem files_box {w : World} {v : Value} {l : List File} {b : Nat} (h : Files w v l) (hb : NoStr w b) (o : Nat) (x : Value) : Files (w.setCell ⟨b, o, none⟩ x) v l := by
  obtain ⟨h1, ao, cap, h2, h3, h4, h5, h6⟩ := h
  refine ⟨h1, ao, cap, h2, h3, h4, h5, fun j u hj => ?_⟩
  obtain ⟨b', off, e, hc⟩ := h6 j u hj
  refine ⟨b', off, e, ?_⟩
  have hne : b ≠ b' := by
    rintro rfl
    cases l with
    | nil => simp at hj
    | cons f r =>
      obtain ⟨b2, off2, e2, hc2⟩ := h6 0 (.string f.name) rfl
      rw [e] at e2
      cases e2
      exact hb _ _ hc2
  rw [World.cell?_setCell_other _ _ _ _ (by intro h; cases h; exact hne rfl)]
  exact hc
/-- The boxes of a function that takes a quilt and hands one back. -/
def QBox (b : Nat) (v : Value) (t : Int) (w0 : World) : Prop := ∀ W, Below w0.heap.size w0 W → W.cell? ⟨b, 0, none⟩ = some v ∧ W.cell? ⟨b, 1, none⟩ = some (.int .i64 t) ∧ W.cell? ⟨b + 1, 0, none⟩ = some (.slice none 0 0) ∧ W.cell? ⟨b + 1, 1, none⟩ = some (.int .i64 0) ∧ W.frozen? ⟨b + 1, 0, none⟩ = false ∧ W.frozen? ⟨b + 1, 1, none⟩ = false ∧ NoStr W (b + 1)
def qw (w : World) (v : Value) (t : Int) : World := (w.alloc (.cells #[v, .int .i64 t] 24)).alloc (.cells #[.slice none 0 0, .int .i64 0] 24)
theorem qw_size (w : World) (v : Value) (t : Int) : (qw w v t).heap.size = w.heap.size + 2 := by unfold qw; simp
theorem qw_below (w : World) (v : Value) (t : Int) : Below w.heap.size w (qw w v t) := two (below_alloc w _) (below_alloc _ _)
theorem qw_box (w : World) (v : Value) (t : Int) : QBox w.heap.size v t (qw w v t) := by
  intro W hb
  obtain ⟨hc, hf⟩ := bcell hb
  have hs := qw_size w v t
  have k0 : (qw w v t).cell? ⟨w.heap.size, 0, none⟩ = some v := by unfold qw; simp
  have k1 : (qw w v t).cell? ⟨w.heap.size, 1, none⟩ = some (.int .i64 t) := by unfold qw; simp
  have k2 : (qw w v t).cell? ⟨w.heap.size + 1, 0, none⟩ = some (.slice none 0 0) := by unfold qw; simp
  have k3 : (qw w v t).cell? ⟨w.heap.size + 1, 1, none⟩ = some (.int .i64 0) := by unfold qw; simp
  have k4 : (qw w v t).frozen? ⟨w.heap.size + 1, 0, none⟩ = false := by unfold qw; simp
  have k5 : (qw w v t).frozen? ⟨w.heap.size + 1, 1, none⟩ = false := by unfold qw; simp
  refine ⟨(hc _ _ (by omega)).trans k0, (hc _ _ (by omega)).trans k1, (hc _ _ (by omega)).trans k2, (hc _ _ (by omega)).trans k3, (hf _ _ (by omega)).trans k4, (hf _ _ (by omega)).trans k5, ?_⟩
  intro o s h
  rw [hc _ _ (by omega)] at h
  match o with
  | 0 => rw [k2] at h; cases h
  | 1 => rw [k3] at h; cases h
  | o + 2 =>
    have h2 : (qw w v t).heap[w.heap.size + 1]? = some (.cells #[.slice none 0 0, .int .i64 0] 24) := by
      unfold qw
      have := heap_new (w.alloc (.cells #[v, .int .i64 t] 24)) (.cells #[.slice none 0 0, .int .i64 0] 24)
      simpa using this
    simp only [World.cell?, h2] at h
    simp at h
theorem QBox.now {b : Nat} {v : Value} {t : Int} {w0 : World} (h : QBox b v t w0) : w0.cell? ⟨b, 0, none⟩ = some v ∧ w0.cell? ⟨b, 1, none⟩ = some (.int .i64 t) ∧ w0.cell? ⟨b + 1, 0, none⟩ = some (.slice none 0 0) ∧ w0.cell? ⟨b + 1, 1, none⟩ = some (.int .i64 0) ∧ w0.frozen? ⟨b + 1, 0, none⟩ = false ∧ w0.frozen? ⟨b + 1, 1, none⟩ = false ∧ NoStr w0 (b + 1) := h w0 (Below.refl _ _)
/-- The end: the quilt is laid into its box. -/
theorem quilt_laid {W : World} {b : Nat} {v : Value} {q : Quilt} (hv : Files W v q.files) (hb : NoStr W b) (hns : ∀ s, v ≠ .string s) : Quilts ((W.setCell ⟨b, 0, none⟩ v).setCell ⟨b, 1, none⟩ (.int .i64 q.turn)) (.agg #[v, .int .i64 q.turn]) q :=
  ⟨v, rfl, files_box (files_box hv hb 0 v) (hb.set 0 v hns) 1 _⟩
theorem files_not_str {W : World} {v : Value} {l : List File} (hv : Files W v l) : ∀ s, v ≠ .string s := by
  obtain ⟨ao, ca, rfl, _, _⟩ := hv.parts
  intro s h; cases h

theorem quilt_New (w : World) : Calls Tryz.prog 17 #[] w fun e w' => ∃ qv, e = .returned qv ∧ Quilts w' qv ⟨[], 1⟩ ∧ Below w.heap.size w w' := by
  go_enter Tryz.func17, Tryz.ntmps17
  go_wp2_with fail
  refine bodyPost_ret (v := .agg #[.slice none 0 0, .int .i64 1]) (by simp [results, Tryz.results17, go_sem]) rfl ?_
  exact ⟨_, rfl, ⟨_, rfl, Rd.nil _⟩, below_alloc w _⟩

end Go.Proofs.YtggpodlecljcbaaGreatDoor
namespace Go.Proofs.YtggpodlecljcbaaGreatDoor
open Go.RowKit Go.Sort
set_option linter.unusedSimpArgs false
set_option linter.unusedVariables false
theorem times_range {q : Quilt} (h : Good q) (name : ByteArray) : 0 ≤ timesOf q name ∧ timesOf q name ≤ 9999 := by
  unfold timesOf
  cases hg : getAt q.files name with
  | none => exact ⟨by decide, by decide⟩
  | some f =>
    have := file_good (h.fine.each f (h.fine.mem hg).1)
    exact ⟨by simp only [Option.getD_some]; omega, by simp only [Option.getD_some]; omega⟩

end Go.Proofs.YtggpodlecljcbaaGreatDoor
