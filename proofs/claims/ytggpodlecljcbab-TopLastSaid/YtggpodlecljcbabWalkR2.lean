/- The walks of chapter 3: is a quilt fine; an act done. -/
import Derived.Test.YtggpodlecljcbabWalkR
import Derived.Test.YtggpodlecljcbabWalkQ4
namespace Go.Proofs.Ytggpodlecljcbab
open Go.RowKit Go.Sort
set_option linter.unusedSimpArgs false
set_option linter.unusedVariables false
theorem qf_files {q : Quilt} (h : filesFault q.files ≠ 0) : quiltFault q = filesFault q.files := by unfold quiltFault; rw [if_pos h]
theorem qf_turn {q : Quilt} (h : filesFault q.files = 0) (ht : q.turn < 1 ∨ 9999 < q.turn) : quiltFault q = 1 := by unfold quiltFault; rw [if_neg (by simp [h]), if_pos ht]
theorem qf_good {q : Quilt} (h : filesFault q.files = 0) (ht : ¬ (q.turn < 1 ∨ 9999 < q.turn)) : quiltFault q = 0 := by unfold quiltFault; rw [if_neg (by simp [h]), if_neg ht]
theorem qbox1 (w : World) (v : Value) (t : Int) : ∀ W, Below (w.alloc (.cells #[v, .int .i64 t] 24)).heap.size (w.alloc (.cells #[v, .int .i64 t] 24)) W → W.cell? ⟨w.heap.size, 0, none⟩ = some v ∧ W.cell? ⟨w.heap.size, 1, none⟩ = some (.int .i64 t) := by
  intro W hb
  obtain ⟨hc, _⟩ := bcell hb
  exact ⟨(hc _ _ (by simp)).trans (by simp), (hc _ _ (by simp)).trans (by simp)⟩

def doAct (q : Quilt) (a : Act) : Quilt × Nat :=
  if (a.kind.toList == [119, 114, 105, 116, 101]) = true then writtenQ q a.s a.t else if (a.kind.toList == [100, 114, 111, 112]) = true then droppedQ q a.s else if (a.kind.toList == [110, 97, 109, 101]) = true then renamedQ q a.s a.t else if (a.kind.toList == [115, 119, 97, 112]) = true then swappedQ q a.s a.t else (q, 0)
theorem do_good {q : Quilt} (h : Good q) (a : Act) (h0 : (doAct q a).2 = 0) : Good (doAct q a).1 := by
  unfold doAct at h0 ⊢
  split
  · rename_i hh; rw [if_pos hh] at h0; exact (written_good h _ _ h0).1
  · rename_i hh
    rw [if_neg hh] at h0
    split
    · rename_i hh; rw [if_pos hh] at h0; exact (dropped_good h _ h0).1
    · rename_i hh
      rw [if_neg hh] at h0
      split
      · rename_i hh; rw [if_pos hh] at h0; exact (renamed_good h _ _ h0).1
      · rename_i hh
        rw [if_neg hh] at h0
        split
        · rename_i hh; rw [if_pos hh] at h0; exact (swapped_good h _ _ h0).1
        · exact h
/-- The boxes of an act done: the quilt, the act, the answer. -/
def dw (w : World) (v : Value) (t : Int) (av : ActV) : World := ((w.alloc (.cells #[v, .int .i64 t] 24)).alloc (.cells #[.string av.kind, .string av.s, .string av.t, .int .i64 av.n, .int .u64 av.k, av.cv] 50)).alloc (.cells #[.slice none 0 0, .int .i64 0] 24)
theorem dw_size (w : World) (v : Value) (t : Int) (av : ActV) : (dw w v t av).heap.size = w.heap.size + 3 := by unfold dw; simp
theorem dw_below (w : World) (v : Value) (t : Int) (av : ActV) : Below w.heap.size w (dw w v t av) := two (two (below_alloc w _) (below_alloc _ _)) (below_alloc _ _)
theorem dw_box (w : World) (v : Value) (t : Int) (av : ActV) : ∀ W, Below (dw w v t av).heap.size (dw w v t av) W → W.cell? ⟨w.heap.size + 2, 0, none⟩ = some (.slice none 0 0) ∧ W.cell? ⟨w.heap.size + 2, 1, none⟩ = some (.int .i64 0) ∧ W.frozen? ⟨w.heap.size + 2, 0, none⟩ = false ∧ W.frozen? ⟨w.heap.size + 2, 1, none⟩ = false ∧ NoStr W (w.heap.size + 2) := by
  intro W hb
  obtain ⟨hc, hf⟩ := bcell hb
  have hs := dw_size w v t av
  have k2 : (dw w v t av).cell? ⟨w.heap.size + 2, 0, none⟩ = some (.slice none 0 0) := by unfold dw; rw [World.cell?_alloc_at _ _ _ _ (by simp)]; rfl
  have k3 : (dw w v t av).cell? ⟨w.heap.size + 2, 1, none⟩ = some (.int .i64 0) := by unfold dw; rw [World.cell?_alloc_at _ _ _ _ (by simp)]; rfl
  have k4 : (dw w v t av).frozen? ⟨w.heap.size + 2, 0, none⟩ = false := by unfold dw; rw [World.frozen?_alloc_at _ _ _ _ (by simp)]
  have k5 : (dw w v t av).frozen? ⟨w.heap.size + 2, 1, none⟩ = false := by unfold dw; rw [World.frozen?_alloc_at _ _ _ _ (by simp)]
  refine ⟨(hc _ _ (by omega)).trans k2, (hc _ _ (by omega)).trans k3, (hf _ _ (by omega)).trans k4, (hf _ _ (by omega)).trans k5, ?_⟩
  intro o s h
  rw [hc _ _ (by omega)] at h
  match o with
  | 0 => rw [k2] at h; cases h
  | 1 => rw [k3] at h; cases h
  | o + 2 =>
    have h2 : (dw w v t av).heap[w.heap.size + 2]? = some (.cells #[.slice none 0 0, .int .i64 0] 24) := by
      unfold dw
      have := heap_new ((w.alloc (.cells #[v, .int .i64 t] 24)).alloc (.cells #[.string av.kind, .string av.s, .string av.t, .int .i64 av.n, .int .u64 av.k, av.cv] 50)) (.cells #[.slice none 0 0, .int .i64 0] 24)
      simpa using this
    simp only [World.cell?, h2] at h
    simp at h

end Go.Proofs.Ytggpodlecljcbab
