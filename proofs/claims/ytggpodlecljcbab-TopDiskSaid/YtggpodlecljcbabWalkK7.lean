/- The walk of the reference's Flush. -/
import Derived.Test.YtggpodlecljcbabWalkK6
namespace Go.Proofs.Ytggpodlecljcbab
open Go.RowKit Go.Sort
set_option linter.unusedSimpArgs false
set_option linter.unusedVariables false
theorem I_texts' : ElemInfo Try.prog 93 9 1 16 := elemInfo_of (z := .string ⟨#[]⟩) Try.underlying93 (by kernel_rfl) rfl (by decide) (by decide)
/-- Behind an append to nil: a new row; the box takes it for what is kept, or for what is now. -/
theorem DAt.fresh_kept {ty tt : TypeId} {w w' : World} {L : Dk} {D : DiskS} (h : DAt ty tt w L D) (hg : w.grownBy w' none) (g c : Nat) (l : List ByteArray) (hv : w'.ownsRow 0 9 1 (.slice (some ⟨g, 0, none⟩) l.length c) l.length (l.map .string)) (hgs : w.heap.size ≤ g) :
    DAt ty tt (w'.setCell ⟨L.b, 0, none⟩ (.slice (some ⟨g, 0, none⟩) l.length c)) { L with gk := g, ck := c } { D with kept := l } := by
  have h' : DAt ty tt w' L D := h.off (off_grown (F := fun _ => False) hg (fun _ h => by cases h)) (fun _ _ => id)
  have hlt := h.lt
  refine h'.set_kept g c l hv ?_ ?_ ?_
  · intro e; have := hlt L.b (Or.inl rfl); omega
  · intro e; have := hlt L.gn (Or.inr (Or.inr (Or.inl rfl))); omega
  · intro e; have := hlt g (Or.inr (Or.inr (Or.inr e))); omega
theorem DAt.fresh_now {ty tt : TypeId} {w w' : World} {L : Dk} {D : DiskS} (h : DAt ty tt w L D) (hg : w.grownBy w' none) (g c : Nat) (l : List ByteArray) (hv : w'.ownsRow 0 9 1 (.slice (some ⟨g, 0, none⟩) l.length c) l.length (l.map .string)) (hgs : w.heap.size ≤ g) :
    DAt ty tt (w'.setCell ⟨L.b, 1, none⟩ (.slice (some ⟨g, 0, none⟩) l.length c)) { L with gn := g, cn := c } { D with now := l } := by
  have h' : DAt ty tt w' L D := h.off (off_grown (F := fun _ => False) hg (fun _ h => by cases h)) (fun _ _ => id)
  have hlt := h.lt
  refine h'.set_now g c l hv ?_ ?_ ?_
  · intro e; have := hlt L.b (Or.inl rfl); omega
  · intro e; have := hlt L.gk (Or.inr (Or.inl rfl)); omega
  · intro e; have := hlt g (Or.inr (Or.inr (Or.inr e))); omega
theorem strs_one (l : List ByteArray) : ∀ u ∈ l.map Value.string, u.oneCell' = true := by
  intro v hv; obtain ⟨s, _, rfl⟩ := List.mem_map.1 hv; rfl
theorem grown_none_box {ty tt : TypeId} {w w' : World} {L : Dk} {D : DiskS} (h : DAt ty tt w L D) (hg : w.grownBy w' none) : DAt ty tt w' L D := h.off (off_grown (F := fun _ => False) hg (fun _ h => by cases h)) (fun _ _ => id)
end Go.Proofs.Ytggpodlecljcbab
