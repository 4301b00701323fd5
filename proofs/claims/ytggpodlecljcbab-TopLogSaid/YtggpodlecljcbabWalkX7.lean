/- The walk of row.Apply. -/
import Derived.Test.YtggpodlecljcbabWalkX6
import Derived.Test.YtggpodlecljcbabWalkG8
import Derived.Lib.SmallJoins
namespace Go.Proofs.Ytggpodlecljcbab
set_option linter.unusedSimpArgs false
set_option linter.unusedVariables false
open Go.RowKit Go.Sort
theorem own_putX {w : World} {base g n cap : Nat} {l : List Change} (f : Change) (k : Nat) (hk : k < l.length) (hn : n = l.length) (ho : w.ownsRow base 75 3 (.slice (some ⟨g, 0, none⟩) n cap) n (l.flatMap Change.cells)) :
    (((w.setCell ⟨g, k * 3, none⟩ (.string f.key)).setCell ⟨g, k * 3 + 1, none⟩ (.string f.val)).setCell ⟨g, k * 3 + 2, none⟩ (.bool f.gone)).ownsRow base 75 3 (.slice (some ⟨g, 0, none⟩) n cap) (l.take k ++ f :: l.drop (k + 1)).length ((l.take k ++ f :: l.drop (k + 1)).flatMap Change.cells) := by
  subst hn
  obtain ⟨hb, hgw, hnc, hc63, hlen, hcell, hsome, hfro, hsh⟩ := own_cells ho
  show (w.setCells g (k * 3) f.cells).ownsRow _ _ _ _ _ _
  refine own_retell ((Blk.of_own ho).sets _ _) hb (by simp; omega) (by simp; omega) hc63 (flat_length (k := 3) (fun _ => rfl) _) ?_
  have hq := take_cellsX l k (by omega)
  have hp : ((l.drop (k + 1)).flatMap Change.cells).length = (l.length - (k + 1)) * 3 := drop_cellsX l (k + 1)
  have R := three_read (W := w.setCells g (k * 3) f.cells) (g := g) ((l.take k).flatMap Change.cells) f.cells ((l.drop (k + 1)).flatMap Change.cells) ?_ ?_ ?_
  · rw [List.flatMap_append, List.flatMap_cons, ← List.append_assoc]
    exact R
  · intro j u hj
    have hj' := (List.getElem?_eq_some_iff.1 hj).1
    rw [cells_out _ _ _ (Or.inl (by omega))]
    refine hcell j u ?_
    rw [flat_splitX l k, List.getElem?_append_left hj']
    exact hj
  · intro j u hj
    rw [hq]
    exact cells_in _ _ (fun t ht => hsome _ (by rw [Change.cells_len] at ht; omega)) j u hj
  · intro j u hj
    have hj' := (List.getElem?_eq_some_iff.1 hj).1
    rw [hq, Change.cells_len, cells_out _ _ _ (Or.inr (by rw [Change.cells_len]; omega))]
    refine hcell _ u ?_
    rw [flat_splitX l (k + 1), List.getElem?_append_right (by rw [take_cellsX l (k + 1) (by omega)]; omega), take_cellsX l (k + 1) (by omega), show k * 3 + 3 + j - (k + 1) * 3 = j by omega]
    exact hj
end Go.Proofs.Ytggpodlecljcbab
