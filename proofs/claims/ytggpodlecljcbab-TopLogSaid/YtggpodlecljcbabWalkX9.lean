/- The closed fact of chapter 7; goodRows. -/
import Derived.Test.YtggpodlecljcbabWalkX8
import Derived.Test.YtggpodlecljcbabWalkR
import Derived.Test.YtggpodlecljcbabLawH
namespace Go.Proofs.Ytggpodlecljcbab
set_option linter.unusedSimpArgs false
set_option linter.unusedVariables false
open Go.RowKit Go.Sort
theorem rises_adj {l : List Change} (h : ∀ j (hj : j + 1 < l.length), bLt (l[j]'(by omega)).key l[j + 1].key = true) : RisesX l := by
  have key : ∀ d i (hd : i + d + 1 < l.length), bLt (l[i]'(by omega)).key l[i + d + 1].key = true := by
    intro d
    induction d with
    | zero => intro i hd; exact h i hd
    | succ d ih =>
      intro i hd
      exact bLt_trans (ih i (by omega)) (h (i + d + 1) (by omega))
  refine List.pairwise_iff_getElem.mpr fun i j hi hj hij => ?_
  obtain ⟨d, rfl⟩ : ∃ d, j = i + d + 1 := ⟨j - i - 1, by omega⟩
  exact key d i hj
def changeKX : Change := ⟨⟨#[107]⟩, ⟨#[120]⟩, false⟩
theorem bytesKX : changeBytes changeKX = (⟨#[0, 1, 107, 120]⟩, 0) := by decide +kernel
end Go.Proofs.Ytggpodlecljcbab
