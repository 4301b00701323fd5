/- The walk of the document's Applied. -/
import Derived.Test.YtggpodlecljcbabWalkX7
namespace Go.Proofs.Ytggpodlecljcbab
set_option linter.unusedSimpArgs false
set_option linter.unusedVariables false
open Go.RowKit Go.Sort
theorem changes_news {w : World} {ad : Addr} {n cap : Nat} {l : List Change} (h : Changes w (.slice (some ad) n cap) l) : ∀ j u, (l.flatMap Change.cells)[j]? = some u → w.cell? (ad.add j) = some u := by
  obtain ⟨h0, ao, cap', h1, h2, h3, h4, h5⟩ := h
  cases h1
  intro j u hj
  obtain ⟨b, off, e, hc⟩ := h5 j u hj
  cases e
  rw [Addr.add_lit]
  exact hc
theorem changes_one (l : List Change) : ∀ u ∈ l.flatMap Change.cells, u.oneCell' = true := flat_oneX
theorem refTo_len (l : List Change) (c : Change) : ∀ k, k ≤ l.length → (refTo l c k).1.length ≤ 2 * k
  | 0, _ => by simp [refTo]
  | k + 1, h => by
    have h1 := refTo_len l c k (by omega)
    rw [refTo_succ l c k (by omega)]
    have h2 : (putStepX c (refTo l c k) l[k]).1.length ≤ (refTo l c k).1.length + 2 := by
      unfold putStepX
      dsimp only
      split <;> split <;> simp <;> omega
    omega
end Go.Proofs.Ytggpodlecljcbab
