/- The walks of chapter 2: putting a file, the reference's way. -/
import Derived.Test.YtggpodlecljcbabWalkG3
namespace Go.Proofs.Ytggpodlecljcbab
set_option linter.unusedSimpArgs false
set_option linter.unusedVariables false
open Go.RowKit Go.Sort

/-- B2, putting: one step, and the steps. -/
def putStep (f : File) (p : List File × Bool) (g : File) : List File × Bool :=
  let q := if p.2 = false ∧ bLe f.name g.name = true then (p.1 ++ [f], true) else p
  if (g.name.toList == f.name.toList) = true then q else (q.1 ++ [g], q.2)
def putTo (l : List File) (f : File) (k : Nat) : List File × Bool := (l.take k).foldl (putStep f) ([], false)
theorem putTo_succ (l : List File) (f : File) (k : Nat) (h : k < l.length) : putTo l f (k + 1) = putStep f (putTo l f k) l[k] := by
  unfold putTo; rw [List.take_succ_eq_append_getElem h, List.foldl_append]; rfl
theorem putStep_len (f : File) (p : List File × Bool) (g : File) : (putStep f p g).1.length ≤ p.1.length + 2 := by
  unfold putStep
  dsimp only
  split <;> split <;> simp <;> omega
theorem putTo_len (l : List File) (f : File) : ∀ k, k ≤ l.length → (putTo l f k).1.length ≤ 2 * k
  | 0, _ => by simp [putTo]
  | k + 1, h => by
    have := putTo_len l f k (by omega)
    have := putStep_len f (putTo l f k) l[k]
    rw [putTo_succ l f k (by omega)]; omega
def putAll (l : List File) (f : File) : List File := if (putTo l f l.length).2 = false then (putTo l f l.length).1 ++ [f] else (putTo l f l.length).1
def putAt (l : List File) (f : File) : List File × Nat := if fileFault f ≠ 0 then ([], fileFault f) else if (getAt l f.name).isSome = false ∧ 8 ≤ l.length then ([], 7) else (putAll l f, 0)

end Go.Proofs.Ytggpodlecljcbab
