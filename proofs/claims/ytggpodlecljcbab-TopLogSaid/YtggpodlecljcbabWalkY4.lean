/- The walk of the document's ClosedDeeds. -/
import Derived.Test.YtggpodlecljcbabWalkY3
namespace Go.Proofs.Ytggpodlecljcbab
set_option linter.unusedSimpArgs false
set_option linter.unusedVariables false
open Go.RowKit Go.Sort
theorem stepY_form (first i : Nat) (s : ByteArray) (o : List (List Change)) (d : List Change) (u : Nat) (h40 : s.size = 40) (k x y : UInt8) (hk : k = s[0]) (hx : x = s[5]) (hy : y = s[6]) (t : ByteArray) (ht : t = s.extract 7 (7 + (x.toNat + 256 * y.toNat))) :
    stepY first i s o d u = if ((s.extract 1 5).toList == (fourB (first + i)).toList) = false then none else if 33 < x.toNat + 256 * y.toNat then none
      else if ((k.toNat : Int) == 99) then (if (t.toList == (fourB d.length).toList) then some (o ++ [d], [], i + 1) else none) else if ((k.toNat : Int) == 111) = false then none else if (changeOf t).2 ≠ 0 then none else some (o, d ++ [(changeOf t).1], u) := by
  have hL : lookS s (first + i) = lookFrom s (first + i) k x y := by unfold lookS; rw [dif_pos h40, hk, hx, hy]
  unfold stepY
  rw [hL, ht]
  unfold lookFrom
  cases hA : ((s.extract 1 5).toList == (fourB (first + i)).toList)
  · simp [noneY]
  · by_cases hn : 33 < x.toNat + 256 * y.toNat
    · cases h1 : ((k.toNat : Int) == 111) <;> cases h2 : ((k.toNat : Int) == 99) <;> simp [noneY, hn]
    · cases h1 : ((k.toNat : Int) == 111) <;> cases h2 : ((k.toNat : Int) == 99) <;> simp [noneY, hn, h2]
end Go.Proofs.Ytggpodlecljcbab
