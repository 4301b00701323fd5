/- Plain: chapter 7: changes of rows, their bytes. -/
import Derived.Test.YtggpodlecljcbaaWalkC
namespace Go.Proofs.Ytggpodlecljcbaa
set_option linter.unusedSimpArgs false
set_option linter.unusedVariables false
/-- G1. -/
def changeFault (c : Change) : Nat := if (c.key.toList == []) = true ∨ (c.gone = true ∧ (c.val.toList == []) = false) then 3 else if 8 < c.key.size ∨ 16 < c.val.size then 2 else 0
def goneByte (c : Change) : UInt8 := if c.gone then 1 else 0
/-- G2. -/
def changeBytes (c : Change) : ByteArray × Nat := if changeFault c ≠ 0 then (⟨#[]⟩, changeFault c) else ((⟨#[goneByte c, c.key.size.toUInt8]⟩ : ByteArray) ++ c.key ++ c.val, 0)
def zeroX : Change := ⟨⟨#[]⟩, ⟨#[]⟩, false⟩
def changeAt (s : ByteArray) (x y : UInt8) : Change := ⟨s.extract 2 (2 + y.toNat), s.extract (2 + y.toNat) s.size, ((x.toNat : Int) == 1)⟩
def changeFrom (s : ByteArray) (x y : UInt8) : Change × Nat :=
  if 1 < x.toNat ∨ s.size < 2 + y.toNat then (zeroX, 4) else if changeFault (changeAt s x y) ≠ 0 then (zeroX, 4) else (changeAt s x y, 0)
def changeOf (s : ByteArray) : Change × Nat := if h : s.size < 2 then (zeroX, 4) else changeFrom s (s[0]'(by omega)) (s[1]'(by omega))
theorem fault_cases (c : Change) : changeFault c = 3 ∨ changeFault c = 2 ∨ changeFault c = 0 := by
  unfold changeFault; split
  · exact Or.inl rfl
  · split
    · exact Or.inr (Or.inl rfl)
    · exact Or.inr (Or.inr rfl)
end Go.Proofs.Ytggpodlecljcbaa
