/- Plain definitions: what chapter 1 of the document computes (names, files); no program. -/
import Derived.WalkKit
namespace Go.Proofs.Ytggpodlecljcbaa

/-- A small letter or a digit. -/
def okByte (c : UInt8) : Bool := (97 ≤ c.toNat && c.toNat ≤ 122) || (48 ≤ c.toNat && c.toNat ≤ 57)
def badName (s : List UInt8) : Bool := s.any (fun c => !okByte c) || s.isEmpty
/-- A1. -/
def nameFault (s : List UInt8) : Nat := if badName s then 3 else if 6 < s.length then 2 else 0
structure File where
  name : ByteArray
  text : ByteArray
  times : Int
  deriving DecidableEq
/-- A2. -/
def fileFault (f : File) : Nat := if nameFault f.name.data.toList ≠ 0 then nameFault f.name.data.toList else if 12 < f.text.size then 2 else if f.times < 1 ∨ 9999 < f.times then 1 else 0
theorem any_at (s : ByteArray) (k : Nat) (h : k < s.size) (p : UInt8 → Bool) (hp : p s[k] = true) : s.data.toList.any p = true := by
  rw [List.any_eq_true]
  exact ⟨s[k], by rw [List.mem_iff_getElem]; exact ⟨k, by simpa using h, rfl⟩, hp⟩
theorem any_snoc (s : ByteArray) (k : Nat) (h : k < s.size) (p : UInt8 → Bool) : (s.data.toList.take (k + 1)).any p = ((s.data.toList.take k).any p || p s[k]) := by
  rw [List.take_succ_eq_append_getElem (by simpa using h), List.any_append]
  simp
  rfl
theorem any_all (s : ByteArray) (k : Nat) (h : ¬ k < s.size) (p : UInt8 → Bool) : (s.data.toList.take k).any p = s.data.toList.any p := by
  rw [List.take_of_length_le (by simp; omega)]
theorem nameFault_bad (s : ByteArray) (k : Nat) (h : k < s.size) (hb : ¬ okByte s[k] = true) : nameFault s.data.toList = 3 := by
  have := any_at s k h (fun c => !okByte c) (by simpa using hb)
  simp [nameFault, badName, this]
theorem nameFault_empty (s : List UInt8) (h : s.isEmpty = true) : nameFault s = 3 := by simp [nameFault, badName, h]
theorem nameFault_long (s : List UInt8) (h : s.any (fun c => !okByte c) = false) (he : s.isEmpty = false) (h6 : 6 < s.length) : nameFault s = 2 := by
  simp only [nameFault, badName, h, he, Bool.or_self, Bool.false_eq_true, if_false, if_pos h6]
theorem nameFault_good (s : List UInt8) (h : s.any (fun c => !okByte c) = false) (he : s.isEmpty = false) (h6 : s.length ≤ 6) : nameFault s = 0 := by
  simp only [nameFault, badName, h, he, Bool.or_self, Bool.false_eq_true, if_false, if_neg (show ¬ 6 < s.length by omega)]
end Go.Proofs.Ytggpodlecljcbaa
