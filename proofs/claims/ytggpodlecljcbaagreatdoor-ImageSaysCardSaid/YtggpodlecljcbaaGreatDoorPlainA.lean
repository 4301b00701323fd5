/- Plain definitions: what chapter 1 of the document computes (names, files); no program. Plain: a string holds a rune that is neither a small letter nor a digit just if it holds such a byte. -/
import Derived.WalkKit
import Derived.Shelf.GgClosure.StringsRunes
namespace Go.Proofs.YtggpodlecljcbaaGreatDoor

/-- A small letter or a digit. -/
def okByte (c : UInt8) : Bool := (97 ≤ c.toNat && c.toNat ≤ 122) || (48 ≤ c.toNat && c.toNat ≤ 57)
def badName (s : List UInt8) : Bool := s.any (fun c => !okByte c) || s.isEmpty
/-- A1. -/
def nameFault (s : List UInt8) : Nat := if badName s then 3 else if 6 < s.length then 2 else 0
structure File where
  name : ByteArray
  text : ByteArray
  times : Int
  deriving DecidableEq
/-- A2. -/
def fileFault (f : File) : Nat := if nameFault f.name.data.toList ≠ 0 then nameFault f.name.data.toList else if 12 < f.text.size then 2 else if f.times < 1 ∨ 9999 < f.times then 1 else 0
theorem any_at (s : ByteArray) (k : Nat) (h : k < s.size) (p : UInt8 → Bool) (hp : p s[k] = true) : s.data.toList.any p = true := by
  rw [List.any_eq_true]
  exact ⟨s[k], by rw [List.mem_iff_getElem]; exact ⟨k, by simpa using h, rfl⟩, hp⟩
theorem any_snoc (s : ByteArray) (k : Nat) (h : k < s.size) (p : UInt8 → Bool) : (s.data.toList.take (k + 1)).any p = ((s.data.toList.take k).any p || p s[k]) := by
  rw [List.take_succ_eq_append_getElem (by simpa using h), List.any_append]
  simp
  rfl
theorem any_all (s : ByteArray) (k : Nat) (h : ¬ k < s.size) (p : UInt8 → Bool) : (s.data.toList.take k).any p = s.data.toList.any p := by
  rw [List.take_of_length_le (by simp; omega)]
theorem nameFault_bad (s : ByteArray) (k : Nat) (h : k < s.size) (hb : ¬ okByte s[k] = true) : nameFault s.data.toList = 3 := by
  have := any_at s k h (fun c => !okByte c) (by simpa using hb)
  simp [nameFault, badName, this]
theorem nameFault_empty (s : List UInt8) (h : s.isEmpty = true) : nameFault s = 3 := by simp [nameFault, badName, h]
theorem nameFault_long (s : List UInt8) (h : s.any (fun c => !okByte c) = false) (he : s.isEmpty = false) (h6 : 6 < s.length) : nameFault s = 2 := by
  simp only [nameFault, badName, h, he, Bool.or_self, Bool.false_eq_true, if_false, if_pos h6]
theorem nameFault_good (s : List UInt8) (h : s.any (fun c => !okByte c) = false) (he : s.isEmpty = false) (h6 : s.length ≤ 6) : nameFault s = 0 := by
  simp only [nameFault, badName, h, he, Bool.or_self, Bool.false_eq_true, if_false, if_neg (show ¬ 6 < s.length by omega)]
end Go.Proofs.YtggpodlecljcbaaGreatDoor
namespace Go.Proofs.YtggpodlecljcbaaGreatDoor
def okRune (x : Nat) : Bool := (97 ≤ x && x ≤ 122) || (48 ≤ x && x ≤ 57)
theorem decode_lo (s : ByteArray) (i : Nat) (h : (s.get! i).toNat < 128) : Utf8.decode s i = ((s.get! i).toNat, 1) := by
  simp [Utf8.decode, h]
theorem decode_hi (s : ByteArray) (i : Nat) (h : ¬ (s.get! i).toNat < 128) : 128 ≤ (Utf8.decode s i).1 := by
  unfold Utf8.decode
  simp only [Nat.add_zero, h, if_false, Utf8.runeError]
  repeat' split
  all_goals simp_all
  all_goals omega
theorem okRune_hi {x : Nat} (h : 128 ≤ x) : okRune x = false := by
  simp [okRune]; omega
theorem okByte_hi {x : UInt8} (h : ¬ x.toNat < 128) : okByte x = false := by
  simp [okByte]; omega
theorem idx_any (s : ByteArray) : ∀ (f pos : Nat), s.size ≤ pos + f →
    decide (0 ≤ Lib.idxFuncFrom (fun x => !okRune x) true s f pos) = (s.data.toList.drop pos).any (fun c => !okByte c)
  | 0, pos, h => by
    rw [List.drop_of_length_le (by simp; omega)]
    simp [Lib.idxFuncFrom]
  | f + 1, pos, h => by
    unfold Lib.idxFuncFrom
    by_cases hp : pos < s.size
    · have hb : s.get! pos = s[pos] := by
        show s.data[pos]! = s.data[pos]
        rw [getElem!_pos]
      rw [if_pos hp, List.drop_eq_getElem_cons (by simpa using hp), List.any_cons]
      have hg : s.data.toList[pos]'(by simpa using hp) = s[pos] := rfl
      rw [hg]
      by_cases h1 : (s.get! pos).toNat < 128
      · rw [decode_lo s pos h1, hb]
        have hok : okRune s[pos].toNat = okByte s[pos] := rfl
        simp only [hok]
        cases hk : okByte s[pos]
        · simp
        · simp only [Bool.not_true, Bool.false_eq_true, if_false, Bool.false_or]
          exact idx_any s f (pos + 1) (by omega)
      · have h2 := okRune_hi (decode_hi s pos h1)
        have h3 := okByte_hi (x := s[pos]) (by rw [← hb]; exact h1)
        simp [h2, h3]
    · rw [if_neg hp, List.drop_of_length_le (by simp; omega)]
      simp
theorem contains_any (s : ByteArray) : decide (0 ≤ Lib.idxFunc (fun x => !okRune x) true s) = s.data.toList.any (fun c => !okByte c) := by
  have := idx_any s s.size 0 (by omega)
  rw [List.drop_zero] at this
  exact this
end Go.Proofs.YtggpodlecljcbaaGreatDoor
