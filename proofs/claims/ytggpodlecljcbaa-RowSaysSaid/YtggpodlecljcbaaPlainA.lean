/- Plain: a string holds a rune that is neither a small letter nor a digit just if it holds such a byte. -/
import Derived.Test.YtggpodlecljcbaaSpecA
import Derived.Shelf.GgClosure.StringsRunes
namespace Go.Proofs.Ytggpodlecljcbaa
def okRune (x : Nat) : Bool := (97 ≤ x && x ≤ 122) || (48 ≤ x && x ≤ 57)
theorem decode_lo (s : ByteArray) (i : Nat) (h : (s.get! i).toNat < 128) : Utf8.decode s i = ((s.get! i).toNat, 1) := by
  simp [Utf8.decode, h]
theorem decode_hi (s : ByteArray) (i : Nat) (h : ¬ (s.get! i).toNat < 128) : 128 ≤ (Utf8.decode s i).1 := by
  unfold Utf8.decode
  simp only [Nat.add_zero, h, if_false, Utf8.runeError]
  repeat' split
  all_goals simp_all
  all_goals omega
theorem okRune_hi {x : Nat} (h : 128 ≤ x) : okRune x = false := by
  simp [okRune]; omega
theorem okByte_hi {x : UInt8} (h : ¬ x.toNat < 128) : okByte x = false := by
  simp [okByte]; omega
theorem idx_any (s : ByteArray) : ∀ (f pos : Nat), s.size ≤ pos + f →
    decide (0 ≤ Lib.idxFuncFrom (fun x => !okRune x) true s f pos) = (s.data.toList.drop pos).any (fun c => !okByte c)
  | 0, pos, h => by
    rw [List.drop_of_length_le (by simp; omega)]
    simp [Lib.idxFuncFrom]
  | f + 1, pos, h => by
    unfold Lib.idxFuncFrom
    by_cases hp : pos < s.size
    · have hb : s.get! pos = s[pos] := by
        show s.data[pos]! = s.data[pos]
        rw [getElem!_pos]
      rw [if_pos hp, List.drop_eq_getElem_cons (by simpa using hp), List.any_cons]
      have hg : s.data.toList[pos]'(by simpa using hp) = s[pos] := rfl
      rw [hg]
      by_cases h1 : (s.get! pos).toNat < 128
      · rw [decode_lo s pos h1, hb]
        have hok : okRune s[pos].toNat = okByte s[pos] := rfl
        simp only [hok]
        cases hk : okByte s[pos]
        · simp
        · simp only [Bool.not_true, Bool.false_eq_true, if_false, Bool.false_or]
          exact idx_any s f (pos + 1) (by omega)
      · have h2 := okRune_hi (decode_hi s pos h1)
        have h3 := okByte_hi (x := s[pos]) (by rw [← hb]; exact h1)
        simp [h2, h3]
    · rw [if_neg hp, List.drop_of_length_le (by simp; omega)]
      simp
theorem contains_any (s : ByteArray) : decide (0 ≤ Lib.idxFunc (fun x => !okRune x) true s) = s.data.toList.any (fun c => !okByte c) := by
  have := idx_any s s.size 0 (by omega)
  rw [List.drop_zero] at this
  exact this
end Go.Proofs.Ytggpodlecljcbaa
