/- The walks of chapter 1: file.Name, file.Check, and the document's answers, law.same. -/
import Derived.Test.YtggpodlecljcbaaProg
import Derived.Test.YtggpodlecljcbaaSpecA
import Derived.Test.YtggpodlecljcbaaPlainA
import Derived.Test.YtggpodlecljcbaaShelf
import Derived.Test.YtggpodlecljcbaaBase
import Derived.Test.YtggpodlecljcbaaBaseE
namespace Go.Proofs.Ytggpodlecljcbaa
open Go.RowKit



set_option maxHeartbeats 400000 in
theorem ref_NameFault (s : ByteArray) (w : World) (hs : s.size ≤ maxLen) :
    Calls Try.prog 15 #[.string s] w fun e w' => e = .returned (.int .i64 (nameFault s.data.toList)) ∧ w = w' := by
  unfold maxLen at hs
  go_enter Try.func15, Try.ntmps15
  go_wp2
  go_loop [3] (fun i => ∃ k : Nat, k ≤ s.size ∧ i = .int .i64 k ∧ (s.data.toList.take k).any (fun c => !okByte c) = false) (fun i => s.size - (intOf i).toNat)
  case atStart => exact ⟨0, Nat.zero_le _, rfl, rfl⟩
  case round =>
    obtain ⟨k, hk, rfl, hall⟩ := hrel
    have H := Lib.hid hall
    clear hall
    by_cases hlt : k < s.size
    · by_cases hb : okByte s[k] = true
      · have H1 := Lib.hid hb
        have hb' : (97 ≤ s[k].toNat ∧ s[k].toNat ≤ 122) ∨ (48 ≤ s[k].toNat ∧ s[k].toNat ≤ 57) := by simpa [okByte] using hb
        clear hb
        have hsn := Lib.hid (any_snoc s k hlt (fun c => !okByte c))
        go_wp2
        all_goals
          go_round
          case rel => exact ⟨k + 1, by omega, by go_num, by rw [hsn.out, H.out, H1.out]; rfl⟩
          case measure => simp [intOf]; omega
      · have hb' : ¬ ((97 ≤ s[k].toNat ∧ s[k].toNat ≤ 122) ∨ (48 ≤ s[k].toNat ∧ s[k].toNat ≤ 57)) := by simpa [okByte] using hb
        have H1 := Lib.hid (nameFault_bad s k hlt hb)
        clear hb
        go_wp2
        all_goals
          go_ret
          exact ⟨by rw [H1.out]; rfl, rfl⟩
    · have H1 := Lib.hid (any_all s k hlt (fun c => !okByte c))
      rw [H1.out] at H
      by_cases he : s.toList.isEmpty = true
      · have H2 := Lib.hid (nameFault_empty s.data.toList (by rw [← ByteArray.toList_eq s]; exact he))
        go_wp2
        go_ret
        exact ⟨by rw [H2.out]; rfl, rfl⟩
      · have he' : s.toList.isEmpty = false := by simpa using he
        have h2 : s.data.toList.isEmpty = false := by rw [← ByteArray.toList_eq s]; exact he'
        clear he
        by_cases h6 : 6 < s.size
        · have H2 := Lib.hid (nameFault_long _ H.out h2 (by simp; omega))
          clear h2
          go_wp2
          go_ret
          exact ⟨by rw [H2.out]; rfl, rfl⟩
        · have H2 := Lib.hid (nameFault_good _ H.out h2 (by simp; omega))
          clear h2
          go_wp2
          go_ret
          exact ⟨by rw [H2.out]; rfl, rfl⟩

set_option maxHeartbeats 400000 in
theorem name_fn (x : Nat) (hx : x ≤ 1114111) (w : World) :
    Calls Try.prog 96 #[encR x] w fun e w' => e = .returned (.bool (!okRune x)) ∧ w = w' := by
  go_enter Try.func96, Try.ntmps96
  go_wp2
  all_goals
    go_ret
    refine ⟨ret_bool ?_, rfl⟩
    rw [Bool.eq_iff_iff]
    simp [okRune]
    omega
theorem name_pred (w : World) : PredAtRunes Try.prog 96 #[] (fun x => !okRune x) w := by
  intro W x hx _
  unfold FnGives
  exact (name_fn x hx W).mono fun e w' ⟨h1, h2⟩ => ⟨h1, 0, h2.symm⟩

theorem contains_fn (s : ByteArray) (w : World) :
    Calls Try.prog 95 #[.string s, .func (.func 96) #[] #[]] w fun e w' => e = .returned (.bool (s.data.toList.any fun c => !okByte c)) ∧ Below w.heap.size w w' := by
  refine (Try.strings_ContainsFunc_runes 96 #[] (fun _ _ => by kernel_rfl) (fun x => !okRune x) s w (name_pred w)).mono fun e w' ⟨h1, h2⟩ => ⟨?_, h2⟩
  rw [h1, contains_any]

set_option maxHeartbeats 400000 in
theorem file_Name (s : ByteArray) (w : World) (hs : s.size ≤ maxLen) :
    Calls Try.prog 13 #[.string s] w fun e w' => e = .returned (errV (nameFault s.data.toList)) ∧ Below w.heap.size w w' := by
  unfold maxLen at hs
  have hc := contains_fn s w
  by_cases hb : (s.data.toList.any fun c => !okByte c) = true
  · have H1 : Hid (nameFault s.data.toList = 3) := by simp [Hid, nameFault, badName, hb]
    rw [hb] at hc
    have HC := Lib.hid hc
    clear hc hb
    go_enter Try.func13, Try.ntmps13
    go_wp2_with (go_at_call 95; refine HC.out.mono ?_; rintro e w1 ⟨rfl, hb1⟩)
    go_ret
    exact ⟨by rw [H1.out]; rfl, hb1⟩
  · have hb' : (s.data.toList.any fun c => !okByte c) = false := by simpa using hb
    rw [hb'] at hc
    have HC := Lib.hid hc
    have H := Lib.hid hb'
    clear hc hb hb'
    by_cases he : s.toList.isEmpty = true
    · have H2 := Lib.hid (nameFault_empty s.data.toList (by rw [← ByteArray.toList_eq s]; exact he))
      go_enter Try.func13, Try.ntmps13
      go_wp2_with (go_at_call 95; refine HC.out.mono ?_; rintro e w1 ⟨rfl, hb1⟩)
      go_ret
      exact ⟨by rw [H2.out]; rfl, hb1⟩
    · have he' : s.toList.isEmpty = false := by simpa using he
      have h2 : s.data.toList.isEmpty = false := by rw [← ByteArray.toList_eq s]; exact he'
      clear he
      by_cases h6 : 6 < s.size
      · have H2 := Lib.hid (nameFault_long _ H.out h2 (by simp; omega))
        clear h2
        go_enter Try.func13, Try.ntmps13
        go_wp2_with (go_at_call 95; refine HC.out.mono ?_; rintro e w1 ⟨rfl, hb1⟩)
        go_ret
        exact ⟨by rw [H2.out]; rfl, hb1⟩
      · have H2 := Lib.hid (nameFault_good _ H.out h2 (by simp; omega))
        clear h2
        go_enter Try.func13, Try.ntmps13
        go_wp2_with (go_at_call 95; refine HC.out.mono ?_; rintro e w1 ⟨rfl, hb1⟩)
        go_ret
        exact ⟨by rw [H2.out]; rfl, hb1⟩
end Go.Proofs.Ytggpodlecljcbaa
