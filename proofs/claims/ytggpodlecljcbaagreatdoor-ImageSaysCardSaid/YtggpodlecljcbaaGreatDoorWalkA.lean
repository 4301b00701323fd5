/- The walks of chapter 1: file.Name, file.Check, and the document's answers, law.same. The walks of chapter 1, continued: file.Check, the document's FileFault, law.same. -/
import Derived.Test.YtggpodlecljcbaaGreatDoorProg
import Derived.Test.YtggpodlecljcbaaGreatDoorPlainA
import Derived.Test.YtggpodlecljcbaaGreatDoorShelf
import Derived.Test.YtggpodlecljcbaaGreatDoorBase
import Derived.Test.YtggpodlecljcbaaGreatDoorBaseE
namespace Go.Proofs.YtggpodlecljcbaaGreatDoor
open Go.RowKit



set_option maxHeartbeats 400000 in
theorem ref_NameFault (s : ByteArray) (w : World) (hs : s.size ≤ maxLen) :
    Calls Tryz.prog 41 #[.string s] w fun e w' => e = .returned (.int .i64 (nameFault s.data.toList)) ∧ w = w' := by
  unfold maxLen at hs
  go_enter Tryz.func41, Tryz.ntmps41
  go_wp2
  go_loop [3] (fun i => ∃ k : Nat, k ≤ s.size ∧ i = .int .i64 k ∧ (s.data.toList.take k).any (fun c => !okByte c) = false) (fun i => s.size - (intOf i).toNat)
  case atStart => exact ⟨0, Nat.zero_le _, rfl, rfl⟩
  case round =>
    obtain ⟨k, hk, rfl, hall⟩ := hrel
    have H := Lib.hid hall
    clear hall
    by_cases hlt : k < s.size
    · by_cases hb : okByte s[k] = true
      · have H1 := Lib.hid hb
        have hb' : (97 ≤ s[k].toNat ∧ s[k].toNat ≤ 122) ∨ (48 ≤ s[k].toNat ∧ s[k].toNat ≤ 57) := by simpa [okByte] using hb
        clear hb
        have hsn := Lib.hid (any_snoc s k hlt (fun c => !okByte c))
        go_wp2
        all_goals
          go_round
          case rel => exact ⟨k + 1, by omega, by go_num, by rw [hsn.out, H.out, H1.out]; rfl⟩
          case measure => simp [intOf]; omega
      · have hb' : ¬ ((97 ≤ s[k].toNat ∧ s[k].toNat ≤ 122) ∨ (48 ≤ s[k].toNat ∧ s[k].toNat ≤ 57)) := by simpa [okByte] using hb
        have H1 := Lib.hid (nameFault_bad s k hlt hb)
        clear hb
        go_wp2
        all_goals
          go_ret
          exact ⟨by rw [H1.out]; rfl, rfl⟩
    · have H1 := Lib.hid (any_all s k hlt (fun c => !okByte c))
      rw [H1.out] at H
      by_cases he : s.toList.isEmpty = true
      · have H2 := Lib.hid (nameFault_empty s.data.toList (by rw [← ByteArray.toList_eq s]; exact he))
        go_wp2
        go_ret
        exact ⟨by rw [H2.out]; rfl, rfl⟩
      · have he' : s.toList.isEmpty = false := by simpa using he
        have h2 : s.data.toList.isEmpty = false := by rw [← ByteArray.toList_eq s]; exact he'
        clear he
        by_cases h6 : 6 < s.size
        · have H2 := Lib.hid (nameFault_long _ H.out h2 (by simp; omega))
          clear h2
          go_wp2
          go_ret
          exact ⟨by rw [H2.out]; rfl, rfl⟩
        · have H2 := Lib.hid (nameFault_good _ H.out h2 (by simp; omega))
          clear h2
          go_wp2
          go_ret
          exact ⟨by rw [H2.out]; rfl, rfl⟩

set_option maxHeartbeats 400000 in
theorem name_fn (x : Nat) (hx : x ≤ 1114111) (w : World) :
    Calls Tryz.prog 88 #[encR x] w fun e w' => e = .returned (.bool (!okRune x)) ∧ w = w' := by
  go_enter Tryz.func88, Tryz.ntmps88
  go_wp2
  all_goals
    go_ret
    refine ⟨ret_bool ?_, rfl⟩
    rw [Bool.eq_iff_iff]
    simp [okRune]
    omega
theorem name_pred (w : World) : PredAtRunes Tryz.prog 88 #[] (fun x => !okRune x) w := by
  intro W x hx _
  unfold FnGives
  exact (name_fn x hx W).mono fun e w' ⟨h1, h2⟩ => ⟨h1, 0, h2.symm⟩

theorem contains_fn (s : ByteArray) (w : World) :
    Calls Tryz.prog 87 #[.string s, .func (.func 88) #[] #[]] w fun e w' => e = .returned (.bool (s.data.toList.any fun c => !okByte c)) ∧ Below w.heap.size w w' := by
  refine (Tryz.strings_ContainsFunc_runes 88 #[] (fun _ _ => by kernel_rfl) (fun x => !okRune x) s w (name_pred w)).mono fun e w' ⟨h1, h2⟩ => ⟨?_, h2⟩
  rw [h1, contains_any]

set_option maxHeartbeats 400000 in
theorem file_Name (s : ByteArray) (w : World) (hs : s.size ≤ maxLen) :
    Calls Tryz.prog 72 #[.string s] w fun e w' => e = .returned (errV (nameFault s.data.toList)) ∧ Below w.heap.size w w' := by
  unfold maxLen at hs
  have hc := contains_fn s w
  by_cases hb : (s.data.toList.any fun c => !okByte c) = true
  · have H1 : Hid (nameFault s.data.toList = 3) := by simp [Hid, nameFault, badName, hb]
    rw [hb] at hc
    have HC := Lib.hid hc
    clear hc hb
    go_enter Tryz.func72, Tryz.ntmps72
    go_wp2_with (go_at_call 87; refine HC.out.mono ?_; rintro e w1 ⟨rfl, hb1⟩)
    go_ret
    exact ⟨by rw [H1.out]; rfl, hb1⟩
  · have hb' : (s.data.toList.any fun c => !okByte c) = false := by simpa using hb
    rw [hb'] at hc
    have HC := Lib.hid hc
    have H := Lib.hid hb'
    clear hc hb hb'
    by_cases he : s.toList.isEmpty = true
    · have H2 := Lib.hid (nameFault_empty s.data.toList (by rw [← ByteArray.toList_eq s]; exact he))
      go_enter Tryz.func72, Tryz.ntmps72
      go_wp2_with (go_at_call 87; refine HC.out.mono ?_; rintro e w1 ⟨rfl, hb1⟩)
      go_ret
      exact ⟨by rw [H2.out]; rfl, hb1⟩
    · have he' : s.toList.isEmpty = false := by simpa using he
      have h2 : s.data.toList.isEmpty = false := by rw [← ByteArray.toList_eq s]; exact he'
      clear he
      by_cases h6 : 6 < s.size
      · have H2 := Lib.hid (nameFault_long _ H.out h2 (by simp; omega))
        clear h2
        go_enter Tryz.func72, Tryz.ntmps72
        go_wp2_with (go_at_call 87; refine HC.out.mono ?_; rintro e w1 ⟨rfl, hb1⟩)
        go_ret
        exact ⟨by rw [H2.out]; rfl, hb1⟩
      · have H2 := Lib.hid (nameFault_good _ H.out h2 (by simp; omega))
        clear h2
        go_enter Tryz.func72, Tryz.ntmps72
        go_wp2_with (go_at_call 87; refine HC.out.mono ?_; rintro e w1 ⟨rfl, hb1⟩)
        go_ret
        exact ⟨by rw [H2.out]; rfl, hb1⟩
end Go.Proofs.YtggpodlecljcbaaGreatDoor
namespace Go.Proofs.YtggpodlecljcbaaGreatDoor
open Go.RowKit

def File.val (f : File) : Value := .agg #[.string f.name, .string f.text, .int .i64 f.times]
def File.ok (f : File) : Prop := f.name.size ≤ maxLen ∧ f.text.size ≤ maxLen

@[go_sem] theorem ta_errno (m : Int) (w : World) : (Instr.typeAssert (.iface 51 (.int .i64 m)) 33 51 true).run Tryz.prog w = .ok (.tuple #[.int .i64 m, .bool true]) w := by kernel_rfl

set_option maxHeartbeats 400000 in
theorem law_same (n : Nat) (f : Int) (w : World) :
    Calls Tryz.prog 13 #[errV n, .int .i64 f] w fun e w' => e = .returned (.bool (decide ((n : Int) = f))) ∧ w = w' := by
  by_cases h : n = 0
  · subst h
    rw [errV_zero]
    go_enter Tryz.func13, Tryz.ntmps13
    go_wp2
    go_ret
    exact ⟨ret_bool (by rw [Bool.eq_iff_iff]; simp; omega), rfl⟩
  · rw [errV_pos h]
    go_enter Tryz.func13, Tryz.ntmps13
    go_wp2
    · go_ret
      exact ⟨ret_bool (by rw [Bool.eq_iff_iff]; simp), rfl⟩
    · go_ret
      exact ⟨ret_bool (by simp; omega), rfl⟩

theorem nf_cases (l : List UInt8) : nameFault l = 0 ∨ nameFault l = 2 ∨ nameFault l = 3 := by
  unfold nameFault; split <;> (try split) <;> simp
theorem ff_bad (f : File) (h : nameFault f.name.data.toList ≠ 0) : fileFault f = nameFault f.name.data.toList := if_pos h
theorem ff_long (f : File) (h : nameFault f.name.data.toList = 0) (h2 : 12 < f.text.size) : fileFault f = 2 := by
  unfold fileFault; rw [if_neg (by simp [h]), if_pos h2]
theorem ff_bound (f : File) (h : nameFault f.name.data.toList = 0) (h2 : ¬ 12 < f.text.size) (h3 : f.times < 1 ∨ 9999 < f.times) : fileFault f = 1 := by
  unfold fileFault; rw [if_neg (by simp [h]), if_neg h2, if_pos h3]
theorem ff_good (f : File) (h : nameFault f.name.data.toList = 0) (h2 : ¬ 12 < f.text.size) (h3 : ¬ (f.times < 1 ∨ 9999 < f.times)) : fileFault f = 0 := by
  unfold fileFault; rw [if_neg (by simp [h]), if_neg h2, if_neg h3]

set_option maxHeartbeats 400000 in
theorem file_Check (f : File) (w : World) (hf : f.ok) :
    Calls Tryz.prog 50 #[f.val] w fun e w' => e = .returned (errV (fileFault f)) ∧ Below w.heap.size w w' := by
  obtain ⟨h1, h2⟩ := hf
  have hN := fun w => file_Name f.name w h1
  unfold maxLen at h2
  clear h1
  by_cases hn : nameFault f.name.data.toList = 0
  · rw [hn, errV_zero] at hN
    have HN := Lib.hid hN
    clear hN
    by_cases ht : 12 < f.text.size
    · have H := Lib.hid (ff_long f hn ht)
      clear hn
      go_enter Tryz.func50, Tryz.ntmps50
      unfold File.val
      go_wp2_with (go_at_call 72; refine (HN.out _).mono ?_; rintro e w1 ⟨rfl, hb⟩; obtain ⟨hc, _⟩ := bcell hb; replace hb := Lib.hid hb)
      go_ret
      exact ⟨by rw [H.out]; rfl, ((Below.refl _ _).alloc (Nat.le_refl _) _).trans (hb.out.mono (by simp))⟩
    · by_cases hz : f.times < 1 ∨ 9999 < f.times
      · have H := Lib.hid (ff_bound f hn ht hz)
        clear hn
        go_enter Tryz.func50, Tryz.ntmps50
        unfold File.val
        go_wp2_with (go_at_call 72; refine (HN.out _).mono ?_; rintro e w1 ⟨rfl, hb⟩; obtain ⟨hc, _⟩ := bcell hb; replace hb := Lib.hid hb)
        all_goals
          go_ret
          exact ⟨by rw [H.out]; rfl, ((Below.refl _ _).alloc (Nat.le_refl _) _).trans (hb.out.mono (by simp))⟩
      · have H := Lib.hid (ff_good f hn ht hz)
        clear hn
        go_enter Tryz.func50, Tryz.ntmps50
        unfold File.val
        go_wp2_with (go_at_call 72; refine (HN.out _).mono ?_; rintro e w1 ⟨rfl, hb⟩; obtain ⟨hc, _⟩ := bcell hb; replace hb := Lib.hid hb)
        all_goals
          go_ret
          exact ⟨by rw [H.out]; rfl, ((Below.refl _ _).alloc (Nat.le_refl _) _).trans (hb.out.mono (by simp))⟩
  · rw [errV_pos hn] at hN
    have HN := Lib.hid hN
    have H := Lib.hid (ff_bad f hn)
    have H2 := Lib.hid (errV_pos hn)
    have hn' : (nameFault f.name.data.toList : Int) ≠ 0 := by omega
    clear hN hn
    go_enter Tryz.func50, Tryz.ntmps50
    unfold File.val
    go_wp2_with (go_at_call 72; refine (HN.out _).mono ?_; rintro e w1 ⟨rfl, hb⟩; obtain ⟨hc, _⟩ := bcell hb; replace hb := Lib.hid hb)
    go_ret
    exact ⟨by rw [H.out, H2.out]; rfl, ((Below.refl _ _).alloc (Nat.le_refl _) _).trans (hb.out.mono (by simp))⟩

set_option maxHeartbeats 400000 in
theorem ref_FileFault (f : File) (w : World) (hf : f.ok) :
    Calls Tryz.prog 31 #[f.val] w fun e w' => e = .returned (.int .i64 (fileFault f)) ∧ Below w.heap.size w w' := by
  obtain ⟨h1, h2⟩ := hf
  have hN := fun w => ref_NameFault f.name w h1
  unfold maxLen at h2
  clear h1
  by_cases hn : nameFault f.name.data.toList = 0
  · rw [hn] at hN
    have HN := Lib.hid hN
    clear hN
    by_cases ht : 12 < f.text.size
    · have H := Lib.hid (ff_long f hn ht)
      clear hn
      go_enter Tryz.func31, Tryz.ntmps31
      unfold File.val
      go_wp2_with (go_at_call 41; refine (HN.out _).mono ?_; rintro e w1 ⟨rfl, rfl⟩)
      go_ret
      exact ⟨by rw [H.out]; rfl, ((Below.refl _ _).alloc (Nat.le_refl _) _)⟩
    · by_cases hz : f.times < 1 ∨ 9999 < f.times
      · have H := Lib.hid (ff_bound f hn ht hz)
        clear hn
        go_enter Tryz.func31, Tryz.ntmps31
        unfold File.val
        go_wp2_with (go_at_call 41; refine (HN.out _).mono ?_; rintro e w1 ⟨rfl, rfl⟩)
        all_goals
          go_ret
          exact ⟨by rw [H.out]; rfl, ((Below.refl _ _).alloc (Nat.le_refl _) _)⟩
      · have H := Lib.hid (ff_good f hn ht hz)
        clear hn
        go_enter Tryz.func31, Tryz.ntmps31
        unfold File.val
        go_wp2_with (go_at_call 41; refine (HN.out _).mono ?_; rintro e w1 ⟨rfl, rfl⟩)
        all_goals
          go_ret
          exact ⟨by rw [H.out]; rfl, ((Below.refl _ _).alloc (Nat.le_refl _) _)⟩
  · have HN := Lib.hid hN
    have H := Lib.hid (ff_bad f hn)
    have hn' : 0 < (nameFault f.name.data.toList : Int) := by omega
    clear hN hn
    go_enter Tryz.func31, Tryz.ntmps31
    unfold File.val
    go_wp2_with (go_at_call 41; refine (HN.out _).mono ?_; rintro e w1 ⟨rfl, rfl⟩)
    go_ret
    exact ⟨by rw [H.out]; rfl, ((Below.refl _ _).alloc (Nat.le_refl _) _)⟩
end Go.Proofs.YtggpodlecljcbaaGreatDoor
