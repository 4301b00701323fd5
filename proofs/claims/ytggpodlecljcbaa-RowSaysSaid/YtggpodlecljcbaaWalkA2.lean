/- The walks of chapter 1, continued: file.Check, the document's FileFault, law.same. -/
import Derived.Test.YtggpodlecljcbaaWalkA
namespace Go.Proofs.Ytggpodlecljcbaa
open Go.RowKit

def File.val (f : File) : Value := .agg #[.string f.name, .string f.text, .int .i64 f.times]
def File.ok (f : File) : Prop := f.name.size ≤ maxLen ∧ f.text.size ≤ maxLen

@[go_sem] theorem ta_errno (m : Int) (w : World) : (Instr.typeAssert (.iface 138 (.int .i64 m)) 25 138 true).run Try.prog w = .ok (.tuple #[.int .i64 m, .bool true]) w := by kernel_rfl

set_option maxHeartbeats 400000 in
theorem law_same (n : Nat) (f : Int) (w : World) :
    Calls Try.prog 14 #[errV n, .int .i64 f] w fun e w' => e = .returned (.bool (decide ((n : Int) = f))) ∧ w = w' := by
  by_cases h : n = 0
  · subst h
    rw [errV_zero]
    go_enter Try.func14, Try.ntmps14
    go_wp2
    go_ret
    exact ⟨ret_bool (by rw [Bool.eq_iff_iff]; simp; omega), rfl⟩
  · rw [errV_pos h]
    go_enter Try.func14, Try.ntmps14
    go_wp2
    · go_ret
      exact ⟨ret_bool (by rw [Bool.eq_iff_iff]; simp), rfl⟩
    · go_ret
      exact ⟨ret_bool (by simp; omega), rfl⟩

theorem nf_cases (l : List UInt8) : nameFault l = 0 ∨ nameFault l = 2 ∨ nameFault l = 3 := by
  unfold nameFault; split <;> (try split) <;> simp
theorem ff_bad (f : File) (h : nameFault f.name.data.toList ≠ 0) : fileFault f = nameFault f.name.data.toList := if_pos h
theorem ff_long (f : File) (h : nameFault f.name.data.toList = 0) (h2 : 12 < f.text.size) : fileFault f = 2 := by
  unfold fileFault; rw [if_neg (by simp [h]), if_pos h2]
theorem ff_bound (f : File) (h : nameFault f.name.data.toList = 0) (h2 : ¬ 12 < f.text.size) (h3 : f.times < 1 ∨ 9999 < f.times) : fileFault f = 1 := by
  unfold fileFault; rw [if_neg (by simp [h]), if_neg h2, if_pos h3]
theorem ff_good (f : File) (h : nameFault f.name.data.toList = 0) (h2 : ¬ 12 < f.text.size) (h3 : ¬ (f.times < 1 ∨ 9999 < f.times)) : fileFault f = 0 := by
  unfold fileFault; rw [if_neg (by simp [h]), if_neg h2, if_neg h3]

set_option maxHeartbeats 400000 in
theorem file_Check (f : File) (w : World) (hf : f.ok) :
    Calls Try.prog 16 #[f.val] w fun e w' => e = .returned (errV (fileFault f)) ∧ Below w.heap.size w w' := by
  obtain ⟨h1, h2⟩ := hf
  have hN := fun w => file_Name f.name w h1
  unfold maxLen at h2
  clear h1
  by_cases hn : nameFault f.name.data.toList = 0
  · rw [hn, errV_zero] at hN
    have HN := Lib.hid hN
    clear hN
    by_cases ht : 12 < f.text.size
    · have H := Lib.hid (ff_long f hn ht)
      clear hn
      go_enter Try.func16, Try.ntmps16
      unfold File.val
      go_wp2_with (go_at_call 13; refine (HN.out _).mono ?_; rintro e w1 ⟨rfl, hb⟩; obtain ⟨hc, _⟩ := bcell hb; replace hb := Lib.hid hb)
      go_ret
      exact ⟨by rw [H.out]; rfl, ((Below.refl _ _).alloc (Nat.le_refl _) _).trans (hb.out.mono (by simp))⟩
    · by_cases hz : f.times < 1 ∨ 9999 < f.times
      · have H := Lib.hid (ff_bound f hn ht hz)
        clear hn
        go_enter Try.func16, Try.ntmps16
        unfold File.val
        go_wp2_with (go_at_call 13; refine (HN.out _).mono ?_; rintro e w1 ⟨rfl, hb⟩; obtain ⟨hc, _⟩ := bcell hb; replace hb := Lib.hid hb)
        all_goals
          go_ret
          exact ⟨by rw [H.out]; rfl, ((Below.refl _ _).alloc (Nat.le_refl _) _).trans (hb.out.mono (by simp))⟩
      · have H := Lib.hid (ff_good f hn ht hz)
        clear hn
        go_enter Try.func16, Try.ntmps16
        unfold File.val
        go_wp2_with (go_at_call 13; refine (HN.out _).mono ?_; rintro e w1 ⟨rfl, hb⟩; obtain ⟨hc, _⟩ := bcell hb; replace hb := Lib.hid hb)
        all_goals
          go_ret
          exact ⟨by rw [H.out]; rfl, ((Below.refl _ _).alloc (Nat.le_refl _) _).trans (hb.out.mono (by simp))⟩
  · rw [errV_pos hn] at hN
    have HN := Lib.hid hN
    have H := Lib.hid (ff_bad f hn)
    have H2 := Lib.hid (errV_pos hn)
    have hn' : (nameFault f.name.data.toList : Int) ≠ 0 := by omega
    clear hN hn
    go_enter Try.func16, Try.ntmps16
    unfold File.val
    go_wp2_with (go_at_call 13; refine (HN.out _).mono ?_; rintro e w1 ⟨rfl, hb⟩; obtain ⟨hc, _⟩ := bcell hb; replace hb := Lib.hid hb)
    go_ret
    exact ⟨by rw [H.out, H2.out]; rfl, ((Below.refl _ _).alloc (Nat.le_refl _) _).trans (hb.out.mono (by simp))⟩

set_option maxHeartbeats 400000 in
theorem ref_FileFault (f : File) (w : World) (hf : f.ok) :
    Calls Try.prog 17 #[f.val] w fun e w' => e = .returned (.int .i64 (fileFault f)) ∧ Below w.heap.size w w' := by
  obtain ⟨h1, h2⟩ := hf
  have hN := fun w => ref_NameFault f.name w h1
  unfold maxLen at h2
  clear h1
  by_cases hn : nameFault f.name.data.toList = 0
  · rw [hn] at hN
    have HN := Lib.hid hN
    clear hN
    by_cases ht : 12 < f.text.size
    · have H := Lib.hid (ff_long f hn ht)
      clear hn
      go_enter Try.func17, Try.ntmps17
      unfold File.val
      go_wp2_with (go_at_call 15; refine (HN.out _).mono ?_; rintro e w1 ⟨rfl, rfl⟩)
      go_ret
      exact ⟨by rw [H.out]; rfl, ((Below.refl _ _).alloc (Nat.le_refl _) _)⟩
    · by_cases hz : f.times < 1 ∨ 9999 < f.times
      · have H := Lib.hid (ff_bound f hn ht hz)
        clear hn
        go_enter Try.func17, Try.ntmps17
        unfold File.val
        go_wp2_with (go_at_call 15; refine (HN.out _).mono ?_; rintro e w1 ⟨rfl, rfl⟩)
        all_goals
          go_ret
          exact ⟨by rw [H.out]; rfl, ((Below.refl _ _).alloc (Nat.le_refl _) _)⟩
      · have H := Lib.hid (ff_good f hn ht hz)
        clear hn
        go_enter Try.func17, Try.ntmps17
        unfold File.val
        go_wp2_with (go_at_call 15; refine (HN.out _).mono ?_; rintro e w1 ⟨rfl, rfl⟩)
        all_goals
          go_ret
          exact ⟨by rw [H.out]; rfl, ((Below.refl _ _).alloc (Nat.le_refl _) _)⟩
  · have HN := Lib.hid hN
    have H := Lib.hid (ff_bad f hn)
    have hn' : 0 < (nameFault f.name.data.toList : Int) := by omega
    clear hN hn
    go_enter Try.func17, Try.ntmps17
    unfold File.val
    go_wp2_with (go_at_call 15; refine (HN.out _).mono ?_; rintro e w1 ⟨rfl, rfl⟩)
    go_ret
    exact ⟨by rw [H.out]; rfl, ((Below.refl _ _).alloc (Nat.le_refl _) _)⟩
end Go.Proofs.Ytggpodlecljcbaa
