/- The walk of the statement FileSays. -/
import Derived.Test.YtggpodlecljcbaaWalkA2
import Derived.Lib.QuietBelow
namespace Go.Proofs.Ytggpodlecljcbaa
open Go.RowKit Go.Sort

theorem regrown_cell {w : World} {b o : Nat} {v : Value} (h : w.cell? ⟨b, o, none⟩ = some v) : ∀ d os, (grow (redrawn w d) os).cell? ⟨b, o, none⟩ = some v := fun d os => cell_regrown h d os

theorem file_Name_of (s : ByteArray) (w : World) (n : Nat) (hs : s.size ≤ 9223372036854775807) (h : nameFault s.data.toList = n) :
    Calls Try.prog 13 #[.string s] w fun e w' => e = .returned (errV n) ∧ Below w.heap.size w w' := h ▸ file_Name s w hs

set_option maxHeartbeats 400000 in
theorem law_FileSays (f : File) (s : ByteArray) (w : World) (hf : f.ok) (hs : s.size ≤ maxLen) :
    Calls Try.prog 3 #[f.val, .string s] w fun e w' => e = .returned (.bool true) ∧ Below w.heap.size w w' := by
  obtain ⟨h1, h2⟩ := id hf
  unfold maxLen at h1 h2
  have H1 := Lib.hid hf
  have H2 := Lib.hid hs
  unfold maxLen at hs
  clear hf
  have E1 := law_same (nameFault s.data.toList) (nameFault s.data.toList)
  have E2 := law_same (fileFault f) (fileFault f)
  rw [decide_eq_true rfl] at E1 E2
  replace E1 := Lib.hid E1
  replace E2 := Lib.hid E2
  have F1 := fun w => Calls.mono (ref_NameFault s w H2.out) (R' := fun e w' => e = .returned (.int .i64 (nameFault s.data.toList)) ∧ Below w.heap.size w w') (fun e w' ⟨h, hw⟩ => ⟨h, hw ▸ Below.refl _ _⟩)
  replace F1 := Lib.hid F1
  replace E1 := Lib.hid fun w => Calls.mono (E1.out w) (R' := fun e w' => e = .returned (.bool true) ∧ Below w.heap.size w w') (fun e w' ⟨h, hw⟩ => ⟨h, hw ▸ Below.refl _ _⟩)
  replace E2 := Lib.hid fun w => Calls.mono (E2.out w) (R' := fun e w' => e = .returned (.bool true) ∧ Below w.heap.size w w') (fun e w' ⟨h, hw⟩ => ⟨h, hw ▸ Below.refl _ _⟩)
  by_cases hl : f.name.size > 40 ∨ f.text.size > 60 ∨ s.size > 40
  · go_enter Try.func3, Try.ntmps3
    unfold File.val
    go_wp2_with fail
    refine (file_Name_of _ _ 0 (by decide) (by decide)).mono ?_
    rintro e w1 ⟨rfl, hb⟩
    obtain ⟨hc, _⟩ := bcell hb
    have hs1 : w.heap.size < w1.heap.size := by have := hb.size; simp at this; omega
    replace hb := Lib.hid hb
    rw [errV_zero]
    go_wp2_with fail
    refine (file_Name_of _ _ 3 (by decide) (by decide)).mono ?_
    rintro e w2 ⟨rfl, hb2⟩
    obtain ⟨hc2, _⟩ := bcell hb2
    replace hb2 := Lib.hid hb2
    rw [errV_pos (by decide)]
    go_wp2_with fail
    all_goals
      go_ret
      exact ⟨rfl, (((Below.refl _ _).alloc (Nat.le_refl _) _).trans (hb.out.mono (by simp))).trans (hb2.out.mono (by omega))⟩
  · have hl1 : f.name.size ≤ 40 := by omega
    have hl2 : f.text.size ≤ 60 := by omega
    have hl3 : s.size ≤ 40 := by omega
    clear hl
    go_enter Try.func3, Try.ntmps3
    unfold File.val
    go_wp2_with fail
    refine (file_Name_of _ _ 0 (by decide) (by decide)).mono ?_
    rintro e w1 ⟨rfl, hb⟩
    obtain ⟨hc, _⟩ := bcell hb
    have hs1 : w.heap.size < w1.heap.size := by have := hb.size; simp at this; omega
    replace hb := Lib.hid hb
    rw [errV_zero]
    go_wp2_with fail
    refine (file_Name_of _ _ 3 (by decide) (by decide)).mono ?_
    rintro e w2 ⟨rfl, hb2⟩
    obtain ⟨hc2, _⟩ := bcell hb2
    have hs2 : w.heap.size < w2.heap.size := by have := hb2.size; omega
    replace hb2 := Lib.hid hb2
    rw [errV_pos (by decide)]
    have k0 := regrown_cell (w := w2) (b := w.heap.size) (o := 0) (v := .string f.name) (by rw [hc2 _ _ hs1, hc _ _ (by simp)]; simp)
    have k1 := regrown_cell (w := w2) (b := w.heap.size) (o := 1) (v := .string f.text) (by rw [hc2 _ _ hs1, hc _ _ (by simp)]; simp)
    have k2 := regrown_cell (w := w2) (b := w.heap.size) (o := 2) (v := .int .i64 f.times) (by rw [hc2 _ _ hs1, hc _ _ (by simp)]; simp)
    go_wp2_with fail
    refine wp_region_quiet_below (by kernel_rfl) (by kernel_rfl) ?_
    repeat (quiet_step (first | (go_at_call 13; exact Calls.regrown_of (file_Name s _ H2.out)) | (go_at_call 15; exact Calls.regrown_of (F1.out _)) | (go_at_call 14; first | with_reducible exact Calls.regrown_of (E1.out _) | with_reducible exact Calls.regrown_of (E2.out _)) | (go_at_call 16; exact Calls.regrown_of (file_Check f _ H1.out)) | (go_at_call 17; exact Calls.regrown_of (ref_FileFault f _ H1.out))))
    refine wpQuiet_nil ?_
    intro _ hw'
    obtain ⟨⟨dq, osq⟩, hw''⟩ := hw'
    subst hw''
    go_wp2_with fail
    go_ret
    exact ⟨rfl, ((((Below.refl _ _).alloc (Nat.le_refl _) _).trans (hb.out.mono (by simp))).trans (hb2.out.mono (by omega))).trans ((below_regrown w2 dq osq).mono (by omega))⟩
end Go.Proofs.Ytggpodlecljcbaa
