/- The walks that ask whether files, quilts are not too much. -/
import Derived.Test.YtggpodlecljcbaaWalkC
namespace Go.Proofs.Ytggpodlecljcbaa
open Go.RowKit Go.Sort

def File.light (f : File) : Bool := decide (f.name.size ≤ 20) && decide (f.text.size ≤ 30)
def lightFiles (l : List File) : Bool := decide (l.length ≤ 12) && l.all File.light
theorem all_take {α : Type} (l : List α) (k : Nat) (h : k < l.length) (p : α → Bool) (h1 : (l.take k).all p = true) (h2 : p l[k] = true) : (l.take (k + 1)).all p = true := by
  rw [List.take_succ_eq_append_getElem h, List.all_append, h1]
  simp [h2]
theorem all_not {α : Type} (l : List α) (k : Nat) (h : k < l.length) (p : α → Bool) (h2 : p l[k] = false) : l.all p = false := by
  rw [List.all_eq_false]; exact ⟨_, List.getElem_mem h, by simp [h2]⟩
theorem all_end {α : Type} (l : List α) (k : Nat) (h : ¬ k < l.length) (p : α → Bool) (h1 : (l.take k).all p = true) : l.all p = true := by
  rwa [List.take_of_length_le (by omega)] at h1

set_option maxHeartbeats 400000 in
theorem law_LightFiles (va : Value) (a : List File) (w : World) (ha : Files w va a) (hok : ∀ f ∈ a, f.ok) :
    Calls Try.prog 63 #[va] w fun e w' => e = .returned (.bool (lightFiles a)) ∧ w = w' := by
  obtain ⟨ao, ca, rfl, hca, hca'⟩ := ha.parts
  have HA := Lib.hid ha
  have HOK := Lib.hid hok
  clear ha hok
  by_cases hl : a.length ≤ 12
  · have HL := Lib.hid hl
    go_enter Try.func63, Try.ntmps63
    go_wp2_with fail
    go_loop [3] (fun i => ∃ k : Nat, k ≤ a.length ∧ i = .int .i64 k ∧ (a.take k).all File.light = true) (fun i => a.length - (intOf i).toNat)
    case atStart => exact ⟨0, Nat.zero_le _, rfl, rfl⟩
    case round =>
      obtain ⟨k, hk, rfl, htk⟩ := hrel
      have HT := Lib.hid htk
      clear htk
      by_cases hlt : k < a.length
      · obtain ⟨ba, oa, rfl, _, x0, x1, x2⟩ := HA.out.cell k hlt
        have ok := HOK.out a[k] (List.getElem_mem hlt)
        have o1 : a[k].name.size ≤ 9223372036854775807 := by have := ok.1; unfold maxLen at this; exact this
        have o2 : a[k].text.size ≤ 9223372036854775807 := by have := ok.2; unfold maxLen at this; exact this
        clear ok
        by_cases h1 : a[k].name.size ≤ 20
        · by_cases h2 : a[k].text.size ≤ 30
          · have HF : Hid (a[k].light = true) := by simp [Hid, File.light, h1, h2]
            go_wp2_with fail
            go_round
            case rel => exact ⟨k + 1, by omega, by go_num, all_take _ _ hlt _ HT.out HF.out⟩
            case measure => simp [intOf]; omega
          · have HF : Hid (a[k].light = false) := by simp [Hid, File.light, h2]
            go_wp2_with fail
            go_ret
            exact ⟨ret_bool (by simp [lightFiles, all_not a k hlt _ HF.out]), rfl⟩
        · have HF : Hid (a[k].light = false) := by simp [Hid, File.light, h1]
          go_wp2_with fail
          go_ret
          exact ⟨ret_bool (by simp [lightFiles, all_not a k hlt _ HF.out]), rfl⟩
      · go_wp2_with fail
        go_ret
        exact ⟨ret_bool (by simp [lightFiles, all_end a k hlt _ HT.out, HL.out]), rfl⟩
  · have HL := Lib.hid hl
    go_enter Try.func63, Try.ntmps63
    go_wp2_with fail
    go_ret
    exact ⟨ret_bool (by simp [lightFiles]; intro h; exact (HL.out h).elim), rfl⟩

set_option maxHeartbeats 400000 in
theorem law_LightQuilt (vq : Value) (q : Quilt) (w : World) (hq : Quilts w vq q) (hok : ∀ f ∈ q.files, f.ok) :
    Calls Try.prog 19 #[vq] w fun e w' => e = .returned (.bool (lightFiles q.files)) ∧ Below w.heap.size w w' := by
  obtain ⟨v, rfl, hq⟩ := hq
  obtain ⟨ao, ca, rfl, hca, hca'⟩ := hq.parts
  have B1 := Lib.hid (below_alloc w (.cells #[.slice ao q.files.length ca, .int .i64 q.turn] 34))
  have C := law_LightFiles _ _ _ (hq.below B1.out) hok
  have HC := Lib.hid C
  clear C hq
  by_cases hl : q.files.length ≤ 12
  · go_enter Try.func19, Try.ntmps19
    go_wp2_with fail
    refine HC.out.mono ?_
    rintro e w1 ⟨rfl, rfl⟩
    go_wp2_with fail
    go_ret
    exact ⟨rfl, B1.out⟩
  · have H : Hid (lightFiles q.files = false) := by simp only [Hid, lightFiles, decide_eq_false hl, Bool.false_and]
    go_enter Try.func19, Try.ntmps19
    go_wp2_with fail
    go_ret
    exact ⟨ret_bool (by rw [H.out]), B1.out⟩
end Go.Proofs.Ytggpodlecljcbaa
