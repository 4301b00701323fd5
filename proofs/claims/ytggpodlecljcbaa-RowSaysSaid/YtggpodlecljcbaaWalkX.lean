/- The walks of chapter 7: row.Check, the document's ChangeFault. -/
import Derived.Test.YtggpodlecljcbaaSpecX
namespace Go.Proofs.Ytggpodlecljcbaa
open Go.RowKit Go.Sort
set_option linter.unusedSimpArgs false
set_option linter.unusedVariables false
theorem cf_key {k v : ByteArray} {g : Bool} (h : k.toList = []) : changeFault ⟨k, v, g⟩ = 3 := by simp [changeFault, h]
theorem cf_gone {k v : ByteArray} (h : ¬ k.toList = []) (h2 : ¬ v.toList = []) : changeFault ⟨k, v, true⟩ = 3 := by simp [changeFault, h, h2]
theorem cf_long {k v : ByteArray} {g : Bool} (h : ¬ k.toList = []) (h2 : g = false ∨ v.toList = []) (h3 : 8 < k.size ∨ 16 < v.size) : changeFault ⟨k, v, g⟩ = 2 := by
  rcases h2 with rfl | h2 <;> simp [changeFault, h, h3, *]
theorem cf_good {k v : ByteArray} {g : Bool} (h : ¬ k.toList = []) (h2 : g = false ∨ v.toList = []) (h3 : ¬ (8 < k.size ∨ 16 < v.size)) : changeFault ⟨k, v, g⟩ = 0 := by
  rcases h2 with rfl | h2 <;> simp [changeFault, h, h3, *]
set_option maxHeartbeats 2000000 in
theorem row_Check (k v : ByteArray) (g : Bool) (w : World) (hk : k.size ≤ maxLen) (hv : v.size ≤ maxLen) :
    Calls Try.prog 49 #[.agg #[.string k, .string v, .bool g]] w fun e w' => e = .returned (errV (changeFault ⟨k, v, g⟩)) ∧ Below w.heap.size w w' := by
  unfold maxLen at hk hv
  have B1 := Lib.hid (below_alloc w (.cells #[.string k, .string v, .bool g] 78))
  by_cases hk0 : k.toList = []
  · have hF := Lib.hid (cf_key (v := v) (g := g) hk0)
    have he : k.toList.isEmpty = true := by rw [hk0]; rfl
    go_enter Try.func49, Try.ntmps49
    go_wp2_with fail
    go_ret
    exact ⟨by rw [hF.out]; rfl, B1.out⟩
  have he : k.toList.isEmpty = false := by cases hh : k.toList with | nil => exact absurd hh hk0 | cons a r => rfl
  by_cases hgv : g = true ∧ ¬ v.toList = []
  · obtain ⟨rfl, hv0⟩ := hgv
    have hF := Lib.hid (cf_gone hk0 hv0)
    have hve : v.toList.isEmpty = false := by cases hh : v.toList with | nil => exact absurd hh hv0 | cons a r => rfl
    go_enter Try.func49, Try.ntmps49
    go_wp2_with fail
    go_ret
    exact ⟨by rw [hF.out]; rfl, B1.out⟩
  have hgv2 : g = false ∨ v.toList = [] := by
    cases g
    · exact Or.inl rfl
    · exact Or.inr (Classical.byContradiction fun h => hgv ⟨rfl, h⟩)
  clear hgv
  have key : changeFault ⟨k, v, g⟩ = if 8 < k.size ∨ 16 < v.size then 2 else 0 := by
    by_cases h3 : 8 < k.size ∨ 16 < v.size
    · rw [if_pos h3]; exact cf_long hk0 hgv2 h3
    · rw [if_neg h3]; exact cf_good hk0 hgv2 h3
  have HK := Lib.hid key
  clear key
  rcases hgv2 with rfl | hv0
  rotate_left
  · have hve : v.toList.isEmpty = true := by rw [hv0]; rfl
    cases g
    all_goals
      by_cases h8 : 8 < k.size
      · have h8' : (8 : Int) < (k.size : Int) := by omega
        have hF := Lib.hid (HK.out.trans (if_pos (Or.inl h8)))
        clear h8
        go_enter Try.func49, Try.ntmps49
        go_wp2_with fail
        go_ret
        exact ⟨by rw [hF.out]; rfl, B1.out⟩
      · have h8' : ¬ (8 : Int) < (k.size : Int) := by omega
        by_cases h16 : 16 < v.size
        · have h16' : (16 : Int) < (v.size : Int) := by omega
          have hF := Lib.hid (HK.out.trans (if_pos (Or.inr h16)))
          clear h8 h16
          go_enter Try.func49, Try.ntmps49
          go_wp2_with fail
          go_ret
          exact ⟨by rw [hF.out]; rfl, B1.out⟩
        · have h16' : ¬ (16 : Int) < (v.size : Int) := by omega
          have hF := Lib.hid (HK.out.trans (if_neg (by omega)))
          clear h8 h16
          go_enter Try.func49, Try.ntmps49
          go_wp2_with fail
          go_ret
          exact ⟨by rw [hF.out]; rfl, B1.out⟩
  · by_cases h8 : 8 < k.size
    · have h8' : (8 : Int) < (k.size : Int) := by omega
      have hF := Lib.hid (HK.out.trans (if_pos (Or.inl h8)))
      clear h8
      go_enter Try.func49, Try.ntmps49
      go_wp2_with fail
      go_ret
      exact ⟨by rw [hF.out]; rfl, B1.out⟩
    · have h8' : ¬ (8 : Int) < (k.size : Int) := by omega
      by_cases h16 : 16 < v.size
      · have h16' : (16 : Int) < (v.size : Int) := by omega
        have hF := Lib.hid (HK.out.trans (if_pos (Or.inr h16)))
        clear h8 h16
        go_enter Try.func49, Try.ntmps49
        go_wp2_with fail
        go_ret
        exact ⟨by rw [hF.out]; rfl, B1.out⟩
      · have h16' : ¬ (16 : Int) < (v.size : Int) := by omega
        have hF := Lib.hid (HK.out.trans (if_neg (by omega)))
        clear h8 h16
        go_enter Try.func49, Try.ntmps49
        go_wp2_with fail
        go_ret
        exact ⟨by rw [hF.out]; rfl, B1.out⟩
set_option maxHeartbeats 2000000 in
theorem ref_ChangeFault (k v : ByteArray) (g : Bool) (w : World) (hk : k.size ≤ maxLen) (hv : v.size ≤ maxLen) :
    Calls Try.prog 50 #[.agg #[.string k, .string v, .bool g]] w fun e w' => e = .returned (.int .i64 (changeFault ⟨k, v, g⟩)) ∧ Below w.heap.size w w' := by
  unfold maxLen at hk hv
  have B1 := Lib.hid (below_alloc w (.cells #[.string k, .string v, .bool g] 78))
  by_cases hk0 : k.toList = []
  · have hF := Lib.hid (cf_key (v := v) (g := g) hk0)
    have he : k.toList.isEmpty = true := by rw [hk0]; rfl
    go_enter Try.func50, Try.ntmps50
    go_wp2_with fail
    go_ret
    exact ⟨by rw [hF.out]; rfl, B1.out⟩
  have he : k.toList.isEmpty = false := by cases hh : k.toList with | nil => exact absurd hh hk0 | cons a r => rfl
  by_cases hgv : g = true ∧ ¬ v.toList = []
  · obtain ⟨rfl, hv0⟩ := hgv
    have hF := Lib.hid (cf_gone hk0 hv0)
    have hve : v.toList.isEmpty = false := by cases hh : v.toList with | nil => exact absurd hh hv0 | cons a r => rfl
    go_enter Try.func50, Try.ntmps50
    go_wp2_with fail
    go_ret
    exact ⟨by rw [hF.out]; rfl, B1.out⟩
  have hgv2 : g = false ∨ v.toList = [] := by
    cases g
    · exact Or.inl rfl
    · exact Or.inr (Classical.byContradiction fun h => hgv ⟨rfl, h⟩)
  clear hgv
  have key : changeFault ⟨k, v, g⟩ = if 8 < k.size ∨ 16 < v.size then 2 else 0 := by
    by_cases h3 : 8 < k.size ∨ 16 < v.size
    · rw [if_pos h3]; exact cf_long hk0 hgv2 h3
    · rw [if_neg h3]; exact cf_good hk0 hgv2 h3
  have HK := Lib.hid key
  clear key
  rcases hgv2 with rfl | hv0
  rotate_left
  · have hve : v.toList.isEmpty = true := by rw [hv0]; rfl
    cases g
    all_goals
      by_cases h8 : 8 < k.size
      · have h8' : (8 : Int) < (k.size : Int) := by omega
        have hF := Lib.hid (HK.out.trans (if_pos (Or.inl h8)))
        clear h8
        go_enter Try.func50, Try.ntmps50
        go_wp2_with fail
        go_ret
        exact ⟨by rw [hF.out]; rfl, B1.out⟩
      · have h8' : ¬ (8 : Int) < (k.size : Int) := by omega
        by_cases h16 : 16 < v.size
        · have h16' : (16 : Int) < (v.size : Int) := by omega
          have hF := Lib.hid (HK.out.trans (if_pos (Or.inr h16)))
          clear h8 h16
          go_enter Try.func50, Try.ntmps50
          go_wp2_with fail
          go_ret
          exact ⟨by rw [hF.out]; rfl, B1.out⟩
        · have h16' : ¬ (16 : Int) < (v.size : Int) := by omega
          have hF := Lib.hid (HK.out.trans (if_neg (by omega)))
          clear h8 h16
          go_enter Try.func50, Try.ntmps50
          go_wp2_with fail
          go_ret
          exact ⟨by rw [hF.out]; rfl, B1.out⟩
  · by_cases h8 : 8 < k.size
    · have h8' : (8 : Int) < (k.size : Int) := by omega
      have hF := Lib.hid (HK.out.trans (if_pos (Or.inl h8)))
      clear h8
      go_enter Try.func50, Try.ntmps50
      go_wp2_with fail
      go_ret
      exact ⟨by rw [hF.out]; rfl, B1.out⟩
    · have h8' : ¬ (8 : Int) < (k.size : Int) := by omega
      by_cases h16 : 16 < v.size
      · have h16' : (16 : Int) < (v.size : Int) := by omega
        have hF := Lib.hid (HK.out.trans (if_pos (Or.inr h16)))
        clear h8 h16
        go_enter Try.func50, Try.ntmps50
        go_wp2_with fail
        go_ret
        exact ⟨by rw [hF.out]; rfl, B1.out⟩
      · have h16' : ¬ (16 : Int) < (v.size : Int) := by omega
        have hF := Lib.hid (HK.out.trans (if_neg (by omega)))
        clear h8 h16
        go_enter Try.func50, Try.ntmps50
        go_wp2_with fail
        go_ret
        exact ⟨by rw [hF.out]; rfl, B1.out⟩
end Go.Proofs.Ytggpodlecljcbaa
