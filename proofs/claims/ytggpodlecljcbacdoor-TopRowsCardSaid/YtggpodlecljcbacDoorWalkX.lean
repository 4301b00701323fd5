/- The walks of chapter 7: row.Check, the document's ChangeFault. The walks of chapter 7: bytes of a change, and back. The walks of chapter 7: a change of bytes. -/
import Derived.Test.YtggpodlecljcbacDoorSpecX2
import Derived.Laws.IdiomStrings
namespace Go.Proofs.YtggpodlecljcbacDoor
open Go.RowKit Go.Sort
set_option linter.unusedSimpArgs false
set_option linter.unusedVariables false
theorem cf_key {k v : ByteArray} {g : Bool} (h : k.toList = []) : changeFault ⟨k, v, g⟩ = 3 := by simp [changeFault, h]
theorem cf_gone {k v : ByteArray} (h : ¬ k.toList = []) (h2 : ¬ v.toList = []) : changeFault ⟨k, v, true⟩ = 3 := by simp [changeFault, h, h2]
theorem cf_long {k v : ByteArray} {g : Bool} (h : ¬ k.toList = []) (h2 : g = false ∨ v.toList = []) (h3 : 8 < k.size ∨ 16 < v.size) : changeFault ⟨k, v, g⟩ = 2 := by
  rcases h2 with rfl | h2 <;> simp [changeFault, h, h3, *]
theorem cf_good {k v : ByteArray} {g : Bool} (h : ¬ k.toList = []) (h2 : g = false ∨ v.toList = []) (h3 : ¬ (8 < k.size ∨ 16 < v.size)) : changeFault ⟨k, v, g⟩ = 0 := by
  rcases h2 with rfl | h2 <;> simp [changeFault, h, h3, *]
set_option maxHeartbeats 2000000 in
theorem ref_ChangeFault (k v : ByteArray) (g : Bool) (w : World) (hk : k.size ≤ maxLen) (hv : v.size ≤ maxLen) :
    Calls Tryd.prog 14 #[.agg #[.string k, .string v, .bool g]] w fun e w' => e = .returned (.int .i64 (changeFault ⟨k, v, g⟩)) ∧ Below w.heap.size w w' := by
  unfold maxLen at hk hv
  have B1 := Lib.hid (below_alloc w (.cells #[.string k, .string v, .bool g] 41))
  by_cases hk0 : k.toList = []
  · have hF := Lib.hid (cf_key (v := v) (g := g) hk0)
    have he : k.toList.isEmpty = true := by rw [hk0]; rfl
    go_enter Tryd.func14, Tryd.ntmps14
    go_wp2_with fail
    go_ret
    exact ⟨by rw [hF.out]; rfl, B1.out⟩
  have he : k.toList.isEmpty = false := by cases hh : k.toList with | nil => exact absurd hh hk0 | cons a r => rfl
  by_cases hgv : g = true ∧ ¬ v.toList = []
  · obtain ⟨rfl, hv0⟩ := hgv
    have hF := Lib.hid (cf_gone hk0 hv0)
    have hve : v.toList.isEmpty = false := by cases hh : v.toList with | nil => exact absurd hh hv0 | cons a r => rfl
    go_enter Tryd.func14, Tryd.ntmps14
    go_wp2_with fail
    go_ret
    exact ⟨by rw [hF.out]; rfl, B1.out⟩
  have hgv2 : g = false ∨ v.toList = [] := by
    cases g
    · exact Or.inl rfl
    · exact Or.inr (Classical.byContradiction fun h => hgv ⟨rfl, h⟩)
  clear hgv
  have key : changeFault ⟨k, v, g⟩ = if 8 < k.size ∨ 16 < v.size then 2 else 0 := by
    by_cases h3 : 8 < k.size ∨ 16 < v.size
    · rw [if_pos h3]; exact cf_long hk0 hgv2 h3
    · rw [if_neg h3]; exact cf_good hk0 hgv2 h3
  have HK := Lib.hid key
  clear key
  rcases hgv2 with rfl | hv0
  rotate_left
  · have hve : v.toList.isEmpty = true := by rw [hv0]; rfl
    cases g
    all_goals
      by_cases h8 : 8 < k.size
      · have h8' : (8 : Int) < (k.size : Int) := by omega
        have hF := Lib.hid (HK.out.trans (if_pos (Or.inl h8)))
        clear h8
        go_enter Tryd.func14, Tryd.ntmps14
        go_wp2_with fail
        go_ret
        exact ⟨by rw [hF.out]; rfl, B1.out⟩
      · have h8' : ¬ (8 : Int) < (k.size : Int) := by omega
        by_cases h16 : 16 < v.size
        · have h16' : (16 : Int) < (v.size : Int) := by omega
          have hF := Lib.hid (HK.out.trans (if_pos (Or.inr h16)))
          clear h8 h16
          go_enter Tryd.func14, Tryd.ntmps14
          go_wp2_with fail
          go_ret
          exact ⟨by rw [hF.out]; rfl, B1.out⟩
        · have h16' : ¬ (16 : Int) < (v.size : Int) := by omega
          have hF := Lib.hid (HK.out.trans (if_neg (by omega)))
          clear h8 h16
          go_enter Tryd.func14, Tryd.ntmps14
          go_wp2_with fail
          go_ret
          exact ⟨by rw [hF.out]; rfl, B1.out⟩
  · by_cases h8 : 8 < k.size
    · have h8' : (8 : Int) < (k.size : Int) := by omega
      have hF := Lib.hid (HK.out.trans (if_pos (Or.inl h8)))
      clear h8
      go_enter Tryd.func14, Tryd.ntmps14
      go_wp2_with fail
      go_ret
      exact ⟨by rw [hF.out]; rfl, B1.out⟩
    · have h8' : ¬ (8 : Int) < (k.size : Int) := by omega
      by_cases h16 : 16 < v.size
      · have h16' : (16 : Int) < (v.size : Int) := by omega
        have hF := Lib.hid (HK.out.trans (if_pos (Or.inr h16)))
        clear h8 h16
        go_enter Tryd.func14, Tryd.ntmps14
        go_wp2_with fail
        go_ret
        exact ⟨by rw [hF.out]; rfl, B1.out⟩
      · have h16' : ¬ (16 : Int) < (v.size : Int) := by omega
        have hF := Lib.hid (HK.out.trans (if_neg (by omega)))
        clear h8 h16
        go_enter Tryd.func14, Tryd.ntmps14
        go_wp2_with fail
        go_ret
        exact ⟨by rw [hF.out]; rfl, B1.out⟩
end Go.Proofs.YtggpodlecljcbacDoor
namespace Go.Proofs.YtggpodlecljcbacDoor
open Go.RowKit Go.Sort
set_option linter.unusedSimpArgs false
set_option linter.unusedVariables false
theorem cf_sizes {c : Change} (h : changeFault c = 0) : c.key.size ≤ 8 ∧ c.val.size ≤ 16 := by
  unfold changeFault at h
  split at h
  · cases h
  · split at h
    · cases h
    · omega
theorem conv_gone0 (n : Nat) (hn : n ≤ 255) (w : World) : (convert 62 9 (.slice (some ⟨w.heap.size, 0, none⟩) 2 2)).run Tryd.prog (w.alloc (.cells #[.int .u8 0, .int .u8 (n : Int)] 5)) = .ok (.string ⟨#[0, n.toUInt8]⟩) (w.alloc (.cells #[.int .u8 0, .int .u8 (n : Int)] 5)) := by
  refine run_convert_bytes_back (P := Tryd.prog) (w.alloc (.cells #[.int .u8 0, .int .u8 (n : Int)] 5)) 62 9 5 ⟨w.heap.size, 0, none⟩ 2 [0, n.toUInt8] Tryd.underlying62 Tryd.underlying5 Tryd.underlying9 (fun j hj => ?_)
  rw [Addr.add_lit]
  match j, hj with
  | 0, _ => simp
  | 1, _ => simp; omega
theorem conv_gone1 (n : Nat) (hn : n ≤ 255) (w : World) : (convert 62 9 (.slice (some ⟨w.heap.size, 0, none⟩) 2 2)).run Tryd.prog (w.alloc (.cells #[.int .u8 1, .int .u8 (n : Int)] 5)) = .ok (.string ⟨#[1, n.toUInt8]⟩) (w.alloc (.cells #[.int .u8 1, .int .u8 (n : Int)] 5)) := by
  refine run_convert_bytes_back (P := Tryd.prog) (w.alloc (.cells #[.int .u8 1, .int .u8 (n : Int)] 5)) 62 9 5 ⟨w.heap.size, 0, none⟩ 2 [1, n.toUInt8] Tryd.underlying62 Tryd.underlying5 Tryd.underlying9 (fun j hj => ?_)
  rw [Addr.add_lit]
  match j, hj with
  | 0, _ => simp
  | 1, _ => simp; omega
end Go.Proofs.YtggpodlecljcbacDoor
namespace Go.Proofs.YtggpodlecljcbacDoor
open Go.RowKit Go.Sort
set_option linter.unusedSimpArgs false
set_option linter.unusedVariables false
/-- A box of a change. -/
structure QXAt (w : World) (b : Nat) (c : Change) : Prop where
  c0 : w.cell? ⟨b, 0, none⟩ = some (.string c.key)
  c1 : w.cell? ⟨b, 1, none⟩ = some (.string c.val)
  c2 : w.cell? ⟨b, 2, none⟩ = some (.bool c.gone)
  f0 : w.frozen? ⟨b, 0, none⟩ = false
  f1 : w.frozen? ⟨b, 1, none⟩ = false
  f2 : w.frozen? ⟨b, 2, none⟩ = false
  lt : b < w.heap.size
theorem QXAt.new (w : World) (c : Change) : QXAt (w.alloc (.cells #[.string c.key, .string c.val, .bool c.gone] 41)) w.heap.size c := ⟨by simp, by simp, by simp, by simp, by simp, by simp, by simp⟩
theorem QXAt.below {w w' : World} {b : Nat} {c : Change} (h : QXAt w b c) (hb : Below w.heap.size w w') : QXAt w' b c := by
  obtain ⟨k, fr⟩ := bcell hb
  exact ⟨(k _ _ h.lt).trans h.c0, (k _ _ h.lt).trans h.c1, (k _ _ h.lt).trans h.c2, (fr _ _ h.lt).trans h.f0, (fr _ _ h.lt).trans h.f1, (fr _ _ h.lt).trans h.f2, Nat.lt_of_lt_of_le h.lt hb.size⟩
end Go.Proofs.YtggpodlecljcbacDoor
