/- The closed fact of chapter 5. -/
import Derived.Test.YtggpodlecljcbaaGreatDoorLawTRead
import Derived.Test.YtggpodlecljcbaaGreatDoorWalkI7
import Derived.Test.YtggpodlecljcbaaGreatDoorWalkQ
import Derived.Deep.RegionHeld3
import Derived.Deep.CutRange
namespace Go.Proofs.YtggpodlecljcbaaGreatDoor
set_option linter.unusedSimpArgs false
set_option linter.unusedVariables false
open Go.RowKit Go.Sort
theorem ref_RowsOfG (qv : Value) (q : Quilt) (w : World) (hq : Quilts w qv q) (h : quiltFault q = 0) :
    Calls Tryz.prog 10 #[qv] w fun e w' => ∃ v, e = .returned v ∧ w'.ownsRow w.heap.size 41 3 v (rowsQ q).length ((rowsQ q).flatMap Change.cells) ∧ Below w.heap.size w w' := by
  obtain ⟨h1, h2, h3, h4, h5⟩ := quilt_good h
  exact ref_RowsOf qv q w hq (by omega) (fun f hf => ⟨(file_parts (h3 f hf)).2.2.1, (file_parts (h3 f hf)).2.2.2, by have := name_len (h3 f hf); omega, by have := (file_parts (h3 f hf)).2.1; omega⟩) ⟨by omega, h5⟩
theorem one_changeI {w : World} {b : Nat} (f : Change) (h0 : w.cell? ⟨b, 0, none⟩ = some (.string f.key)) (h1 : w.cell? ⟨b, 1, none⟩ = some (.string f.val)) (h2 : w.cell? ⟨b, 2, none⟩ = some (.bool f.gone)) : Changes w (.slice (some ⟨b, 0, none⟩) 1 1) [f] := by
  refine ⟨rfl, some ⟨b, 0, none⟩, 1, rfl, Nat.le_refl _, by decide, (fun _ h => by cases h), fun j u hj => ⟨b, 0, rfl, ?_⟩⟩
  rw [Nat.zero_add]
  match j, hj with
  | 0, hj => simp [Change.cells] at hj; subst hj; exact h0
  | 1, hj => simp [Change.cells] at hj; subst hj; exact h1
  | 2, hj => simp [Change.cells] at hj; subst hj; exact h2
theorem new_faultI : quiltFault ⟨[], 1⟩ = 0 := by decide
theorem rows_newI : rowsQ ⟨[], 1⟩ = [⟨⟨#[116, 117, 114, 110]⟩, ⟨#[48, 48, 48, 49]⟩, false⟩] := by decide +kernel
theorem change_okI {c : Change} (h : changeFault c = 0) : c.ok := by
  have hml : maxLen = 9223372036854775807 := rfl
  unfold changeFault at h
  split at h
  · cases h
  · split at h
    · cases h
    · exact ⟨by omega, by omega⟩
set_option maxRecDepth 100000 in
set_option maxHeartbeats 4000000 in
theorem law_images (w : World) (hg : GlobI w) : Calls Tryz.prog 4 #[] w fun e w' => e = .returned (.bool true) ∧ Below w.heap.size w w' := by
  have CN := Lib.hid (quilt_New w)
  have HG := Lib.hid hg
  have CS := Lib.hid fun W => law_same 0 0 W
  clear hg
  go_enter Tryz.func4, Tryz.ntmps4
  go_wp2_with fail
  refine CN.out.mono ?_
  rintro e w1 ⟨qn, rfl, hqn, hb1⟩
  have HB1 := Lib.hid hb1
  have CR := Lib.hid (image_RowsG qn ⟨[], 1⟩ w1 hqn (HG.out.below hb1) new_faultI)
  clear hqn hb1
  go_wp2_with fail
  refine CR.out.mono ?_
  rintro e w2 ⟨v2, rfl, ho2, hb2⟩
  have HB2 := Lib.hid (two HB1.out hb2)
  have CP := image_Parse v2 (rowsQ ⟨[], 1⟩) w2 (SL.of_own ho2) (HG.out.below HB2.out) (by decide) (fun c hc => change_okI ((rowsQ_good new_faultI).2.1 c hc).1)
  obtain ⟨hfa, hqa⟩ : faultI (rowsQ ⟨[], 1⟩) = 0 ∧ quiltI (rowsQ ⟨[], 1⟩) = ⟨[], 1⟩ := by
    unfold faultI quiltI
    rw [parse_rows new_faultI]
    exact ⟨rfl, rfl⟩
  rw [hfa, hqa] at CP
  have HCP := Lib.hid CP
  have HC2 : Hid (∀ W, Below w2.heap.size w2 W → Changes W v2 [⟨⟨#[116, 117, 114, 110]⟩, ⟨#[48, 48, 48, 49]⟩, false⟩]) := Lib.hid (fun W hW => by
    rw [← rows_newI]
    exact Rd.below (SL.of_own ho2) hW)
  clear ho2 hb2 CP hfa hqa
  go_wp2_with fail
  refine HCP.out.mono ?_
  rintro e w4 ⟨q4, rfl, hq4, hb4⟩
  obtain ⟨v4, rfl, ho4⟩ := hq4
  obtain ⟨v4o, v4c, rfl, _, _⟩ := own_sliceI ho4
  rw [show errV 0 = .nilIface from rfl] at *
  obtain ⟨W5, hW5⟩ : ∃ W5, W5 = w4.alloc (.cells #[.slice v4o 0 v4c, .int .i64 1] 24) := ⟨_, rfl⟩
  have HB5 : Hid (Below w2.heap.size w2 W5) := Lib.hid (by rw [hW5]; exact two hb4 (below_alloc _ _))
  have HT5 : Hid (∀ W, Below W5.heap.size W5 W → W.cell? ⟨w4.heap.size, 1, none⟩ = some (.int .i64 1)) := Lib.hid fun W hb => cell_on' hb (by rw [hW5]; simp)
  have HW5 := Lib.hid hW5
  clear ho4 hb4 hW5
  go_wp2_with fail
  rw [show w4.alloc (.cells #[.slice v4o 0 v4c, .int .i64 1] 24) = W5 from HW5.out.symm]
  refine (CS.out W5).mono ?_
  rintro e w6 ⟨rfl, rfl⟩
  have y1 := HT5.out W5 (Below.refl _ _)
  have CC := Lib.hid (ref_SameChanges v2 (.slice (some ⟨W5.heap.size, 0, none⟩) 1 1) [⟨⟨#[116, 117, 114, 110]⟩, ⟨#[48, 48, 48, 49]⟩, false⟩] [⟨⟨#[116, 117, 114, 110]⟩, ⟨#[48, 48, 48, 49]⟩, false⟩] (W5.alloc (.cells #[.string ⟨#[116, 117, 114, 110]⟩, .string ⟨#[48, 48, 48, 49]⟩, .bool false] 41)) (HC2.out _ (two HB5.out (below_alloc _ _))) (one_changeI ⟨⟨#[116, 117, 114, 110]⟩, ⟨#[48, 48, 48, 49]⟩, false⟩ (by simp) (by simp) (by simp)))
  go_wp2_with fail
  refine CC.out.mono ?_
  rintro e w7 ⟨rfl, hb7⟩
  have HB7 := Lib.hid (two HB2.out (two HB5.out (two (below_alloc _ _) hb7)))
  clear hb7
  go_wp2_with fail
  go_ret
  exact ⟨rfl, HB7.out⟩
end Go.Proofs.YtggpodlecljcbaaGreatDoor
