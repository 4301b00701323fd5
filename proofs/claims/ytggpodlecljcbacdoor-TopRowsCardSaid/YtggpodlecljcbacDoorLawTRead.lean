/- The walk of the statement TopRead. -/
import Derived.Test.YtggpodlecljcbacDoorWalkI3
import Derived.Test.YtggpodlecljcbacDoorWalkR2
namespace Go.Proofs.YtggpodlecljcbacDoor
set_option linter.unusedSimpArgs false
set_option linter.unusedVariables false
open Go.RowKit Go.Sort
theorem top_numI (n : Nat) (w : World) : Calls Tryd.prog 6 #[errV n] w fun e w' => e = .returned (.int .i64 (n : Int)) ∧ w' = w := by
  by_cases hn : n = 0
  · subst hn
    rw [show errV 0 = .nilIface from rfl]
    go_enter Tryd.func6, Tryd.ntmps6
    go_wp2_with fail
    go_ret
    exact ⟨rfl, rfl⟩
  · rw [errV_pos hn]
    clear hn
    go_enter Tryd.func6, Tryd.ntmps6
    go_wp2_with fail
    go_ret
    exact ⟨rfl, rfl⟩
theorem light_lenI {l : List Change} {most : Int} (h : lightChanges l most = true) : (l.length : Int) ≤ most := by
  unfold lightChanges at h
  simp only [Bool.and_eq_true, decide_eq_true_eq] at h
  exact h.1
theorem fine_ok {q : Quilt} (h : quiltFault q = 0) : ∀ f ∈ q.files, f.ok := fun f hf => by
  have hf0 := (quilt_good h).2.2.1 f hf
  have h1 := name_len hf0
  have h2 := (file_parts hf0).2.1
  have hml : maxLen = 9223372036854775807 := rfl
  exact ⟨by omega, by omega⟩
theorem OwnQ.quilts {B : Nat} {w : World} {qv : Value} {q : Quilt} (h : OwnQ B w qv q) : Quilts w qv q := by
  obtain ⟨v, rfl, ho⟩ := h
  exact ⟨v, rfl, SL.of_own ho⟩
/-- rows of a quilt that may be. -/
theorem image_RowsG (qv : Value) (q : Quilt) (w : World) (hq : Quilts w qv q) (hg : GlobI w) (h : quiltFault q = 0) :
    Calls Tryd.prog 11 #[qv] w fun e w' => ∃ v, e = .returned v ∧ w'.ownsRow w.heap.size 41 3 v (rowsQ q).length ((rowsQ q).flatMap Change.cells) ∧ Below w.heap.size w w' := by
  obtain ⟨h1, h2, h3, h4, h5⟩ := quilt_good h
  exact image_Rows qv q w hq hg (by omega) (fun f hf => ⟨(file_parts (h3 f hf)).2.2.1, (file_parts (h3 f hf)).2.2.2, by have := name_len (h3 f hf); omega, by have := (file_parts (h3 f hf)).2.1; omega⟩) ⟨by omega, h5⟩
theorem fault_some {l : List Change} (h : faultI l = 0) : parseQ l = some (quiltI l) := by
  unfold faultI at h
  unfold quiltI
  cases hp : parseQ l with
  | none => rw [hp] at h; simp at h
  | some q => rfl
theorem fault_none {l : List Change} (h : faultI l ≠ 0) : faultI l = 4 ∧ quiltI l = noQuilt := by
  unfold faultI at h ⊢
  unfold quiltI
  cases hp : parseQ l with
  | none => exact ⟨by simp, rfl⟩
  | some q => rw [hp] at h; simp at h
theorem parse_nil : faultI [] = 4 := by
  unfold faultI parseQ foldQ
  decide
set_option maxRecDepth 100000 in
set_option maxHeartbeats 8000000 in
theorem law_TopRead (va : Value) (l : List Change) (w : World) (ha : Changes w va l) (hok : ∀ c ∈ l, c.ok) (hg : GlobI w) :
    Calls Tryd.prog 3 #[va] w fun e w' => e = .returned (.bool true) ∧ Below w.heap.size w w' := by
  have CP0 := image_Parse (.slice none 0 0) [] w (Rd.nil w) hg (by decide) (fun c hc => by cases hc)
  rw [parse_nil] at CP0
  obtain ⟨ao, ac, rfl, hac, hac'⟩ := ha.parts
  have HCP0 := Lib.hid CP0
  have HA := Lib.hid ha
  have HOK := Lib.hid hok
  have HG := Lib.hid hg
  clear CP0 ha hok hg
  go_enter Tryd.func3, Tryd.ntmps3
  go_wp2_with fail
  refine HCP0.out.mono ?_
  rintro e w1 ⟨qv, rfl, hq1, hb1⟩
  obtain ⟨v1, rfl, ho1⟩ := hq1
  obtain ⟨v1o, v1c, rfl, _, _⟩ := own_sliceI ho1
  have HB1 := Lib.hid hb1
  have CN := Lib.hid (fun W => top_numI 4 W)
  clear ho1 hb1
  go_wp2_with fail
  refine (CN.out _).mono ?_
  rintro e w2 ⟨rfl, hw2⟩
  rw [hw2]
  clear hw2 w2
  obtain ⟨W2, hW2⟩ : ∃ W2, W2 = w1.alloc (.cells #[.slice v1o (quiltI []).files.length v1c, .int .i64 (quiltI []).turn] 25) := ⟨_, rfl⟩
  have HB2 : Hid (Below w.heap.size w W2) := Lib.hid (by rw [hW2]; exact two HB1.out (below_alloc _ _))
  rw [← hW2]
  have CL := Lib.hid (law_LightChanges (.slice ao l.length ac) l 20 W2 (HA.out.below HB2.out) HOK.out)
  clear hW2
  go_wp2_with fail
  refine CL.out.mono ?_
  rintro e w3 ⟨rfl, rfl⟩
  cases hli : lightChanges l 20
  · go_wp2_with fail
    go_ret
    exact ⟨rfl, HB2.out⟩
  have hl20 : l.length ≤ 20 := by have := light_lenI hli; omega
  have CP := Lib.hid (image_Parse (.slice ao l.length ac) l W2 (HA.out.below HB2.out) (HG.out.below HB2.out) (by omega) HOK.out)
  clear hli
  go_wp2_with fail
  refine CP.out.mono ?_
  rintro e w4 ⟨qv4, rfl, hq4, hb4⟩
  obtain ⟨v4, rfl, ho4⟩ := hq4
  obtain ⟨fo, fc, rfl, hfc, hfc'⟩ := own_sliceI ho4
  obtain ⟨W5, hW5⟩ : ∃ W5, W5 = w4.alloc (.cells #[.slice fo (quiltI l).files.length fc, .int .i64 (quiltI l).turn] 25) := ⟨_, rfl⟩
  have HB5 : Hid (Below w.heap.size w W5) := Lib.hid (by rw [hW5]; exact two (two HB2.out hb4) (below_alloc _ _))
  have HQ5 : Hid (∀ W, Below W5.heap.size W5 W → Quilts W (.agg #[.slice fo (quiltI l).files.length fc, .int .i64 (quiltI l).turn]) (quiltI l)) := Lib.hid (fun W hW => ⟨_, rfl, Rd.below (Rd.below (SL.of_own ho4) (by rw [hW5]; exact below_alloc _ _)) hW⟩)
  have HX5 : Hid (∀ W, Below W5.heap.size W5 W → W.cell? ⟨w4.heap.size, 0, none⟩ = some (.slice fo (quiltI l).files.length fc) ∧ W.cell? ⟨w4.heap.size, 1, none⟩ = some (.int .i64 (quiltI l).turn)) := Lib.hid fun W hb => ⟨cell_on' hb (by rw [hW5]; simp), cell_on' hb (by rw [hW5]; simp)⟩
  have HW5 := Lib.hid hW5
  clear ho4 hb4 hW5
  by_cases hf : faultI l = 0
  · have hp := fault_some hf
    obtain ⟨hrq, hq0⟩ := rows_parse hp
    have HRQ := Lib.hid hrq
    have HQ0 := Lib.hid hq0
    have CK := quilt_Check _ (quiltI l) W5 (HQ5.out W5 (Below.refl _ _)) (fine_ok hq0)
    rw [hq0] at CK
    have HCK := Lib.hid CK
    rw [show errV (faultI l) = .nilIface by rw [hf]; rfl]
    clear hf hp hrq hq0 CK
    go_wp2_with fail
    rw [← HW5.out]
    obtain ⟨x0, x1⟩ := HX5.out W5 (Below.refl _ _)
    go_wp2_with fail
    refine HCK.out.mono ?_
    rintro e w6 ⟨rfl, hb6⟩
    have HB6 := Lib.hid hb6
    rw [show errV 0 = .nilIface from rfl]
    clear x0 x1
    obtain ⟨x0, x1⟩ := HX5.out w6 hb6
    have CR := Lib.hid (image_RowsG _ (quiltI l) w6 (HQ5.out w6 hb6) (HG.out.below (two HB5.out hb6)) HQ0.out)
    clear hb6
    go_wp2_with fail
    refine CR.out.mono ?_
    rintro e w7 ⟨v7, rfl, ho7, hb7⟩
    have HB7 := Lib.hid (two HB6.out hb7)
    have CS := ref_SameChanges v7 (.slice ao l.length ac) (rowsQ (quiltI l)) l w7 (SL.of_own ho7) (HA.out.below (two HB5.out HB7.out))
    rw [decide_eq_true HRQ.out] at CS
    have HCS := Lib.hid CS
    clear ho7 hb7 CS x0 x1
    go_wp2_with fail
    refine HCS.out.mono ?_
    rintro e w8 ⟨rfl, hb8⟩
    have HB8 := Lib.hid (two HB7.out hb8)
    clear hb8
    go_wp2_with fail
    go_ret
    exact ⟨rfl, two HB5.out HB8.out⟩
  · obtain ⟨h4, hqn⟩ := fault_none hf
    have CS := ref_SameQuilt _ (.agg #[.slice none 0 0, .int .i64 0]) (quiltI l) noQuilt W5 (HQ5.out W5 (Below.refl _ _)) ⟨_, rfl, Rd.nil _⟩
    rw [decide_eq_true hqn] at CS
    have HCS := Lib.hid CS
    rw [errV_pos hf]
    clear hf h4 hqn CS
    go_wp2_with fail
    rw [← HW5.out]
    obtain ⟨x0, x1⟩ := HX5.out W5 (Below.refl _ _)
    go_wp2_with fail
    refine HCS.out.mono ?_
    rintro e w6 ⟨rfl, hb6⟩
    have HB6 := Lib.hid (two HB5.out hb6)
    clear hb6 x0 x1
    go_wp2_with fail
    go_ret
    exact ⟨rfl, HB6.out⟩
theorem read_top (va : Value) (l : List Change) (w : World) (ha : Changes w va l) (hok : ∀ c ∈ l, c.ok) (hg : GlobI w) :
    Calls Tryd.prog 3 #[va] w fun e w' => e = .returned (.bool true) ∧ Below w.heap.size w w' := law_TopRead va l w ha hok hg
end Go.Proofs.YtggpodlecljcbacDoor
