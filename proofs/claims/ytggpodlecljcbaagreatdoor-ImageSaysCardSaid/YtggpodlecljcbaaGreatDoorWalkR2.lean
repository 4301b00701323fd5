/- The walks of chapter 3: is a quilt fine; an act done. -/
import Derived.Test.YtggpodlecljcbaaGreatDoorWalkR
import Derived.Test.YtggpodlecljcbaaGreatDoorWalkQ4
namespace Go.Proofs.YtggpodlecljcbaaGreatDoor
open Go.RowKit Go.Sort
set_option linter.unusedSimpArgs false
set_option linter.unusedVariables false
theorem qf_files {q : Quilt} (h : filesFault q.files ≠ 0) : quiltFault q = filesFault q.files := by unfold quiltFault; rw [if_pos h]
theorem qf_turn {q : Quilt} (h : filesFault q.files = 0) (ht : q.turn < 1 ∨ 9999 < q.turn) : quiltFault q = 1 := by unfold quiltFault; rw [if_neg (by simp [h]), if_pos ht]
theorem qf_good {q : Quilt} (h : filesFault q.files = 0) (ht : ¬ (q.turn < 1 ∨ 9999 < q.turn)) : quiltFault q = 0 := by unfold quiltFault; rw [if_neg (by simp [h]), if_neg ht]
theorem qbox1 (w : World) (v : Value) (t : Int) : ∀ W, Below (w.alloc (.cells #[v, .int .i64 t] 24)).heap.size (w.alloc (.cells #[v, .int .i64 t] 24)) W → W.cell? ⟨w.heap.size, 0, none⟩ = some v ∧ W.cell? ⟨w.heap.size, 1, none⟩ = some (.int .i64 t) := by
  intro W hb
  obtain ⟨hc, _⟩ := bcell hb
  exact ⟨(hc _ _ (by simp)).trans (by simp), (hc _ _ (by simp)).trans (by simp)⟩

set_option maxHeartbeats 1000000 in
theorem quilt_Check (qv : Value) (q : Quilt) (w : World) (hq : Quilts w qv q) (hok : ∀ f ∈ q.files, f.ok) :
    Calls Tryz.prog 24 #[qv] w fun e w' => e = .returned (errV (quiltFault q)) ∧ Below w.heap.size w w' := by
  obtain ⟨v, rfl, hf⟩ := hq
  have C := fun W hb => shelf_Check v q.files W (hf.below hb) hok
  have BX := Lib.hid (qbox1 w v q.turn)
  have HB1 := Lib.hid (below_alloc w (.cells #[v, .int .i64 q.turn] 24))
  by_cases h0 : filesFault q.files = 0
  · rw [h0, errV_zero] at C
    replace C := Lib.hid C
    by_cases h1 : q.turn < 1
    · have HD := Lib.hid (qf_turn h0 (Or.inl h1))
      clear h0 hf
      go_enter Tryz.func24, Tryz.ntmps24
      go_wp2_with fail
      refine (C.out _ HB1.out).mono ?_
      rintro e w2 ⟨rfl, hb2⟩
      obtain ⟨z0, z1⟩ := BX.out _ hb2
      have HB2 := Lib.hid (two HB1.out hb2)
      clear hb2
      go_wp2_with fail
      go_ret
      exact ⟨by rw [HD.out]; rfl, HB2.out⟩
    · by_cases h2 : 9999 < q.turn
      · have HD := Lib.hid (qf_turn h0 (Or.inr h2))
        clear h0 hf
        go_enter Tryz.func24, Tryz.ntmps24
        go_wp2_with fail
        refine (C.out _ HB1.out).mono ?_
        rintro e w2 ⟨rfl, hb2⟩
        obtain ⟨z0, z1⟩ := BX.out _ hb2
        have HB2 := Lib.hid (two HB1.out hb2)
        clear hb2
        go_wp2_with fail
        go_ret
        exact ⟨by rw [HD.out]; rfl, HB2.out⟩
      · have HD := Lib.hid (qf_good h0 (by omega))
        clear h0 hf
        go_enter Tryz.func24, Tryz.ntmps24
        go_wp2_with fail
        refine (C.out _ HB1.out).mono ?_
        rintro e w2 ⟨rfl, hb2⟩
        obtain ⟨z0, z1⟩ := BX.out _ hb2
        have HB2 := Lib.hid (two HB1.out hb2)
        clear hb2
        go_wp2_with fail
        go_ret
        exact ⟨by rw [HD.out]; rfl, HB2.out⟩
  · have HD := Lib.hid (qf_files h0)
    have HN := Lib.hid h0
    rw [errV_pos h0] at C
    replace C := Lib.hid C
    clear h0 hf
    go_enter Tryz.func24, Tryz.ntmps24
    go_wp2_with fail
    refine (C.out _ HB1.out).mono ?_
    rintro e w2 ⟨rfl, hb2⟩
    have HB2 := Lib.hid (two HB1.out hb2)
    clear hb2
    go_wp2_with fail
    go_ret
    exact ⟨by rw [HD.out, errV_pos HN.out]; rfl, HB2.out⟩

set_option maxHeartbeats 1000000 in
theorem ref_QuiltFault (qv : Value) (q : Quilt) (w : World) (hq : Quilts w qv q) (hok : ∀ f ∈ q.files, f.ok) :
    Calls Tryz.prog 7 #[qv] w fun e w' => e = .returned (.int .i64 (quiltFault q)) ∧ Below w.heap.size w w' := by
  obtain ⟨v, rfl, hf⟩ := hq
  have C := fun W hb => ref_FilesFault v q.files W (hf.below hb) hok
  have BX := Lib.hid (qbox1 w v q.turn)
  have HB1 := Lib.hid (below_alloc w (.cells #[v, .int .i64 q.turn] 24))
  by_cases h0 : filesFault q.files = 0
  · rw [h0] at C
    replace C := Lib.hid C
    have hcs : (q.turn < 1 ∧ quiltFault q = 1) ∨ (¬ q.turn < 1 ∧ 9999 < q.turn ∧ quiltFault q = 1) ∨ (¬ q.turn < 1 ∧ ¬ 9999 < q.turn ∧ quiltFault q = 0) := by
      by_cases h1 : q.turn < 1
      · exact Or.inl ⟨h1, qf_turn h0 (Or.inl h1)⟩
      · by_cases h2 : 9999 < q.turn
        · exact Or.inr (Or.inl ⟨h1, h2, qf_turn h0 (Or.inr h2)⟩)
        · exact Or.inr (Or.inr ⟨h1, h2, qf_good h0 (by omega)⟩)
    clear h0 hf
    rcases hcs with ⟨h1, hd⟩ | ⟨h1, h2, hd⟩ | ⟨h1, h2, hd⟩
    all_goals
      have HD := Lib.hid hd
      clear hd
      go_enter Tryz.func7, Tryz.ntmps7
      go_wp2_with fail
      refine (C.out _ HB1.out).mono ?_
      rintro e w2 ⟨rfl, hb2⟩
      obtain ⟨z0, z1⟩ := BX.out _ hb2
      have HB2 := Lib.hid (two HB1.out hb2)
      clear hb2
      go_wp2_with fail
      go_ret
      exact ⟨by rw [HD.out]; rfl, HB2.out⟩
  · have HD := Lib.hid (qf_files h0)
    have hpos : (0 : Int) < (filesFault q.files : Int) := by omega
    replace C := Lib.hid C
    clear h0 hf
    go_enter Tryz.func7, Tryz.ntmps7
    go_wp2_with fail
    refine (C.out _ HB1.out).mono ?_
    rintro e w2 ⟨rfl, hb2⟩
    have HB2 := Lib.hid (two HB1.out hb2)
    clear hb2
    go_wp2_with fail
    go_ret
    exact ⟨by rw [HD.out]; rfl, HB2.out⟩

def doAct (q : Quilt) (a : Act) : Quilt × Nat :=
  if (a.kind.toList == [119, 114, 105, 116, 101]) = true then writtenQ q a.s a.t else if (a.kind.toList == [100, 114, 111, 112]) = true then droppedQ q a.s else if (a.kind.toList == [110, 97, 109, 101]) = true then renamedQ q a.s a.t else if (a.kind.toList == [115, 119, 97, 112]) = true then swappedQ q a.s a.t else (q, 0)
theorem do_good {q : Quilt} (h : Good q) (a : Act) (h0 : (doAct q a).2 = 0) : Good (doAct q a).1 := by
  unfold doAct at h0 ⊢
  split
  · rename_i hh; rw [if_pos hh] at h0; exact (written_good h _ _ h0).1
  · rename_i hh
    rw [if_neg hh] at h0
    split
    · rename_i hh; rw [if_pos hh] at h0; exact (dropped_good h _ h0).1
    · rename_i hh
      rw [if_neg hh] at h0
      split
      · rename_i hh; rw [if_pos hh] at h0; exact (renamed_good h _ _ h0).1
      · rename_i hh
        rw [if_neg hh] at h0
        split
        · rename_i hh; rw [if_pos hh] at h0; exact (swapped_good h _ _ h0).1
        · exact h
end Go.Proofs.YtggpodlecljcbaaGreatDoor
