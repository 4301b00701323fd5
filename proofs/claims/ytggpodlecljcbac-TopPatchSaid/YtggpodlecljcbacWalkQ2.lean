/- The walks of chapter 3: writing, dropping. -/
import Derived.Test.YtggpodlecljcbacWalkQ
import Derived.Test.YtggpodlecljcbacLawH
namespace Go.Proofs.Ytggpodlecljcbac
open Go.RowKit Go.Sort
set_option linter.unusedSimpArgs false
set_option linter.unusedVariables false
theorem times_range {q : Quilt} (h : Good q) (name : ByteArray) : 0 ≤ timesOf q name ∧ timesOf q name ≤ 9999 := by
  unfold timesOf
  cases hg : getAt q.files name with
  | none => exact ⟨by decide, by decide⟩
  | some f =>
    have := file_good (h.fine.each f (h.fine.mem hg).1)
    exact ⟨by simp only [Option.getD_some]; omega, by simp only [Option.getD_some]; omega⟩

set_option maxHeartbeats 1000000 in
theorem quilt_Write (qv : Value) (q : Quilt) (name text : ByteArray) (w : World) (hq : Quilts w qv q) (hg : Good q) (hn : name.size ≤ maxLen) (ht : text.size ≤ maxLen) :
    Calls Try.prog 30 #[qv, .string name, .string text] w (RetQE (writtenQ q name text) w) := by
  obtain ⟨v, rfl, hf⟩ := hq
  obtain ⟨W2, hW2⟩ : ∃ W2, W2 = qw w v q.turn := ⟨_, rfl⟩
  have BX := qw_box w v q.turn
  have HB2 := Lib.hid (qw_below w v q.turn)
  rw [← hW2] at BX HB2
  have HBX := Lib.hid BX
  have HF := Lib.hid hf
  obtain ⟨ao, ca, rfl, hca, hca'⟩ := hf.parts
  unfold qw at hW2
  have HW2 := Lib.hid hW2
  have HG := Lib.hid hg
  have CG := fun W hb => shelf_Get _ q.files name W (hf.below hb) hg.fine.len hg.fine.rises
  have CP := fun W hb => shelf_Put _ q.files ⟨name, text, timesOf q name + 1⟩ W (hf.below hb) ⟨hn, ht⟩ hg.fine.len hg.fine.rises
  obtain ⟨p, hp⟩ : ∃ p, p = putAt q.files ⟨name, text, timesOf q name + 1⟩ := ⟨_, rfl⟩
  have HD : Hid (writtenQ q name text = nextQ q p) := Lib.hid (by rw [hp]; rfl)
  rw [← hp] at CP
  have CN := Lib.hid fun W lv (hb : Below w.heap.size w W) h => quilt_next (.agg #[.slice ao q.files.length ca, .int .i64 q.turn]) q lv p.1 p.2 W ⟨_, rfl, HF.out.below hb⟩ h HG.out.lo HG.out.hi
  have ht1 := times_range HG.out name
  obtain ⟨g, hgg⟩ : ∃ g, g = fileOr (getAt q.files name) := ⟨_, rfl⟩
  have htt : timesOf q name = g.times := by rw [hgg]; rfl
  unfold RetFile File.val at CG
  rw [← hgg] at CG
  obtain ⟨b, hbb⟩ : ∃ b, b = (getAt q.files name).isSome := ⟨_, rfl⟩
  rw [← hbb] at CG
  unfold RetFilesE File.val at CP
  rw [htt] at CP ht1
  unfold RetQE at CN
  obtain ⟨hg0, hg1⟩ := ht1
  have hg1' : g.times + 1 ≤ 10000 := by omega
  replace CG := Lib.hid CG
  replace CP := Lib.hid CP
  clear hp hbb htt hgg
  clear BX hW2 hf hg
  go_enter Try.func30, Try.ntmps30
  go_wp2_with fail
  rw [← HW2.out]
  refine (CG.out _ HB2.out).mono ?_
  rintro e w3 ⟨rfl, hb3⟩
  have BF := Lib.hid (box_new w3 g)
  have HB3 := Lib.hid (two hb3 (below_alloc w3 (.cells #[.string g.name, .string g.text, .int .i64 g.times] 41)))
  obtain ⟨z0, z1, z2, z3, z4, z5, hns⟩ := HBX.out _ HB3.out
  clear hb3 hns
  go_wp2_with fail
  refine (CP.out _ (two HB2.out HB3.out)).mono ?_
  rintro e w4 ⟨lv, rfl, hl, hb4⟩
  have HL := Lib.hid hl
  have HB4 := Lib.hid (two HB3.out hb4)
  clear hl hb4 z0 z1 z2 z3 z4 z5
  obtain ⟨z0, z1, z2, z3, z4, z5, hns⟩ := HBX.out _ HB4.out
  clear hns
  go_wp2_with fail
  refine (CN.out _ _ (two HB2.out HB4.out) HL.out).mono ?_
  rintro e w5 ⟨qv', rfl, ⟨v', rfl, hf'⟩, hb5⟩
  obtain ⟨ao', ca', rfl, _, _⟩ := hf'.parts
  have HF' := Lib.hid hf'
  have HB5 := Lib.hid (two HB4.out hb5)
  clear hf' hb5 z0 z1 z2 z3 z4 z5
  obtain ⟨z0, z1, z2, z3, z4, z5, hns⟩ := HBX.out _ HB5.out
  have HNS := Lib.hid hns
  clear hns
  go_wp2_with fail
  have HBF := ((two HB2.out HB5.out).setCell (p := ⟨w.heap.size + 1, 0, none⟩) (by simp) (.slice ao' (nextQ q p).1.files.length ca')).setCell (p := ⟨w.heap.size + 1, 1, none⟩) (by simp) (.int .i64 (nextQ q p).1.turn)
  refine bodyPost_ret (v := .tuple #[.agg #[.slice ao' (nextQ q p).1.files.length ca', .int .i64 (nextQ q p).1.turn], errV (nextQ q p).2]) (by simp [results, Try.results30, go_sem, z0, z1, z2, z3, z4, z5]) rfl ?_
  exact ⟨_, by rw [HD.out], by rw [HD.out]; exact quilt_laid HF'.out HNS.out (files_not_str HF'.out), HBF⟩

set_option maxHeartbeats 1000000 in
theorem quilt_Drop (qv : Value) (q : Quilt) (name : ByteArray) (w : World) (hq : Quilts w qv q) (hg : Good q) :
    Calls Try.prog 32 #[qv, .string name] w (RetQE (droppedQ q name) w) := by
  obtain ⟨v, rfl, hf⟩ := hq
  obtain ⟨W2, hW2⟩ : ∃ W2, W2 = qw w v q.turn := ⟨_, rfl⟩
  have BX := qw_box w v q.turn
  have HB2 := Lib.hid (qw_below w v q.turn)
  rw [← hW2] at BX HB2
  have HBX := Lib.hid BX
  have HF := Lib.hid hf
  obtain ⟨ao, ca, rfl, hca, hca'⟩ := hf.parts
  unfold qw at hW2
  have HW2 := Lib.hid hW2
  have HG := Lib.hid hg
  have CP := fun W hb => shelf_Drop _ q.files name W (hf.below hb) hg.fine.len hg.fine.rises
  obtain ⟨p, hp⟩ : ∃ p, p = dropAt q.files name := ⟨_, rfl⟩
  have HD : Hid (droppedQ q name = nextQ q p) := Lib.hid (by rw [hp]; rfl)
  rw [← hp] at CP
  have CN := Lib.hid fun W lv (hb : Below w.heap.size w W) h => quilt_next (.agg #[.slice ao q.files.length ca, .int .i64 q.turn]) q lv p.1 p.2 W ⟨_, rfl, HF.out.below hb⟩ h HG.out.lo HG.out.hi
  unfold RetFilesE at CP
  unfold RetQE at CN
  replace CP := Lib.hid CP
  clear hp
  clear BX hW2 hf hg
  go_enter Try.func32, Try.ntmps32
  go_wp2_with fail
  rw [← HW2.out]
  refine (CP.out _ HB2.out).mono ?_
  rintro e w4 ⟨lv, rfl, hl, hb4⟩
  have HL := Lib.hid hl
  have HB4 := Lib.hid hb4
  clear hl hb4
  obtain ⟨z0, z1, z2, z3, z4, z5, hns⟩ := HBX.out _ HB4.out
  clear hns
  go_wp2_with fail
  refine (CN.out _ _ (two HB2.out HB4.out) HL.out).mono ?_
  rintro e w5 ⟨qv', rfl, ⟨v', rfl, hf'⟩, hb5⟩
  obtain ⟨ao', ca', rfl, _, _⟩ := hf'.parts
  have HF' := Lib.hid hf'
  have HB5 := Lib.hid (two HB4.out hb5)
  clear hf' hb5 z0 z1 z2 z3 z4 z5
  obtain ⟨z0, z1, z2, z3, z4, z5, hns⟩ := HBX.out _ HB5.out
  have HNS := Lib.hid hns
  clear hns
  go_wp2_with fail
  have HBF := ((two HB2.out HB5.out).setCell (p := ⟨w.heap.size + 1, 0, none⟩) (by simp) (.slice ao' (nextQ q p).1.files.length ca')).setCell (p := ⟨w.heap.size + 1, 1, none⟩) (by simp) (.int .i64 (nextQ q p).1.turn)
  refine bodyPost_ret (v := .tuple #[.agg #[.slice ao' (nextQ q p).1.files.length ca', .int .i64 (nextQ q p).1.turn], errV (nextQ q p).2]) (by simp [results, Try.results32, go_sem, z0, z1, z2, z3, z4, z5]) rfl ?_
  exact ⟨_, by rw [HD.out], by rw [HD.out]; exact quilt_laid HF'.out HNS.out (files_not_str HF'.out), HBF⟩

end Go.Proofs.Ytggpodlecljcbac
