/- The walks of chapter 3: an act done. -/
import Derived.Test.YtggpodlecljcbacWalkR2
namespace Go.Proofs.Ytggpodlecljcbac
open Go.RowKit Go.Sort
set_option linter.unusedSimpArgs false
set_option linter.unusedVariables false
set_option maxHeartbeats 1000000 in
theorem law_Do (qv : Value) (q : Quilt) (av : ActV) (a : Act) (w : World) (hq : Quilts w qv q) (hg : Good q) (ha : IsAct w av a) (hok : a.ok) :
    Calls Try.prog 10 #[qv, av.val] w (RetQE (doAct q a) w) := by
  obtain ⟨v, rfl, hf⟩ := hq
  obtain ⟨e1, e2, e3, e4, e5, hc⟩ := ha
  unfold ActV.val
  have BX := dw_box w v q.turn av
  have HB2 := Lib.hid (dw_below w v q.turn av)
  obtain ⟨W2, hW2⟩ : ∃ W2, W2 = dw w v q.turn av := ⟨_, rfl⟩
  rw [← hW2] at BX HB2
  have HBX := Lib.hid BX
  have HF := Lib.hid hf
  obtain ⟨ao, ca, rfl, hca, hca'⟩ := hf.parts
  unfold dw at hW2
  rw [e1, e2, e3, e4, e5] at hW2 ⊢
  have HW2 := Lib.hid hW2
  have HG := Lib.hid hg
  have HOK := Lib.hid hok
  have CW := fun W hb => quilt_Write (.agg #[.slice ao q.files.length ca, .int .i64 q.turn]) q a.s a.t W ⟨_, rfl, HF.out.below hb⟩ HG.out HOK.out.2.1 HOK.out.2.2.1
  have CD := fun W hb => quilt_Drop (.agg #[.slice ao q.files.length ca, .int .i64 q.turn]) q a.s W ⟨_, rfl, HF.out.below hb⟩ HG.out
  have CN := fun W hb => quilt_Rename (.agg #[.slice ao q.files.length ca, .int .i64 q.turn]) q a.s a.t W ⟨_, rfl, HF.out.below hb⟩ HG.out HOK.out.2.2.1
  have CS := fun W hb => quilt_Swap (.agg #[.slice ao q.files.length ca, .int .i64 q.turn]) q a.s a.t W ⟨_, rfl, HF.out.below hb⟩ HG.out
  unfold RetQE at CW CD CN CS
  clear BX hW2 hf hg hc hok e1 e2 e3 e4 e5
  cases hw : (a.kind.toList == [119, 114, 105, 116, 101])
  rotate_left
  · have hD : doAct q a = writtenQ q a.s a.t := by unfold doAct; simp [hw]
    obtain ⟨p, hp⟩ : ∃ p, p = writtenQ q a.s a.t := ⟨_, rfl⟩
    rw [← hp] at CW hD
    have HD := Lib.hid hD
    replace CW := Lib.hid CW
    clear hD hp
    go_enter Try.func10, Try.ntmps10
    go_wp2_with fail
    rw [← HW2.out]
    refine (CW.out _ HB2.out).mono ?_
    rintro e w3 ⟨qv', rfl, ⟨v', rfl, hf'⟩, hb3⟩
    obtain ⟨ao', ca', rfl, _, _⟩ := hf'.parts
    have HF' := Lib.hid hf'
    have HB3 := Lib.hid (two HB2.out hb3)
    obtain ⟨z2, z3, z4, z5, hns⟩ := HBX.out _ hb3
    have HNS := Lib.hid hns
    clear hns hf' hb3
    go_wp2_with fail
    have HBF := (HB3.out.setCell (p := ⟨w.heap.size + 2, 0, none⟩) (by simp) (.slice ao' p.1.files.length ca')).setCell (p := ⟨w.heap.size + 2, 1, none⟩) (by simp) (.int .i64 p.1.turn)
    refine bodyPost_ret (v := .tuple #[.agg #[.slice ao' p.1.files.length ca', .int .i64 p.1.turn], errV p.2]) (by simp [results, Try.results10, go_sem, z2, z3, z4, z5]) rfl ?_
    exact ⟨_, by rw [HD.out], by rw [HD.out]; exact quilt_laid HF'.out HNS.out (files_not_str HF'.out), HBF⟩
  cases hd : (a.kind.toList == [100, 114, 111, 112])
  rotate_left
  · have hD : doAct q a = droppedQ q a.s := by unfold doAct; simp [hw, hd]
    obtain ⟨p, hp⟩ : ∃ p, p = droppedQ q a.s := ⟨_, rfl⟩
    rw [← hp] at CD hD
    have HD := Lib.hid hD
    replace CD := Lib.hid CD
    clear hD hp
    go_enter Try.func10, Try.ntmps10
    go_wp2_with fail
    rw [← HW2.out]
    refine (CD.out _ HB2.out).mono ?_
    rintro e w3 ⟨qv', rfl, ⟨v', rfl, hf'⟩, hb3⟩
    obtain ⟨ao', ca', rfl, _, _⟩ := hf'.parts
    have HF' := Lib.hid hf'
    have HB3 := Lib.hid (two HB2.out hb3)
    obtain ⟨z2, z3, z4, z5, hns⟩ := HBX.out _ hb3
    have HNS := Lib.hid hns
    clear hns hf' hb3
    go_wp2_with fail
    have HBF := (HB3.out.setCell (p := ⟨w.heap.size + 2, 0, none⟩) (by simp) (.slice ao' p.1.files.length ca')).setCell (p := ⟨w.heap.size + 2, 1, none⟩) (by simp) (.int .i64 p.1.turn)
    refine bodyPost_ret (v := .tuple #[.agg #[.slice ao' p.1.files.length ca', .int .i64 p.1.turn], errV p.2]) (by simp [results, Try.results10, go_sem, z2, z3, z4, z5]) rfl ?_
    exact ⟨_, by rw [HD.out], by rw [HD.out]; exact quilt_laid HF'.out HNS.out (files_not_str HF'.out), HBF⟩
  cases hn : (a.kind.toList == [110, 97, 109, 101])
  rotate_left
  · have hD : doAct q a = renamedQ q a.s a.t := by unfold doAct; simp [hw, hd, hn]
    obtain ⟨p, hp⟩ : ∃ p, p = renamedQ q a.s a.t := ⟨_, rfl⟩
    rw [← hp] at CN hD
    have HD := Lib.hid hD
    replace CN := Lib.hid CN
    clear hD hp
    go_enter Try.func10, Try.ntmps10
    go_wp2_with fail
    rw [← HW2.out]
    refine (CN.out _ HB2.out).mono ?_
    rintro e w3 ⟨qv', rfl, ⟨v', rfl, hf'⟩, hb3⟩
    obtain ⟨ao', ca', rfl, _, _⟩ := hf'.parts
    have HF' := Lib.hid hf'
    have HB3 := Lib.hid (two HB2.out hb3)
    obtain ⟨z2, z3, z4, z5, hns⟩ := HBX.out _ hb3
    have HNS := Lib.hid hns
    clear hns hf' hb3
    go_wp2_with fail
    have HBF := (HB3.out.setCell (p := ⟨w.heap.size + 2, 0, none⟩) (by simp) (.slice ao' p.1.files.length ca')).setCell (p := ⟨w.heap.size + 2, 1, none⟩) (by simp) (.int .i64 p.1.turn)
    refine bodyPost_ret (v := .tuple #[.agg #[.slice ao' p.1.files.length ca', .int .i64 p.1.turn], errV p.2]) (by simp [results, Try.results10, go_sem, z2, z3, z4, z5]) rfl ?_
    exact ⟨_, by rw [HD.out], by rw [HD.out]; exact quilt_laid HF'.out HNS.out (files_not_str HF'.out), HBF⟩
  cases hs : (a.kind.toList == [115, 119, 97, 112])
  rotate_left
  · have hD : doAct q a = swappedQ q a.s a.t := by unfold doAct; simp [hw, hd, hn, hs]
    obtain ⟨p, hp⟩ : ∃ p, p = swappedQ q a.s a.t := ⟨_, rfl⟩
    rw [← hp] at CS hD
    have HD := Lib.hid hD
    replace CS := Lib.hid CS
    clear hD hp
    go_enter Try.func10, Try.ntmps10
    go_wp2_with fail
    rw [← HW2.out]
    refine (CS.out _ HB2.out).mono ?_
    rintro e w3 ⟨qv', rfl, ⟨v', rfl, hf'⟩, hb3⟩
    obtain ⟨ao', ca', rfl, _, _⟩ := hf'.parts
    have HF' := Lib.hid hf'
    have HB3 := Lib.hid (two HB2.out hb3)
    obtain ⟨z2, z3, z4, z5, hns⟩ := HBX.out _ hb3
    have HNS := Lib.hid hns
    clear hns hf' hb3
    go_wp2_with fail
    have HBF := (HB3.out.setCell (p := ⟨w.heap.size + 2, 0, none⟩) (by simp) (.slice ao' p.1.files.length ca')).setCell (p := ⟨w.heap.size + 2, 1, none⟩) (by simp) (.int .i64 p.1.turn)
    refine bodyPost_ret (v := .tuple #[.agg #[.slice ao' p.1.files.length ca', .int .i64 p.1.turn], errV p.2]) (by simp [results, Try.results10, go_sem, z2, z3, z4, z5]) rfl ?_
    exact ⟨_, by rw [HD.out], by rw [HD.out]; exact quilt_laid HF'.out HNS.out (files_not_str HF'.out), HBF⟩
  have hD : doAct q a = (q, 0) := by unfold doAct; simp [hw, hd, hn, hs]
  have HD := Lib.hid hD
  clear hD
  go_enter Try.func10, Try.ntmps10
  go_wp2_with fail
  have HBF := two (two (below_alloc w (.cells #[.slice ao q.files.length ca, .int .i64 q.turn] 27)) (below_alloc _ (.cells #[.string a.kind, .string a.s, .string a.t, .int .i64 a.n, .int .u64 a.k, av.cv] 36))) (below_alloc _ (.cells #[.slice ao q.files.length ca, .int .i64 q.turn] 27))
  refine bodyPost_ret (v := .tuple #[.agg #[.slice ao q.files.length ca, .int .i64 q.turn], errV 0]) (by simp [errV, results, Try.results10, go_sem]) rfl ?_
  exact ⟨_, by rw [HD.out]; try rfl, by rw [HD.out]; exact ⟨_, rfl, HF.out.below HBF⟩, HBF⟩

end Go.Proofs.Ytggpodlecljcbac
