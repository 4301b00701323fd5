/- The walks of chapter 3: renaming. -/
import Derived.Test.YtggpodlecljcbacWalkQ2
namespace Go.Proofs.Ytggpodlecljcbac
open Go.RowKit Go.Sort
set_option linter.unusedSimpArgs false
set_option linter.unusedVariables false
theorem box_fz (w : World) (f : File) : ∀ W, Below (w.alloc (.cells #[.string f.name, .string f.text, .int .i64 f.times] 41)).heap.size (w.alloc (.cells #[.string f.name, .string f.text, .int .i64 f.times] 41)) W → ∀ j, W.frozen? ⟨w.heap.size, j, none⟩ = false := by
  intro W hb j
  obtain ⟨_, hf⟩ := bcell hb
  rw [hf _ _ (by simp)]
  simp
theorem files_set_fresh {w : World} {v : Value} {l : List File} {B b : Nat} (h : Files w v l) (hf : Fresh B v) (hb : b < B) (o : Nat) (x : Value) : Files (w.setCell ⟨b, o, none⟩ x) v l := by
  obtain ⟨h1, ao, cap, rfl, h3, h4, h5, h6⟩ := h
  refine ⟨h1, ao, cap, rfl, h3, h4, h5, fun j u hj => ?_⟩
  obtain ⟨b', off, e, hc⟩ := h6 j u hj
  refine ⟨b', off, e, ?_⟩
  have := hf b' (by rw [e]; rfl)
  rw [World.cell?_setCell_other _ _ _ _ (by intro h; cases h; omega)]
  exact hc

set_option maxHeartbeats 2000000 in
theorem quilt_Rename (qv : Value) (q : Quilt) (name to : ByteArray) (w : World) (hq : Quilts w qv q) (hg : Good q) (hto : to.size ≤ maxLen) :
    Calls Try.prog 33 #[qv, .string name, .string to] w (RetQE (renamedQ q name to) w) := by
  obtain ⟨v, rfl, hf⟩ := hq
  obtain ⟨W2, hW2⟩ : ∃ W2, W2 = qw w v q.turn := ⟨_, rfl⟩
  have BX := qw_box w v q.turn
  have HB2 := Lib.hid (qw_below w v q.turn)
  rw [← hW2] at BX HB2
  have HBX := Lib.hid BX
  have HF := Lib.hid hf
  obtain ⟨ao, ca, rfl, hca, hca'⟩ := hf.parts
  unfold qw at hW2
  have HW2 := Lib.hid hW2
  have HG := Lib.hid hg
  have HSZ : Hid (W2.heap.size = w.heap.size + 2) := Lib.hid (by rw [HW2.out]; simp)
  have CG := fun W hb => shelf_Get _ q.files name W (hf.below hb) hg.fine.len hg.fine.rises
  have CH := fun W hb => shelf_Get _ q.files to W (hf.below hb) hg.fine.len hg.fine.rises
  have CF := fun W => file_Name to W hto
  unfold RetFile fileOr File.val at CG CH
  cases hgn : getAt q.files name with
  | none =>
    have HD : Hid (renamedQ q name to = (noQuilt, 5)) := Lib.hid (by unfold renamedQ; rw [hgn])
    rw [hgn] at CG
    simp only [Option.getD_none, Option.isSome_none] at CG
    replace CG := Lib.hid CG
    clear BX hW2 hf hg CH CF
    go_enter Try.func33, Try.ntmps33
    go_wp2_with fail
    rw [← HW2.out]
    refine (CG.out _ HB2.out).mono ?_
    rintro e w3 ⟨rfl, hb3⟩
    have HB3 := Lib.hid (two hb3 (below_alloc w3 (.cells #[.string noFile.name, .string noFile.text, .int .i64 noFile.times] 41)))
    obtain ⟨z0, z1, z2, z3, z4, z5, hns⟩ := HBX.out _ HB3.out
    clear hb3 hns
    go_wp2_with fail
    refine bodyPost_ret (v := .tuple #[.agg #[.slice none 0 0, .int .i64 0], errV 5]) (by simp [errV, results, Try.results33, go_sem, z0, z1, z2, z3, z4, z5]) rfl ?_
    exact ⟨_, by rw [HD.out]; try rfl, by rw [HD.out]; exact ⟨_, rfl, Rd.nil _⟩, ((two HB2.out HB3.out).setCell (p := ⟨w.heap.size + 1, 0, none⟩) (by simp) (.slice none 0 0)).setCell (p := ⟨w.heap.size + 1, 1, none⟩) (by simp) (.int .i64 0)⟩
  | some f =>
    obtain ⟨mf, ef⟩ := hg.fine.mem hgn
    have hft : f.text.size ≤ maxLen := by
      have := (file_good (hg.fine.each f mf)).2.1
      unfold maxLen; omega
    rw [hgn] at CG
    simp only [Option.getD_some, Option.isSome_some] at CG
    replace CG := Lib.hid CG
    by_cases hnf : nameFault to.data.toList = 0
    · rw [hnf, errV_zero] at CF
      replace CF := Lib.hid CF
      cases hgt : getAt q.files to with
      | some h =>
        have HD : Hid (renamedQ q name to = (noQuilt, 6)) := Lib.hid (by unfold renamedQ; rw [hgn]; dsimp only; rw [if_neg (by simp [hnf]), if_pos (by rw [hgt]; rfl)])
        rw [hgt] at CH
        simp only [Option.getD_some, Option.isSome_some] at CH
        replace CH := Lib.hid CH
        clear BX hW2 hf hg hnf hgn hgt ef
        go_enter Try.func33, Try.ntmps33
        go_wp2_with fail
        rw [← HW2.out]
        refine (CG.out _ HB2.out).mono ?_
        rintro e w3 ⟨rfl, hb3⟩
        have BF := Lib.hid (box_new w3 f)
        have FZ := Lib.hid (box_fz w3 f)
        have HS3 := Lib.hid hb3.size
        have HB3 := Lib.hid (two hb3 (below_alloc w3 (.cells #[.string f.name, .string f.text, .int .i64 f.times] 41)))
        obtain ⟨z0, z1, z2, z3, z4, z5, hns⟩ := HBX.out _ HB3.out
        clear hb3 hns
        go_wp2_with fail
        clear z0 z1 z2 z3 z4 z5
        refine (CF.out _).mono ?_
        rintro e w4 ⟨rfl, hb4⟩
        have HB4 := Lib.hid (two HB3.out hb4)
        clear hb4
        obtain ⟨z0, z1, z2, z3, z4, z5, hns⟩ := HBX.out _ HB4.out
        clear hns
        go_wp2_with fail
        refine (CH.out _ (two HB2.out HB4.out)).mono ?_
        rintro e w5 ⟨rfl, hb5⟩
        have HB5 := Lib.hid (two HB4.out hb5)
        clear z0 z1 z2 z3 z4 z5
        obtain ⟨z0, z1, z2, z3, z4, z5, hns⟩ := HBX.out _ HB5.out
        clear hb5 hns
        go_wp2_with fail
        refine bodyPost_ret (v := .tuple #[.agg #[.slice none 0 0, .int .i64 0], errV 6]) (by simp [errV, results, Try.results33, go_sem, z0, z1, z2, z3, z4, z5]) rfl ?_
        exact ⟨_, by rw [HD.out]; try rfl, by rw [HD.out]; exact ⟨_, rfl, Rd.nil _⟩, ((two HB2.out HB5.out).setCell (p := ⟨w.heap.size + 1, 0, none⟩) (by simp) (.slice none 0 0)).setCell (p := ⟨w.heap.size + 1, 1, none⟩) (by simp) (.int .i64 0)⟩
      | none =>
        rw [hgt] at CH
        simp only [Option.getD_none, Option.isSome_none] at CH
        replace CH := Lib.hid CH
        obtain ⟨d, hdd⟩ : ∃ d, d = (dropAt q.files name).1 := ⟨_, rfl⟩
        have hd0 : dropAt q.files name = (d, 0) := by
          rw [hdd]; unfold dropAt; rw [hgn]; rfl
        have hd : Fine d := by rw [hdd]; exact drop_fine hg.fine name
        obtain ⟨p, hp⟩ : ∃ p, p = putAt d ⟨to, f.text, f.times⟩ := ⟨_, rfl⟩
        have HD : Hid (renamedQ q name to = nextQ q p) := Lib.hid (by unfold renamedQ; rw [hgn]; dsimp only; rw [if_neg (by simp [hnf]), if_neg (by rw [hgt]; simp), hp, hdd])
        have CD := fun W hb => shelf_Drop_f _ q.files name W (hf.below hb) hg.fine.len hg.fine.rises
        have CP := fun lv W h => shelf_Put lv d ⟨to, f.text, f.times⟩ W h ⟨hto, hft⟩ hd.len hd.rises
        rw [← hp] at CP
        rw [hd0] at CD
        unfold RetFilesG at CD
        unfold RetFilesE File.val at CP
        simp only [errV_zero] at CD
        have CN := Lib.hid fun W lv (hb : Below w.heap.size w W) h => quilt_next (.agg #[.slice ao q.files.length ca, .int .i64 q.turn]) q lv p.1 p.2 W ⟨_, rfl, HF.out.below hb⟩ h HG.out.lo HG.out.hi
        unfold RetQE at CN
        replace CD := Lib.hid CD
        replace CP := Lib.hid CP
        clear BX hW2 hf hg hnf hgn hgt ef hp hdd hd0 hd
        go_enter Try.func33, Try.ntmps33
        go_wp2_with fail
        rw [← HW2.out]
        refine (CG.out _ HB2.out).mono ?_
        rintro e w3 ⟨rfl, hb3⟩
        have BF := Lib.hid (box_new w3 f)
        have FZ := Lib.hid (box_fz w3 f)
        have HS3 := Lib.hid hb3.size
        have HB3 := Lib.hid (two hb3 (below_alloc w3 (.cells #[.string f.name, .string f.text, .int .i64 f.times] 41)))
        obtain ⟨z0, z1, z2, z3, z4, z5, hns⟩ := HBX.out _ HB3.out
        clear hb3 hns
        go_wp2_with fail
        clear z0 z1 z2 z3 z4 z5
        refine (CF.out _).mono ?_
        rintro e w4 ⟨rfl, hb4⟩
        have HB4 := Lib.hid (two HB3.out hb4)
        have HC4 := Lib.hid hb4
        clear hb4
        obtain ⟨z0, z1, z2, z3, z4, z5, hns⟩ := HBX.out _ HB4.out
        clear hns
        go_wp2_with fail
        refine (CH.out _ (two HB2.out HB4.out)).mono ?_
        rintro e w5 ⟨rfl, hb5⟩
        have HB5 := Lib.hid (two HB4.out hb5)
        have HC5 := Lib.hid (two HC4.out hb5)
        clear z0 z1 z2 z3 z4 z5
        obtain ⟨z0, z1, z2, z3, z4, z5, hns⟩ := HBX.out _ HB5.out
        clear hb5 hns
        go_wp2_with fail
        refine (CD.out _ (two HB2.out HB5.out)).mono ?_
        rintro e w6 ⟨lv, rfl, hl, hb6, hfr⟩
        have HS5 : Hid (w3.heap.size < w5.heap.size) := Lib.hid (by have := HC5.out.size; simp at this; omega)
        have HL6 := Lib.hid (files_set_fresh hl hfr HS5.out 0 (.string to))
        have HB6 := Lib.hid (two HB5.out hb6)
        obtain ⟨x0, x1, x2⟩ := BF.out _ (two HC5.out hb6)
        have y0 := FZ.out _ (two HC5.out hb6) 0
        clear z0 z1 z2 z3 z4 z5
        obtain ⟨z0, z1, z2, z3, z4, z5, hns⟩ := HBX.out _ HB6.out
        have HB7 := Lib.hid (HB6.out.setCell (p := ⟨w3.heap.size, 0, none⟩) HS3.out (.string to))
        have HNE : Hid (w.heap.size ≠ w3.heap.size ∧ w.heap.size + 1 ≠ w3.heap.size) := Lib.hid (by have := HS3.out; have := HSZ.out; constructor <;> omega)
        clear hl hb6 hfr hns z0 z1 z2 z3 z4 z5
        go_wp2_with fail
        refine (CP.out _ _ HL6.out).mono ?_
        rintro e w8 ⟨lv2, rfl, hl, hb8⟩
        have HL := Lib.hid hl
        have HB8 := Lib.hid (two HB7.out hb8)
        clear hl hb8 x0 x1 x2 y0
        obtain ⟨z0, z1, z2, z3, z4, z5, hns⟩ := HBX.out _ HB8.out
        clear hns
        go_wp2_with fail
        refine (CN.out _ _ (two HB2.out HB8.out) HL.out).mono ?_
        rintro e w9 ⟨qv', rfl, ⟨v', rfl, hf'⟩, hb9⟩
        obtain ⟨ao', ca', rfl, _, _⟩ := hf'.parts
        have HF' := Lib.hid hf'
        have HB9 := Lib.hid (two HB8.out hb9)
        clear hf' hb9 z0 z1 z2 z3 z4 z5
        obtain ⟨z0, z1, z2, z3, z4, z5, hns⟩ := HBX.out _ HB9.out
        have HNS := Lib.hid hns
        clear hns
        go_wp2_with fail
        have HBF := ((two HB2.out HB9.out).setCell (p := ⟨w.heap.size + 1, 0, none⟩) (by simp) (.slice ao' (nextQ q p).1.files.length ca')).setCell (p := ⟨w.heap.size + 1, 1, none⟩) (by simp) (.int .i64 (nextQ q p).1.turn)
        refine bodyPost_ret (v := .tuple #[.agg #[.slice ao' (nextQ q p).1.files.length ca', .int .i64 (nextQ q p).1.turn], errV (nextQ q p).2]) (by simp [results, Try.results33, go_sem, z0, z1, z2, z3, z4, z5]) rfl ?_
        exact ⟨_, by rw [HD.out], by rw [HD.out]; exact quilt_laid HF'.out HNS.out (files_not_str HF'.out), HBF⟩
    · have HD : Hid (renamedQ q name to = (noQuilt, nameFault to.data.toList)) := Lib.hid (by unfold renamedQ; rw [hgn]; dsimp only; rw [if_pos hnf])
      have HN := Lib.hid hnf
      rw [errV_pos hnf] at CF
      replace CF := Lib.hid CF
      clear BX hW2 hf hg hnf hgn ef CH
      go_enter Try.func33, Try.ntmps33
      go_wp2_with fail
      rw [← HW2.out]
      refine (CG.out _ HB2.out).mono ?_
      rintro e w3 ⟨rfl, hb3⟩
      have BF := Lib.hid (box_new w3 f)
      have FZ := Lib.hid (box_fz w3 f)
      have HS3 := Lib.hid hb3.size
      have HB3 := Lib.hid (two hb3 (below_alloc w3 (.cells #[.string f.name, .string f.text, .int .i64 f.times] 41)))
      obtain ⟨z0, z1, z2, z3, z4, z5, hns⟩ := HBX.out _ HB3.out
      clear hb3 hns
      go_wp2_with fail
      clear z0 z1 z2 z3 z4 z5
      refine (CF.out _).mono ?_
      rintro e w4 ⟨rfl, hb4⟩
      have HB4 := Lib.hid (two HB3.out hb4)
      clear hb4
      obtain ⟨z0, z1, z2, z3, z4, z5, hns⟩ := HBX.out _ HB4.out
      clear hns
      go_wp2_with fail
      refine bodyPost_ret (v := .tuple #[.agg #[.slice none 0 0, .int .i64 0], errV (nameFault to.data.toList)]) (by rw [errV_pos HN.out]; simp [errV, results, Try.results33, go_sem, z0, z1, z2, z3, z4, z5]) rfl ?_
      exact ⟨_, by rw [HD.out]; try rfl, by rw [HD.out]; exact ⟨_, rfl, Rd.nil _⟩, ((two HB2.out HB4.out).setCell (p := ⟨w.heap.size + 1, 0, none⟩) (by simp) (.slice none 0 0)).setCell (p := ⟨w.heap.size + 1, 1, none⟩) (by simp) (.int .i64 0)⟩

end Go.Proofs.Ytggpodlecljcbac
