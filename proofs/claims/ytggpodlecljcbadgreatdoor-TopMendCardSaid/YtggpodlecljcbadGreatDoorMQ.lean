/- The walks of chapter 3: is a quilt fine; the next one. The walks of chapter 3: writing, dropping. The walks of chapter 3: renaming. The walks of chapter 3: swapping. -/
import Derived.RegionTactic
import Derived.ChangeAlike
import Derived.Deep.RegionHeld3
import Derived.Test.YtggpodlecljcbadGreatDoorMSQ
import Derived.Test.YtggpodlecljcbadGreatDoorMG
namespace Go.Proofs.YtggpodlecljcbadGreatDoor
open Go.RowKit Go.Sort
set_option linter.unusedSimpArgs false
set_option linter.unusedVariables false
def RetQE (p : Quilt × Nat) (w : World) (e : Ending) (w' : World) : Prop := ∃ qv, e = .returned (.tuple #[qv, errV p.2]) ∧ Quilts w' qv p.1 ∧ Below w.heap.size w w'
/-- No string lies in block b. -/
def NoStr (w : World) (b : Nat) : Prop := ∀ o s, w.cell? ⟨b, o, none⟩ ≠ some (.string s)
theorem setCell_read (w : World) (p a : Addr) (v u : Value) (h : (w.setCell p v).cell? a = some u) : (u = v ∧ p = a) ∨ w.cell? a = some u := by
  by_cases e : p = a
  · subst e
    simp only [World.setCell, World.cell?, Array.getElem?_modify, if_true] at h
    cases hb : w.heap[p.block]? with
    | none => rw [hb] at h; simp at h
    | some o =>
      rw [hb] at h
      cases o <;> simp at h
      obtain ⟨hs, h⟩ := h
      rw [if_neg (by simp [hs])] at h
      rw [Array.getElem?_setIfInBounds] at h
      simp only [if_true] at h
      split at h
      · left; exact ⟨by simpa using h.symm, rfl⟩
      · cases h
  · rw [World.cell?_setCell_other w p a v e] at h
    exact Or.inr h
theorem NoStr.set {w : World} {b : Nat} (h : NoStr w b) (o : Nat) (v : Value) (hv : ∀ s, v ≠ .string s) : NoStr (w.setCell ⟨b, o, none⟩ v) b := by
  intro o' s h2
  rcases setCell_read w _ _ v _ h2 with ⟨e, _⟩ | h2
  · exact hv s e.symm
  · exact h o' s h2
theorem files_box {w : World} {v : Value} {l : List File} {b : Nat} (h : Files w v l) (hb : NoStr w b) (o : Nat) (x : Value) : Files (w.setCell ⟨b, o, none⟩ x) v l := by
  obtain ⟨h1, ao, cap, h2, h3, h4, h5, h6⟩ := h
  refine ⟨h1, ao, cap, h2, h3, h4, h5, fun j u hj => ?_⟩
  obtain ⟨b', off, e, hc⟩ := h6 j u hj
  refine ⟨b', off, e, ?_⟩
  have hne : b ≠ b' := by
    rintro rfl
    cases l with
    | nil => simp at hj
    | cons f r =>
      obtain ⟨b2, off2, e2, hc2⟩ := h6 0 (.string f.name) rfl
      rw [e] at e2
      cases e2
      exact hb _ _ hc2
  rw [World.cell?_setCell_other _ _ _ _ (by intro h; cases h; exact hne rfl)]
  exact hc
/-- The boxes of a function that takes a quilt and hands one back. -/
def QBox (b : Nat) (v : Value) (t : Int) (w0 : World) : Prop := ∀ W, Below w0.heap.size w0 W → W.cell? ⟨b, 0, none⟩ = some v ∧ W.cell? ⟨b, 1, none⟩ = some (.int .i64 t) ∧ W.cell? ⟨b + 1, 0, none⟩ = some (.slice none 0 0) ∧ W.cell? ⟨b + 1, 1, none⟩ = some (.int .i64 0) ∧ W.frozen? ⟨b + 1, 0, none⟩ = false ∧ W.frozen? ⟨b + 1, 1, none⟩ = false ∧ NoStr W (b + 1)
def qw (w : World) (v : Value) (t : Int) : World := (w.alloc (.cells #[v, .int .i64 t] 36)).alloc (.cells #[.slice none 0 0, .int .i64 0] 36)
theorem qw_size (w : World) (v : Value) (t : Int) : (qw w v t).heap.size = w.heap.size + 2 := by unfold qw; simp
theorem qw_below (w : World) (v : Value) (t : Int) : Below w.heap.size w (qw w v t) := two (below_alloc w _) (below_alloc _ _)
theorem qw_box (w : World) (v : Value) (t : Int) : QBox w.heap.size v t (qw w v t) := by
  intro W hb
  obtain ⟨hc, hf⟩ := bcell hb
  have hs := qw_size w v t
  have k0 : (qw w v t).cell? ⟨w.heap.size, 0, none⟩ = some v := by unfold qw; simp
  have k1 : (qw w v t).cell? ⟨w.heap.size, 1, none⟩ = some (.int .i64 t) := by unfold qw; simp
  have k2 : (qw w v t).cell? ⟨w.heap.size + 1, 0, none⟩ = some (.slice none 0 0) := by unfold qw; simp
  have k3 : (qw w v t).cell? ⟨w.heap.size + 1, 1, none⟩ = some (.int .i64 0) := by unfold qw; simp
  have k4 : (qw w v t).frozen? ⟨w.heap.size + 1, 0, none⟩ = false := by unfold qw; simp
  have k5 : (qw w v t).frozen? ⟨w.heap.size + 1, 1, none⟩ = false := by unfold qw; simp
  refine ⟨(hc _ _ (by omega)).trans k0, (hc _ _ (by omega)).trans k1, (hc _ _ (by omega)).trans k2, (hc _ _ (by omega)).trans k3, (hf _ _ (by omega)).trans k4, (hf _ _ (by omega)).trans k5, ?_⟩
  intro o s h
  rw [hc _ _ (by omega)] at h
  match o with
  | 0 => rw [k2] at h; cases h
  | 1 => rw [k3] at h; cases h
  | o + 2 =>
    have h2 : (qw w v t).heap[w.heap.size + 1]? = some (.cells #[.slice none 0 0, .int .i64 0] 36) := by
      unfold qw
      have := heap_new (w.alloc (.cells #[v, .int .i64 t] 36)) (.cells #[.slice none 0 0, .int .i64 0] 36)
      simpa using this
    simp only [World.cell?, h2] at h
    simp at h
theorem QBox.now {b : Nat} {v : Value} {t : Int} {w0 : World} (h : QBox b v t w0) : w0.cell? ⟨b, 0, none⟩ = some v ∧ w0.cell? ⟨b, 1, none⟩ = some (.int .i64 t) ∧ w0.cell? ⟨b + 1, 0, none⟩ = some (.slice none 0 0) ∧ w0.cell? ⟨b + 1, 1, none⟩ = some (.int .i64 0) ∧ w0.frozen? ⟨b + 1, 0, none⟩ = false ∧ w0.frozen? ⟨b + 1, 1, none⟩ = false ∧ NoStr w0 (b + 1) := h w0 (Below.refl _ _)
/-- The end: the quilt is laid into its box. -/
theorem quilt_laid {W : World} {b : Nat} {v : Value} {q : Quilt} (hv : Files W v q.files) (hb : NoStr W b) (hns : ∀ s, v ≠ .string s) : Quilts ((W.setCell ⟨b, 0, none⟩ v).setCell ⟨b, 1, none⟩ (.int .i64 q.turn)) (.agg #[v, .int .i64 q.turn]) q :=
  ⟨v, rfl, files_box (files_box hv hb 0 v) (hb.set 0 v hns) 1 _⟩
theorem files_not_str {W : World} {v : Value} {l : List File} (hv : Files W v l) : ∀ s, v ≠ .string s := by
  obtain ⟨ao, ca, rfl, _, _⟩ := hv.parts
  intro s h; cases h

theorem quilt_New (w : World) : Calls Tryz.prog 58 #[] w fun e w' => ∃ qv, e = .returned qv ∧ Quilts w' qv ⟨[], 1⟩ ∧ Below w.heap.size w w' := by
  go_enter Tryz.func58, Tryz.ntmps58
  go_wp2_with fail
  refine bodyPost_ret (v := .agg #[.slice none 0 0, .int .i64 1]) (by simp [results, Tryz.results58, go_sem]) rfl ?_
  exact ⟨_, rfl, ⟨_, rfl, Rd.nil _⟩, below_alloc w _⟩

set_option maxHeartbeats 1000000 in
theorem quilt_next (qv : Value) (q : Quilt) (lv : Value) (l : List File) (n : Nat) (w : World) (hq : Quilts w qv q) (hl : Files w lv l) (h1 : 1 ≤ q.turn) (h2 : q.turn ≤ 9999) :
    Calls Tryz.prog 41 #[qv, lv, errV n] w (RetQE (nextQ q (l, n)) w) := by
  obtain ⟨v, rfl, hf⟩ := hq
  obtain ⟨W2, hW2⟩ : ∃ W2, W2 = qw w v q.turn := ⟨_, rfl⟩
  have BX := qw_box w v q.turn
  have HB2 := Lib.hid (qw_below w v q.turn)
  rw [← hW2] at BX HB2
  obtain ⟨z0, z1, z2, z3, z4, z5, hns⟩ := BX.now
  have HNS := Lib.hid hns
  unfold qw at hW2
  have HW2 := Lib.hid hW2
  obtain ⟨lao, lca, rfl, _, _⟩ := hl.parts
  have HL := Lib.hid hl
  clear hf BX hns hW2 hl
  by_cases hn : n = 0
  · subst hn
    rw [errV_zero]
    by_cases h9 : 9999 ≤ q.turn
    · have HD : Hid (nextQ q (l, 0) = (noQuilt, 7)) := Lib.hid (by unfold nextQ; rw [if_neg (by simp), if_pos h9])
      go_enter Tryz.func41, Tryz.ntmps41
      go_wp2_with fail
      rw [← HW2.out]
      refine bodyPost_ret (v := .tuple #[.agg #[.slice none 0 0, .int .i64 0], errV 7]) (by simp [errV, results, Tryz.results41, go_sem, z0, z1, z2, z3, z4, z5]) rfl ?_
      exact ⟨_, by rw [HD.out]; try rfl, by rw [HD.out]; exact ⟨_, rfl, Rd.nil _⟩, HB2.out⟩
    · have HD : Hid (nextQ q (l, 0) = (⟨l, q.turn + 1⟩, 0)) := Lib.hid (by unfold nextQ; rw [if_neg (by simp), if_neg h9])
      have h9' : q.turn < 9999 := by omega
      go_enter Tryz.func41, Tryz.ntmps41
      go_wp2_with fail
      have HBF := two (below_alloc w (.cells #[v, .int .i64 q.turn] 36)) (below_alloc _ (.cells #[.slice lao l.length lca, .int .i64 (q.turn + 1)] 36))
      refine bodyPost_ret (v := .tuple #[.agg #[.slice lao l.length lca, .int .i64 (q.turn + 1)], errV 0]) (by simp [errV, results, Tryz.results41, go_sem, z0, z1, z2, z3, z4, z5]) rfl ?_
      exact ⟨_, by rw [HD.out]; try rfl, by rw [HD.out]; exact ⟨_, rfl, HL.out.below HBF⟩, HBF⟩
  · have HD : Hid (nextQ q (l, n) = (noQuilt, n)) := Lib.hid (by unfold nextQ; rw [if_pos (by simpa using hn)])
    have HN := Lib.hid hn
    rw [errV_pos hn]
    clear hn
    go_enter Tryz.func41, Tryz.ntmps41
    go_wp2_with fail
    rw [← HW2.out]
    refine bodyPost_ret (v := .tuple #[.agg #[.slice none 0 0, .int .i64 0], errV n]) (by rw [errV_pos HN.out]; simp [results, Tryz.results41, go_sem, z0, z1, z2, z3, z4, z5]) rfl ?_
    exact ⟨_, by rw [HD.out]; try rfl, by rw [HD.out]; exact ⟨_, rfl, Rd.nil _⟩, HB2.out⟩

end Go.Proofs.YtggpodlecljcbadGreatDoor
namespace Go.Proofs.YtggpodlecljcbadGreatDoor
open Go.RowKit Go.Sort
set_option linter.unusedSimpArgs false
set_option linter.unusedVariables false
theorem times_range {q : Quilt} (h : Good q) (name : ByteArray) : 0 ≤ timesOf q name ∧ timesOf q name ≤ 9999 := by
  unfold timesOf
  cases hg : getAt q.files name with
  | none => exact ⟨by decide, by decide⟩
  | some f =>
    have := file_good (h.fine.each f (h.fine.mem hg).1)
    exact ⟨by simp only [Option.getD_some]; omega, by simp only [Option.getD_some]; omega⟩

set_option maxHeartbeats 1000000 in
theorem quilt_Write (qv : Value) (q : Quilt) (name text : ByteArray) (w : World) (hq : Quilts w qv q) (hg : Good q) (hn : name.size ≤ maxLen) (ht : text.size ≤ maxLen) :
    Calls Tryz.prog 23 #[qv, .string name, .string text] w (RetQE (writtenQ q name text) w) := by
  obtain ⟨v, rfl, hf⟩ := hq
  obtain ⟨W2, hW2⟩ : ∃ W2, W2 = qw w v q.turn := ⟨_, rfl⟩
  have BX := qw_box w v q.turn
  have HB2 := Lib.hid (qw_below w v q.turn)
  rw [← hW2] at BX HB2
  have HBX := Lib.hid BX
  have HF := Lib.hid hf
  obtain ⟨ao, ca, rfl, hca, hca'⟩ := hf.parts
  unfold qw at hW2
  have HW2 := Lib.hid hW2
  have HG := Lib.hid hg
  have CG := fun W hb => shelf_Get _ q.files name W (hf.below hb) hg.fine.len hg.fine.rises
  have CP := fun W hb => shelf_Put _ q.files ⟨name, text, timesOf q name + 1⟩ W (hf.below hb) ⟨hn, ht⟩ hg.fine.len hg.fine.rises
  obtain ⟨p, hp⟩ : ∃ p, p = putAt q.files ⟨name, text, timesOf q name + 1⟩ := ⟨_, rfl⟩
  have HD : Hid (writtenQ q name text = nextQ q p) := Lib.hid (by rw [hp]; rfl)
  rw [← hp] at CP
  have CN := Lib.hid fun W lv (hb : Below w.heap.size w W) h => quilt_next (.agg #[.slice ao q.files.length ca, .int .i64 q.turn]) q lv p.1 p.2 W ⟨_, rfl, HF.out.below hb⟩ h HG.out.lo HG.out.hi
  have ht1 := times_range HG.out name
  obtain ⟨g, hgg⟩ : ∃ g, g = fileOr (getAt q.files name) := ⟨_, rfl⟩
  have htt : timesOf q name = g.times := by rw [hgg]; rfl
  unfold RetFile File.val at CG
  rw [← hgg] at CG
  obtain ⟨b, hbb⟩ : ∃ b, b = (getAt q.files name).isSome := ⟨_, rfl⟩
  rw [← hbb] at CG
  unfold RetFilesE File.val at CP
  rw [htt] at CP ht1
  unfold RetQE at CN
  obtain ⟨hg0, hg1⟩ := ht1
  have hg1' : g.times + 1 ≤ 10000 := by omega
  replace CG := Lib.hid CG
  replace CP := Lib.hid CP
  clear hp hbb htt hgg
  clear BX hW2 hf hg
  go_enter Tryz.func23, Tryz.ntmps23
  go_wp2_with fail
  rw [← HW2.out]
  refine (CG.out _ HB2.out).mono ?_
  rintro e w3 ⟨rfl, hb3⟩
  have BF := Lib.hid (box_new w3 g)
  have HB3 := Lib.hid (two hb3 (below_alloc w3 (.cells #[.string g.name, .string g.text, .int .i64 g.times] 93)))
  obtain ⟨z0, z1, z2, z3, z4, z5, hns⟩ := HBX.out _ HB3.out
  clear hb3 hns
  go_wp2_with fail
  refine (CP.out _ (two HB2.out HB3.out)).mono ?_
  rintro e w4 ⟨lv, rfl, hl, hb4⟩
  have HL := Lib.hid hl
  have HB4 := Lib.hid (two HB3.out hb4)
  clear hl hb4 z0 z1 z2 z3 z4 z5
  obtain ⟨z0, z1, z2, z3, z4, z5, hns⟩ := HBX.out _ HB4.out
  clear hns
  go_wp2_with fail
  refine (CN.out _ _ (two HB2.out HB4.out) HL.out).mono ?_
  rintro e w5 ⟨qv', rfl, ⟨v', rfl, hf'⟩, hb5⟩
  obtain ⟨ao', ca', rfl, _, _⟩ := hf'.parts
  have HF' := Lib.hid hf'
  have HB5 := Lib.hid (two HB4.out hb5)
  clear hf' hb5 z0 z1 z2 z3 z4 z5
  obtain ⟨z0, z1, z2, z3, z4, z5, hns⟩ := HBX.out _ HB5.out
  have HNS := Lib.hid hns
  clear hns
  go_wp2_with fail
  have HBF := ((two HB2.out HB5.out).setCell (p := ⟨w.heap.size + 1, 0, none⟩) (by simp) (.slice ao' (nextQ q p).1.files.length ca')).setCell (p := ⟨w.heap.size + 1, 1, none⟩) (by simp) (.int .i64 (nextQ q p).1.turn)
  refine bodyPost_ret (v := .tuple #[.agg #[.slice ao' (nextQ q p).1.files.length ca', .int .i64 (nextQ q p).1.turn], errV (nextQ q p).2]) (by simp [results, Tryz.results23, go_sem, z0, z1, z2, z3, z4, z5]) rfl ?_
  exact ⟨_, by rw [HD.out], by rw [HD.out]; exact quilt_laid HF'.out HNS.out (files_not_str HF'.out), HBF⟩

set_option maxHeartbeats 1000000 in
theorem quilt_Drop (qv : Value) (q : Quilt) (name : ByteArray) (w : World) (hq : Quilts w qv q) (hg : Good q) :
    Calls Tryz.prog 24 #[qv, .string name] w (RetQE (droppedQ q name) w) := by
  obtain ⟨v, rfl, hf⟩ := hq
  obtain ⟨W2, hW2⟩ : ∃ W2, W2 = qw w v q.turn := ⟨_, rfl⟩
  have BX := qw_box w v q.turn
  have HB2 := Lib.hid (qw_below w v q.turn)
  rw [← hW2] at BX HB2
  have HBX := Lib.hid BX
  have HF := Lib.hid hf
  obtain ⟨ao, ca, rfl, hca, hca'⟩ := hf.parts
  unfold qw at hW2
  have HW2 := Lib.hid hW2
  have HG := Lib.hid hg
  have CP := fun W hb => shelf_Drop _ q.files name W (hf.below hb) hg.fine.len hg.fine.rises
  obtain ⟨p, hp⟩ : ∃ p, p = dropAt q.files name := ⟨_, rfl⟩
  have HD : Hid (droppedQ q name = nextQ q p) := Lib.hid (by rw [hp]; rfl)
  rw [← hp] at CP
  have CN := Lib.hid fun W lv (hb : Below w.heap.size w W) h => quilt_next (.agg #[.slice ao q.files.length ca, .int .i64 q.turn]) q lv p.1 p.2 W ⟨_, rfl, HF.out.below hb⟩ h HG.out.lo HG.out.hi
  unfold RetFilesE at CP
  unfold RetQE at CN
  replace CP := Lib.hid CP
  clear hp
  clear BX hW2 hf hg
  go_enter Tryz.func24, Tryz.ntmps24
  go_wp2_with fail
  rw [← HW2.out]
  refine (CP.out _ HB2.out).mono ?_
  rintro e w4 ⟨lv, rfl, hl, hb4⟩
  have HL := Lib.hid hl
  have HB4 := Lib.hid hb4
  clear hl hb4
  obtain ⟨z0, z1, z2, z3, z4, z5, hns⟩ := HBX.out _ HB4.out
  clear hns
  go_wp2_with fail
  refine (CN.out _ _ (two HB2.out HB4.out) HL.out).mono ?_
  rintro e w5 ⟨qv', rfl, ⟨v', rfl, hf'⟩, hb5⟩
  obtain ⟨ao', ca', rfl, _, _⟩ := hf'.parts
  have HF' := Lib.hid hf'
  have HB5 := Lib.hid (two HB4.out hb5)
  clear hf' hb5 z0 z1 z2 z3 z4 z5
  obtain ⟨z0, z1, z2, z3, z4, z5, hns⟩ := HBX.out _ HB5.out
  have HNS := Lib.hid hns
  clear hns
  go_wp2_with fail
  have HBF := ((two HB2.out HB5.out).setCell (p := ⟨w.heap.size + 1, 0, none⟩) (by simp) (.slice ao' (nextQ q p).1.files.length ca')).setCell (p := ⟨w.heap.size + 1, 1, none⟩) (by simp) (.int .i64 (nextQ q p).1.turn)
  refine bodyPost_ret (v := .tuple #[.agg #[.slice ao' (nextQ q p).1.files.length ca', .int .i64 (nextQ q p).1.turn], errV (nextQ q p).2]) (by simp [results, Tryz.results24, go_sem, z0, z1, z2, z3, z4, z5]) rfl ?_
  exact ⟨_, by rw [HD.out], by rw [HD.out]; exact quilt_laid HF'.out HNS.out (files_not_str HF'.out), HBF⟩

end Go.Proofs.YtggpodlecljcbadGreatDoor
namespace Go.Proofs.YtggpodlecljcbadGreatDoor
open Go.RowKit Go.Sort
set_option linter.unusedSimpArgs false
set_option linter.unusedVariables false
theorem box_fz (w : World) (f : File) : ∀ W, Below (w.alloc (.cells #[.string f.name, .string f.text, .int .i64 f.times] 93)).heap.size (w.alloc (.cells #[.string f.name, .string f.text, .int .i64 f.times] 93)) W → ∀ j, W.frozen? ⟨w.heap.size, j, none⟩ = false := by
  intro W hb j
  obtain ⟨_, hf⟩ := bcell hb
  rw [hf _ _ (by simp)]
  simp
theorem files_set_fresh {w : World} {v : Value} {l : List File} {B b : Nat} (h : Files w v l) (hf : Fresh B v) (hb : b < B) (o : Nat) (x : Value) : Files (w.setCell ⟨b, o, none⟩ x) v l := by
  obtain ⟨h1, ao, cap, rfl, h3, h4, h5, h6⟩ := h
  refine ⟨h1, ao, cap, rfl, h3, h4, h5, fun j u hj => ?_⟩
  obtain ⟨b', off, e, hc⟩ := h6 j u hj
  refine ⟨b', off, e, ?_⟩
  have := hf b' (by rw [e]; rfl)
  rw [World.cell?_setCell_other _ _ _ _ (by intro h; cases h; omega)]
  exact hc

set_option maxHeartbeats 2000000 in
theorem quilt_Rename (qv : Value) (q : Quilt) (name tn : ByteArray) (w : World) (hq : Quilts w qv q) (hg : Good q) (hto : tn.size ≤ maxLen) :
    Calls Tryz.prog 25 #[qv, .string name, .string tn] w (RetQE (renamedQ q name tn) w) := by
  obtain ⟨v, rfl, hf⟩ := hq
  obtain ⟨W2, hW2⟩ : ∃ W2, W2 = qw w v q.turn := ⟨_, rfl⟩
  have BX := qw_box w v q.turn
  have HB2 := Lib.hid (qw_below w v q.turn)
  rw [← hW2] at BX HB2
  have HBX := Lib.hid BX
  have HF := Lib.hid hf
  obtain ⟨ao, ca, rfl, hca, hca'⟩ := hf.parts
  unfold qw at hW2
  have HW2 := Lib.hid hW2
  have HG := Lib.hid hg
  have HSZ : Hid (W2.heap.size = w.heap.size + 2) := Lib.hid (by rw [HW2.out]; simp)
  have CG := fun W hb => shelf_Get _ q.files name W (hf.below hb) hg.fine.len hg.fine.rises
  have CH := fun W hb => shelf_Get _ q.files tn W (hf.below hb) hg.fine.len hg.fine.rises
  have CF := fun W => file_Name tn W hto
  unfold RetFile fileOr File.val at CG CH
  cases hgn : getAt q.files name with
  | none =>
    have HD : Hid (renamedQ q name tn = (noQuilt, 5)) := Lib.hid (by unfold renamedQ; rw [hgn])
    rw [hgn] at CG
    simp only [Option.getD_none, Option.isSome_none] at CG
    replace CG := Lib.hid CG
    clear BX hW2 hf hg CH CF
    go_enter Tryz.func25, Tryz.ntmps25
    go_wp2_with fail
    rw [← HW2.out]
    refine (CG.out _ HB2.out).mono ?_
    rintro e w3 ⟨rfl, hb3⟩
    have HB3 := Lib.hid (two hb3 (below_alloc w3 (.cells #[.string noFile.name, .string noFile.text, .int .i64 noFile.times] 93)))
    obtain ⟨z0, z1, z2, z3, z4, z5, hns⟩ := HBX.out _ HB3.out
    clear hb3 hns
    go_wp2_with fail
    refine bodyPost_ret (v := .tuple #[.agg #[.slice none 0 0, .int .i64 0], errV 5]) (by simp [errV, results, Tryz.results25, go_sem, z0, z1, z2, z3, z4, z5]) rfl ?_
    exact ⟨_, by rw [HD.out]; try rfl, by rw [HD.out]; exact ⟨_, rfl, Rd.nil _⟩, ((two HB2.out HB3.out).setCell (p := ⟨w.heap.size + 1, 0, none⟩) (by simp) (.slice none 0 0)).setCell (p := ⟨w.heap.size + 1, 1, none⟩) (by simp) (.int .i64 0)⟩
  | some f =>
    obtain ⟨mf, ef⟩ := hg.fine.mem hgn
    have hft : f.text.size ≤ maxLen := by
      have := (file_good (hg.fine.each f mf)).2.1
      unfold maxLen; omega
    rw [hgn] at CG
    simp only [Option.getD_some, Option.isSome_some] at CG
    replace CG := Lib.hid CG
    by_cases hnf : nameFault tn.data.toList = 0
    · rw [hnf, errV_zero] at CF
      replace CF := Lib.hid CF
      cases hgt : getAt q.files tn with
      | some h =>
        have HD : Hid (renamedQ q name tn = (noQuilt, 6)) := Lib.hid (by unfold renamedQ; rw [hgn]; dsimp only; rw [if_neg (by simp [hnf]), if_pos (by rw [hgt]; rfl)])
        rw [hgt] at CH
        simp only [Option.getD_some, Option.isSome_some] at CH
        replace CH := Lib.hid CH
        clear BX hW2 hf hg hnf hgn hgt ef
        go_enter Tryz.func25, Tryz.ntmps25
        go_wp2_with fail
        rw [← HW2.out]
        refine (CG.out _ HB2.out).mono ?_
        rintro e w3 ⟨rfl, hb3⟩
        have BF := Lib.hid (box_new w3 f)
        have FZ := Lib.hid (box_fz w3 f)
        have HS3 := Lib.hid hb3.size
        have HB3 := Lib.hid (two hb3 (below_alloc w3 (.cells #[.string f.name, .string f.text, .int .i64 f.times] 93)))
        obtain ⟨z0, z1, z2, z3, z4, z5, hns⟩ := HBX.out _ HB3.out
        clear hb3 hns
        go_wp2_with fail
        clear z0 z1 z2 z3 z4 z5
        refine (CF.out _).mono ?_
        rintro e w4 ⟨rfl, hb4⟩
        have HB4 := Lib.hid (two HB3.out hb4)
        clear hb4
        obtain ⟨z0, z1, z2, z3, z4, z5, hns⟩ := HBX.out _ HB4.out
        clear hns
        go_wp2_with fail
        refine (CH.out _ (two HB2.out HB4.out)).mono ?_
        rintro e w5 ⟨rfl, hb5⟩
        have HB5 := Lib.hid (two HB4.out hb5)
        clear z0 z1 z2 z3 z4 z5
        obtain ⟨z0, z1, z2, z3, z4, z5, hns⟩ := HBX.out _ HB5.out
        clear hb5 hns
        go_wp2_with fail
        refine bodyPost_ret (v := .tuple #[.agg #[.slice none 0 0, .int .i64 0], errV 6]) (by simp [errV, results, Tryz.results25, go_sem, z0, z1, z2, z3, z4, z5]) rfl ?_
        exact ⟨_, by rw [HD.out]; try rfl, by rw [HD.out]; exact ⟨_, rfl, Rd.nil _⟩, ((two HB2.out HB5.out).setCell (p := ⟨w.heap.size + 1, 0, none⟩) (by simp) (.slice none 0 0)).setCell (p := ⟨w.heap.size + 1, 1, none⟩) (by simp) (.int .i64 0)⟩
      | none =>
        rw [hgt] at CH
        simp only [Option.getD_none, Option.isSome_none] at CH
        replace CH := Lib.hid CH
        obtain ⟨d, hdd⟩ : ∃ d, d = (dropAt q.files name).1 := ⟨_, rfl⟩
        have hd0 : dropAt q.files name = (d, 0) := by
          rw [hdd]; unfold dropAt; rw [hgn]; rfl
        have hd : Fine d := by rw [hdd]; exact drop_fine hg.fine name
        obtain ⟨p, hp⟩ : ∃ p, p = putAt d ⟨tn, f.text, f.times⟩ := ⟨_, rfl⟩
        have HD : Hid (renamedQ q name tn = nextQ q p) := Lib.hid (by unfold renamedQ; rw [hgn]; dsimp only; rw [if_neg (by simp [hnf]), if_neg (by rw [hgt]; simp), hp, hdd])
        have CD := fun W hb => shelf_Drop_f _ q.files name W (hf.below hb) hg.fine.len hg.fine.rises
        have CP := fun lv W h => shelf_Put lv d ⟨tn, f.text, f.times⟩ W h ⟨hto, hft⟩ hd.len hd.rises
        rw [← hp] at CP
        rw [hd0] at CD
        unfold RetFilesG at CD
        unfold RetFilesE File.val at CP
        simp only [errV_zero] at CD
        have CN := Lib.hid fun W lv (hb : Below w.heap.size w W) h => quilt_next (.agg #[.slice ao q.files.length ca, .int .i64 q.turn]) q lv p.1 p.2 W ⟨_, rfl, HF.out.below hb⟩ h HG.out.lo HG.out.hi
        unfold RetQE at CN
        replace CD := Lib.hid CD
        replace CP := Lib.hid CP
        clear BX hW2 hf hg hnf hgn hgt ef hp hdd hd0 hd
        go_enter Tryz.func25, Tryz.ntmps25
        go_wp2_with fail
        rw [← HW2.out]
        refine (CG.out _ HB2.out).mono ?_
        rintro e w3 ⟨rfl, hb3⟩
        have BF := Lib.hid (box_new w3 f)
        have FZ := Lib.hid (box_fz w3 f)
        have HS3 := Lib.hid hb3.size
        have HB3 := Lib.hid (two hb3 (below_alloc w3 (.cells #[.string f.name, .string f.text, .int .i64 f.times] 93)))
        obtain ⟨z0, z1, z2, z3, z4, z5, hns⟩ := HBX.out _ HB3.out
        clear hb3 hns
        go_wp2_with fail
        clear z0 z1 z2 z3 z4 z5
        refine (CF.out _).mono ?_
        rintro e w4 ⟨rfl, hb4⟩
        have HB4 := Lib.hid (two HB3.out hb4)
        have HC4 := Lib.hid hb4
        clear hb4
        obtain ⟨z0, z1, z2, z3, z4, z5, hns⟩ := HBX.out _ HB4.out
        clear hns
        go_wp2_with fail
        refine (CH.out _ (two HB2.out HB4.out)).mono ?_
        rintro e w5 ⟨rfl, hb5⟩
        have HB5 := Lib.hid (two HB4.out hb5)
        have HC5 := Lib.hid (two HC4.out hb5)
        clear z0 z1 z2 z3 z4 z5
        obtain ⟨z0, z1, z2, z3, z4, z5, hns⟩ := HBX.out _ HB5.out
        clear hb5 hns
        go_wp2_with fail
        refine (CD.out _ (two HB2.out HB5.out)).mono ?_
        rintro e w6 ⟨lv, rfl, hl, hb6, hfr⟩
        have HS5 : Hid (w3.heap.size < w5.heap.size) := Lib.hid (by have := HC5.out.size; simp at this; omega)
        have HL6 := Lib.hid (files_set_fresh hl hfr HS5.out 0 (.string tn))
        have HB6 := Lib.hid (two HB5.out hb6)
        obtain ⟨x0, x1, x2⟩ := BF.out _ (two HC5.out hb6)
        have y0 := FZ.out _ (two HC5.out hb6) 0
        clear z0 z1 z2 z3 z4 z5
        obtain ⟨z0, z1, z2, z3, z4, z5, hns⟩ := HBX.out _ HB6.out
        have HB7 := Lib.hid (HB6.out.setCell (p := ⟨w3.heap.size, 0, none⟩) HS3.out (.string tn))
        have HNE : Hid (w.heap.size ≠ w3.heap.size ∧ w.heap.size + 1 ≠ w3.heap.size) := Lib.hid (by have := HS3.out; have := HSZ.out; constructor <;> omega)
        clear hl hb6 hfr hns z0 z1 z2 z3 z4 z5
        go_wp2_with fail
        refine (CP.out _ _ HL6.out).mono ?_
        rintro e w8 ⟨lv2, rfl, hl, hb8⟩
        have HL := Lib.hid hl
        have HB8 := Lib.hid (two HB7.out hb8)
        clear hl hb8 x0 x1 x2 y0
        obtain ⟨z0, z1, z2, z3, z4, z5, hns⟩ := HBX.out _ HB8.out
        clear hns
        go_wp2_with fail
        refine (CN.out _ _ (two HB2.out HB8.out) HL.out).mono ?_
        rintro e w9 ⟨qv', rfl, ⟨v', rfl, hf'⟩, hb9⟩
        obtain ⟨ao', ca', rfl, _, _⟩ := hf'.parts
        have HF' := Lib.hid hf'
        have HB9 := Lib.hid (two HB8.out hb9)
        clear hf' hb9 z0 z1 z2 z3 z4 z5
        obtain ⟨z0, z1, z2, z3, z4, z5, hns⟩ := HBX.out _ HB9.out
        have HNS := Lib.hid hns
        clear hns
        go_wp2_with fail
        have HBF := ((two HB2.out HB9.out).setCell (p := ⟨w.heap.size + 1, 0, none⟩) (by simp) (.slice ao' (nextQ q p).1.files.length ca')).setCell (p := ⟨w.heap.size + 1, 1, none⟩) (by simp) (.int .i64 (nextQ q p).1.turn)
        refine bodyPost_ret (v := .tuple #[.agg #[.slice ao' (nextQ q p).1.files.length ca', .int .i64 (nextQ q p).1.turn], errV (nextQ q p).2]) (by simp [results, Tryz.results25, go_sem, z0, z1, z2, z3, z4, z5]) rfl ?_
        exact ⟨_, by rw [HD.out], by rw [HD.out]; exact quilt_laid HF'.out HNS.out (files_not_str HF'.out), HBF⟩
    · have HD : Hid (renamedQ q name tn = (noQuilt, nameFault tn.data.toList)) := Lib.hid (by unfold renamedQ; rw [hgn]; dsimp only; rw [if_pos hnf])
      have HN := Lib.hid hnf
      rw [errV_pos hnf] at CF
      replace CF := Lib.hid CF
      clear BX hW2 hf hg hnf hgn ef CH
      go_enter Tryz.func25, Tryz.ntmps25
      go_wp2_with fail
      rw [← HW2.out]
      refine (CG.out _ HB2.out).mono ?_
      rintro e w3 ⟨rfl, hb3⟩
      have BF := Lib.hid (box_new w3 f)
      have FZ := Lib.hid (box_fz w3 f)
      have HS3 := Lib.hid hb3.size
      have HB3 := Lib.hid (two hb3 (below_alloc w3 (.cells #[.string f.name, .string f.text, .int .i64 f.times] 93)))
      obtain ⟨z0, z1, z2, z3, z4, z5, hns⟩ := HBX.out _ HB3.out
      clear hb3 hns
      go_wp2_with fail
      clear z0 z1 z2 z3 z4 z5
      refine (CF.out _).mono ?_
      rintro e w4 ⟨rfl, hb4⟩
      have HB4 := Lib.hid (two HB3.out hb4)
      clear hb4
      obtain ⟨z0, z1, z2, z3, z4, z5, hns⟩ := HBX.out _ HB4.out
      clear hns
      go_wp2_with fail
      refine bodyPost_ret (v := .tuple #[.agg #[.slice none 0 0, .int .i64 0], errV (nameFault tn.data.toList)]) (by rw [errV_pos HN.out]; simp [errV, results, Tryz.results25, go_sem, z0, z1, z2, z3, z4, z5]) rfl ?_
      exact ⟨_, by rw [HD.out]; try rfl, by rw [HD.out]; exact ⟨_, rfl, Rd.nil _⟩, ((two HB2.out HB4.out).setCell (p := ⟨w.heap.size + 1, 0, none⟩) (by simp) (.slice none 0 0)).setCell (p := ⟨w.heap.size + 1, 1, none⟩) (by simp) (.int .i64 0)⟩

end Go.Proofs.YtggpodlecljcbadGreatDoor
namespace Go.Proofs.YtggpodlecljcbadGreatDoor
open Go.RowKit Go.Sort
set_option linter.unusedSimpArgs false
set_option linter.unusedVariables false
set_option maxRecDepth 100000 in
set_option maxHeartbeats 2000000 in
theorem quilt_Swap (qv : Value) (q : Quilt) (a b : ByteArray) (w : World) (hq : Quilts w qv q) (hg : Good q) :
    Calls Tryz.prog 26 #[qv, .string a, .string b] w (RetQE (swappedQ q a b) w) := by
  obtain ⟨v, rfl, hf⟩ := hq
  obtain ⟨W2, hW2⟩ : ∃ W2, W2 = qw w v q.turn := ⟨_, rfl⟩
  have BX := qw_box w v q.turn
  have HB2 := Lib.hid (qw_below w v q.turn)
  rw [← hW2] at BX HB2
  have HBX := Lib.hid BX
  have HF := Lib.hid hf
  obtain ⟨ao, ca, rfl, hca, hca'⟩ := hf.parts
  unfold qw at hW2
  have HW2 := Lib.hid hW2
  have HG := Lib.hid hg
  have CG := fun W hb => shelf_Get _ q.files a W (hf.below hb) hg.fine.len hg.fine.rises
  have CH := fun W hb => shelf_Get _ q.files b W (hf.below hb) hg.fine.len hg.fine.rises
  unfold RetFile File.val at CG CH
  have HSZ : Hid (W2.heap.size = w.heap.size + 2) := Lib.hid (by rw [HW2.out]; simp)
  clear BX hW2 hf hg
  obtain ⟨x, hx⟩ : ∃ x, x = fileOr (getAt q.files a) := ⟨_, rfl⟩
  obtain ⟨y, hy⟩ : ∃ y, y = fileOr (getAt q.files b) := ⟨_, rfl⟩
  rw [← hx] at CG
  rw [← hy] at CH
  cases hga : getAt q.files a with
  | none =>
    have HD : Hid (swappedQ q a b = (noQuilt, 5)) := Lib.hid (by unfold swappedQ; rw [hga])
    rw [hga, Option.isSome_none] at CG
    replace CG := Lib.hid CG
    obtain ⟨bb, hbb⟩ : ∃ bb, bb = (getAt q.files b).isSome := ⟨_, rfl⟩
    rw [← hbb] at CH
    replace CH := Lib.hid CH
    clear hga hx hy hbb
    go_enter Tryz.func26, Tryz.ntmps26
    go_wp2_with fail
    rw [← HW2.out]
    refine (CG.out _ HB2.out).mono ?_
    rintro e w3 ⟨rfl, hb3⟩
    have BF := Lib.hid (box_new w3 x)
    have FZ := Lib.hid (box_fz w3 x)
    have HS3 := Lib.hid hb3.size
    have HB3 := Lib.hid (two hb3 (below_alloc w3 (.cells #[.string x.name, .string x.text, .int .i64 x.times] 93)))
    obtain ⟨z0, z1, z2, z3, z4, z5, hns⟩ := HBX.out _ HB3.out
    clear hb3 hns
    go_wp2_with fail
    refine (CH.out _ (two HB2.out HB3.out)).mono ?_
    rintro e w4 ⟨rfl, hb4⟩
    have BG := Lib.hid (box_new w4 y)
    have GZ := Lib.hid (box_fz w4 y)
    have HC4 := Lib.hid (two hb4 (below_alloc w4 (.cells #[.string y.name, .string y.text, .int .i64 y.times] 93)))
    have HS4 : Hid (w3.heap.size < w4.heap.size) := Lib.hid (by have := hb4.size; simp at this; omega)
    have HB4 := Lib.hid (two HB3.out HC4.out)
    clear hb4 z0 z1 z2 z3 z4 z5
    obtain ⟨z0, z1, z2, z3, z4, z5, hns⟩ := HBX.out _ HB4.out
    obtain ⟨x0, x1, x2⟩ := BF.out _ HC4.out
    obtain ⟨y0, y1, y2⟩ := BG.out _ (Below.refl _ _)
    clear hns
    go_wp2_with fail
    refine bodyPost_ret (v := .tuple #[.agg #[.slice none 0 0, .int .i64 0], errV 5]) (by simp [errV, results, Tryz.results26, go_sem, z0, z1, z2, z3, z4, z5]) rfl ?_
    exact ⟨_, by rw [HD.out]; try rfl, by rw [HD.out]; exact ⟨_, rfl, Rd.nil _⟩, ((two HB2.out HB4.out).setCell (p := ⟨w.heap.size + 1, 0, none⟩) (by simp) (.slice none 0 0)).setCell (p := ⟨w.heap.size + 1, 1, none⟩) (by simp) (.int .i64 0)⟩
  | some x' =>
    rw [hga, Option.isSome_some] at CG
    replace CG := Lib.hid CG
    cases hgb : getAt q.files b with
    | none =>
      have HD : Hid (swappedQ q a b = (noQuilt, 5)) := Lib.hid (by unfold swappedQ; rw [hga, hgb])
      rw [hgb, Option.isSome_none] at CH
      replace CH := Lib.hid CH
      clear hga hgb hx hy
      go_enter Tryz.func26, Tryz.ntmps26
      go_wp2_with fail
      rw [← HW2.out]
      refine (CG.out _ HB2.out).mono ?_
      rintro e w3 ⟨rfl, hb3⟩
      have BF := Lib.hid (box_new w3 x)
      have FZ := Lib.hid (box_fz w3 x)
      have HS3 := Lib.hid hb3.size
      have HB3 := Lib.hid (two hb3 (below_alloc w3 (.cells #[.string x.name, .string x.text, .int .i64 x.times] 93)))
      obtain ⟨z0, z1, z2, z3, z4, z5, hns⟩ := HBX.out _ HB3.out
      clear hb3 hns
      go_wp2_with fail
      refine (CH.out _ (two HB2.out HB3.out)).mono ?_
      rintro e w4 ⟨rfl, hb4⟩
      have BG := Lib.hid (box_new w4 y)
      have GZ := Lib.hid (box_fz w4 y)
      have HC4 := Lib.hid (two hb4 (below_alloc w4 (.cells #[.string y.name, .string y.text, .int .i64 y.times] 93)))
      have HS4 : Hid (w3.heap.size < w4.heap.size) := Lib.hid (by have := hb4.size; simp at this; omega)
      have HB4 := Lib.hid (two HB3.out HC4.out)
      clear hb4 z0 z1 z2 z3 z4 z5
      obtain ⟨z0, z1, z2, z3, z4, z5, hns⟩ := HBX.out _ HB4.out
      obtain ⟨x0, x1, x2⟩ := BF.out _ HC4.out
      obtain ⟨y0, y1, y2⟩ := BG.out _ (Below.refl _ _)
      clear hns
      go_wp2_with fail
      refine bodyPost_ret (v := .tuple #[.agg #[.slice none 0 0, .int .i64 0], errV 5]) (by simp [errV, results, Tryz.results26, go_sem, z0, z1, z2, z3, z4, z5]) rfl ?_
      exact ⟨_, by rw [HD.out]; try rfl, by rw [HD.out]; exact ⟨_, rfl, Rd.nil _⟩, ((two HB2.out HB4.out).setCell (p := ⟨w.heap.size + 1, 0, none⟩) (by simp) (.slice none 0 0)).setCell (p := ⟨w.heap.size + 1, 1, none⟩) (by simp) (.int .i64 0)⟩
    | some y' =>
      rw [hgb, Option.isSome_some] at CH
      replace CH := Lib.hid CH
      obtain rfl : x = x' := by rw [hx, hga]; rfl
      obtain rfl : y = y' := by rw [hy, hgb]; rfl
      clear hx hy
      obtain ⟨mx, ex⟩ := HG.out.fine.mem hga
      obtain ⟨my, ey⟩ := HG.out.fine.mem hgb
      have fx := file_good (HG.out.fine.each x mx)
      have fy := file_good (HG.out.fine.each y my)
      have hxn : x.name.size ≤ maxLen := by have := name_good fx.1; rw [show x.name.data.toList.length = x.name.size from rfl] at this; unfold maxLen; omega
      have hyn : y.name.size ≤ maxLen := by have := name_good fy.1; rw [show y.name.data.toList.length = y.name.size from rfl] at this; unfold maxLen; omega
      have hxt : x.text.size ≤ maxLen := by have := fx.2.1; unfold maxLen; omega
      have hyt : y.text.size ≤ maxLen := by have := fy.2.1; unfold maxLen; omega
      have rx1 := fx.2.2.1
      have rx2 := fx.2.2.2
      have ry1 := fy.2.2.1
      have ry2 := fy.2.2.2
      clear ex my ey fx fy
      by_cases h9 : x.times = 9999 ∨ y.times = 9999
      · have HD : Hid (swappedQ q a b = (noQuilt, 7)) := Lib.hid (by unfold swappedQ; rw [hga, hgb]; dsimp only; rw [if_pos h9])
        clear hga hgb
        by_cases h9x : x.times = 9999
        · have hbx : (x.times == 9999) = true := by simpa using h9x
          clear h9 h9x
          go_enter Tryz.func26, Tryz.ntmps26
          go_wp2_with fail
          rw [← HW2.out]
          refine (CG.out _ HB2.out).mono ?_
          rintro e w3 ⟨rfl, hb3⟩
          have BF := Lib.hid (box_new w3 x)
          have FZ := Lib.hid (box_fz w3 x)
          have HS3 := Lib.hid hb3.size
          have HB3 := Lib.hid (two hb3 (below_alloc w3 (.cells #[.string x.name, .string x.text, .int .i64 x.times] 93)))
          obtain ⟨z0, z1, z2, z3, z4, z5, hns⟩ := HBX.out _ HB3.out
          clear hb3 hns
          go_wp2_with fail
          refine (CH.out _ (two HB2.out HB3.out)).mono ?_
          rintro e w4 ⟨rfl, hb4⟩
          have BG := Lib.hid (box_new w4 y)
          have GZ := Lib.hid (box_fz w4 y)
          have HC4 := Lib.hid (two hb4 (below_alloc w4 (.cells #[.string y.name, .string y.text, .int .i64 y.times] 93)))
          have HS4 : Hid (w3.heap.size < w4.heap.size) := Lib.hid (by have := hb4.size; simp at this; omega)
          have HB4 := Lib.hid (two HB3.out HC4.out)
          clear hb4 z0 z1 z2 z3 z4 z5
          obtain ⟨z0, z1, z2, z3, z4, z5, hns⟩ := HBX.out _ HB4.out
          obtain ⟨x0, x1, x2⟩ := BF.out _ HC4.out
          obtain ⟨y0, y1, y2⟩ := BG.out _ (Below.refl _ _)
          clear hns
          go_wp2_with fail
          refine bodyPost_ret (v := .tuple #[.agg #[.slice none 0 0, .int .i64 0], errV 7]) (by simp [errV, results, Tryz.results26, go_sem, z0, z1, z2, z3, z4, z5]) rfl ?_
          exact ⟨_, by rw [HD.out]; try rfl, by rw [HD.out]; exact ⟨_, rfl, Rd.nil _⟩, ((two HB2.out HB4.out).setCell (p := ⟨w.heap.size + 1, 0, none⟩) (by simp) (.slice none 0 0)).setCell (p := ⟨w.heap.size + 1, 1, none⟩) (by simp) (.int .i64 0)⟩
        · have hbx : (x.times == 9999) = false := by simpa using h9x
          have hby : (y.times == 9999) = true := by simp; omega
          clear h9 h9x
          go_enter Tryz.func26, Tryz.ntmps26
          go_wp2_with fail
          rw [← HW2.out]
          refine (CG.out _ HB2.out).mono ?_
          rintro e w3 ⟨rfl, hb3⟩
          have BF := Lib.hid (box_new w3 x)
          have FZ := Lib.hid (box_fz w3 x)
          have HS3 := Lib.hid hb3.size
          have HB3 := Lib.hid (two hb3 (below_alloc w3 (.cells #[.string x.name, .string x.text, .int .i64 x.times] 93)))
          obtain ⟨z0, z1, z2, z3, z4, z5, hns⟩ := HBX.out _ HB3.out
          clear hb3 hns
          go_wp2_with fail
          refine (CH.out _ (two HB2.out HB3.out)).mono ?_
          rintro e w4 ⟨rfl, hb4⟩
          have BG := Lib.hid (box_new w4 y)
          have GZ := Lib.hid (box_fz w4 y)
          have HC4 := Lib.hid (two hb4 (below_alloc w4 (.cells #[.string y.name, .string y.text, .int .i64 y.times] 93)))
          have HS4 : Hid (w3.heap.size < w4.heap.size) := Lib.hid (by have := hb4.size; simp at this; omega)
          have HB4 := Lib.hid (two HB3.out HC4.out)
          clear hb4 z0 z1 z2 z3 z4 z5
          obtain ⟨z0, z1, z2, z3, z4, z5, hns⟩ := HBX.out _ HB4.out
          obtain ⟨x0, x1, x2⟩ := BF.out _ HC4.out
          obtain ⟨y0, y1, y2⟩ := BG.out _ (Below.refl _ _)
          clear hns
          go_wp2_with fail
          refine bodyPost_ret (v := .tuple #[.agg #[.slice none 0 0, .int .i64 0], errV 7]) (by simp [errV, results, Tryz.results26, go_sem, z0, z1, z2, z3, z4, z5]) rfl ?_
          exact ⟨_, by rw [HD.out]; try rfl, by rw [HD.out]; exact ⟨_, rfl, Rd.nil _⟩, ((two HB2.out HB4.out).setCell (p := ⟨w.heap.size + 1, 0, none⟩) (by simp) (.slice none 0 0)).setCell (p := ⟨w.heap.size + 1, 1, none⟩) (by simp) (.int .i64 0)⟩
      · have hbx : (x.times == 9999) = false := by simp; omega
        have hby : (y.times == 9999) = false := by simp; omega
        cases hab : (a.toList == b.toList)
        · have HD : Hid (swappedQ q a b = nextQ q (q.files.map (swapF a b x y), 0)) := Lib.hid (by unfold swappedQ; rw [hga, hgb]; dsimp only; rw [if_neg h9, if_neg (by simp [hab])])
          have hxm : x.times + 1 ≤ 10000 := by omega
          have hym : y.times + 1 ≤ 10000 := by omega
          obtain ⟨l1, hp1, hl1, hp2⟩ := swap_puts HG.out.fine hga hgb hab h9
          have CP := fun W hb => shelf_Put _ q.files ⟨x.name, y.text, x.times + 1⟩ W (HF.out.below hb) ⟨hxn, hyt⟩ HG.out.fine.len HG.out.fine.rises
          have CR := fun lv W h => shelf_Put lv l1 ⟨y.name, x.text, y.times + 1⟩ W h ⟨hyn, hxt⟩ hl1.len hl1.rises
          rw [hp1] at CP
          rw [hp2] at CR
          unfold RetFilesE File.val at CP CR
          rw [show errV (((l1, 0) : List File × Nat).2) = Value.nilIface from rfl] at CP
          replace CP := Lib.hid CP
          replace CR := Lib.hid CR
          clear hp1 hp2 hl1
          have CN := Lib.hid fun W lv (hb : Below w.heap.size w W) h => quilt_next (.agg #[.slice ao q.files.length ca, .int .i64 q.turn]) q lv (q.files.map (swapF a b x y)) 0 W ⟨_, rfl, HF.out.below hb⟩ h HG.out.lo HG.out.hi
          unfold RetQE at CN
          clear hga hgb h9
          go_enter Tryz.func26, Tryz.ntmps26
          go_wp2_with fail
          rw [← HW2.out]
          refine (CG.out _ HB2.out).mono ?_
          rintro e w3 ⟨rfl, hb3⟩
          have BF := Lib.hid (box_new w3 x)
          have FZ := Lib.hid (box_fz w3 x)
          have HS3 := Lib.hid hb3.size
          have HB3 := Lib.hid (two hb3 (below_alloc w3 (.cells #[.string x.name, .string x.text, .int .i64 x.times] 93)))
          obtain ⟨z0, z1, z2, z3, z4, z5, hns⟩ := HBX.out _ HB3.out
          clear hb3 hns
          go_wp2_with fail
          refine (CH.out _ (two HB2.out HB3.out)).mono ?_
          rintro e w4 ⟨rfl, hb4⟩
          have BG := Lib.hid (box_new w4 y)
          have GZ := Lib.hid (box_fz w4 y)
          have HC4 := Lib.hid (two hb4 (below_alloc w4 (.cells #[.string y.name, .string y.text, .int .i64 y.times] 93)))
          have HS4 : Hid (w3.heap.size < w4.heap.size) := Lib.hid (by have := hb4.size; simp at this; omega)
          have HB4 := Lib.hid (two HB3.out HC4.out)
          clear hb4 z0 z1 z2 z3 z4 z5
          obtain ⟨z0, z1, z2, z3, z4, z5, hns⟩ := HBX.out _ HB4.out
          obtain ⟨x0, x1, x2⟩ := BF.out _ HC4.out
          obtain ⟨y0, y1, y2⟩ := BG.out _ (Below.refl _ _)
          clear hns
          have u0 := FZ.out _ HC4.out 1
          have u1 := FZ.out _ HC4.out 2
          have u2 := GZ.out _ (Below.refl _ _) 1
          have u3 := GZ.out _ (Below.refl _ _) 2
          have hne := Nat.ne_of_lt HS4.out
          go_wp2_with fail
          go_region
          go_wp2_with fail
          obtain ⟨W5, hW5⟩ : ∃ W5, W5 = (((((w4.alloc (.cells #[.string y.name, .string y.text, .int .i64 y.times] 93)).setCell ⟨w3.heap.size, 1, none⟩ (.string y.text)).setCell ⟨w4.heap.size, 1, none⟩ (.string x.text)).setCell ⟨w3.heap.size, 2, none⟩ (.int .i64 (x.times + 1))).setCell ⟨w4.heap.size, 2, none⟩ (.int .i64 (y.times + 1))).drew := ⟨_, rfl⟩
          rw [← hW5]
          have hs34 := Nat.le_trans HS3.out (Nat.le_of_lt HS4.out)
          have HB5 := Lib.hid (show Below W2.heap.size W2 W5 by rw [hW5]; exact ((((HB4.out.setCell (p := ⟨w3.heap.size, 1, none⟩) HS3.out _).setCell (p := ⟨w4.heap.size, 1, none⟩) hs34 _).setCell (p := ⟨w3.heap.size, 2, none⟩) HS3.out _).setCell (p := ⟨w4.heap.size, 2, none⟩) hs34 _).drew)
          have HE5 : Hid (W5.heap.size = w4.heap.size + 1) := Lib.hid (by rw [hW5]; simp [World.drew, World.setCell])
          have hne' : ¬ w4.heap.size = w3.heap.size := fun h => hne h.symm
          have k0 : W5.cell? ⟨w4.heap.size, 0, none⟩ = some (.string y.name) := by rw [hW5]; simp [go_sem, y0, y1, y2, hne, hne']
          have k1 : W5.cell? ⟨w4.heap.size, 1, none⟩ = some (.string x.text) := by rw [hW5]; simp [go_sem, y0, y1, y2, hne, hne']
          have k2 : W5.cell? ⟨w4.heap.size, 2, none⟩ = some (.int .i64 (y.times + 1)) := by rw [hW5]; simp [go_sem, y0, y1, y2, hne, hne']
          have BY5 : Hid (BoxF w4.heap.size ⟨y.name, x.text, y.times + 1⟩ W5) := Lib.hid (box_of (by rw [HE5.out]; omega) k0 k1 k2)
          clear hW5 hs34 hne' k0 k1 k2 x0 x1 x2 y0 y1 y2 u0 u1 u2 u3 hne z0 z1 z2 z3 z4 z5
          refine (CP.out _ (two HB2.out HB5.out)).mono ?_
          rintro e w6 ⟨lv1, rfl, hl1, hb6⟩
          have HL1 := Lib.hid hl1
          have HB6 := Lib.hid (two HB5.out hb6)
          obtain ⟨y0, y1, y2⟩ := BY5.out _ hb6
          clear hl1 hb6
          go_wp2_with fail
          refine (CR.out _ _ HL1.out).mono ?_
          rintro e w7 ⟨lv2, rfl, hl2, hb7⟩
          have HL := Lib.hid hl2
          have HB7 := Lib.hid (two HB6.out hb7)
          clear hl2 hb7 y0 y1 y2
          obtain ⟨z0, z1, z2, z3, z4, z5, hns⟩ := HBX.out _ HB7.out
          clear hns
          go_wp2_with fail
          refine (CN.out _ _ (two HB2.out HB7.out) HL.out).mono ?_
          rintro e w8 ⟨qv', rfl, ⟨v', rfl, hf'⟩, hb8⟩
          obtain ⟨ao', ca', rfl, _, _⟩ := hf'.parts
          have HF' := Lib.hid hf'
          have HB8 := Lib.hid (two HB7.out hb8)
          clear hf' hb8 z0 z1 z2 z3 z4 z5
          obtain ⟨z0, z1, z2, z3, z4, z5, hns⟩ := HBX.out _ HB8.out
          have HNS := Lib.hid hns
          clear hns
          go_wp2_with fail
          have HBF := ((two HB2.out HB8.out).setCell (p := ⟨w.heap.size + 1, 0, none⟩) (by simp) (.slice ao' (nextQ q (q.files.map (swapF a b x y), 0)).1.files.length ca')).setCell (p := ⟨w.heap.size + 1, 1, none⟩) (by simp) (.int .i64 (nextQ q (q.files.map (swapF a b x y), 0)).1.turn)
          refine bodyPost_ret (v := .tuple #[.agg #[.slice ao' (nextQ q (q.files.map (swapF a b x y), 0)).1.files.length ca', .int .i64 (nextQ q (q.files.map (swapF a b x y), 0)).1.turn], errV (nextQ q (q.files.map (swapF a b x y), 0)).2]) (by simp [results, Tryz.results26, go_sem, z0, z1, z2, z3, z4, z5]) rfl ?_
          exact ⟨_, by rw [HD.out], by rw [HD.out]; exact quilt_laid HF'.out HNS.out (files_not_str HF'.out), HBF⟩
        · have HD : Hid (swappedQ q a b = nextQ q (q.files, 0)) := Lib.hid (by unfold swappedQ; rw [hga, hgb]; dsimp only; rw [if_neg h9, if_pos hab])
          clear hga hgb h9
          obtain ⟨p, hp⟩ : ∃ p : List File × Nat, p = (q.files, 0) := ⟨_, rfl⟩
          rw [← hp] at HD
          have CN := Lib.hid fun W lv (hb : Below w.heap.size w W) h => quilt_next (.agg #[.slice ao q.files.length ca, .int .i64 q.turn]) q lv p.1 p.2 W ⟨_, rfl, HF.out.below hb⟩ h HG.out.lo HG.out.hi
          unfold RetQE at CN
          have CC := Lib.hid fun W hb => files_Clone _ q.files W (HF.out.below hb) HG.out.fine.len
          have hp1 : p.1 = q.files := by rw [hp]
          have hp2 : p.2 = 0 := by rw [hp]
          rw [hp1, hp2] at CN
          rw [show (q.files, 0) = p from hp.symm, errV_zero] at CN
          replace CN := CN
          have HSK : Hid (∀ W, Below W2.heap.size W2 W → W.cell? ⟨w.heap.size, 0, none⟩ = some (.slice ao q.files.length ca) ∧ W.cell? ⟨w.heap.size, 1, none⟩ = some (.int .i64 q.turn) ∧ W.cell? ⟨w.heap.size + 1, 0, none⟩ = some (.slice none 0 0) ∧ W.cell? ⟨w.heap.size + 1, 1, none⟩ = some (.int .i64 0) ∧ W.frozen? ⟨w.heap.size + 1, 0, none⟩ = false ∧ W.frozen? ⟨w.heap.size + 1, 1, none⟩ = false) := Lib.hid fun W hb => by
            obtain ⟨z0, z1, z2, z3, z4, z5, _⟩ := HBX.out W hb
            exact ⟨z0, z1, z2, z3, z4, z5⟩
          clear hp hp1 hp2
          go_enter Tryz.func26, Tryz.ntmps26
          go_wp2_with fail
          rw [← HW2.out]
          refine (CG.out _ HB2.out).mono ?_
          rintro e w3 ⟨rfl, hb3⟩
          have BF := Lib.hid (box_new w3 x)
          have FZ := Lib.hid (box_fz w3 x)
          have HS3 := Lib.hid hb3.size
          have HB3 := Lib.hid (two hb3 (below_alloc w3 (.cells #[.string x.name, .string x.text, .int .i64 x.times] 93)))
          obtain ⟨z0, z1, z2, z3, z4, z5, hns⟩ := HBX.out _ HB3.out
          clear hb3 hns
          go_wp2_with fail
          refine (CH.out _ (two HB2.out HB3.out)).mono ?_
          rintro e w4 ⟨rfl, hb4⟩
          have BG := Lib.hid (box_new w4 y)
          have GZ := Lib.hid (box_fz w4 y)
          have HC4 := Lib.hid (two hb4 (below_alloc w4 (.cells #[.string y.name, .string y.text, .int .i64 y.times] 93)))
          have HS4 : Hid (w3.heap.size < w4.heap.size) := Lib.hid (by have := hb4.size; simp at this; omega)
          have HB4 := Lib.hid (two HB3.out HC4.out)
          clear hb4 z0 z1 z2 z3 z4 z5
          obtain ⟨z0, z1, z2, z3, z4, z5, hns⟩ := HBX.out _ HB4.out
          obtain ⟨x0, x1, x2⟩ := BF.out _ HC4.out
          obtain ⟨y0, y1, y2⟩ := BG.out _ (Below.refl _ _)
          clear hns
          have hgo : True := trivial
          go_wp2_with fail
          clear x0 x1 x2 y0 y1 y2
          have ED := Lib.hid HB4.out.drew
          clear BF FZ BG GZ HC4 HB3 CG CH
          go_region_held3 (fun W => W.cell? ⟨w.heap.size, 0, none⟩ = some (.slice ao q.files.length ca) ∧ W.cell? ⟨w.heap.size, 1, none⟩ = some (.int .i64 q.turn))
            (first
              | exact ⟨(HSK.out _ ED.out).1, (HSK.out _ ED.out).2.1⟩
              | exact ⟨(HSK.out _ (HE1 : Hid _).out).1, (HSK.out _ (HE1 : Hid _).out).2.1⟩
              | (have h := HSK.out _ (HE1 : Hid _).out; simp [go_sem, h.1, h.2.1]))
            (first
              | (go_at_call 44; refine (CC.out _ (two HB2.out ED.out)).mono ?_; rintro e wA ⟨va, rfl, hoa, hba⟩; have HE1 := Lib.hid (two ED.out hba); have HVA := Lib.hid (SL.of_own hoa : Files wA va q.files); clear hoa hba)
              | (go_at_call 41; refine (CN.out _ _ (two HB2.out HE1.out) HVA.out).mono ?_; rintro e wB ⟨qv', rfl, ⟨v', rfl, hf'⟩, hbb⟩; obtain ⟨ao', ca', rfl, _, _⟩ := hf'.parts; have HF' := Lib.hid hf'; have HE0 := HE1; clear HE1; have HE1 := Lib.hid (two HE0.out hbb); clear HE0 hf' hbb z0 z1 z2 z3 z4 z5; obtain ⟨z0, z1, z2, z3, z4, z5⟩ := HSK.out _ HE1.out))
          all_goals
            have HNS := Lib.hid ((HBX.out _ HE1.out).2.2.2.2.2.2)
            go_wp2_with fail
            have HBF := ((two HB2.out HE1.out).setCell (p := ⟨w.heap.size + 1, 0, none⟩) (by simp) (.slice ao' (nextQ q p).1.files.length ca')).setCell (p := ⟨w.heap.size + 1, 1, none⟩) (by simp) (.int .i64 (nextQ q p).1.turn)
            refine bodyPost_ret (v := .tuple #[.agg #[.slice ao' (nextQ q p).1.files.length ca', .int .i64 (nextQ q p).1.turn], errV (nextQ q p).2]) (by simp [results, Tryz.results26, go_sem, z0, z1, z2, z3, z4, z5]) rfl ?_
            exact ⟨_, by rw [HD.out], by rw [HD.out]; exact quilt_laid HF'.out HNS.out (files_not_str HF'.out), HBF⟩

end Go.Proofs.YtggpodlecljcbadGreatDoor
