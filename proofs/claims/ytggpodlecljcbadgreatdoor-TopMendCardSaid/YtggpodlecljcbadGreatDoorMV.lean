/- The walks of chapter 3 once more: the files that come out of an act lie in new memory, or where those lie that went in. vote.Of: its quilt lies above B. Printed by wip/mk_vf.py. -/
import Derived.Test.YtggpodlecljcbadGreatDoorMR
import Derived.Test.YtggpodlecljcbadGreatDoorMD
namespace Go.Proofs.YtggpodlecljcbadGreatDoor
open Go.RowKit Go.Sort
set_option linter.unusedSimpArgs false
set_option linter.unusedVariables false
def QuiltsF (B : Nat) (w : World) (qv : Value) (q : Quilt) : Prop := ∃ v, qv = .agg #[v, .int .i64 q.turn] ∧ Files w v q.files ∧ Fresh B v
def RetQF (B : Nat) (p : Quilt × Nat) (w : World) (e : Ending) (w' : World) : Prop := ∃ qv, e = .returned (.tuple #[qv, errV p.2]) ∧ QuiltsF B w' qv p.1 ∧ Below w.heap.size w w'
theorem quilt_laid_f {B : Nat} {W : World} {b : Nat} {v : Value} {q : Quilt} (hv : Files W v q.files) (hb : NoStr W b) (hns : ∀ s, v ≠ .string s) (hf : Fresh B v) : QuiltsF B ((W.setCell ⟨b, 0, none⟩ v).setCell ⟨b, 1, none⟩ (.int .i64 q.turn)) (.agg #[v, .int .i64 q.turn]) q :=
  ⟨v, rfl, files_box (files_box hv hb 0 v) (hb.set 0 v hns) 1 _, hf⟩

set_option maxHeartbeats 2000000 in
theorem shelf_Put_f (va : Value) (l : List File) (f : File) (w : World) (ha : Files w va l) (hf : f.ok) (hl : l.length ≤ 8) (hr : Rises l) :
    Calls Tryz.prog 40 #[va, f.val] w (RetFilesG (putAt l f) w) := by
  have CF := fun W => file_Check f W hf
  have CC := Lib.hid fun W hb => files_Clone va l W (Rd.below ha hb) hl
  have CS := Lib.hid fun v W h => shelf_find v l f.name W h hl hr
  obtain ⟨ao, ca, rfl, hca, hca'⟩ := ha.parts
  unfold File.val at CF ⊢
  obtain ⟨W1, hW1⟩ : ∃ W1, W1 = w.alloc (.cells #[.string f.name, .string f.text, .int .i64 f.times] 93) := ⟨_, rfl⟩
  have B1 : Below w.heap.size w W1 := by rw [hW1]; exact below_alloc w _
  have hz : W1.heap.size = w.heap.size + 1 := by rw [hW1]; simp
  have c0 : W1.cell? ⟨w.heap.size, 0, none⟩ = some (.string f.name) := by rw [hW1]; simp
  have c1 : W1.cell? ⟨w.heap.size, 1, none⟩ = some (.string f.text) := by rw [hW1]; simp
  have c2 : W1.cell? ⟨w.heap.size, 2, none⟩ = some (.int .i64 f.times) := by rw [hW1]; simp
  have CB : Hid (∀ W, Below W1.heap.size W1 W → W.cell? ⟨w.heap.size, 0, none⟩ = some (.string f.name) ∧ W.cell? ⟨w.heap.size, 1, none⟩ = some (.string f.text) ∧ W.cell? ⟨w.heap.size, 2, none⟩ = some (.int .i64 f.times)) := by
    refine Lib.hid fun W hb => ?_
    obtain ⟨hc, _⟩ := bcell hb
    exact ⟨(hc _ _ (by omega)).trans c0, (hc _ _ (by omega)).trans c1, (hc _ _ (by omega)).trans c2⟩
  have HW1 := Lib.hid hW1
  have HB1 := Lib.hid B1
  have HR := Lib.hid hr
  clear hW1 hz B1 ha hr
  by_cases hff : fileFault f = 0
  · have HFF := Lib.hid hff
    rw [hff, errV_zero] at CF
    replace CF := Lib.hid CF
    clear hff
    obtain ⟨k, hkk⟩ : ∃ k, k = rank l f.name := ⟨_, rfl⟩
    unfold RetFind at CS
    rw [← hkk] at CS
    cases hi : isAt l f.name k
    · rw [hi] at CS
      have HI := Lib.hid hi
      have hkl : k ≤ l.length := by rw [hkk]; exact rank_le _ _
      have HK := Lib.hid hkk
      clear hi hkk
      by_cases h8 : 8 ≤ l.length
      · have HD : Hid (putAt l f = ([], 7)) := Lib.hid (put_full l f HFF.out HR.out (by rw [← HK.out]; exact HI.out) h8)
        go_enter Tryz.func40, Tryz.ntmps40
        go_wp2_with fail
        rw [← HW1.out]
        refine (CF.out _).mono ?_
        rintro e w2 ⟨rfl, hb2⟩
        have HB2 := Lib.hid hb2
        clear hb2
        go_wp2_with fail
        refine (CC.out _ (two HB1.out HB2.out)).mono ?_
        rintro e w3 ⟨v, rfl, ho, hb3⟩
        have HO := Lib.hid ho
        have HB3 := Lib.hid (two HB2.out hb3)
        have HS3 := Lib.hid hb3.size
        obtain ⟨d0, d1, d2⟩ := CB.out w3 HB3.out
        clear ho hb3 c0 c1 c2
        go_wp2_with fail
        refine (CS.out _ _ (SL.of_own HO.out)).mono ?_
        rintro e w4 ⟨rfl, hb4⟩
        have HS4 := Lib.hid (Nat.le_trans HS3.out hb4.size)
        have HB4 := Lib.hid (two HB3.out hb4)
        have HO4 := Lib.hid (own_below HO.out hb4)
        obtain ⟨g0, g1, g2⟩ := CB.out w4 HB4.out
        clear hb4 d0 d1 d2 HO
        obtain ⟨a, cap, rfl, _, _⟩ := Rd.parts (SL.of_own HO4.out : Rd 3 File.cells w4 v l)
        go_wp2_with fail
        refine bodyPost_ret (v := .tuple #[.slice none 0 0, errV 7]) (by simp [results, Tryz.results40, go_sem, errV]) rfl ?_
        exact ⟨_, by rw [HD.out], by rw [HD.out]; exact Rd.nil _, two HB1.out HB4.out, fresh_nil _⟩
      · have HD : Hid (putAt l f = (l.take k ++ f :: l.drop k, 0)) := Lib.hid (put_new l f HFF.out HR.out k HK.out HI.out h8)
        go_enter Tryz.func40, Tryz.ntmps40
        go_wp2_with fail
        rw [← HW1.out]
        refine (CF.out _).mono ?_
        rintro e w2 ⟨rfl, hb2⟩
        have HB2 := Lib.hid hb2
        clear hb2
        go_wp2_with fail
        refine (CC.out _ (two HB1.out HB2.out)).mono ?_
        rintro e w3 ⟨v, rfl, ho, hb3⟩
        have HO := Lib.hid ho
        have HB3 := Lib.hid (two HB2.out hb3)
        have HS3 := Lib.hid hb3.size
        obtain ⟨d0, d1, d2⟩ := CB.out w3 HB3.out
        clear ho hb3 c0 c1 c2
        go_wp2_with fail
        refine (CS.out _ _ (SL.of_own HO.out)).mono ?_
        rintro e w4 ⟨rfl, hb4⟩
        have HS4 := Lib.hid (Nat.le_trans HS3.out hb4.size)
        have HB4 := Lib.hid (two HB3.out hb4)
        have HO4 := Lib.hid (own_below HO.out hb4)
        obtain ⟨g0, g1, g2⟩ := CB.out w4 HB4.out
        clear hb4 d0 d1 d2 HO
        have HBO : Hid (v.ownBlock ≠ some w4.heap.size) := Lib.hid fun h => by have := (HO4.out.lt _ h).2; omega
        obtain ⟨a, cap, rfl, _, _⟩ := Rd.parts (SL.of_own HO4.out : Rd 3 File.cells w4 v l)
        go_wp2_with fail
        refine (files_Insert w2.heap.size _ l f k w4.heap.size 93 _ (HO4.out.alloc _) hl hkl ?_ HBO.out ?_).mono ?_
        · have := HS4.out; simp; omega
        · exact heap_new w4 _
        rintro e w5 ⟨v', rfl, hf5, hb5, hfr5⟩
        have HFR5 := Lib.hid (hfr5.mono (Nat.le_trans HB1.out.size HB2.out.size))
        clear hfr5
        have HF5 := Lib.hid hf5
        have HB5 := Lib.hid (two HB1.out (HB4.out.trans (((below_alloc w4 _).mono HB4.out.size).trans (hb5.mono HB2.out.size))))
        clear hf5 hb5 g0 g1 g2
        go_wp2_with fail
        refine bodyPost_ret (v := .tuple #[v', errV 0]) (by simp [results, Tryz.results40, go_sem, errV]) rfl ?_
        exact ⟨_, by rw [HD.out], by rw [HD.out]; exact HF5.out, HB5.out, HFR5.out⟩
    · rw [hi] at CS
      have hkl : k < l.length := isAt_len hi
      have HD : Hid (putAt l f = (l.take k ++ f :: l.drop (k + 1), 0)) := Lib.hid (put_is l f HFF.out HR.out k hkk hi)
      clear hi hkk
      go_enter Tryz.func40, Tryz.ntmps40
      go_wp2_with fail
      rw [← HW1.out]
      refine (CF.out _).mono ?_
      rintro e w2 ⟨rfl, hb2⟩
      have HB2 := Lib.hid hb2
      clear hb2
      go_wp2_with fail
      refine (CC.out _ (two HB1.out HB2.out)).mono ?_
      rintro e w3 ⟨v, rfl, ho, hb3⟩
      have HO := Lib.hid ho
      have HB3 := Lib.hid (two HB2.out hb3)
      have HS3 := Lib.hid hb3.size
      obtain ⟨d0, d1, d2⟩ := CB.out w3 HB3.out
      clear ho hb3 c0 c1 c2
      go_wp2_with fail
      refine (CS.out _ _ (SL.of_own HO.out)).mono ?_
      rintro e w4 ⟨rfl, hb4⟩
      have HS4 := Lib.hid (Nat.le_trans HS3.out hb4.size)
      have HB4 := Lib.hid (two HB3.out hb4)
      have HO4 := Lib.hid (own_below HO.out hb4)
      obtain ⟨g0, g1, g2⟩ := CB.out w4 HB4.out
      clear hb4 d0 d1 d2 HO
      obtain ⟨g, cap, rfl⟩ : ∃ g cap, v = .slice (some ⟨g, 0, none⟩) l.length cap := by
        rcases HO4.out.2 with ⟨_, h⟩ | ⟨g, cap, _, h, _⟩
        · omega
        · exact ⟨g, cap, h⟩
      obtain ⟨hbg, hgw, hnc, hc63, hlen, hcell, hsome, hfro, hsh⟩ := own_cells HO4.out
      obtain ⟨b, off, eb, _, y0, y1, y2⟩ := Files.cell (SL.of_own HO4.out : Rd 3 File.cells w4 _ l) k hkl
      simp only [Option.some.injEq, Addr.mk.injEq, and_true] at eb
      obtain ⟨rfl, rfl⟩ := eb
      simp only [Nat.zero_add] at y0 y1 y2
      have z0 := hfro (k * 3)
      have z1 := hfro (k * 3 + 1)
      have z2 := hfro (k * 3 + 2)
      have HFIN := Lib.hid (own_put f k hkl rfl HO4.out)
      have HGW := Lib.hid (Nat.le_trans HB2.out.size hbg)
      have HFR5 : Hid (Fresh w.heap.size (.slice (some ⟨g, 0, none⟩) l.length cap)) := Lib.hid ((fresh_own HO4.out).mono (Nat.le_trans HB1.out.size HB2.out.size))
      clear hlen hcell hsome hfro hsh hbg hgw
      go_wp2_with fail
      have HB5 := Lib.hid (two HB1.out (((HB4.out.setCell (p := ⟨g, k * 3, none⟩) HGW.out (.string f.name)).setCell (p := ⟨g, k * 3 + 1, none⟩) HGW.out (.string f.text)).setCell (p := ⟨g, k * 3 + 2, none⟩) HGW.out (.int .i64 f.times)))
      refine bodyPost_ret (v := .tuple #[.slice (some ⟨g, 0, none⟩) l.length cap, errV 0]) (by simp [results, Tryz.results40, go_sem, errV]) rfl ?_
      exact ⟨_, by rw [HD.out], by rw [HD.out]; exact HFIN.out, HB5.out, HFR5.out⟩
  · have HD : Hid (putAt l f = ([], fileFault f)) := Lib.hid (put_fault l f hff)
    rw [errV_pos hff] at CF
    replace CF := Lib.hid CF
    have HFF := Lib.hid hff
    clear hff
    go_enter Tryz.func40, Tryz.ntmps40
    go_wp2_with fail
    rw [← HW1.out]
    refine (CF.out _).mono ?_
    rintro e w2 ⟨rfl, hb2⟩
    have HB2 := Lib.hid (two HB1.out hb2)
    clear hb2
    go_wp2_with fail
    refine bodyPost_ret (v := .tuple #[.slice none 0 0, errV (fileFault f)]) (by rw [errV_pos HFF.out]; simp [results, Tryz.results40, go_sem]) rfl ?_
    exact ⟨_, by rw [HD.out], by rw [HD.out]; exact Rd.nil _, HB2.out, fresh_nil _⟩

set_option maxHeartbeats 1000000 in
theorem quilt_next_f (B : Nat) (qv : Value) (q : Quilt) (lv : Value) (l : List File) (n : Nat) (w : World) (hq : Quilts w qv q) (hl : Files w lv l) (h1 : 1 ≤ q.turn) (h2 : q.turn ≤ 9999) (hfr : Fresh B lv) :
    Calls Tryz.prog 41 #[qv, lv, errV n] w (RetQF B (nextQ q (l, n)) w) := by
  obtain ⟨v, rfl, hf⟩ := hq
  obtain ⟨W2, hW2⟩ : ∃ W2, W2 = qw w v q.turn := ⟨_, rfl⟩
  have BX := qw_box w v q.turn
  have HB2 := Lib.hid (qw_below w v q.turn)
  rw [← hW2] at BX HB2
  obtain ⟨z0, z1, z2, z3, z4, z5, hns⟩ := BX.now
  have HNS := Lib.hid hns
  unfold qw at hW2
  have HW2 := Lib.hid hW2
  obtain ⟨lao, lca, rfl, _, _⟩ := hl.parts
  have HL := Lib.hid hl
  have HFR := Lib.hid hfr
  clear hfr hf BX hns hW2 hl
  by_cases hn : n = 0
  · subst hn
    rw [errV_zero]
    by_cases h9 : 9999 ≤ q.turn
    · have HD : Hid (nextQ q (l, 0) = (noQuilt, 7)) := Lib.hid (by unfold nextQ; rw [if_neg (by simp), if_pos h9])
      go_enter Tryz.func41, Tryz.ntmps41
      go_wp2_with fail
      rw [← HW2.out]
      refine bodyPost_ret (v := .tuple #[.agg #[.slice none 0 0, .int .i64 0], errV 7]) (by simp [errV, results, Tryz.results41, go_sem, z0, z1, z2, z3, z4, z5]) rfl ?_
      exact ⟨_, by rw [HD.out]; try rfl, by rw [HD.out]; exact ⟨_, rfl, Rd.nil _, fresh_nil _⟩, HB2.out⟩
    · have HD : Hid (nextQ q (l, 0) = (⟨l, q.turn + 1⟩, 0)) := Lib.hid (by unfold nextQ; rw [if_neg (by simp), if_neg h9])
      have h9' : q.turn < 9999 := by omega
      go_enter Tryz.func41, Tryz.ntmps41
      go_wp2_with fail
      have HBF := two (below_alloc w (.cells #[v, .int .i64 q.turn] 36)) (below_alloc _ (.cells #[.slice lao l.length lca, .int .i64 (q.turn + 1)] 36))
      refine bodyPost_ret (v := .tuple #[.agg #[.slice lao l.length lca, .int .i64 (q.turn + 1)], errV 0]) (by simp [errV, results, Tryz.results41, go_sem, z0, z1, z2, z3, z4, z5]) rfl ?_
      exact ⟨_, by rw [HD.out]; try rfl, by rw [HD.out]; exact ⟨_, rfl, HL.out.below HBF, HFR.out⟩, HBF⟩
  · have HD : Hid (nextQ q (l, n) = (noQuilt, n)) := Lib.hid (by unfold nextQ; rw [if_pos (by simpa using hn)])
    have HN := Lib.hid hn
    rw [errV_pos hn]
    clear hn
    go_enter Tryz.func41, Tryz.ntmps41
    go_wp2_with fail
    rw [← HW2.out]
    refine bodyPost_ret (v := .tuple #[.agg #[.slice none 0 0, .int .i64 0], errV n]) (by rw [errV_pos HN.out]; simp [results, Tryz.results41, go_sem, z0, z1, z2, z3, z4, z5]) rfl ?_
    exact ⟨_, by rw [HD.out]; try rfl, by rw [HD.out]; exact ⟨_, rfl, Rd.nil _, fresh_nil _⟩, HB2.out⟩

set_option maxHeartbeats 1000000 in
theorem quilt_Write_f (B : Nat) (qv : Value) (q : Quilt) (name text : ByteArray) (w : World) (hq : Quilts w qv q) (hg : Good q) (hn : name.size ≤ maxLen) (ht : text.size ≤ maxLen) (hB : B ≤ w.heap.size) :
    Calls Tryz.prog 23 #[qv, .string name, .string text] w (RetQF B (writtenQ q name text) w) := by
  obtain ⟨v, rfl, hf⟩ := hq
  have HBW := Lib.hid hB
  clear hB
  obtain ⟨W2, hW2⟩ : ∃ W2, W2 = qw w v q.turn := ⟨_, rfl⟩
  have BX := qw_box w v q.turn
  have HB2 := Lib.hid (qw_below w v q.turn)
  rw [← hW2] at BX HB2
  have HBX := Lib.hid BX
  have HF := Lib.hid hf
  obtain ⟨ao, ca, rfl, hca, hca'⟩ := hf.parts
  unfold qw at hW2
  have HW2 := Lib.hid hW2
  have HG := Lib.hid hg
  have CG := fun W hb => shelf_Get _ q.files name W (hf.below hb) hg.fine.len hg.fine.rises
  have CP := fun W hb => shelf_Put_f _ q.files ⟨name, text, timesOf q name + 1⟩ W (hf.below hb) ⟨hn, ht⟩ hg.fine.len hg.fine.rises
  obtain ⟨p, hp⟩ : ∃ p, p = putAt q.files ⟨name, text, timesOf q name + 1⟩ := ⟨_, rfl⟩
  have HD : Hid (writtenQ q name text = nextQ q p) := Lib.hid (by rw [hp]; rfl)
  rw [← hp] at CP
  have CN := Lib.hid fun W lv (hb : Below w.heap.size w W) h hfr => quilt_next_f B (.agg #[.slice ao q.files.length ca, .int .i64 q.turn]) q lv p.1 p.2 W ⟨_, rfl, HF.out.below hb⟩ h HG.out.lo HG.out.hi hfr
  have ht1 := times_range HG.out name
  obtain ⟨g, hgg⟩ : ∃ g, g = fileOr (getAt q.files name) := ⟨_, rfl⟩
  have htt : timesOf q name = g.times := by rw [hgg]; rfl
  unfold RetFile File.val at CG
  rw [← hgg] at CG
  obtain ⟨b, hbb⟩ : ∃ b, b = (getAt q.files name).isSome := ⟨_, rfl⟩
  rw [← hbb] at CG
  unfold RetFilesG File.val at CP
  rw [htt] at CP ht1
  unfold RetQF at CN
  obtain ⟨hg0, hg1⟩ := ht1
  have hg1' : g.times + 1 ≤ 10000 := by omega
  replace CG := Lib.hid CG
  replace CP := Lib.hid CP
  clear hp hbb htt hgg
  clear BX hW2 hf hg
  go_enter Tryz.func23, Tryz.ntmps23
  go_wp2_with fail
  rw [← HW2.out]
  refine (CG.out _ HB2.out).mono ?_
  rintro e w3 ⟨rfl, hb3⟩
  have BF := Lib.hid (box_new w3 g)
  have HB3 := Lib.hid (two hb3 (below_alloc w3 (.cells #[.string g.name, .string g.text, .int .i64 g.times] 93)))
  obtain ⟨z0, z1, z2, z3, z4, z5, hns⟩ := HBX.out _ HB3.out
  clear hb3 hns
  go_wp2_with fail
  refine (CP.out _ (two HB2.out HB3.out)).mono ?_
  rintro e w4 ⟨lv, rfl, hl, hb4, hfr4⟩
  have HFR := Lib.hid (hfr4.mono (Nat.le_trans HBW.out (two HB2.out HB3.out).size))
  clear hfr4
  have HL := Lib.hid hl
  have HB4 := Lib.hid (two HB3.out hb4)
  clear hl hb4 z0 z1 z2 z3 z4 z5
  obtain ⟨z0, z1, z2, z3, z4, z5, hns⟩ := HBX.out _ HB4.out
  clear hns
  go_wp2_with fail
  refine (CN.out _ _ (two HB2.out HB4.out) HL.out HFR.out).mono ?_
  rintro e w5 ⟨qv', rfl, ⟨v', rfl, hf', hfr'⟩, hb5⟩
  obtain ⟨ao', ca', rfl, _, _⟩ := hf'.parts
  have HFR2 := Lib.hid hfr'
  clear hfr'
  have HF' := Lib.hid hf'
  have HB5 := Lib.hid (two HB4.out hb5)
  clear hf' hb5 z0 z1 z2 z3 z4 z5
  obtain ⟨z0, z1, z2, z3, z4, z5, hns⟩ := HBX.out _ HB5.out
  have HNS := Lib.hid hns
  clear hns
  go_wp2_with fail
  have HBF := ((two HB2.out HB5.out).setCell (p := ⟨w.heap.size + 1, 0, none⟩) (by simp) (.slice ao' (nextQ q p).1.files.length ca')).setCell (p := ⟨w.heap.size + 1, 1, none⟩) (by simp) (.int .i64 (nextQ q p).1.turn)
  refine bodyPost_ret (v := .tuple #[.agg #[.slice ao' (nextQ q p).1.files.length ca', .int .i64 (nextQ q p).1.turn], errV (nextQ q p).2]) (by simp [results, Tryz.results23, go_sem, z0, z1, z2, z3, z4, z5]) rfl ?_
  exact ⟨_, by rw [HD.out], by rw [HD.out]; exact quilt_laid_f HF'.out HNS.out (files_not_str HF'.out) HFR2.out, HBF⟩

set_option maxHeartbeats 1000000 in
theorem quilt_Drop_f (B : Nat) (qv : Value) (q : Quilt) (name : ByteArray) (w : World) (hq : Quilts w qv q) (hg : Good q) (hB : B ≤ w.heap.size) :
    Calls Tryz.prog 24 #[qv, .string name] w (RetQF B (droppedQ q name) w) := by
  obtain ⟨v, rfl, hf⟩ := hq
  have HBW := Lib.hid hB
  clear hB
  obtain ⟨W2, hW2⟩ : ∃ W2, W2 = qw w v q.turn := ⟨_, rfl⟩
  have BX := qw_box w v q.turn
  have HB2 := Lib.hid (qw_below w v q.turn)
  rw [← hW2] at BX HB2
  have HBX := Lib.hid BX
  have HF := Lib.hid hf
  obtain ⟨ao, ca, rfl, hca, hca'⟩ := hf.parts
  unfold qw at hW2
  have HW2 := Lib.hid hW2
  have HG := Lib.hid hg
  have CP := fun W hb => shelf_Drop_f _ q.files name W (hf.below hb) hg.fine.len hg.fine.rises
  obtain ⟨p, hp⟩ : ∃ p, p = dropAt q.files name := ⟨_, rfl⟩
  have HD : Hid (droppedQ q name = nextQ q p) := Lib.hid (by rw [hp]; rfl)
  rw [← hp] at CP
  have CN := Lib.hid fun W lv (hb : Below w.heap.size w W) h hfr => quilt_next_f B (.agg #[.slice ao q.files.length ca, .int .i64 q.turn]) q lv p.1 p.2 W ⟨_, rfl, HF.out.below hb⟩ h HG.out.lo HG.out.hi hfr
  unfold RetFilesG at CP
  unfold RetQF at CN
  replace CP := Lib.hid CP
  clear hp
  clear BX hW2 hf hg
  go_enter Tryz.func24, Tryz.ntmps24
  go_wp2_with fail
  rw [← HW2.out]
  refine (CP.out _ HB2.out).mono ?_
  rintro e w4 ⟨lv, rfl, hl, hb4, hfr4⟩
  have HFR := Lib.hid (hfr4.mono (Nat.le_trans HBW.out HB2.out.size))
  clear hfr4
  have HL := Lib.hid hl
  have HB4 := Lib.hid hb4
  clear hl hb4
  obtain ⟨z0, z1, z2, z3, z4, z5, hns⟩ := HBX.out _ HB4.out
  clear hns
  go_wp2_with fail
  refine (CN.out _ _ (two HB2.out HB4.out) HL.out HFR.out).mono ?_
  rintro e w5 ⟨qv', rfl, ⟨v', rfl, hf', hfr'⟩, hb5⟩
  obtain ⟨ao', ca', rfl, _, _⟩ := hf'.parts
  have HFR2 := Lib.hid hfr'
  clear hfr'
  have HF' := Lib.hid hf'
  have HB5 := Lib.hid (two HB4.out hb5)
  clear hf' hb5 z0 z1 z2 z3 z4 z5
  obtain ⟨z0, z1, z2, z3, z4, z5, hns⟩ := HBX.out _ HB5.out
  have HNS := Lib.hid hns
  clear hns
  go_wp2_with fail
  have HBF := ((two HB2.out HB5.out).setCell (p := ⟨w.heap.size + 1, 0, none⟩) (by simp) (.slice ao' (nextQ q p).1.files.length ca')).setCell (p := ⟨w.heap.size + 1, 1, none⟩) (by simp) (.int .i64 (nextQ q p).1.turn)
  refine bodyPost_ret (v := .tuple #[.agg #[.slice ao' (nextQ q p).1.files.length ca', .int .i64 (nextQ q p).1.turn], errV (nextQ q p).2]) (by simp [results, Tryz.results24, go_sem, z0, z1, z2, z3, z4, z5]) rfl ?_
  exact ⟨_, by rw [HD.out], by rw [HD.out]; exact quilt_laid_f HF'.out HNS.out (files_not_str HF'.out) HFR2.out, HBF⟩

set_option maxHeartbeats 2000000 in
theorem quilt_Rename_f (B : Nat) (qv : Value) (q : Quilt) (name tn : ByteArray) (w : World) (hq : Quilts w qv q) (hg : Good q) (hto : tn.size ≤ maxLen) (hB : B ≤ w.heap.size) :
    Calls Tryz.prog 25 #[qv, .string name, .string tn] w (RetQF B (renamedQ q name tn) w) := by
  obtain ⟨v, rfl, hf⟩ := hq
  have HBW := Lib.hid hB
  clear hB
  obtain ⟨W2, hW2⟩ : ∃ W2, W2 = qw w v q.turn := ⟨_, rfl⟩
  have BX := qw_box w v q.turn
  have HB2 := Lib.hid (qw_below w v q.turn)
  rw [← hW2] at BX HB2
  have HBX := Lib.hid BX
  have HF := Lib.hid hf
  obtain ⟨ao, ca, rfl, hca, hca'⟩ := hf.parts
  unfold qw at hW2
  have HW2 := Lib.hid hW2
  have HG := Lib.hid hg
  have HSZ : Hid (W2.heap.size = w.heap.size + 2) := Lib.hid (by rw [HW2.out]; simp)
  have CG := fun W hb => shelf_Get _ q.files name W (hf.below hb) hg.fine.len hg.fine.rises
  have CH := fun W hb => shelf_Get _ q.files tn W (hf.below hb) hg.fine.len hg.fine.rises
  have CF := fun W => file_Name tn W hto
  unfold RetFile fileOr File.val at CG CH
  cases hgn : getAt q.files name with
  | none =>
    have HD : Hid (renamedQ q name tn = (noQuilt, 5)) := Lib.hid (by unfold renamedQ; rw [hgn])
    rw [hgn] at CG
    simp only [Option.getD_none, Option.isSome_none] at CG
    replace CG := Lib.hid CG
    clear BX hW2 hf hg CH CF
    go_enter Tryz.func25, Tryz.ntmps25
    go_wp2_with fail
    rw [← HW2.out]
    refine (CG.out _ HB2.out).mono ?_
    rintro e w3 ⟨rfl, hb3⟩
    have HB3 := Lib.hid (two hb3 (below_alloc w3 (.cells #[.string noFile.name, .string noFile.text, .int .i64 noFile.times] 93)))
    obtain ⟨z0, z1, z2, z3, z4, z5, hns⟩ := HBX.out _ HB3.out
    clear hb3 hns
    go_wp2_with fail
    refine bodyPost_ret (v := .tuple #[.agg #[.slice none 0 0, .int .i64 0], errV 5]) (by simp [errV, results, Tryz.results25, go_sem, z0, z1, z2, z3, z4, z5]) rfl ?_
    exact ⟨_, by rw [HD.out]; try rfl, by rw [HD.out]; exact ⟨_, rfl, Rd.nil _, fresh_nil _⟩, ((two HB2.out HB3.out).setCell (p := ⟨w.heap.size + 1, 0, none⟩) (by simp) (.slice none 0 0)).setCell (p := ⟨w.heap.size + 1, 1, none⟩) (by simp) (.int .i64 0)⟩
  | some f =>
    obtain ⟨mf, ef⟩ := hg.fine.mem hgn
    have hft : f.text.size ≤ maxLen := by
      have := (file_good (hg.fine.each f mf)).2.1
      unfold maxLen; omega
    rw [hgn] at CG
    simp only [Option.getD_some, Option.isSome_some] at CG
    replace CG := Lib.hid CG
    by_cases hnf : nameFault tn.data.toList = 0
    · rw [hnf, errV_zero] at CF
      replace CF := Lib.hid CF
      cases hgt : getAt q.files tn with
      | some h =>
        have HD : Hid (renamedQ q name tn = (noQuilt, 6)) := Lib.hid (by unfold renamedQ; rw [hgn]; dsimp only; rw [if_neg (by simp [hnf]), if_pos (by rw [hgt]; rfl)])
        rw [hgt] at CH
        simp only [Option.getD_some, Option.isSome_some] at CH
        replace CH := Lib.hid CH
        clear BX hW2 hf hg hnf hgn hgt ef
        go_enter Tryz.func25, Tryz.ntmps25
        go_wp2_with fail
        rw [← HW2.out]
        refine (CG.out _ HB2.out).mono ?_
        rintro e w3 ⟨rfl, hb3⟩
        have BF := Lib.hid (box_new w3 f)
        have FZ := Lib.hid (box_fz w3 f)
        have HS3 := Lib.hid hb3.size
        have HB3 := Lib.hid (two hb3 (below_alloc w3 (.cells #[.string f.name, .string f.text, .int .i64 f.times] 93)))
        obtain ⟨z0, z1, z2, z3, z4, z5, hns⟩ := HBX.out _ HB3.out
        clear hb3 hns
        go_wp2_with fail
        clear z0 z1 z2 z3 z4 z5
        refine (CF.out _).mono ?_
        rintro e w4 ⟨rfl, hb4⟩
        have HB4 := Lib.hid (two HB3.out hb4)
        clear hb4
        obtain ⟨z0, z1, z2, z3, z4, z5, hns⟩ := HBX.out _ HB4.out
        clear hns
        go_wp2_with fail
        refine (CH.out _ (two HB2.out HB4.out)).mono ?_
        rintro e w5 ⟨rfl, hb5⟩
        have HB5 := Lib.hid (two HB4.out hb5)
        clear z0 z1 z2 z3 z4 z5
        obtain ⟨z0, z1, z2, z3, z4, z5, hns⟩ := HBX.out _ HB5.out
        clear hb5 hns
        go_wp2_with fail
        refine bodyPost_ret (v := .tuple #[.agg #[.slice none 0 0, .int .i64 0], errV 6]) (by simp [errV, results, Tryz.results25, go_sem, z0, z1, z2, z3, z4, z5]) rfl ?_
        exact ⟨_, by rw [HD.out]; try rfl, by rw [HD.out]; exact ⟨_, rfl, Rd.nil _, fresh_nil _⟩, ((two HB2.out HB5.out).setCell (p := ⟨w.heap.size + 1, 0, none⟩) (by simp) (.slice none 0 0)).setCell (p := ⟨w.heap.size + 1, 1, none⟩) (by simp) (.int .i64 0)⟩
      | none =>
        rw [hgt] at CH
        simp only [Option.getD_none, Option.isSome_none] at CH
        replace CH := Lib.hid CH
        obtain ⟨d, hdd⟩ : ∃ d, d = (dropAt q.files name).1 := ⟨_, rfl⟩
        have hd0 : dropAt q.files name = (d, 0) := by
          rw [hdd]; unfold dropAt; rw [hgn]; rfl
        have hd : Fine d := by rw [hdd]; exact drop_fine hg.fine name
        obtain ⟨p, hp⟩ : ∃ p, p = putAt d ⟨tn, f.text, f.times⟩ := ⟨_, rfl⟩
        have HD : Hid (renamedQ q name tn = nextQ q p) := Lib.hid (by unfold renamedQ; rw [hgn]; dsimp only; rw [if_neg (by simp [hnf]), if_neg (by rw [hgt]; simp), hp, hdd])
        have CD := fun W hb => shelf_Drop_f _ q.files name W (hf.below hb) hg.fine.len hg.fine.rises
        have CP := fun lv W h => shelf_Put_f lv d ⟨tn, f.text, f.times⟩ W h ⟨hto, hft⟩ hd.len hd.rises
        rw [← hp] at CP
        rw [hd0] at CD
        unfold RetFilesG at CD
        unfold RetFilesG File.val at CP
        simp only [errV_zero] at CD
        have CN := Lib.hid fun W lv (hb : Below w.heap.size w W) h hfr => quilt_next_f B (.agg #[.slice ao q.files.length ca, .int .i64 q.turn]) q lv p.1 p.2 W ⟨_, rfl, HF.out.below hb⟩ h HG.out.lo HG.out.hi hfr
        unfold RetQF at CN
        replace CD := Lib.hid CD
        replace CP := Lib.hid CP
        clear BX hW2 hf hg hnf hgn hgt ef hp hdd hd0 hd
        go_enter Tryz.func25, Tryz.ntmps25
        go_wp2_with fail
        rw [← HW2.out]
        refine (CG.out _ HB2.out).mono ?_
        rintro e w3 ⟨rfl, hb3⟩
        have BF := Lib.hid (box_new w3 f)
        have FZ := Lib.hid (box_fz w3 f)
        have HS3 := Lib.hid hb3.size
        have HB3 := Lib.hid (two hb3 (below_alloc w3 (.cells #[.string f.name, .string f.text, .int .i64 f.times] 93)))
        obtain ⟨z0, z1, z2, z3, z4, z5, hns⟩ := HBX.out _ HB3.out
        clear hb3 hns
        go_wp2_with fail
        clear z0 z1 z2 z3 z4 z5
        refine (CF.out _).mono ?_
        rintro e w4 ⟨rfl, hb4⟩
        have HB4 := Lib.hid (two HB3.out hb4)
        have HC4 := Lib.hid hb4
        clear hb4
        obtain ⟨z0, z1, z2, z3, z4, z5, hns⟩ := HBX.out _ HB4.out
        clear hns
        go_wp2_with fail
        refine (CH.out _ (two HB2.out HB4.out)).mono ?_
        rintro e w5 ⟨rfl, hb5⟩
        have HB5 := Lib.hid (two HB4.out hb5)
        have HC5 := Lib.hid (two HC4.out hb5)
        clear z0 z1 z2 z3 z4 z5
        obtain ⟨z0, z1, z2, z3, z4, z5, hns⟩ := HBX.out _ HB5.out
        clear hb5 hns
        go_wp2_with fail
        refine (CD.out _ (two HB2.out HB5.out)).mono ?_
        rintro e w6 ⟨lv, rfl, hl, hb6, hfr⟩
        have HS5 : Hid (w3.heap.size < w5.heap.size) := Lib.hid (by have := HC5.out.size; simp at this; omega)
        have HL6 := Lib.hid (files_set_fresh hl hfr HS5.out 0 (.string tn))
        have HB6 := Lib.hid (two HB5.out hb6)
        obtain ⟨x0, x1, x2⟩ := BF.out _ (two HC5.out hb6)
        have y0 := FZ.out _ (two HC5.out hb6) 0
        clear z0 z1 z2 z3 z4 z5
        obtain ⟨z0, z1, z2, z3, z4, z5, hns⟩ := HBX.out _ HB6.out
        have HB7 := Lib.hid (HB6.out.setCell (p := ⟨w3.heap.size, 0, none⟩) HS3.out (.string tn))
        have HNE : Hid (w.heap.size ≠ w3.heap.size ∧ w.heap.size + 1 ≠ w3.heap.size) := Lib.hid (by have := HS3.out; have := HSZ.out; constructor <;> omega)
        clear hl hb6 hfr hns z0 z1 z2 z3 z4 z5
        go_wp2_with fail
        refine (CP.out _ _ HL6.out).mono ?_
        rintro e w8 ⟨lv2, rfl, hl, hb8, hfr8⟩
        have HFR := Lib.hid (hfr8.mono (Nat.le_trans HBW.out (two HB2.out HB7.out).size))
        clear hfr8
        have HL := Lib.hid hl
        have HB8 := Lib.hid (two HB7.out hb8)
        clear hl hb8 x0 x1 x2 y0
        obtain ⟨z0, z1, z2, z3, z4, z5, hns⟩ := HBX.out _ HB8.out
        clear hns
        go_wp2_with fail
        refine (CN.out _ _ (two HB2.out HB8.out) HL.out HFR.out).mono ?_
        rintro e w9 ⟨qv', rfl, ⟨v', rfl, hf', hfr'⟩, hb9⟩
        obtain ⟨ao', ca', rfl, _, _⟩ := hf'.parts
        have HFR2 := Lib.hid hfr'
        clear hfr'
        have HF' := Lib.hid hf'
        have HB9 := Lib.hid (two HB8.out hb9)
        clear hf' hb9 z0 z1 z2 z3 z4 z5
        obtain ⟨z0, z1, z2, z3, z4, z5, hns⟩ := HBX.out _ HB9.out
        have HNS := Lib.hid hns
        clear hns
        go_wp2_with fail
        have HBF := ((two HB2.out HB9.out).setCell (p := ⟨w.heap.size + 1, 0, none⟩) (by simp) (.slice ao' (nextQ q p).1.files.length ca')).setCell (p := ⟨w.heap.size + 1, 1, none⟩) (by simp) (.int .i64 (nextQ q p).1.turn)
        refine bodyPost_ret (v := .tuple #[.agg #[.slice ao' (nextQ q p).1.files.length ca', .int .i64 (nextQ q p).1.turn], errV (nextQ q p).2]) (by simp [results, Tryz.results25, go_sem, z0, z1, z2, z3, z4, z5]) rfl ?_
        exact ⟨_, by rw [HD.out], by rw [HD.out]; exact quilt_laid_f HF'.out HNS.out (files_not_str HF'.out) HFR2.out, HBF⟩
    · have HD : Hid (renamedQ q name tn = (noQuilt, nameFault tn.data.toList)) := Lib.hid (by unfold renamedQ; rw [hgn]; dsimp only; rw [if_pos hnf])
      have HN := Lib.hid hnf
      rw [errV_pos hnf] at CF
      replace CF := Lib.hid CF
      clear BX hW2 hf hg hnf hgn ef CH
      go_enter Tryz.func25, Tryz.ntmps25
      go_wp2_with fail
      rw [← HW2.out]
      refine (CG.out _ HB2.out).mono ?_
      rintro e w3 ⟨rfl, hb3⟩
      have BF := Lib.hid (box_new w3 f)
      have FZ := Lib.hid (box_fz w3 f)
      have HS3 := Lib.hid hb3.size
      have HB3 := Lib.hid (two hb3 (below_alloc w3 (.cells #[.string f.name, .string f.text, .int .i64 f.times] 93)))
      obtain ⟨z0, z1, z2, z3, z4, z5, hns⟩ := HBX.out _ HB3.out
      clear hb3 hns
      go_wp2_with fail
      clear z0 z1 z2 z3 z4 z5
      refine (CF.out _).mono ?_
      rintro e w4 ⟨rfl, hb4⟩
      have HB4 := Lib.hid (two HB3.out hb4)
      clear hb4
      obtain ⟨z0, z1, z2, z3, z4, z5, hns⟩ := HBX.out _ HB4.out
      clear hns
      go_wp2_with fail
      refine bodyPost_ret (v := .tuple #[.agg #[.slice none 0 0, .int .i64 0], errV (nameFault tn.data.toList)]) (by rw [errV_pos HN.out]; simp [errV, results, Tryz.results25, go_sem, z0, z1, z2, z3, z4, z5]) rfl ?_
      exact ⟨_, by rw [HD.out]; try rfl, by rw [HD.out]; exact ⟨_, rfl, Rd.nil _, fresh_nil _⟩, ((two HB2.out HB4.out).setCell (p := ⟨w.heap.size + 1, 0, none⟩) (by simp) (.slice none 0 0)).setCell (p := ⟨w.heap.size + 1, 1, none⟩) (by simp) (.int .i64 0)⟩

set_option maxRecDepth 100000 in
set_option maxHeartbeats 2000000 in
theorem quilt_Swap_f (B : Nat) (qv : Value) (q : Quilt) (a b : ByteArray) (w : World) (hq : Quilts w qv q) (hg : Good q) (hB : B ≤ w.heap.size) :
    Calls Tryz.prog 26 #[qv, .string a, .string b] w (RetQF B (swappedQ q a b) w) := by
  obtain ⟨v, rfl, hf⟩ := hq
  have HBW := Lib.hid hB
  clear hB
  obtain ⟨W2, hW2⟩ : ∃ W2, W2 = qw w v q.turn := ⟨_, rfl⟩
  have BX := qw_box w v q.turn
  have HB2 := Lib.hid (qw_below w v q.turn)
  rw [← hW2] at BX HB2
  have HBX := Lib.hid BX
  have HF := Lib.hid hf
  obtain ⟨ao, ca, rfl, hca, hca'⟩ := hf.parts
  unfold qw at hW2
  have HW2 := Lib.hid hW2
  have HG := Lib.hid hg
  have CG := fun W hb => shelf_Get _ q.files a W (hf.below hb) hg.fine.len hg.fine.rises
  have CH := fun W hb => shelf_Get _ q.files b W (hf.below hb) hg.fine.len hg.fine.rises
  unfold RetFile File.val at CG CH
  have HSZ : Hid (W2.heap.size = w.heap.size + 2) := Lib.hid (by rw [HW2.out]; simp)
  clear BX hW2 hf hg
  obtain ⟨x, hx⟩ : ∃ x, x = fileOr (getAt q.files a) := ⟨_, rfl⟩
  obtain ⟨y, hy⟩ : ∃ y, y = fileOr (getAt q.files b) := ⟨_, rfl⟩
  rw [← hx] at CG
  rw [← hy] at CH
  cases hga : getAt q.files a with
  | none =>
    have HD : Hid (swappedQ q a b = (noQuilt, 5)) := Lib.hid (by unfold swappedQ; rw [hga])
    rw [hga, Option.isSome_none] at CG
    replace CG := Lib.hid CG
    obtain ⟨bb, hbb⟩ : ∃ bb, bb = (getAt q.files b).isSome := ⟨_, rfl⟩
    rw [← hbb] at CH
    replace CH := Lib.hid CH
    clear hga hx hy hbb
    go_enter Tryz.func26, Tryz.ntmps26
    go_wp2_with fail
    rw [← HW2.out]
    refine (CG.out _ HB2.out).mono ?_
    rintro e w3 ⟨rfl, hb3⟩
    have BF := Lib.hid (box_new w3 x)
    have FZ := Lib.hid (box_fz w3 x)
    have HS3 := Lib.hid hb3.size
    have HB3 := Lib.hid (two hb3 (below_alloc w3 (.cells #[.string x.name, .string x.text, .int .i64 x.times] 93)))
    obtain ⟨z0, z1, z2, z3, z4, z5, hns⟩ := HBX.out _ HB3.out
    clear hb3 hns
    go_wp2_with fail
    refine (CH.out _ (two HB2.out HB3.out)).mono ?_
    rintro e w4 ⟨rfl, hb4⟩
    have BG := Lib.hid (box_new w4 y)
    have GZ := Lib.hid (box_fz w4 y)
    have HC4 := Lib.hid (two hb4 (below_alloc w4 (.cells #[.string y.name, .string y.text, .int .i64 y.times] 93)))
    have HS4 : Hid (w3.heap.size < w4.heap.size) := Lib.hid (by have := hb4.size; simp at this; omega)
    have HB4 := Lib.hid (two HB3.out HC4.out)
    clear hb4 z0 z1 z2 z3 z4 z5
    obtain ⟨z0, z1, z2, z3, z4, z5, hns⟩ := HBX.out _ HB4.out
    obtain ⟨x0, x1, x2⟩ := BF.out _ HC4.out
    obtain ⟨y0, y1, y2⟩ := BG.out _ (Below.refl _ _)
    clear hns
    go_wp2_with fail
    refine bodyPost_ret (v := .tuple #[.agg #[.slice none 0 0, .int .i64 0], errV 5]) (by simp [errV, results, Tryz.results26, go_sem, z0, z1, z2, z3, z4, z5]) rfl ?_
    exact ⟨_, by rw [HD.out]; try rfl, by rw [HD.out]; exact ⟨_, rfl, Rd.nil _, fresh_nil _⟩, ((two HB2.out HB4.out).setCell (p := ⟨w.heap.size + 1, 0, none⟩) (by simp) (.slice none 0 0)).setCell (p := ⟨w.heap.size + 1, 1, none⟩) (by simp) (.int .i64 0)⟩
  | some x' =>
    rw [hga, Option.isSome_some] at CG
    replace CG := Lib.hid CG
    cases hgb : getAt q.files b with
    | none =>
      have HD : Hid (swappedQ q a b = (noQuilt, 5)) := Lib.hid (by unfold swappedQ; rw [hga, hgb])
      rw [hgb, Option.isSome_none] at CH
      replace CH := Lib.hid CH
      clear hga hgb hx hy
      go_enter Tryz.func26, Tryz.ntmps26
      go_wp2_with fail
      rw [← HW2.out]
      refine (CG.out _ HB2.out).mono ?_
      rintro e w3 ⟨rfl, hb3⟩
      have BF := Lib.hid (box_new w3 x)
      have FZ := Lib.hid (box_fz w3 x)
      have HS3 := Lib.hid hb3.size
      have HB3 := Lib.hid (two hb3 (below_alloc w3 (.cells #[.string x.name, .string x.text, .int .i64 x.times] 93)))
      obtain ⟨z0, z1, z2, z3, z4, z5, hns⟩ := HBX.out _ HB3.out
      clear hb3 hns
      go_wp2_with fail
      refine (CH.out _ (two HB2.out HB3.out)).mono ?_
      rintro e w4 ⟨rfl, hb4⟩
      have BG := Lib.hid (box_new w4 y)
      have GZ := Lib.hid (box_fz w4 y)
      have HC4 := Lib.hid (two hb4 (below_alloc w4 (.cells #[.string y.name, .string y.text, .int .i64 y.times] 93)))
      have HS4 : Hid (w3.heap.size < w4.heap.size) := Lib.hid (by have := hb4.size; simp at this; omega)
      have HB4 := Lib.hid (two HB3.out HC4.out)
      clear hb4 z0 z1 z2 z3 z4 z5
      obtain ⟨z0, z1, z2, z3, z4, z5, hns⟩ := HBX.out _ HB4.out
      obtain ⟨x0, x1, x2⟩ := BF.out _ HC4.out
      obtain ⟨y0, y1, y2⟩ := BG.out _ (Below.refl _ _)
      clear hns
      go_wp2_with fail
      refine bodyPost_ret (v := .tuple #[.agg #[.slice none 0 0, .int .i64 0], errV 5]) (by simp [errV, results, Tryz.results26, go_sem, z0, z1, z2, z3, z4, z5]) rfl ?_
      exact ⟨_, by rw [HD.out]; try rfl, by rw [HD.out]; exact ⟨_, rfl, Rd.nil _, fresh_nil _⟩, ((two HB2.out HB4.out).setCell (p := ⟨w.heap.size + 1, 0, none⟩) (by simp) (.slice none 0 0)).setCell (p := ⟨w.heap.size + 1, 1, none⟩) (by simp) (.int .i64 0)⟩
    | some y' =>
      rw [hgb, Option.isSome_some] at CH
      replace CH := Lib.hid CH
      obtain rfl : x = x' := by rw [hx, hga]; rfl
      obtain rfl : y = y' := by rw [hy, hgb]; rfl
      clear hx hy
      obtain ⟨mx, ex⟩ := HG.out.fine.mem hga
      obtain ⟨my, ey⟩ := HG.out.fine.mem hgb
      have fx := file_good (HG.out.fine.each x mx)
      have fy := file_good (HG.out.fine.each y my)
      have hxn : x.name.size ≤ maxLen := by have := name_good fx.1; rw [show x.name.data.toList.length = x.name.size from rfl] at this; unfold maxLen; omega
      have hyn : y.name.size ≤ maxLen := by have := name_good fy.1; rw [show y.name.data.toList.length = y.name.size from rfl] at this; unfold maxLen; omega
      have hxt : x.text.size ≤ maxLen := by have := fx.2.1; unfold maxLen; omega
      have hyt : y.text.size ≤ maxLen := by have := fy.2.1; unfold maxLen; omega
      have rx1 := fx.2.2.1
      have rx2 := fx.2.2.2
      have ry1 := fy.2.2.1
      have ry2 := fy.2.2.2
      clear ex my ey fx fy
      by_cases h9 : x.times = 9999 ∨ y.times = 9999
      · have HD : Hid (swappedQ q a b = (noQuilt, 7)) := Lib.hid (by unfold swappedQ; rw [hga, hgb]; dsimp only; rw [if_pos h9])
        clear hga hgb
        by_cases h9x : x.times = 9999
        · have hbx : (x.times == 9999) = true := by simpa using h9x
          clear h9 h9x
          go_enter Tryz.func26, Tryz.ntmps26
          go_wp2_with fail
          rw [← HW2.out]
          refine (CG.out _ HB2.out).mono ?_
          rintro e w3 ⟨rfl, hb3⟩
          have BF := Lib.hid (box_new w3 x)
          have FZ := Lib.hid (box_fz w3 x)
          have HS3 := Lib.hid hb3.size
          have HB3 := Lib.hid (two hb3 (below_alloc w3 (.cells #[.string x.name, .string x.text, .int .i64 x.times] 93)))
          obtain ⟨z0, z1, z2, z3, z4, z5, hns⟩ := HBX.out _ HB3.out
          clear hb3 hns
          go_wp2_with fail
          refine (CH.out _ (two HB2.out HB3.out)).mono ?_
          rintro e w4 ⟨rfl, hb4⟩
          have BG := Lib.hid (box_new w4 y)
          have GZ := Lib.hid (box_fz w4 y)
          have HC4 := Lib.hid (two hb4 (below_alloc w4 (.cells #[.string y.name, .string y.text, .int .i64 y.times] 93)))
          have HS4 : Hid (w3.heap.size < w4.heap.size) := Lib.hid (by have := hb4.size; simp at this; omega)
          have HB4 := Lib.hid (two HB3.out HC4.out)
          clear hb4 z0 z1 z2 z3 z4 z5
          obtain ⟨z0, z1, z2, z3, z4, z5, hns⟩ := HBX.out _ HB4.out
          obtain ⟨x0, x1, x2⟩ := BF.out _ HC4.out
          obtain ⟨y0, y1, y2⟩ := BG.out _ (Below.refl _ _)
          clear hns
          go_wp2_with fail
          refine bodyPost_ret (v := .tuple #[.agg #[.slice none 0 0, .int .i64 0], errV 7]) (by simp [errV, results, Tryz.results26, go_sem, z0, z1, z2, z3, z4, z5]) rfl ?_
          exact ⟨_, by rw [HD.out]; try rfl, by rw [HD.out]; exact ⟨_, rfl, Rd.nil _, fresh_nil _⟩, ((two HB2.out HB4.out).setCell (p := ⟨w.heap.size + 1, 0, none⟩) (by simp) (.slice none 0 0)).setCell (p := ⟨w.heap.size + 1, 1, none⟩) (by simp) (.int .i64 0)⟩
        · have hbx : (x.times == 9999) = false := by simpa using h9x
          have hby : (y.times == 9999) = true := by simp; omega
          clear h9 h9x
          go_enter Tryz.func26, Tryz.ntmps26
          go_wp2_with fail
          rw [← HW2.out]
          refine (CG.out _ HB2.out).mono ?_
          rintro e w3 ⟨rfl, hb3⟩
          have BF := Lib.hid (box_new w3 x)
          have FZ := Lib.hid (box_fz w3 x)
          have HS3 := Lib.hid hb3.size
          have HB3 := Lib.hid (two hb3 (below_alloc w3 (.cells #[.string x.name, .string x.text, .int .i64 x.times] 93)))
          obtain ⟨z0, z1, z2, z3, z4, z5, hns⟩ := HBX.out _ HB3.out
          clear hb3 hns
          go_wp2_with fail
          refine (CH.out _ (two HB2.out HB3.out)).mono ?_
          rintro e w4 ⟨rfl, hb4⟩
          have BG := Lib.hid (box_new w4 y)
          have GZ := Lib.hid (box_fz w4 y)
          have HC4 := Lib.hid (two hb4 (below_alloc w4 (.cells #[.string y.name, .string y.text, .int .i64 y.times] 93)))
          have HS4 : Hid (w3.heap.size < w4.heap.size) := Lib.hid (by have := hb4.size; simp at this; omega)
          have HB4 := Lib.hid (two HB3.out HC4.out)
          clear hb4 z0 z1 z2 z3 z4 z5
          obtain ⟨z0, z1, z2, z3, z4, z5, hns⟩ := HBX.out _ HB4.out
          obtain ⟨x0, x1, x2⟩ := BF.out _ HC4.out
          obtain ⟨y0, y1, y2⟩ := BG.out _ (Below.refl _ _)
          clear hns
          go_wp2_with fail
          refine bodyPost_ret (v := .tuple #[.agg #[.slice none 0 0, .int .i64 0], errV 7]) (by simp [errV, results, Tryz.results26, go_sem, z0, z1, z2, z3, z4, z5]) rfl ?_
          exact ⟨_, by rw [HD.out]; try rfl, by rw [HD.out]; exact ⟨_, rfl, Rd.nil _, fresh_nil _⟩, ((two HB2.out HB4.out).setCell (p := ⟨w.heap.size + 1, 0, none⟩) (by simp) (.slice none 0 0)).setCell (p := ⟨w.heap.size + 1, 1, none⟩) (by simp) (.int .i64 0)⟩
      · have hbx : (x.times == 9999) = false := by simp; omega
        have hby : (y.times == 9999) = false := by simp; omega
        cases hab : (a.toList == b.toList)
        · have HD : Hid (swappedQ q a b = nextQ q (q.files.map (swapF a b x y), 0)) := Lib.hid (by unfold swappedQ; rw [hga, hgb]; dsimp only; rw [if_neg h9, if_neg (by simp [hab])])
          have hxm : x.times + 1 ≤ 10000 := by omega
          have hym : y.times + 1 ≤ 10000 := by omega
          obtain ⟨l1, hp1, hl1, hp2⟩ := swap_puts HG.out.fine hga hgb hab h9
          have CP := fun W hb => shelf_Put_f _ q.files ⟨x.name, y.text, x.times + 1⟩ W (HF.out.below hb) ⟨hxn, hyt⟩ HG.out.fine.len HG.out.fine.rises
          have CR := fun lv W h => shelf_Put_f lv l1 ⟨y.name, x.text, y.times + 1⟩ W h ⟨hyn, hxt⟩ hl1.len hl1.rises
          rw [hp1] at CP
          rw [hp2] at CR
          unfold RetFilesG File.val at CP CR
          rw [show errV (((l1, 0) : List File × Nat).2) = Value.nilIface from rfl] at CP
          replace CP := Lib.hid CP
          replace CR := Lib.hid CR
          clear hp1 hp2 hl1
          have CN := Lib.hid fun W lv (hb : Below w.heap.size w W) h hfr => quilt_next_f B (.agg #[.slice ao q.files.length ca, .int .i64 q.turn]) q lv (q.files.map (swapF a b x y)) 0 W ⟨_, rfl, HF.out.below hb⟩ h HG.out.lo HG.out.hi hfr
          unfold RetQF at CN
          clear hga hgb h9
          go_enter Tryz.func26, Tryz.ntmps26
          go_wp2_with fail
          rw [← HW2.out]
          refine (CG.out _ HB2.out).mono ?_
          rintro e w3 ⟨rfl, hb3⟩
          have BF := Lib.hid (box_new w3 x)
          have FZ := Lib.hid (box_fz w3 x)
          have HS3 := Lib.hid hb3.size
          have HB3 := Lib.hid (two hb3 (below_alloc w3 (.cells #[.string x.name, .string x.text, .int .i64 x.times] 93)))
          obtain ⟨z0, z1, z2, z3, z4, z5, hns⟩ := HBX.out _ HB3.out
          clear hb3 hns
          go_wp2_with fail
          refine (CH.out _ (two HB2.out HB3.out)).mono ?_
          rintro e w4 ⟨rfl, hb4⟩
          have BG := Lib.hid (box_new w4 y)
          have GZ := Lib.hid (box_fz w4 y)
          have HC4 := Lib.hid (two hb4 (below_alloc w4 (.cells #[.string y.name, .string y.text, .int .i64 y.times] 93)))
          have HS4 : Hid (w3.heap.size < w4.heap.size) := Lib.hid (by have := hb4.size; simp at this; omega)
          have HB4 := Lib.hid (two HB3.out HC4.out)
          clear hb4 z0 z1 z2 z3 z4 z5
          obtain ⟨z0, z1, z2, z3, z4, z5, hns⟩ := HBX.out _ HB4.out
          obtain ⟨x0, x1, x2⟩ := BF.out _ HC4.out
          obtain ⟨y0, y1, y2⟩ := BG.out _ (Below.refl _ _)
          clear hns
          have u0 := FZ.out _ HC4.out 1
          have u1 := FZ.out _ HC4.out 2
          have u2 := GZ.out _ (Below.refl _ _) 1
          have u3 := GZ.out _ (Below.refl _ _) 2
          have hne := Nat.ne_of_lt HS4.out
          go_wp2_with fail
          go_region
          go_wp2_with fail
          obtain ⟨W5, hW5⟩ : ∃ W5, W5 = (((((w4.alloc (.cells #[.string y.name, .string y.text, .int .i64 y.times] 93)).setCell ⟨w3.heap.size, 1, none⟩ (.string y.text)).setCell ⟨w4.heap.size, 1, none⟩ (.string x.text)).setCell ⟨w3.heap.size, 2, none⟩ (.int .i64 (x.times + 1))).setCell ⟨w4.heap.size, 2, none⟩ (.int .i64 (y.times + 1))).drew := ⟨_, rfl⟩
          rw [← hW5]
          have hs34 := Nat.le_trans HS3.out (Nat.le_of_lt HS4.out)
          have HB5 := Lib.hid (show Below W2.heap.size W2 W5 by rw [hW5]; exact ((((HB4.out.setCell (p := ⟨w3.heap.size, 1, none⟩) HS3.out _).setCell (p := ⟨w4.heap.size, 1, none⟩) hs34 _).setCell (p := ⟨w3.heap.size, 2, none⟩) HS3.out _).setCell (p := ⟨w4.heap.size, 2, none⟩) hs34 _).drew)
          have HE5 : Hid (W5.heap.size = w4.heap.size + 1) := Lib.hid (by rw [hW5]; simp [World.drew, World.setCell])
          have hne' : ¬ w4.heap.size = w3.heap.size := fun h => hne h.symm
          have k0 : W5.cell? ⟨w4.heap.size, 0, none⟩ = some (.string y.name) := by rw [hW5]; simp [go_sem, y0, y1, y2, hne, hne']
          have k1 : W5.cell? ⟨w4.heap.size, 1, none⟩ = some (.string x.text) := by rw [hW5]; simp [go_sem, y0, y1, y2, hne, hne']
          have k2 : W5.cell? ⟨w4.heap.size, 2, none⟩ = some (.int .i64 (y.times + 1)) := by rw [hW5]; simp [go_sem, y0, y1, y2, hne, hne']
          have BY5 : Hid (BoxF w4.heap.size ⟨y.name, x.text, y.times + 1⟩ W5) := Lib.hid (box_of (by rw [HE5.out]; omega) k0 k1 k2)
          clear hW5 hs34 hne' k0 k1 k2 x0 x1 x2 y0 y1 y2 u0 u1 u2 u3 hne z0 z1 z2 z3 z4 z5
          refine (CP.out _ (two HB2.out HB5.out)).mono ?_
          rintro e w6 ⟨lv1, rfl, hl1, hb6, _⟩
          have HL1 := Lib.hid hl1
          have HB6 := Lib.hid (two HB5.out hb6)
          obtain ⟨y0, y1, y2⟩ := BY5.out _ hb6
          clear hl1 hb6
          go_wp2_with fail
          refine (CR.out _ _ HL1.out).mono ?_
          rintro e w7 ⟨lv2, rfl, hl2, hb7, hfr7⟩
          have HFR := Lib.hid (hfr7.mono (Nat.le_trans HBW.out (two HB2.out HB6.out).size))
          clear hfr7
          have HL := Lib.hid hl2
          have HB7 := Lib.hid (two HB6.out hb7)
          clear hl2 hb7 y0 y1 y2
          obtain ⟨z0, z1, z2, z3, z4, z5, hns⟩ := HBX.out _ HB7.out
          clear hns
          go_wp2_with fail
          refine (CN.out _ _ (two HB2.out HB7.out) HL.out HFR.out).mono ?_
          rintro e w8 ⟨qv', rfl, ⟨v', rfl, hf', hfr'⟩, hb8⟩
          obtain ⟨ao', ca', rfl, _, _⟩ := hf'.parts
          have HFR2 := Lib.hid hfr'
          clear hfr'
          have HF' := Lib.hid hf'
          have HB8 := Lib.hid (two HB7.out hb8)
          clear hf' hb8 z0 z1 z2 z3 z4 z5
          obtain ⟨z0, z1, z2, z3, z4, z5, hns⟩ := HBX.out _ HB8.out
          have HNS := Lib.hid hns
          clear hns
          go_wp2_with fail
          have HBF := ((two HB2.out HB8.out).setCell (p := ⟨w.heap.size + 1, 0, none⟩) (by simp) (.slice ao' (nextQ q (q.files.map (swapF a b x y), 0)).1.files.length ca')).setCell (p := ⟨w.heap.size + 1, 1, none⟩) (by simp) (.int .i64 (nextQ q (q.files.map (swapF a b x y), 0)).1.turn)
          refine bodyPost_ret (v := .tuple #[.agg #[.slice ao' (nextQ q (q.files.map (swapF a b x y), 0)).1.files.length ca', .int .i64 (nextQ q (q.files.map (swapF a b x y), 0)).1.turn], errV (nextQ q (q.files.map (swapF a b x y), 0)).2]) (by simp [results, Tryz.results26, go_sem, z0, z1, z2, z3, z4, z5]) rfl ?_
          exact ⟨_, by rw [HD.out], by rw [HD.out]; exact quilt_laid_f HF'.out HNS.out (files_not_str HF'.out) HFR2.out, HBF⟩
        · have HD : Hid (swappedQ q a b = nextQ q (q.files, 0)) := Lib.hid (by unfold swappedQ; rw [hga, hgb]; dsimp only; rw [if_neg h9, if_pos hab])
          clear hga hgb h9
          obtain ⟨p, hp⟩ : ∃ p : List File × Nat, p = (q.files, 0) := ⟨_, rfl⟩
          rw [← hp] at HD
          have CN := Lib.hid fun W lv (hb : Below w.heap.size w W) h hfr => quilt_next_f B (.agg #[.slice ao q.files.length ca, .int .i64 q.turn]) q lv p.1 p.2 W ⟨_, rfl, HF.out.below hb⟩ h HG.out.lo HG.out.hi hfr
          unfold RetQF at CN
          have CC := Lib.hid fun W hb => files_Clone _ q.files W (HF.out.below hb) HG.out.fine.len
          have hp1 : p.1 = q.files := by rw [hp]
          have hp2 : p.2 = 0 := by rw [hp]
          rw [hp1, hp2] at CN
          rw [show (q.files, 0) = p from hp.symm, errV_zero] at CN
          replace CN := CN
          have HSK : Hid (∀ W, Below W2.heap.size W2 W → W.cell? ⟨w.heap.size, 0, none⟩ = some (.slice ao q.files.length ca) ∧ W.cell? ⟨w.heap.size, 1, none⟩ = some (.int .i64 q.turn) ∧ W.cell? ⟨w.heap.size + 1, 0, none⟩ = some (.slice none 0 0) ∧ W.cell? ⟨w.heap.size + 1, 1, none⟩ = some (.int .i64 0) ∧ W.frozen? ⟨w.heap.size + 1, 0, none⟩ = false ∧ W.frozen? ⟨w.heap.size + 1, 1, none⟩ = false) := Lib.hid fun W hb => by
            obtain ⟨z0, z1, z2, z3, z4, z5, _⟩ := HBX.out W hb
            exact ⟨z0, z1, z2, z3, z4, z5⟩
          clear hp hp1 hp2
          go_enter Tryz.func26, Tryz.ntmps26
          go_wp2_with fail
          rw [← HW2.out]
          refine (CG.out _ HB2.out).mono ?_
          rintro e w3 ⟨rfl, hb3⟩
          have BF := Lib.hid (box_new w3 x)
          have FZ := Lib.hid (box_fz w3 x)
          have HS3 := Lib.hid hb3.size
          have HB3 := Lib.hid (two hb3 (below_alloc w3 (.cells #[.string x.name, .string x.text, .int .i64 x.times] 93)))
          obtain ⟨z0, z1, z2, z3, z4, z5, hns⟩ := HBX.out _ HB3.out
          clear hb3 hns
          go_wp2_with fail
          refine (CH.out _ (two HB2.out HB3.out)).mono ?_
          rintro e w4 ⟨rfl, hb4⟩
          have BG := Lib.hid (box_new w4 y)
          have GZ := Lib.hid (box_fz w4 y)
          have HC4 := Lib.hid (two hb4 (below_alloc w4 (.cells #[.string y.name, .string y.text, .int .i64 y.times] 93)))
          have HS4 : Hid (w3.heap.size < w4.heap.size) := Lib.hid (by have := hb4.size; simp at this; omega)
          have HB4 := Lib.hid (two HB3.out HC4.out)
          clear hb4 z0 z1 z2 z3 z4 z5
          obtain ⟨z0, z1, z2, z3, z4, z5, hns⟩ := HBX.out _ HB4.out
          obtain ⟨x0, x1, x2⟩ := BF.out _ HC4.out
          obtain ⟨y0, y1, y2⟩ := BG.out _ (Below.refl _ _)
          clear hns
          have hgo : True := trivial
          go_wp2_with fail
          clear x0 x1 x2 y0 y1 y2
          have ED := Lib.hid HB4.out.drew
          clear BF FZ BG GZ HC4 HB3 CG CH
          go_region_held3 (fun W => W.cell? ⟨w.heap.size, 0, none⟩ = some (.slice ao q.files.length ca) ∧ W.cell? ⟨w.heap.size, 1, none⟩ = some (.int .i64 q.turn))
            (first
              | exact ⟨(HSK.out _ ED.out).1, (HSK.out _ ED.out).2.1⟩
              | exact ⟨(HSK.out _ (HE1 : Hid _).out).1, (HSK.out _ (HE1 : Hid _).out).2.1⟩
              | (have h := HSK.out _ (HE1 : Hid _).out; simp [go_sem, h.1, h.2.1]))
            (first
              | (go_at_call 44; refine (CC.out _ (two HB2.out ED.out)).mono ?_; rintro e wA ⟨va, rfl, hoa, hba⟩; have HE1 := Lib.hid (two ED.out hba); have HVA := Lib.hid (SL.of_own hoa : Files wA va q.files); have HFR := Lib.hid ((fresh_own hoa).mono (Nat.le_trans HBW.out (two HB2.out ED.out).size)); clear hoa hba)
              | (go_at_call 41; refine (CN.out _ _ (two HB2.out HE1.out) HVA.out HFR.out).mono ?_; rintro e wB ⟨qv', rfl, ⟨v', rfl, hf', hfr'⟩, hbb⟩; obtain ⟨ao', ca', rfl, _, _⟩ := hf'.parts; have HFR2 := Lib.hid hfr'; clear hfr'; have HF' := Lib.hid hf'; have HE0 := HE1; clear HE1; have HE1 := Lib.hid (two HE0.out hbb); clear HE0 hf' hbb z0 z1 z2 z3 z4 z5; obtain ⟨z0, z1, z2, z3, z4, z5⟩ := HSK.out _ HE1.out))
          all_goals
            have HNS := Lib.hid ((HBX.out _ HE1.out).2.2.2.2.2.2)
            go_wp2_with fail
            have HBF := ((two HB2.out HE1.out).setCell (p := ⟨w.heap.size + 1, 0, none⟩) (by simp) (.slice ao' (nextQ q p).1.files.length ca')).setCell (p := ⟨w.heap.size + 1, 1, none⟩) (by simp) (.int .i64 (nextQ q p).1.turn)
            refine bodyPost_ret (v := .tuple #[.agg #[.slice ao' (nextQ q p).1.files.length ca', .int .i64 (nextQ q p).1.turn], errV (nextQ q p).2]) (by simp [results, Tryz.results26, go_sem, z0, z1, z2, z3, z4, z5]) rfl ?_
            exact ⟨_, by rw [HD.out], by rw [HD.out]; exact quilt_laid_f HF'.out HNS.out (files_not_str HF'.out) HFR2.out, HBF⟩

set_option linter.unusedSimpArgs false
set_option linter.unusedVariables false
set_option maxHeartbeats 1000000 in
theorem law_Do_f (B : Nat) (qv : Value) (q : Quilt) (av : ActV) (a : Act) (w : World) (hB : B ≤ w.heap.size) (hq : QuiltsF B w qv q) (hg : Good q) (ha : IsAct w av a) (hok : a.ok) :
    Calls Tryz.prog 11 #[qv, av.val] w (RetQF B (doAct q a) w) := by
  obtain ⟨v, rfl, hf, hfq⟩ := hq
  have HBW := Lib.hid hB
  clear hB
  obtain ⟨e1, e2, e3, e4, e5, hc⟩ := ha
  unfold ActV.val
  have BX := dw_box w v q.turn av
  have HB2 := Lib.hid (dw_below w v q.turn av)
  obtain ⟨W2, hW2⟩ : ∃ W2, W2 = dw w v q.turn av := ⟨_, rfl⟩
  rw [← hW2] at BX HB2
  have HBX := Lib.hid BX
  have HF := Lib.hid hf
  obtain ⟨ao, ca, rfl, hca, hca'⟩ := hf.parts
  have HFQ := Lib.hid hfq
  clear hfq
  unfold dw at hW2
  rw [e1, e2, e3, e4, e5] at hW2 ⊢
  have HW2 := Lib.hid hW2
  have HG := Lib.hid hg
  have HOK := Lib.hid hok
  have CW := fun W hb => quilt_Write_f B (.agg #[.slice ao q.files.length ca, .int .i64 q.turn]) q a.s a.t W ⟨_, rfl, HF.out.below hb⟩ HG.out HOK.out.2.1 HOK.out.2.2.1 (Nat.le_trans HBW.out hb.size)
  have CD := fun W hb => quilt_Drop_f B (.agg #[.slice ao q.files.length ca, .int .i64 q.turn]) q a.s W ⟨_, rfl, HF.out.below hb⟩ HG.out (Nat.le_trans HBW.out hb.size)
  have CN := fun W hb => quilt_Rename_f B (.agg #[.slice ao q.files.length ca, .int .i64 q.turn]) q a.s a.t W ⟨_, rfl, HF.out.below hb⟩ HG.out HOK.out.2.2.1 (Nat.le_trans HBW.out hb.size)
  have CS := fun W hb => quilt_Swap_f B (.agg #[.slice ao q.files.length ca, .int .i64 q.turn]) q a.s a.t W ⟨_, rfl, HF.out.below hb⟩ HG.out (Nat.le_trans HBW.out hb.size)
  unfold RetQF at CW CD CN CS
  clear BX hW2 hf hg hc hok e1 e2 e3 e4 e5
  cases hw : (a.kind.toList == [119, 114, 105, 116, 101])
  rotate_left
  · have hD : doAct q a = writtenQ q a.s a.t := by unfold doAct; simp [hw]
    obtain ⟨p, hp⟩ : ∃ p, p = writtenQ q a.s a.t := ⟨_, rfl⟩
    rw [← hp] at CW hD
    have HD := Lib.hid hD
    replace CW := Lib.hid CW
    clear hD hp
    go_enter Tryz.func11, Tryz.ntmps11
    go_wp2_with fail
    rw [← HW2.out]
    refine (CW.out _ HB2.out).mono ?_
    rintro e w3 ⟨qv', rfl, ⟨v', rfl, hf', hfr'⟩, hb3⟩
    obtain ⟨ao', ca', rfl, _, _⟩ := hf'.parts
    have HFR2 := Lib.hid hfr'
    clear hfr'
    have HF' := Lib.hid hf'
    have HB3 := Lib.hid (two HB2.out hb3)
    obtain ⟨z2, z3, z4, z5, hns⟩ := HBX.out _ hb3
    have HNS := Lib.hid hns
    clear hns hf' hb3
    go_wp2_with fail
    have HBF := (HB3.out.setCell (p := ⟨w.heap.size + 2, 0, none⟩) (by simp) (.slice ao' p.1.files.length ca')).setCell (p := ⟨w.heap.size + 2, 1, none⟩) (by simp) (.int .i64 p.1.turn)
    refine bodyPost_ret (v := .tuple #[.agg #[.slice ao' p.1.files.length ca', .int .i64 p.1.turn], errV p.2]) (by simp [results, Tryz.results11, go_sem, z2, z3, z4, z5]) rfl ?_
    exact ⟨_, by rw [HD.out], by rw [HD.out]; exact quilt_laid_f HF'.out HNS.out (files_not_str HF'.out) HFR2.out, HBF⟩
  cases hd : (a.kind.toList == [100, 114, 111, 112])
  rotate_left
  · have hD : doAct q a = droppedQ q a.s := by unfold doAct; simp [hw, hd]
    obtain ⟨p, hp⟩ : ∃ p, p = droppedQ q a.s := ⟨_, rfl⟩
    rw [← hp] at CD hD
    have HD := Lib.hid hD
    replace CD := Lib.hid CD
    clear hD hp
    go_enter Tryz.func11, Tryz.ntmps11
    go_wp2_with fail
    rw [← HW2.out]
    refine (CD.out _ HB2.out).mono ?_
    rintro e w3 ⟨qv', rfl, ⟨v', rfl, hf', hfr'⟩, hb3⟩
    obtain ⟨ao', ca', rfl, _, _⟩ := hf'.parts
    have HFR2 := Lib.hid hfr'
    clear hfr'
    have HF' := Lib.hid hf'
    have HB3 := Lib.hid (two HB2.out hb3)
    obtain ⟨z2, z3, z4, z5, hns⟩ := HBX.out _ hb3
    have HNS := Lib.hid hns
    clear hns hf' hb3
    go_wp2_with fail
    have HBF := (HB3.out.setCell (p := ⟨w.heap.size + 2, 0, none⟩) (by simp) (.slice ao' p.1.files.length ca')).setCell (p := ⟨w.heap.size + 2, 1, none⟩) (by simp) (.int .i64 p.1.turn)
    refine bodyPost_ret (v := .tuple #[.agg #[.slice ao' p.1.files.length ca', .int .i64 p.1.turn], errV p.2]) (by simp [results, Tryz.results11, go_sem, z2, z3, z4, z5]) rfl ?_
    exact ⟨_, by rw [HD.out], by rw [HD.out]; exact quilt_laid_f HF'.out HNS.out (files_not_str HF'.out) HFR2.out, HBF⟩
  cases hn : (a.kind.toList == [110, 97, 109, 101])
  rotate_left
  · have hD : doAct q a = renamedQ q a.s a.t := by unfold doAct; simp [hw, hd, hn]
    obtain ⟨p, hp⟩ : ∃ p, p = renamedQ q a.s a.t := ⟨_, rfl⟩
    rw [← hp] at CN hD
    have HD := Lib.hid hD
    replace CN := Lib.hid CN
    clear hD hp
    go_enter Tryz.func11, Tryz.ntmps11
    go_wp2_with fail
    rw [← HW2.out]
    refine (CN.out _ HB2.out).mono ?_
    rintro e w3 ⟨qv', rfl, ⟨v', rfl, hf', hfr'⟩, hb3⟩
    obtain ⟨ao', ca', rfl, _, _⟩ := hf'.parts
    have HFR2 := Lib.hid hfr'
    clear hfr'
    have HF' := Lib.hid hf'
    have HB3 := Lib.hid (two HB2.out hb3)
    obtain ⟨z2, z3, z4, z5, hns⟩ := HBX.out _ hb3
    have HNS := Lib.hid hns
    clear hns hf' hb3
    go_wp2_with fail
    have HBF := (HB3.out.setCell (p := ⟨w.heap.size + 2, 0, none⟩) (by simp) (.slice ao' p.1.files.length ca')).setCell (p := ⟨w.heap.size + 2, 1, none⟩) (by simp) (.int .i64 p.1.turn)
    refine bodyPost_ret (v := .tuple #[.agg #[.slice ao' p.1.files.length ca', .int .i64 p.1.turn], errV p.2]) (by simp [results, Tryz.results11, go_sem, z2, z3, z4, z5]) rfl ?_
    exact ⟨_, by rw [HD.out], by rw [HD.out]; exact quilt_laid_f HF'.out HNS.out (files_not_str HF'.out) HFR2.out, HBF⟩
  cases hs : (a.kind.toList == [115, 119, 97, 112])
  rotate_left
  · have hD : doAct q a = swappedQ q a.s a.t := by unfold doAct; simp [hw, hd, hn, hs]
    obtain ⟨p, hp⟩ : ∃ p, p = swappedQ q a.s a.t := ⟨_, rfl⟩
    rw [← hp] at CS hD
    have HD := Lib.hid hD
    replace CS := Lib.hid CS
    clear hD hp
    go_enter Tryz.func11, Tryz.ntmps11
    go_wp2_with fail
    rw [← HW2.out]
    refine (CS.out _ HB2.out).mono ?_
    rintro e w3 ⟨qv', rfl, ⟨v', rfl, hf', hfr'⟩, hb3⟩
    obtain ⟨ao', ca', rfl, _, _⟩ := hf'.parts
    have HFR2 := Lib.hid hfr'
    clear hfr'
    have HF' := Lib.hid hf'
    have HB3 := Lib.hid (two HB2.out hb3)
    obtain ⟨z2, z3, z4, z5, hns⟩ := HBX.out _ hb3
    have HNS := Lib.hid hns
    clear hns hf' hb3
    go_wp2_with fail
    have HBF := (HB3.out.setCell (p := ⟨w.heap.size + 2, 0, none⟩) (by simp) (.slice ao' p.1.files.length ca')).setCell (p := ⟨w.heap.size + 2, 1, none⟩) (by simp) (.int .i64 p.1.turn)
    refine bodyPost_ret (v := .tuple #[.agg #[.slice ao' p.1.files.length ca', .int .i64 p.1.turn], errV p.2]) (by simp [results, Tryz.results11, go_sem, z2, z3, z4, z5]) rfl ?_
    exact ⟨_, by rw [HD.out], by rw [HD.out]; exact quilt_laid_f HF'.out HNS.out (files_not_str HF'.out) HFR2.out, HBF⟩
  have hD : doAct q a = (q, 0) := by unfold doAct; simp [hw, hd, hn, hs]
  have HD := Lib.hid hD
  clear hD
  go_enter Tryz.func11, Tryz.ntmps11
  go_wp2_with fail
  have HBF := two (two (below_alloc w (.cells #[.slice ao q.files.length ca, .int .i64 q.turn] 36)) (below_alloc _ (.cells #[.string a.kind, .string a.s, .string a.t, .int .i64 a.n, .int .u64 a.k, av.cv] 26))) (below_alloc _ (.cells #[.slice ao q.files.length ca, .int .i64 q.turn] 36))
  refine bodyPost_ret (v := .tuple #[.agg #[.slice ao q.files.length ca, .int .i64 q.turn], errV 0]) (by simp [errV, results, Tryz.results11, go_sem]) rfl ?_
  exact ⟨_, by rw [HD.out]; try rfl, by rw [HD.out]; exact ⟨_, rfl, HF.out.below HBF, HFQ.out⟩, HBF⟩

end Go.Proofs.YtggpodlecljcbadGreatDoor
namespace Go.Proofs.YtggpodlecljcbadGreatDoor
set_option linter.unusedSimpArgs false
set_option linter.unusedVariables false
open Go.RowKit Go.Sort
def RetQV (B : Nat) (W0 : World) (q : Quilt) (n : Nat) (w : World) (e : Ending) (w' : World) : Prop := ∃ qv, e = .returned (.tuple #[qv, errV n]) ∧ QuiltsF B W0 qv q ∧ Below w.heap.size w w'
set_option maxRecDepth 100000 in
set_option maxHeartbeats 1000000 in
theorem vote_Of_f (B : Nat) (W0 : World) (tv : TrioV) (t : Trio) (w : World) (ht : IsTrio W0 tv t) (hb0 : Below W0.heap.size W0 w) (hfr : Fresh B tv.a.v ∧ Fresh B tv.b.v ∧ Fresh B tv.c.v) :
    Calls Tryz.prog 30 #[tv.val] w (RetQV B W0 (votedQ t) (votedE t) w) := by
  have HT := Lib.hid (ht.below hb0)
  have HT0 := Lib.hid ht
  clear hb0
  have hidx : ∀ (k : Nat) (h : k < tv.list.length) (W : World), (Instr.index 75 tv.val (.int .i64 k)).run Tryz.prog W = .ok (.agg #[.bool tv.list[k].is, tv.list[k].v, .int .i64 tv.list[k].turn]) W := by
    intro k h W
    match k, h with
    | 0, _ => exact index_trio0 ..
    | 1, _ => exact index_trio1 ..
    | 2, _ => exact index_trio2 ..
  clear ht
  obtain ⟨W2, hW2⟩ : ∃ W2, W2 = (w.alloc (.cells tv.arr 75)).alloc (.cells #[.slice none 0 0, .int .i64 0] 36) := ⟨_, rfl⟩
  have B2 : Below w.heap.size w W2 := by rw [hW2]; exact two (below_alloc w _) (below_alloc _ _)
  have hrd : CopyVs W2 (.slice (some ⟨w.heap.size, 0, none⟩) 3 3) tv.list := trio_rd tv fun j u hj => by
    rw [hW2]
    simp only [TrioV.arr] at hj ⊢
    match j, hj with
    | 0, hj | 1, hj | 2, hj | 3, hj | 4, hj | 5, hj | 6, hj | 7, hj | 8, hj => simp at hj; subst hj; simp
  have g0 : W2.cell? ⟨w.heap.size + 1, 0, none⟩ = some (.slice none 0 0) := by rw [hW2]; simp
  have g1 : W2.cell? ⟨w.heap.size + 1, 1, none⟩ = some (.int .i64 0) := by rw [hW2]; simp
  have g2 : W2.frozen? ⟨w.heap.size + 1, 0, none⟩ = false := by rw [hW2]; simp
  have g3 : W2.frozen? ⟨w.heap.size + 1, 1, none⟩ = false := by rw [hW2]; simp
  have hz : W2.heap.size = w.heap.size + 2 := by rw [hW2]; simp
  have HL := Lib.hid ((HT.out.list.below B2))
  have hlen : tv.list.length = 3 := rfl
  have hlen2 : t.list.length = 3 := rfl
  obtain ⟨⟨a0, a1, a2⟩, ⟨b0, b1, b2⟩, ⟨d0, d1, d2⟩⟩ := tv
  unfold TrioV.val TrioV.arr at *
  obtain ⟨L, hL⟩ : ∃ L, L = TrioV.list ⟨⟨a0, a1, a2⟩, ⟨b0, b1, b2⟩, ⟨d0, d1, d2⟩⟩ := ⟨_, rfl⟩
  have HL0 : IsCopies W0 L t.list := by rw [hL]; exact HT0.out.list
  have HP0 : ∀ i (h : i < L.length), Fresh B L[i].v := by
    rw [hL]
    intro i h
    match i, h with
    | 0, _ => exact hfr.1
    | 1, _ => exact hfr.2.1
    | 2, _ => exact hfr.2.2
  clear hfr
  replace HP0 := Lib.hid HP0
  rw [← hL] at hidx HL hrd hlen
  replace HL0 := Lib.hid HL0
  have PA := HT.out.1.2.2.parts
  have PB := HT.out.2.1.2.2.parts
  have PD := HT.out.2.2.2.2.parts
  have HIDX := Lib.hid hidx
  have HRD := Lib.hid hrd
  have HW2 := Lib.hid hW2
  have HZ := Lib.hid hz
  have HLEN := Lib.hid hlen
  have HLEN2 := Lib.hid hlen2
  replace g0 := Lib.hid g0
  replace g1 := Lib.hid g1
  replace g2 := Lib.hid g2
  replace g3 := Lib.hid g3
  replace B2 := Lib.hid B2
  clear HT0
  dsimp only at PA PB PD
  obtain ⟨a3, a4, rfl, _, _⟩ := PA
  obtain ⟨b3, b4, rfl, _, _⟩ := PB
  obtain ⟨d3, d4, rfl, _, _⟩ := PD
  generalize t.a.quilt.files.length = a5, t.b.quilt.files.length = b5, t.c.quilt.files.length = d5 at *
  clear hL hidx hrd hW2 hz hlen hlen2
  go_enter Tryz.func30, Tryz.ntmps30
  go_wp2_with fail
  rw [← HW2.out]
  go_loopw [4, 8] (fun o i wr => ∃ k : Nat, k ≤ 3 ∧ i = .int .i64 k ∧ o = .int .i64 (bestTo t k) ∧ (∀ i, i < k → twin t i = false) ∧ Below W2.heap.size W2 wr) (fun _ i _ => 3 - (intOf i).toNat)
  case atStart => exact ⟨0, Nat.zero_le _, rfl, rfl, fun _ h => by omega, Below.refl _ _⟩
  case round =>
    obtain ⟨k, hk, rfl, rfl, htw, hbw⟩ := hrel
    obtain ⟨hc, hfz⟩ := bcell hbw
    have r0 := (hc (w.heap.size + 1) 0 (by rw [HZ.out]; omega)).trans g0.out
    have r1 := (hc (w.heap.size + 1) 1 (by rw [HZ.out]; omega)).trans g1.out
    have r2 := (hfz (w.heap.size + 1) 0 (by rw [HZ.out]; omega)).trans g2.out
    have r3 := (hfz (w.heap.size + 1) 1 (by rw [HZ.out]; omega)).trans g3.out
    have hzr : w.heap.size + 1 < wr.heap.size := by have := hbw.size; rw [HZ.out] at this; omega
    have HTW := Lib.hid htw
    have HW := Lib.hid hbw
    have hbr := bestTo_range t k
    clear htw hbw hc hfz
    by_cases hlt : k < 3
    · have hk1 : k < L.length := by rw [HLEN.out]; exact hlt
      have hk2 : k < t.list.length := hlt
      have hi := HIDX.out k hk1
      have HC : Hid (IsCopy wr L[k] (t.at k)) := by rw [← Trio.list_at t k hk2]; exact (HL.out.below HW.out).2 k hk1 hk2
      have HC0 : Hid (IsCopy W0 L[k] (t.at k)) := by rw [← Trio.list_at t k hk2]; exact HL0.out.2 k hk1 hk2
      have HCP : Hid (Fresh B L[k].v) := Lib.hid (HP0.out k hk1)
      generalize hcv : L[k] = cv at hi HC HC0 HCP
      obtain ⟨is, v, turn⟩ := cv
      obtain ⟨ao, n, hv, _, _⟩ := HC.out.2.2.parts
      dsimp only at hv hi
      subst hv
      have HCV := Lib.hid hcv
      clear hcv
      have Bc := below_alloc wr (.cells #[.bool is, .slice ao (t.at k).quilt.files.length n, .int .i64 turn] 74)
      generalize (t.at k).quilt.files.length = len at *
      cases is
      · have HF : Hid ((t.at k).is = false) := HC.out.1.symm
        have HBN := Lib.hid (best_no t k _ rfl (better_not t _ k HF.out))
        replace Bc := Lib.hid Bc
        go_wp2_with fail
        go_roundw
        case rel => exact ⟨k + 1, by omega, by go_num, by rw [HBN.out], (fun i hi => by rcases Nat.lt_succ_iff_lt_or_eq.1 hi with h | rfl; exact HTW.out i h; exact twin_not t _ HF.out), two HW.out Bc.out⟩
        case measure => simp [intOf]; omega
      · have HF : Hid ((t.at k).is = true) := HC.out.1.symm
        have HTE := Lib.hid (twin_any t k hlt HF.out)
        have hst := slice_trio k hlt w.heap.size
        have HSL := Lib.hid (trio_tail HLEN.out ((HRD.out.below HW.out).below Bc) k hlt)
        have C := slices_ContainsFunc (.slice (some ⟨w.heap.size, tailOff k, none⟩) (2 - k) (2 - k)) (L.drop (k + 1)) (t.list.drop (k + 1)) ⟨true, .slice ao len n, turn⟩ (t.at k) wr.heap.size (wr.alloc (.cells #[.bool true, .slice ao len n, .int .i64 turn] 74))
          HSL.out (((HL.out.below HW.out).below Bc).drop (k + 1)) (HC.out.below Bc) (by simp) (by simp) (by simp)
        rw [← HTE.out] at C
        have HBc := Lib.hid Bc
        obtain ⟨hBc, hBf⟩ := bcell Bc
        have s0 := (hBc (w.heap.size + 1) 0 hzr).trans r0
        have s1 := (hBc (w.heap.size + 1) 1 hzr).trans r1
        have s2 := (hBf (w.heap.size + 1) 0 hzr).trans r2
        have s3 := (hBf (w.heap.size + 1) 1 hzr).trans r3
        clear Bc hBc hBf r0 r1 r2 r3
        by_cases htn : twin t k = true
        · rw [htn] at C
          have V := Lib.hid (voted_twin t k hlt HTW.out htn)
          replace C := Lib.hid C
          clear htn
          go_wp2_with fail
          refine C.out.mono ?_
          rintro e w2 ⟨rfl, hb2⟩
          obtain ⟨hc2, hf2⟩ := bcell hb2
          have z0 := hc2 wr.heap.size 1 (by simp)
          have z1 := hc2 wr.heap.size 2 (by simp)
          have z2 := (hc2 (w.heap.size + 1) 0 (by simp; omega)).trans s0
          have z3 := (hc2 (w.heap.size + 1) 1 (by simp; omega)).trans s1
          have z4 := (hf2 (w.heap.size + 1) 0 (by simp; omega)).trans s2
          have z5 := (hf2 (w.heap.size + 1) 1 (by simp; omega)).trans s3
          simp at z0 z1
          have HB2 := Lib.hid hb2
          clear hb2 hc2 hf2 s0 s1 s2 s3 hi
          go_wp2_with fail
          have HBF := ((two B2.out (two HW.out (two HBc.out HB2.out))).setCell (p := ⟨w.heap.size + 1, 0, none⟩) (by simp) (.slice ao len n)).setCell (p := ⟨w.heap.size + 1, 1, none⟩) (by simp) (.int .i64 turn)
          exact bodyPost_ret (v := .tuple #[.agg #[.slice ao len n, .int .i64 turn], .nilIface]) (by simp [results, Tryz.results30, go_sem, z2, z3, z4, z5]) rfl
            ⟨_, by rw [V.out.2]; rfl, by rw [V.out.1]; exact ⟨_, by rw [← HC.out.2.1], HC0.out.2.2, HCP.out⟩, HBF⟩
        · have htn' : twin t k = false := by simpa using htn
          rw [htn'] at C
          have HTN := Lib.hid htn'
          replace C := Lib.hid C
          clear htn htn' s0 s1 s2 s3
          by_cases hneg : bestTo t k < 0
          · have HBY := Lib.hid (best_yes t k _ rfl (better_neg t _ k HF.out hneg))
            go_wp2_with fail
            refine C.out.mono ?_
            rintro e w2 ⟨rfl, hb2⟩
            have HB2 := Lib.hid hb2
            clear hb2
            go_wp2_with fail
            refine wp_region_q (by kernel_rfl) (by kernel_rfl) ?_
            repeat (go_big_quiet_step (fail))
            refine wpQuiet_nil ?_
            intro w3 hb3
            have HB3 := Lib.hid hb3
            clear hb3
            go_wp2_with fail
            go_roundw
            case rel => exact ⟨k + 1, by omega, by go_num, by rw [HBY.out], (fun i hi => by rcases Nat.lt_succ_iff_lt_or_eq.1 hi with h | rfl; exact HTW.out i h; exact HTN.out), two HW.out (two HBc.out (two HB2.out HB3.out))⟩
            case measure => simp [intOf]; omega
          · obtain ⟨m, hm⟩ : ∃ m : Nat, bestTo t k = m := ⟨(bestTo t k).toNat, by omega⟩
            have hm1 : m < L.length := by rw [HLEN.out]; omega
            have hm2 : m < t.list.length := by show m < 3; omega
            obtain ⟨bm, om, em, _, m0, m1, m2⟩ := CopyVs.cell ((HRD.out.below HW.out).below HBc.out) m hm1
            simp only [Option.some.injEq, Addr.mk.injEq, and_true] at em
            obtain ⟨rfl, rfl⟩ := em
            have hdn : decide ((m : Int) < 0) = false := by simp
            have HM := Lib.hid ((HL0.out).2 m hm1 hm2)
            have htm : L[m].turn = (t.at m).quilt.turn := by rw [← Trio.list_at t m hm2]; exact HM.out.2.1
            have htk : turn = (t.at k).quilt.turn := HC.out.2.1
            rw [htm] at m2
            rw [Nat.zero_add] at m2
            rw [hm]
            rw [hm] at hneg hbr
            by_cases hgt : (t.at m).quilt.turn < turn
            · have HBY := Lib.hid (best_yes t k m hm (by rw [better_pos t m k HF.out, ← htk]; simpa using hgt))
              clear hm htm htk m0 m1
              go_wp2_with fail
              refine C.out.mono ?_
              rintro e w2 ⟨rfl, hb2⟩
              obtain ⟨hc2, _⟩ := bcell hb2
              have z1 := hc2 wr.heap.size 2 (by simp)
              simp at z1
              replace z1 := regrown_cell z1
              have z2 := regrown_cell ((hc2 w.heap.size (m * 3 + 2) (by simp; omega)).trans m2)
              have HB2 := Lib.hid hb2
              clear hb2 hc2 m2
              go_wp2_with fail
              refine wp_region_q (by kernel_rfl) (by kernel_rfl) ?_
              repeat (go_big_quiet_step (fail))
              refine wpQuiet_nil ?_
              intro w3 hb3
              have HB3 := Lib.hid hb3
              clear hb3
              go_wp2_with fail
              go_roundw
              case rel => exact ⟨k + 1, by omega, by go_num, by rw [HBY.out], (fun i hi => by rcases Nat.lt_succ_iff_lt_or_eq.1 hi with h | rfl; exact HTW.out i h; exact HTN.out), two HW.out (two HBc.out (two HB2.out HB3.out))⟩
              case measure => simp [intOf]; omega
            · have HBY := Lib.hid (best_no t k m hm (by rw [better_pos t m k HF.out, ← htk]; simpa using hgt))
              clear hm htm htk m0 m1
              go_wp2_with fail
              refine C.out.mono ?_
              rintro e w2 ⟨rfl, hb2⟩
              obtain ⟨hc2, _⟩ := bcell hb2
              have z1 := hc2 wr.heap.size 2 (by simp)
              simp at z1
              replace z1 := regrown_cell z1
              have z2 := regrown_cell ((hc2 w.heap.size (m * 3 + 2) (by simp; omega)).trans m2)
              have HB2 := Lib.hid hb2
              clear hb2 hc2 m2
              go_wp2_with fail
              refine wp_region_q (by kernel_rfl) (by kernel_rfl) ?_
              repeat (go_big_quiet_step (fail))
              refine wpQuiet_nil ?_
              intro w3 hb3
              have HB3 := Lib.hid hb3
              clear hb3
              go_wp2_with fail
              go_roundw
              case rel => exact ⟨k + 1, by omega, by go_num, by rw [HBY.out], (fun i hi => by rcases Nat.lt_succ_iff_lt_or_eq.1 hi with h | rfl; exact HTW.out i h; exact HTN.out), two HW.out (two HBc.out (two HB2.out HB3.out))⟩
              case measure => simp [intOf]; omega
    · obtain rfl : k = 3 := by omega
      have H0 := Lib.hid (HTW.out 0 (by omega))
      have H1 := Lib.hid (HTW.out 1 (by omega))
      by_cases hneg : bestTo t 3 < 0
      · have V := Lib.hid (votedN t H0.out H1.out (by omega))
        go_wp2_with fail
        have HBF := ((two B2.out HW.out).setCell (p := ⟨w.heap.size + 1, 0, none⟩) (by simp) (.slice none 0 0)).setCell (p := ⟨w.heap.size + 1, 1, none⟩) (by simp) (.int .i64 0)
        exact bodyPost_ret (v := .tuple #[.agg #[.slice none 0 0, .int .i64 0], .iface 100 (.int .i64 4)]) (by simp [results, Tryz.results30, go_sem, r0, r1, r2, r3]) rfl
          ⟨_, by rw [V.out.2]; rfl, by rw [V.out.1]; exact ⟨_, rfl, noFiles _, fresh_nil _⟩, HBF⟩
      · obtain ⟨m, hm⟩ : ∃ m : Nat, bestTo t 3 = m := ⟨(bestTo t 3).toNat, by omega⟩
        have hm1 : m < L.length := by rw [HLEN.out]; omega
        have hm2 : m < t.list.length := by show m < 3; omega
        have V := Lib.hid (votedB t m H0.out H1.out hm)
        obtain ⟨bm, om, em, _, m0, m1, m2⟩ := CopyVs.cell (HRD.out.below HW.out) m hm1
        simp only [Option.some.injEq, Addr.mk.injEq, and_true] at em
        obtain ⟨rfl, rfl⟩ := em
        have HM : Hid (IsCopy W0 L[m] (t.at m)) := by rw [← Trio.list_at t m hm2]; exact (HL0.out).2 m hm1 hm2
        rw [Nat.zero_add] at m1 m2
        have HMP : Hid (Fresh B L[m].v) := Lib.hid (HP0.out m hm1)
        generalize hcv : L[m] = cv at m1 m2 HM HMP
        obtain ⟨is, v, turn⟩ := cv
        obtain ⟨ao, n, hv, _, _⟩ := HM.out.2.2.parts
        dsimp only at hv m1 m2
        subst hv
        have HCV := Lib.hid hcv
        clear hcv m0
        generalize (t.at m).quilt.files.length = len at *
        rw [hm]
        rw [hm] at hneg hbr
        clear hm
        go_wp2_with fail
        have HBF := ((two B2.out HW.out).setCell (p := ⟨w.heap.size + 1, 0, none⟩) (by simp) (.slice ao len n)).setCell (p := ⟨w.heap.size + 1, 1, none⟩) (by simp) (.int .i64 turn)
        exact bodyPost_ret (v := .tuple #[.agg #[.slice ao len n, .int .i64 turn], .nilIface]) (by simp [results, Tryz.results30, go_sem, r0, r1, r2, r3]) rfl
          ⟨_, by rw [V.out.2]; rfl, by rw [V.out.1]; exact ⟨_, by rw [← HM.out.2.1], HM.out.2.2, HMP.out⟩, HBF⟩
end Go.Proofs.YtggpodlecljcbadGreatDoor
