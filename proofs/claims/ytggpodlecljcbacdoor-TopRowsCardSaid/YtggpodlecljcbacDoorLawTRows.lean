/- The walk of the statement TopRows. -/
import Derived.Test.YtggpodlecljcbacDoorLawTRead
namespace Go.Proofs.YtggpodlecljcbacDoor
set_option linter.unusedSimpArgs false
set_option linter.unusedVariables false
open Go.RowKit Go.Sort
def fineI (q : Quilt) : Bool := lightFiles q.files && decide (quiltFault q = 0)
theorem fault_okI {c : Change} (h : changeFault c = 0) : c.ok := by
  have hml : maxLen = 9223372036854775807 := rfl
  unfold changeFault at h
  split at h
  · cases h
  · split at h
    · cases h
    · exact ⟨by omega, by omega⟩
theorem top_fineI (vq : Value) (q : Quilt) (w : World) (hq : Quilts w vq q) (hok : ∀ f ∈ q.files, f.ok) :
    Calls Tryd.prog 13 #[vq] w fun e w' => e = .returned (.bool (fineI q)) ∧ Below w.heap.size w w' := by
  have CL := Lib.hid fun W hw => law_LightQuilt vq q W (hq.below hw) hok
  have CC := Lib.hid fun W hw => quilt_Check vq q W (hq.below hw) hok
  obtain ⟨v, rfl, hf⟩ := hq
  obtain ⟨ao, ca, rfl, hca, hca'⟩ := hf.parts
  obtain ⟨W1, hW1⟩ : ∃ W1, W1 = w.alloc (.cells #[.slice ao q.files.length ca, .int .i64 q.turn] 25) := ⟨_, rfl⟩
  have HB1 : Hid (Below w.heap.size w W1) := Lib.hid (by rw [hW1]; exact below_alloc _ _)
  have HX1 : Hid (∀ W, Below W1.heap.size W1 W → W.cell? ⟨w.heap.size, 0, none⟩ = some (.slice ao q.files.length ca) ∧ W.cell? ⟨w.heap.size, 1, none⟩ = some (.int .i64 q.turn)) := Lib.hid fun W hb => ⟨cell_on' hb (by rw [hW1]; simp), cell_on' hb (by rw [hW1]; simp)⟩
  have HW1 := Lib.hid hW1
  clear hW1 hf
  go_enter Tryd.func13, Tryd.ntmps13
  go_wp2_with fail
  rw [← HW1.out]
  refine (CL.out _ HB1.out).mono ?_
  rintro e w2 ⟨rfl, hb2⟩
  have HB2 := Lib.hid hb2
  obtain ⟨q0, q1⟩ := HX1.out w2 hb2
  clear hb2
  cases hl : lightFiles q.files
  · go_wp2_with fail
    go_ret
    exact ⟨ret_bool (by simp [fineI, hl]), two HB1.out HB2.out⟩
  · have HL := Lib.hid hl
    clear hl
    go_wp2_with fail
    refine (CC.out _ (two HB1.out HB2.out)).mono ?_
    rintro e w3 ⟨rfl, hb3⟩
    have HB3 := Lib.hid hb3
    clear hb3 q0 q1
    by_cases h0 : quiltFault q = 0
    · have he : errV (quiltFault q) = .nilIface := by rw [h0]; rfl
      have HZ := Lib.hid h0
      clear h0
      go_wp2_with fail
      go_ret
      exact ⟨ret_bool (by simp [fineI, HL.out, HZ.out]), two HB1.out (two HB2.out HB3.out)⟩
    · have he : errV (quiltFault q) = .iface 43 (.int .i64 (quiltFault q)) := errV_pos h0
      have HZ := Lib.hid h0
      clear h0
      go_wp2_with fail
      go_ret
      exact ⟨ret_bool (by simp [fineI, HZ.out]), two HB1.out (two HB2.out HB3.out)⟩
theorem new_fault : quiltFault ⟨[], 1⟩ = 0 := by decide
set_option maxRecDepth 100000 in
set_option maxHeartbeats 8000000 in
theorem law_TopRows (qv : Value) (q : Quilt) (w : World) (hq : Quilts w qv q) (hok : ∀ f ∈ q.files, f.ok) (hg : GlobI w) :
    Calls Tryd.prog 4 #[qv] w fun e w' => e = .returned (.bool true) ∧ Below w.heap.size w w' := by
  obtain ⟨vf, rfl, hfs⟩ := hq
  obtain ⟨ao, ac, rfl, hac, hac'⟩ := hfs.parts
  have HFS := Lib.hid hfs
  have HOK := Lib.hid hok
  have HG := Lib.hid hg
  obtain ⟨W1, hW1⟩ : ∃ W1, W1 = w.alloc (.cells #[.slice ao q.files.length ac, .int .i64 q.turn] 25) := ⟨_, rfl⟩
  have HB1 : Hid (Below w.heap.size w W1) := Lib.hid (by rw [hW1]; exact below_alloc _ _)
  have HX1 : Hid (∀ W, Below W1.heap.size W1 W → W.cell? ⟨w.heap.size, 0, none⟩ = some (.slice ao q.files.length ac) ∧ W.cell? ⟨w.heap.size, 1, none⟩ = some (.int .i64 q.turn)) := Lib.hid fun W hb => ⟨cell_on' hb (by rw [hW1]; simp), cell_on' hb (by rw [hW1]; simp)⟩
  have HQW : Hid (∀ W, Below w.heap.size w W → Quilts W (.agg #[.slice ao q.files.length ac, .int .i64 q.turn]) q) := Lib.hid (fun W hW => ⟨_, rfl, Rd.below hfs hW⟩)
  have CN := Lib.hid (quilt_New W1)
  have HW1 := Lib.hid hW1
  clear hfs hok hg hW1
  go_enter Tryd.func4, Tryd.ntmps4
  go_wp2_with fail
  rw [← HW1.out]
  refine CN.out.mono ?_
  rintro e w2 ⟨qn, rfl, hqn, hb2⟩
  have HB2 := Lib.hid hb2
  have CR := Lib.hid (image_RowsG qn ⟨[], 1⟩ w2 hqn (HG.out.below (two HB1.out hb2)) new_fault)
  clear hqn hb2
  go_wp2_with fail
  refine CR.out.mono ?_
  rintro e w3 ⟨v3, rfl, ho3, hb3⟩
  have HB3 := Lib.hid (two HB2.out hb3)
  have CP := image_Parse v3 (rowsQ ⟨[], 1⟩) w3 (SL.of_own ho3) (HG.out.below (two HB1.out HB3.out)) (by decide) (fun c hc => fault_okI ((rowsQ_good new_fault).2.1 c hc).1)
  obtain ⟨hfa, hqa⟩ : faultI (rowsQ ⟨[], 1⟩) = 0 ∧ quiltI (rowsQ ⟨[], 1⟩) = ⟨[], 1⟩ := by
    unfold faultI quiltI
    rw [parse_rows new_fault]
    exact ⟨rfl, rfl⟩
  rw [hfa, hqa] at CP
  have HCP := Lib.hid CP
  clear ho3 hb3 CP hfa hqa
  go_wp2_with fail
  refine HCP.out.mono ?_
  rintro e w4 ⟨q4, rfl, hq4, hb4⟩
  obtain ⟨v4, rfl, ho4⟩ := hq4
  obtain ⟨v4o, v4c, rfl, _, _⟩ := own_sliceI ho4
  rw [show errV 0 = .nilIface from rfl]
  obtain ⟨W5, hW5⟩ : ∃ W5, W5 = w4.alloc (.cells #[.slice v4o 0 v4c, .int .i64 1] 25) := ⟨_, rfl⟩
  have HB5 : Hid (Below W1.heap.size W1 W5) := Lib.hid (by rw [hW5]; exact two (two HB3.out hb4) (below_alloc _ _))
  have HT5 : Hid (∀ W, Below W5.heap.size W5 W → W.cell? ⟨w4.heap.size, 0, none⟩ = some (.slice v4o 0 v4c) ∧ W.cell? ⟨w4.heap.size, 1, none⟩ = some (.int .i64 1)) := Lib.hid fun W hb => ⟨cell_on' hb (by rw [hW5]; simp), cell_on' hb (by rw [hW5]; simp)⟩
  have HHB : Hid (∀ W, Below W5.heap.size W5 W → ∀ v n, ∃ cs, (W.setCell ⟨w4.heap.size, 0, none⟩ v).heap[w4.heap.size]? = some (.cells cs 25 (0, 0)) ∧ W.frozen? ⟨w4.heap.size, n, none⟩ = false) := Lib.hid (fun W hb v n => by
    have h1 : W.heap[w4.heap.size]? = some (.cells #[.slice v4o 0 v4c, .int .i64 1] 25 (0, 0)) := by
      rw [hb.block _ (by rw [hW5]; simp), hW5]
      exact alloc_heapI _ _
    exact ⟨_, heap_set_self _ _ _ _ h1, by simp [World.frozen?, h1]⟩)
  have HH5 : Hid (∀ W, Below W5.heap.size W5 W → W.heap[w4.heap.size]? = some (.cells #[.slice v4o 0 v4c, .int .i64 1] 25 (0, 0))) := Lib.hid (fun W hb => by
      rw [hb.block _ (by rw [hW5]; simp), hW5]
      exact alloc_heapI _ _)
  have HLT : Hid (w4.heap.size < W5.heap.size ∧ W1.heap.size ≤ w4.heap.size) := Lib.hid ⟨by rw [hW5]; simp, (two HB3.out hb4).size⟩
  have HW5 := Lib.hid hW5
  clear ho4 hb4 hW5
  obtain ⟨y0, y1⟩ := HT5.out W5 (Below.refl _ _)
  obtain ⟨x0, x1⟩ := HX1.out W5 HB5.out
  rw [HW5.out] at x0 x1 y0 y1
  have CF := Lib.hid (top_fineI _ q W5 (HQW.out W5 (two HB1.out HB5.out)) HOK.out)
  go_wp2_with fail
  rw [show w4.alloc (.cells #[.slice v4o 0 v4c, .int .i64 1] 25) = W5 from HW5.out.symm]
  refine CF.out.mono ?_
  rintro e w6 ⟨rfl, hb6⟩
  have HB56 := Lib.hid hb6
  have HB6 := Lib.hid (two HB5.out hb6)
  clear hb6 x0 x1 y0 y1
  cases hfi : fineI q
  · go_wp2_with fail
    go_ret
    exact ⟨rfl, two HB1.out HB6.out⟩
  have hq0 : quiltFault q = 0 := by
    unfold fineI at hfi
    simp only [Bool.and_eq_true, decide_eq_true_eq] at hfi
    exact hfi.2
  have HQ0 := Lib.hid hq0
  obtain ⟨x0, x1⟩ := HX1.out w6 HB6.out
  have CR6 := Lib.hid (image_RowsG _ q w6 (HQW.out w6 (two HB1.out HB6.out)) (HG.out.below (two HB1.out HB6.out)) hq0)
  clear hfi hq0
  go_wp2_with fail
  refine CR6.out.mono ?_
  rintro e w7 ⟨v7, rfl, ho7, hb7⟩
  obtain ⟨l, hl⟩ : ∃ l, l = rowsQ q := ⟨_, rfl⟩
  rw [← hl] at ho7
  have HLQ := Lib.hid hl
  obtain ⟨lo, lc, rfl, hlc, hlc'⟩ := own_sliceI ho7
  have HL7 : Hid (∀ W, Below w7.heap.size w7 W → Changes W (.slice lo l.length lc) l) := Lib.hid (fun W hW => Rd.below (SL.of_own ho7) hW)
  have HB57 := Lib.hid (two HB56.out hb7)
  have HB7 := Lib.hid (two HB6.out hb7)
  have HGD : Hid (RisesX l ∧ (∀ c ∈ l, changeFault c = 0 ∧ c.gone = false) ∧ l.length ≤ 9) := Lib.hid (by rw [hl]; exact rowsQ_good HQ0.out)
  have hl9 : l.length ≤ 9 := HGD.out.2.2
  clear hl ho7 hb7 x0 x1
  go_wp2_with fail
  go_loopw [6] (fun iv wr => ∃ k : Nat, k ≤ l.length ∧ iv = .int .i64 k ∧ Below w7.heap.size w7 wr) (fun iv _ => l.length - (intOf iv).toNat)
  case atStart => exact ⟨0, Nat.zero_le _, rfl, Below.refl _ _⟩
  case round =>
    obtain ⟨k, hk, rfl, hbw⟩ := hrel
    have HBW := Lib.hid hbw
    clear hbw
    by_cases hlt : k < l.length
    · obtain ⟨cb, cof, rfl, hlb, z0, z1, z2⟩ := Changes.cell (HL7.out wr HBW.out) k hlt
      have hcg := HGD.out.2.1 l[k] (List.getElem_mem hlt)
      have hck := fault_okI hcg.1
      obtain ⟨c, hc⟩ : ∃ c, c = l[k] := ⟨_, rfl⟩
      rw [← hc] at z0 z1 z2 hcg hck
      have CK : Hid (∀ W, Calls Tryd.prog 14 #[.agg #[.string c.key, .string c.val, .bool false]] W fun e w' => e = .returned (.int .i64 0) ∧ Below W.heap.size W w') := Lib.hid (fun W => by
        have := ref_ChangeFault c.key c.val false W hck.1 hck.2
        rw [show changeFault ⟨c.key, c.val, false⟩ = 0 by rw [← hcg.2]; exact hcg.1] at this
        exact this)
      rw [hcg.2] at z2
      by_cases hk0 : k = 0
      · have hk1' : ¬ 0 < k := by omega
        have hd0 : decide (0 < k) = false := decide_eq_false hk1'
        replace z0 := regrown_cell z0
        replace z1 := regrown_cell z1
        replace z2 := regrown_cell z2
        clear hcg hck hk0 hc
        go_wp2_with fail
        refine wp_region_q (by kernel_rfl) (by kernel_rfl) ?_
        repeat (go_big_quiet_step (first | (go_at_call 14; exact Calls.regrown_of (CK.out _))))
        refine wpQuiet_nil ?_
        intro w8 hb8
        have HB8 := Lib.hid (two HBW.out hb8)
        clear hb8
        go_wp2_with fail
        go_roundw
        case rel => exact ⟨k + 1, by omega, by go_num, HB8.out⟩
        case measure => simp [intOf]; omega
      · have hk1' : 0 < k := by omega
        have hd0 : decide (0 < k) = true := decide_eq_true hk1'
        obtain ⟨j, hj⟩ : ∃ j, k = j + 1 := ⟨k - 1, by omega⟩
        have hjl : j < l.length := by omega
        obtain ⟨cb2, cof2, hpe, hlb2, p0, p1, p2⟩ := Changes.cell (HL7.out wr HBW.out) j hjl
        simp only [Option.some.injEq, Addr.mk.injEq] at hpe
        obtain ⟨rfl, rfl, _⟩ := hpe
        have hbl : bLt l[j].key c.key = true := by
          rw [hc]
          exact HGD.out.1.at j k (by omega) hlt
        obtain ⟨p, hp⟩ : ∃ p, p = l[j].key := ⟨_, rfl⟩
        rw [← hp] at p0 hbl
        have hle : (Op.bytesLess c.key.toList p.toList || c.key.toList == p.toList) = false := not_le_of_lt hbl
        have hj1 : (k : Int) - 1 = ((j : Nat) : Int) := by omega
        have hj2 : IntKind.i64.wrap ((k : Int) - 1) = ((j : Nat) : Int) := by rw [IntKind.wrap_i64]; omega
        have hj3 : (0 : Int) ≤ ((j : Nat) : Int) := by omega
        have hj4 : ((j : Nat) : Int) < ((l.length : Nat) : Int) := by omega
        replace p0 := regrown_cell p0
        clear p1 p2 hp hlb2 hj hbl
        replace z0 := regrown_cell z0
        replace z1 := regrown_cell z1
        replace z2 := regrown_cell z2
        clear hcg hck hk0 hc
        go_wp2_with fail
        refine wp_region_q (by kernel_rfl) (by kernel_rfl) ?_
        repeat (go_big_quiet_step (first | (go_at_call 14; exact Calls.regrown_of (CK.out _))))
        refine wpQuiet_nil ?_
        intro w8 hb8
        have HB8 := Lib.hid (two HBW.out hb8)
        clear hb8
        go_wp2_with fail
        go_roundw
        case rel => exact ⟨k + 1, by omega, by go_num, HB8.out⟩
        case measure => simp [intOf]; omega
    · obtain rfl : k = l.length := by omega
      have CP := image_Parse (.slice lo l.length lc) l wr (HL7.out wr HBW.out) (HG.out.below (two HB1.out (two HB7.out HBW.out))) (by omega) (fun c hc => fault_okI (HGD.out.2.1 c hc).1)
      obtain ⟨hfa, hqa⟩ : faultI l = 0 ∧ quiltI l = q := by
        unfold faultI quiltI
        rw [HLQ.out, parse_rows HQ0.out]
        exact ⟨rfl, rfl⟩
      rw [hfa, hqa] at CP
      have HCP2 := Lib.hid CP
      clear CP hfa hqa
      go_wp2_with fail
      refine HCP2.out.mono ?_
      rintro e w8 ⟨q8, rfl, hq8, hb8⟩
      obtain ⟨v8, rfl, ho8⟩ := hq8
      obtain ⟨v8o, v8c, rfl, _, _⟩ := own_sliceI ho8
      rw [show errV 0 = .nilIface from rfl]
      have hb58 : Below W5.heap.size W5 w8 := two HB57.out (two HBW.out hb8)
      have hh8 := HH5.out w8 hb58
      have y0 : w8.cell? ⟨w4.heap.size, 0, none⟩ = some (.slice v4o 0 v4c) := by simp [World.cell?, hh8]
      have y1 : w8.cell? ⟨w4.heap.size, 1, none⟩ = some (.int .i64 1) := by simp [World.cell?, hh8]
      have yf : ∀ o, w8.frozen? ⟨w4.heap.size, o, none⟩ = false := fun o => by simp [World.frozen?, hh8]
      obtain ⟨W9, hW9⟩ : ∃ W9, W9 = (w8.setCell ⟨w4.heap.size, 0, none⟩ (.slice v8o q.files.length v8c)).setCell ⟨w4.heap.size, 1, none⟩ (.int .i64 q.turn) := ⟨_, rfl⟩
      have hh9 : W9.heap[w4.heap.size]? = some (.cells #[.slice v8o q.files.length v8c, .int .i64 q.turn] 25 (0, 0)) := by
        rw [hW9]
        exact heap_set_self _ _ _ _ (heap_set_self _ _ _ _ hh8)
      have hO9 : Off (fun b => b = w4.heap.size) w8 W9 := by
        rw [hW9]
        exact (off_setCell (F := fun b => b = w4.heap.size) w8 ⟨w4.heap.size, 0, none⟩ rfl _).trans (off_setCell (F := fun b => b = w4.heap.size) _ ⟨w4.heap.size, 1, none⟩ rfl _) (fun _ _ h => h)
      have hw18 : Below W1.heap.size W1 w8 := two HB5.out hb58
      have HB9 : Hid (Below W1.heap.size W1 W9) := Lib.hid (hw18.trans (hO9.below _ hw18.size (fun x hx => by have h1 : x = w4.heap.size := hx; have := HLT.out.2; omega)))
      have HO9 : Hid (Quilts W9 (.agg #[.slice v8o q.files.length v8c, .int .i64 q.turn]) q) := Lib.hid ⟨_, rfl, SL.of_own (hO9.owns ho8 (fun g hg hx => by
        have h1 := (ho8.lt g hg).1
        have h2 := (two HB57.out HBW.out).size
        have h3 : g = w4.heap.size := hx
        have h4 := HLT.out.1
        omega))⟩
      have HY9 : Hid (W9.cell? ⟨w4.heap.size, 0, none⟩ = some (.slice v8o q.files.length v8c) ∧ W9.cell? ⟨w4.heap.size, 1, none⟩ = some (.int .i64 q.turn)) := Lib.hid ⟨by simp [World.cell?, hh9], by simp [World.cell?, hh9]⟩
      have CS := ref_SameQuilt _ _ q q W9 HO9.out (HQW.out W9 (two HB1.out HB9.out))
      rw [decide_eq_true (rfl : q = q)] at CS
      have HCS := Lib.hid CS
      have HW9 := Lib.hid hW9
      have hl12 : (l.length : Int) ≤ 12 := by omega
      clear ho8 hb8 hb58 hh8 hW9 hh9 hO9 hw18 CS
      obtain ⟨y2, y3⟩ := HY9.out
      obtain ⟨x0, x1⟩ := HX1.out W9 HB9.out
      rw [HW9.out] at x0 x1 y2 y3
      go_wp2_with fail
      rw [← HW9.out]
      refine HCS.out.mono ?_
      rintro e w10 ⟨rfl, hb10⟩
      have HB10 := Lib.hid (two HB9.out hb10)
      clear hb10 x0 x1 y0 y1 y2 y3 yf
      go_wp2_with fail
      go_ret
      exact ⟨rfl, two HB1.out HB10.out⟩
theorem rows_top (va : Value) (q : Quilt) (w : World) (ha : Quilts w va q) (hok : ∀ f ∈ q.files, f.ok) (hg : GlobI w) :
    Calls Tryd.prog 4 #[va] w fun e w' => e = .returned (.bool true) ∧ Below w.heap.size w w' := law_TopRows va q w ha hok hg
end Go.Proofs.YtggpodlecljcbacDoor
