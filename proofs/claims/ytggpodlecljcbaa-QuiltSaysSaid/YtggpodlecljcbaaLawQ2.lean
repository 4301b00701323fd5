/- The law of chapter 3: QuiltSays, walked. -/
import Derived.Test.YtggpodlecljcbaaLawQ
namespace Go.Proofs.Ytggpodlecljcbaa
open Go.RowKit Go.Sort
set_option linter.unusedSimpArgs false
set_option linter.unusedVariables false
set_option maxRecDepth 100000 in
set_option maxHeartbeats 4000000 in
theorem law_QuiltSays (qv ov va : Value) (q o : Quilt) (avs : List ActV) (al : List Act) (w : World) (hq : Quilts w qv q) (ho : Quilts w ov o) (hav : ActVs w va avs) (haa : IsActs w avs al) (hqk : ∀ f ∈ q.files, f.ok) (hok : ∀ f ∈ o.files, f.ok) (hak : ∀ a ∈ al, a.ok) :
    Calls Try.prog 9 #[qv, ov, va] w fun e w' => e = .returned (.bool true) ∧ Below w.heap.size w w' := by
  obtain ⟨v, rfl, hf⟩ := hq
  obtain ⟨u, rfl, hg⟩ := ho
  obtain ⟨ao, ca, rfl, hca, hca'⟩ := hf.parts
  obtain ⟨bo, cb, rfl, hcb, hcb'⟩ := hg.parts
  have CL := Lib.hid fun W hb => law_LightQuilt (.agg #[.slice ao q.files.length ca, .int .i64 q.turn]) q W ⟨_, rfl, hf.below hb⟩ hqk
  have CO := Lib.hid fun W hb => law_LightQuilt (.agg #[.slice bo o.files.length cb, .int .i64 o.turn]) o W ⟨_, rfl, hg.below hb⟩ hok
  have CA := Lib.hid fun W hb => law_LightActs va avs al 60 W (hav.below hb) (haa.below hb) hak
  have CR := fun W hb => ref_QuiltFault (.agg #[.slice ao q.files.length ca, .int .i64 q.turn]) q W ⟨_, rfl, hf.below hb⟩ hqk
  have CS := Lib.hid fun W => law_quilts W
  obtain ⟨vo, vc, rfl, hvc, hvc'⟩ := hav.parts
  obtain ⟨W2, hW2⟩ : ∃ W2, W2 = (w.alloc (.cells #[.slice ao q.files.length ca, .int .i64 q.turn] 34)).alloc (.cells #[.slice bo o.files.length cb, .int .i64 o.turn] 34) := ⟨_, rfl⟩
  have HB2 : Hid (Below w.heap.size w W2) := Lib.hid (by rw [hW2]; exact two (below_alloc w _) (below_alloc _ _))
  have QA : Hid (QAt W2 w.heap.size (.slice ao q.files.length ca) q.turn) := Lib.hid (by rw [hW2]; exact (QAt.new w _ _ (files_not_str hf)).below (below_alloc _ _))
  have QB : Hid (QAt W2 (w.heap.size + 1) (.slice bo o.files.length cb) o.turn) := Lib.hid (by rw [hW2]; have := QAt.new (w.alloc (.cells #[.slice ao q.files.length ca, .int .i64 q.turn] 34)) _ o.turn (files_not_str hg); simpa using this)
  have HW2 := Lib.hid hW2
  have HF := Lib.hid hf
  have HO := Lib.hid hg
  have HAV := Lib.hid hav
  have HAA := Lib.hid haa
  have HLE := Lib.hid haa.1
  have HQK := Lib.hid hqk
  have HOK := Lib.hid hok
  have HAK := Lib.hid hak
  clear hW2 hf hg hav haa hqk hok hak
  cases hlq : lightFiles q.files
  · have HLQ := Lib.hid hlq
    clear hlq
    go_enter Try.func9, Try.ntmps9
    go_wp2_with fail
    rw [← HW2.out]
    refine (CS.out _).mono ?_
    rintro e w3 ⟨rfl, hb3⟩
    have HB3 := Lib.hid hb3
    have QA3 := Lib.hid (QA.out.below hb3)
    have QB3 := Lib.hid (QB.out.below hb3)
    have z0 := QA3.out.c0
    have z1 := QA3.out.c1
    have y0 := QB3.out.c0
    have y1 := QB3.out.c1
    clear hb3
    go_wp2_with fail
    refine (CL.out _ (two HB2.out HB3.out)).mono ?_
    rintro e w4 ⟨rfl, hb4⟩
    have HB4 := Lib.hid (two HB3.out hb4)
    have QA4 := Lib.hid (QA3.out.below hb4)
    have QB4 := Lib.hid (QB3.out.below hb4)
    clear hb4 z0 z1 y0 y1
    rw [HLQ.out]
    go_wp2_with fail
    go_ret
    exact ⟨rfl, two HB2.out HB4.out⟩
  · have HLQ := Lib.hid hlq
    clear hlq
    cases hlo : lightFiles o.files
    · have HLO := Lib.hid hlo
      clear hlo
      go_enter Try.func9, Try.ntmps9
      go_wp2_with fail
      rw [← HW2.out]
      refine (CS.out _).mono ?_
      rintro e w3 ⟨rfl, hb3⟩
      have HB3 := Lib.hid hb3
      have QA3 := Lib.hid (QA.out.below hb3)
      have QB3 := Lib.hid (QB.out.below hb3)
      have z0 := QA3.out.c0
      have z1 := QA3.out.c1
      have y0 := QB3.out.c0
      have y1 := QB3.out.c1
      clear hb3
      go_wp2_with fail
      refine (CL.out _ (two HB2.out HB3.out)).mono ?_
      rintro e w4 ⟨rfl, hb4⟩
      have HB4 := Lib.hid (two HB3.out hb4)
      have QA4 := Lib.hid (QA3.out.below hb4)
      have QB4 := Lib.hid (QB3.out.below hb4)
      clear hb4 z0 z1 y0 y1
      rw [HLQ.out]
      have y0 := QB4.out.c0
      have y1 := QB4.out.c1
      go_wp2_with fail
      refine (CO.out _ (two HB2.out HB4.out)).mono ?_
      rintro e w5 ⟨rfl, hb5⟩
      have HB5 := Lib.hid (two HB4.out hb5)
      have QA5 := Lib.hid (QA4.out.below hb5)
      have QB5 := Lib.hid (QB4.out.below hb5)
      clear hb5 y0 y1
      rw [HLO.out]
      go_wp2_with fail
      go_ret
      exact ⟨rfl, two HB2.out HB5.out⟩
    · have HLO := Lib.hid hlo
      clear hlo
      cases hla : lightActs al 60
      · have HLA := Lib.hid hla
        clear hla
        go_enter Try.func9, Try.ntmps9
        go_wp2_with fail
        rw [← HW2.out]
        refine (CS.out _).mono ?_
        rintro e w3 ⟨rfl, hb3⟩
        have HB3 := Lib.hid hb3
        have QA3 := Lib.hid (QA.out.below hb3)
        have QB3 := Lib.hid (QB.out.below hb3)
        have z0 := QA3.out.c0
        have z1 := QA3.out.c1
        have y0 := QB3.out.c0
        have y1 := QB3.out.c1
        clear hb3
        go_wp2_with fail
        refine (CL.out _ (two HB2.out HB3.out)).mono ?_
        rintro e w4 ⟨rfl, hb4⟩
        have HB4 := Lib.hid (two HB3.out hb4)
        have QA4 := Lib.hid (QA3.out.below hb4)
        have QB4 := Lib.hid (QB3.out.below hb4)
        clear hb4 z0 z1 y0 y1
        rw [HLQ.out]
        have y0 := QB4.out.c0
        have y1 := QB4.out.c1
        go_wp2_with fail
        refine (CO.out _ (two HB2.out HB4.out)).mono ?_
        rintro e w5 ⟨rfl, hb5⟩
        have HB5 := Lib.hid (two HB4.out hb5)
        have QA5 := Lib.hid (QA4.out.below hb5)
        have QB5 := Lib.hid (QB4.out.below hb5)
        clear hb5 y0 y1
        rw [HLO.out]
        go_wp2_with fail
        refine (CA.out _ (two HB2.out HB5.out)).mono ?_
        rintro e w6 ⟨rfl, rfl⟩
        rw [HLA.out]
        go_wp2_with fail
        go_ret
        exact ⟨rfl, two HB2.out HB5.out⟩
      · have HLA := Lib.hid hla
        clear hla
        by_cases hqf : quiltFault q = 0
        · have HGD0 := Lib.hid ((good_iff q).1 hqf)
          rw [hqf] at CR
          replace CR := Lib.hid CR
          clear hqf
          go_enter Try.func9, Try.ntmps9
          go_wp2_with fail
          rw [← HW2.out]
          refine (CS.out _).mono ?_
          rintro e w3 ⟨rfl, hb3⟩
          have HB3 := Lib.hid hb3
          have QA3 := Lib.hid (QA.out.below hb3)
          have QB3 := Lib.hid (QB.out.below hb3)
          have z0 := QA3.out.c0
          have z1 := QA3.out.c1
          have y0 := QB3.out.c0
          have y1 := QB3.out.c1
          clear hb3
          go_wp2_with fail
          refine (CL.out _ (two HB2.out HB3.out)).mono ?_
          rintro e w4 ⟨rfl, hb4⟩
          have HB4 := Lib.hid (two HB3.out hb4)
          have QA4 := Lib.hid (QA3.out.below hb4)
          have QB4 := Lib.hid (QB3.out.below hb4)
          clear hb4 z0 z1 y0 y1
          rw [HLQ.out]
          have y0 := QB4.out.c0
          have y1 := QB4.out.c1
          go_wp2_with fail
          refine (CO.out _ (two HB2.out HB4.out)).mono ?_
          rintro e w5 ⟨rfl, hb5⟩
          have HB5 := Lib.hid (two HB4.out hb5)
          have QA5 := Lib.hid (QA4.out.below hb5)
          have QB5 := Lib.hid (QB4.out.below hb5)
          clear hb5 y0 y1
          rw [HLO.out]
          go_wp2_with fail
          refine (CA.out _ (two HB2.out HB5.out)).mono ?_
          rintro e w6 ⟨rfl, rfl⟩
          rw [HLA.out]
          have z0 := regrown_cell QA5.out.c0
          have z1 := regrown_cell QA5.out.c1
          have y0 := regrown_cell QB5.out.c0
          have y1 := regrown_cell QB5.out.c1
          have K1 := Lib.hid (fun W (hb : Below w5.heap.size w5 W) => quilt_Check (.agg #[.slice ao q.files.length ca, .int .i64 q.turn]) q W ⟨_, rfl, HF.out.below (two (two HB2.out HB5.out) hb)⟩ HQK.out)
          have K2 := Lib.hid (fun W (hb : Below w5.heap.size w5 W) => ref_QuiltFault (.agg #[.slice ao q.files.length ca, .int .i64 q.turn]) q W ⟨_, rfl, HF.out.below (two (two HB2.out HB5.out) hb)⟩ HQK.out)
          have K3 := Lib.hid (fun W (hb : Below w5.heap.size w5 W) => quilt_Same (.agg #[.slice ao q.files.length ca, .int .i64 q.turn]) (.agg #[.slice bo o.files.length cb, .int .i64 o.turn]) q o W ⟨_, rfl, HF.out.below (two (two HB2.out HB5.out) hb)⟩ ⟨_, rfl, HO.out.below (two (two HB2.out HB5.out) hb)⟩)
          have K4 := Lib.hid (fun W (hb : Below w5.heap.size w5 W) => ref_SameQuilt (.agg #[.slice ao q.files.length ca, .int .i64 q.turn]) (.agg #[.slice bo o.files.length cb, .int .i64 o.turn]) q o W ⟨_, rfl, HF.out.below (two (two HB2.out HB5.out) hb)⟩ ⟨_, rfl, HO.out.below (two (two HB2.out HB5.out) hb)⟩)
          go_wp2_with fail
          refine wp_region_q (by kernel_rfl) (by kernel_rfl) ?_
          repeat (go_big_quiet_step (first | (go_at_call 74; exact Calls.regrown_of (K1.out _ (below_regrown _ _ _))) | (go_at_call 75; exact Calls.regrown_of (K2.out _ (below_regrown _ _ _))) | (go_at_call 14; exact Calls.regrown_of (same_eq _ _)) | (go_at_call 76; exact Calls.regrown_of (K3.out _ (below_regrown _ _ _))) | (go_at_call 22; exact Calls.regrown_of (K4.out _ (below_regrown _ _ _)))))
          refine wpQuiet_nil ?_
          intro w7 hb7
          have HB7 := Lib.hid (two HB5.out hb7)
          have QA7 := Lib.hid (QA5.out.below hb7)
          clear hb7 K1 K2 K3 K4 z0 z1 y0 y1
          have z0 := QA7.out.c0
          have z1 := QA7.out.c1
          go_wp2_with fail
          refine (CR.out _ (two HB2.out HB7.out)).mono ?_
          rintro e w8 ⟨rfl, hb8⟩
          have HB8 := Lib.hid (two HB7.out hb8)
          have QA8 := Lib.hid (QA7.out.below hb8)
          clear hb8 z0 z1 QA3 QB3 QA4 QB4 QA5 QB5 QA7
          have z0 := QA8.out.c0
          have z1 := QA8.out.c1
          have g0 := QA8.out.f0
          have g1 := QA8.out.f1
          go_wp2_with fail
          obtain ⟨W10, hW10⟩ : ∃ W10, W10 = w8.alloc (.cells #[.slice ao q.files.length ca, .int .i64 q.turn] 34) := ⟨_, rfl⟩
          have HW10 : Hid (Below w.heap.size w W10) := Lib.hid (by rw [hW10]; exact two (two HB2.out HB8.out) (below_alloc _ _))
          have QX : Hid (QAt W10 w.heap.size (.slice ao q.files.length ca) q.turn) := Lib.hid (by rw [hW10]; exact QA8.out.below (below_alloc _ _))
          have QY : Hid (QAt W10 w8.heap.size (.slice ao q.files.length ca) q.turn) := Lib.hid (by rw [hW10]; exact QAt.new w8 _ _ (files_not_str HF.out))
          have HFX : Hid (Files W10 (.slice ao q.files.length ca) q.files) := Lib.hid (HF.out.below HW10.out)
          have HG0 := HGD0
          have HLT := Lib.hid QA8.out.lt
          rw [← hW10]
          clear hW10 z0 z1 g0 g1
          go_loopw [9] (fun i wr => ∃ (k : Nat) (Q : Quilt) (vq vm : Value), k ≤ avs.length ∧ i = .int .i64 k ∧ Good Q ∧ QAt wr w.heap.size vq Q.turn ∧ QAt wr w8.heap.size vm Q.turn ∧ Files wr vq Q.files ∧ Files wr vm Q.files ∧ Below w.heap.size w wr) (fun i _ => avs.length - (intOf i).toNat)
          case atStart => exact ⟨0, q, _, _, Nat.zero_le _, rfl, HG0.out, QX.out, QY.out, HFX.out, HFX.out, HW10.out⟩
          case round =>
            obtain ⟨k, Q, vq, vm, hk, rfl, hgd, hqa, hqb, hfq, hfm, hbw⟩ := hrel
            have HGD := Lib.hid hgd
            have HQA := Lib.hid hqa
            have HQB := Lib.hid hqb
            obtain ⟨qo, qc, rfl, _, _⟩ := hfq.parts
            obtain ⟨mo, mc, rfl, _, _⟩ := hfm.parts
            have HFQ := Lib.hid hfq
            have HFM := Lib.hid hfm
            have HW := Lib.hid hbw
            clear hgd hqa hqb hfq hfm hbw
            by_cases hlt : k < avs.length
            · obtain ⟨ba, oa, rfl, hlb, x0, x1, x2, x3, x4, x5⟩ := ActVs.cell HAV.out k hlt
              have HXC : Hid (∀ W, Below wr.heap.size wr W → W.cell? ⟨ba, oa + k * 6, none⟩ = some (.string avs[k].kind) ∧ W.cell? ⟨ba, oa + k * 6 + 1, none⟩ = some (.string avs[k].s) ∧ W.cell? ⟨ba, oa + k * 6 + 2, none⟩ = some (.string avs[k].t) ∧ W.cell? ⟨ba, oa + k * 6 + 3, none⟩ = some (.int .i64 avs[k].n) ∧ W.cell? ⟨ba, oa + k * 6 + 4, none⟩ = some (.int .u64 avs[k].k) ∧ W.cell? ⟨ba, oa + k * 6 + 5, none⟩ = some avs[k].cv) := Lib.hid fun W hb => by
                obtain ⟨kc, _⟩ := bcell (two HW.out hb)
                exact ⟨(kc _ _ hlb).trans x0, (kc _ _ hlb).trans x1, (kc _ _ hlb).trans x2, (kc _ _ hlb).trans x3, (kc _ _ hlb).trans x4, (kc _ _ hlb).trans x5⟩
              clear x0 x1 x2 x3 x4 x5
              have hlt' : k < al.length := by rw [← HLE.out]; exact hlt
              have CD := fun W (hb : Below wr.heap.size wr W) => law_Do (.agg #[.slice qo Q.files.length qc, .int .i64 Q.turn]) Q avs[k] (al[k]'hlt') W ⟨_, rfl, HFQ.out.below hb⟩ HGD.out ((HAA.out.2 k hlt hlt').below (two HW.out hb)) (HAK.out _ (List.getElem_mem hlt'))
              have CE := fun W (hb : Below wr.heap.size wr W) => law_doneRef (.agg #[.slice mo Q.files.length mc, .int .i64 Q.turn]) Q avs[k] (al[k]'hlt') W ⟨_, rfl, HFM.out.below hb⟩ HGD.out ((HAA.out.2 k hlt hlt').below (two HW.out hb)) (HAK.out _ (List.getElem_mem hlt'))
              have HDG := Lib.hid (do_good HGD.out (al[k]'hlt'))
              obtain ⟨p, hp⟩ : ∃ p, p = doAct Q (al[k]'hlt') := ⟨_, rfl⟩
              unfold RetQE ActV.val at CD
              unfold RetQN ActV.val at CE
              rw [← hp] at CD CE HDG
              clear hp
              replace CD := Lib.hid CD
              replace CE := Lib.hid CE
              have ED := Lib.hid (Below.refl wr.heap.size wr).drew
              have HSK : Hid (∀ W, Below wr.heap.size wr W → W.cell? ⟨w.heap.size, 0, none⟩ = some (.slice qo Q.files.length qc) ∧ W.cell? ⟨w.heap.size, 1, none⟩ = some (.int .i64 Q.turn) ∧ W.cell? ⟨ba, oa + k * 6, none⟩ = some (.string avs[k].kind) ∧ W.cell? ⟨ba, oa + k * 6 + 1, none⟩ = some (.string avs[k].s) ∧ W.cell? ⟨ba, oa + k * 6 + 2, none⟩ = some (.string avs[k].t) ∧ W.cell? ⟨ba, oa + k * 6 + 3, none⟩ = some (.int .i64 avs[k].n) ∧ W.cell? ⟨ba, oa + k * 6 + 4, none⟩ = some (.int .u64 avs[k].k) ∧ W.cell? ⟨ba, oa + k * 6 + 5, none⟩ = some avs[k].cv) := Lib.hid fun W hb => ⟨(HQA.out.below hb).c0, (HQA.out.below hb).c1, HXC.out W hb⟩
              have HSM : Hid (∀ W, Below wr.heap.size wr W → W.cell? ⟨w8.heap.size, 0, none⟩ = some (.slice mo Q.files.length mc) ∧ W.cell? ⟨w8.heap.size, 1, none⟩ = some (.int .i64 Q.turn) ∧ W.cell? ⟨ba, oa + k * 6, none⟩ = some (.string avs[k].kind) ∧ W.cell? ⟨ba, oa + k * 6 + 1, none⟩ = some (.string avs[k].s) ∧ W.cell? ⟨ba, oa + k * 6 + 2, none⟩ = some (.string avs[k].t) ∧ W.cell? ⟨ba, oa + k * 6 + 3, none⟩ = some (.int .i64 avs[k].n) ∧ W.cell? ⟨ba, oa + k * 6 + 4, none⟩ = some (.int .u64 avs[k].k) ∧ W.cell? ⟨ba, oa + k * 6 + 5, none⟩ = some avs[k].cv) := Lib.hid fun W hb => ⟨(HQB.out.below hb).c0, (HQB.out.below hb).c1, HXC.out W hb⟩
              have XE : Hid (QAt (wr.drew.alloc (.cells #[.slice none 0 0, .int .i64 0] 34)) wr.heap.size (.slice none 0 0) 0) := Lib.hid (QAt.new wr.drew (.slice none 0 0) 0 (by intro s h; cases h))
              go_wp2_with fail
              go_region_held3 (fun W => W.cell? ⟨w.heap.size, 0, none⟩ = some (.slice qo Q.files.length qc) ∧ W.cell? ⟨w.heap.size, 1, none⟩ = some (.int .i64 Q.turn) ∧ W.cell? ⟨ba, oa + k * 6, none⟩ = some (.string avs[k].kind) ∧ W.cell? ⟨ba, oa + k * 6 + 1, none⟩ = some (.string avs[k].s) ∧ W.cell? ⟨ba, oa + k * 6 + 2, none⟩ = some (.string avs[k].t) ∧ W.cell? ⟨ba, oa + k * 6 + 3, none⟩ = some (.int .i64 avs[k].n) ∧ W.cell? ⟨ba, oa + k * 6 + 4, none⟩ = some (.int .u64 avs[k].k) ∧ W.cell? ⟨ba, oa + k * 6 + 5, none⟩ = some avs[k].cv)
                (first
                  | exact HSK.out _ ED.out
                  | exact HSK.out _ (HE1 : Hid _).out
                  | exact HSK.out _ (two ED.out (below_alloc _ _))
                  | exact HSK.out _ (two (HE1 : Hid _).out (below_alloc _ _))
                  | exact HSK.out _ (((HE1 : Hid _).out.setCell (p := ⟨wr.heap.size, 0, none⟩) (Nat.le_refl _) _).setCell (p := ⟨wr.heap.size, 1, none⟩) (Nat.le_refl _) _))
                (first | (go_at_call 78; refine (CD.out _ (by first | exact ED.out | exact two ED.out (below_alloc _ _))).mono ?_; rintro e wA ⟨qx, rfl, ⟨vx, rfl, hfx⟩, hba⟩; obtain ⟨xo, xc, rfl, _, _⟩ := hfx.parts; have HX := Lib.hid hfx; have HE1 := Lib.hid (two (by first | exact ED.out | exact two ED.out (below_alloc _ _)) hba); (try (have XF := Lib.hid (XE.out.below hba); have b0 := XF.out.c0; have b1 := XF.out.c1; have b2 := XF.out.f0; have b3 := XF.out.f1)); clear hfx hba))
              all_goals
                first
                  | (obtain ⟨Wc, bx, hW, hbx, hqx, hfx, hex, hbl⟩ : ∃ Wc bx, Wc = wA.alloc (.cells #[.slice xo p.1.files.length xc, .int .i64 p.1.turn] 34) ∧ bx = wA.heap.size ∧ QAt Wc bx (.slice xo p.1.files.length xc) p.1.turn ∧ Files Wc (.slice xo p.1.files.length xc) p.1.files ∧ Below wr.heap.size wr Wc ∧ wr.heap.size ≤ bx := ⟨_, _, rfl, rfl, QAt.new wA _ _ (files_not_str HX.out), HX.out.below (below_alloc _ _), two HE1.out (below_alloc _ _), HE1.out.size⟩
                     rw [← hW, ← hbx])
                  | (obtain ⟨Wc, bx, hW, hbx, hqx, hfx, hex, hbl⟩ : ∃ Wc bx, Wc = (wA.setCell ⟨wr.heap.size, 0, none⟩ (.slice xo p.1.files.length xc)).setCell ⟨wr.heap.size, 1, none⟩ (.int .i64 p.1.turn) ∧ bx = wr.heap.size ∧ QAt Wc bx (.slice xo p.1.files.length xc) p.1.turn ∧ Files Wc (.slice xo p.1.files.length xc) p.1.files ∧ Below wr.heap.size wr Wc ∧ wr.heap.size ≤ bx := ⟨_, _, rfl, rfl, XF.out.set _ _ (files_not_str HX.out), files_set_box HX.out XF.out.ns _ (files_not_str HX.out) _, (HE1.out.setCell (p := ⟨wr.heap.size, 0, none⟩) (Nat.le_refl _) _).setCell (p := ⟨wr.heap.size, 1, none⟩) (Nat.le_refl _) _, Nat.le_refl _⟩
                     rw [← hW, ← hbx])
              all_goals
                have HQX := Lib.hid hqx
                have HFX2 := Lib.hid hfx
                have HEX := Lib.hid hex
                clear hW hbx hqx hfx hex HE1 HX hbl
                (try clear XF)
                (try clear b0 b1 b2 b3)
                have HSN : Hid (∀ W, Below Wc.heap.size Wc W → W.cell? ⟨w8.heap.size, 0, none⟩ = some (.slice mo Q.files.length mc) ∧ W.cell? ⟨w8.heap.size, 1, none⟩ = some (.int .i64 Q.turn) ∧ W.cell? ⟨ba, oa + k * 6, none⟩ = some (.string avs[k].kind) ∧ W.cell? ⟨ba, oa + k * 6 + 1, none⟩ = some (.string avs[k].s) ∧ W.cell? ⟨ba, oa + k * 6 + 2, none⟩ = some (.string avs[k].t) ∧ W.cell? ⟨ba, oa + k * 6 + 3, none⟩ = some (.int .i64 avs[k].n) ∧ W.cell? ⟨ba, oa + k * 6 + 4, none⟩ = some (.int .u64 avs[k].k) ∧ W.cell? ⟨ba, oa + k * 6 + 5, none⟩ = some avs[k].cv) := Lib.hid fun W hb => HSM.out W (two HEX.out hb)
                have EF := Lib.hid (Below.refl Wc.heap.size Wc).drew
                have YE : Hid (QAt (Wc.drew.alloc (.cells #[.slice none 0 0, .int .i64 0] 34)) Wc.heap.size (.slice none 0 0) 0) := Lib.hid (QAt.new Wc.drew (.slice none 0 0) 0 (by intro s h; cases h))
                go_wp2_with fail
                go_region_held3 (fun W => W.cell? ⟨w8.heap.size, 0, none⟩ = some (.slice mo Q.files.length mc) ∧ W.cell? ⟨w8.heap.size, 1, none⟩ = some (.int .i64 Q.turn) ∧ W.cell? ⟨ba, oa + k * 6, none⟩ = some (.string avs[k].kind) ∧ W.cell? ⟨ba, oa + k * 6 + 1, none⟩ = some (.string avs[k].s) ∧ W.cell? ⟨ba, oa + k * 6 + 2, none⟩ = some (.string avs[k].t) ∧ W.cell? ⟨ba, oa + k * 6 + 3, none⟩ = some (.int .i64 avs[k].n) ∧ W.cell? ⟨ba, oa + k * 6 + 4, none⟩ = some (.int .u64 avs[k].k) ∧ W.cell? ⟨ba, oa + k * 6 + 5, none⟩ = some avs[k].cv)
                  (first
                    | exact HSN.out _ EF.out
                    | exact HSN.out _ (HE2 : Hid _).out
                    | exact HSN.out _ (two EF.out (below_alloc _ _))
                    | exact HSN.out _ (two (HE2 : Hid _).out (below_alloc _ _))
                    | exact HSN.out _ (((HE2 : Hid _).out.setCell (p := ⟨Wc.heap.size, 0, none⟩) (Nat.le_refl _) _).setCell (p := ⟨Wc.heap.size, 1, none⟩) (Nat.le_refl _) _))
                  (first | (go_at_call 79; refine (CE.out _ (two HEX.out (by first | exact EF.out | exact two EF.out (below_alloc _ _)))).mono ?_; rintro e wB ⟨qy, rfl, ⟨vy, rfl, hfy⟩, hbb⟩; obtain ⟨yo, yc, rfl, _, _⟩ := hfy.parts; have HY := Lib.hid hfy; have HE2 := Lib.hid (two (by first | exact EF.out | exact two EF.out (below_alloc _ _)) hbb); (try (have YF := Lib.hid (YE.out.below hbb); have b0 := YF.out.c0; have b1 := YF.out.c1; have b2 := YF.out.f0; have b3 := YF.out.f1)); clear hfy hbb))
                all_goals
                  first
                    | (obtain ⟨Wd, bd, hW, hbx, hqx, hfx, hex, hbl⟩ : ∃ Wd bd, Wd = wB.alloc (.cells #[.slice yo p.1.files.length yc, .int .i64 p.1.turn] 34) ∧ bd = wB.heap.size ∧ QAt Wd bd (.slice yo p.1.files.length yc) p.1.turn ∧ Files Wd (.slice yo p.1.files.length yc) p.1.files ∧ Below Wc.heap.size Wc Wd ∧ Wc.heap.size ≤ bd := ⟨_, _, rfl, rfl, QAt.new wB _ _ (files_not_str HY.out), HY.out.below (below_alloc _ _), two HE2.out (below_alloc _ _), HE2.out.size⟩
                       rw [← hW, ← hbx])
                    | (obtain ⟨Wd, bd, hW, hbx, hqx, hfx, hex, hbl⟩ : ∃ Wd bd, Wd = (wB.setCell ⟨Wc.heap.size, 0, none⟩ (.slice yo p.1.files.length yc)).setCell ⟨Wc.heap.size, 1, none⟩ (.int .i64 p.1.turn) ∧ bd = Wc.heap.size ∧ QAt Wd bd (.slice yo p.1.files.length yc) p.1.turn ∧ Files Wd (.slice yo p.1.files.length yc) p.1.files ∧ Below Wc.heap.size Wc Wd ∧ Wc.heap.size ≤ bd := ⟨_, _, rfl, rfl, YF.out.set _ _ (files_not_str HY.out), files_set_box HY.out YF.out.ns _ (files_not_str HY.out) _, (HE2.out.setCell (p := ⟨Wc.heap.size, 0, none⟩) (Nat.le_refl _) _).setCell (p := ⟨Wc.heap.size, 1, none⟩) (Nat.le_refl _) _, Nat.le_refl _⟩
                       rw [← hW, ← hbx])
                all_goals
                  have HBD := Lib.hid (Nat.le_trans HEX.out.size hbl)
                  have HQY := Lib.hid hqx
                  have HQX2 := Lib.hid (HQX.out.below hex)
                  have HFY2 := Lib.hid hfx
                  have HFX3 := Lib.hid (HFX2.out.below hex)
                  have HED := Lib.hid (two HEX.out hex)
                  clear hW hbx hqx hfx hex HE2 HY HQX HFX2 hbl
                  (try clear YF)
                  (try clear b0 b1 b2 b3)
                  go_wp2_with fail
                  refine (same_eq _ _).mono ?_
                  rintro e wE ⟨rfl, hbE⟩
                  have HQX4 := Lib.hid (HQX2.out.below hbE)
                  have HQY4 := Lib.hid (HQY.out.below hbE)
                  have HFX4 := Lib.hid (HFX3.out.below hbE)
                  have HFY4 := Lib.hid (HFY2.out.below hbE)
                  have HEE := Lib.hid (two HED.out hbE)
                  have c0 := HQX4.out.c0
                  have c1 := HQX4.out.c1
                  have d0 := HQY4.out.c0
                  have d1 := HQY4.out.c1
                  clear hbE
                  go_wp2_with fail
                  refine (ref_SameQuilt _ _ p.1 p.1 _ ⟨_, rfl, HFX4.out⟩ ⟨_, rfl, HFY4.out⟩).mono ?_
                  rintro e wF ⟨rfl, hbF⟩
                  rw [decide_eq_true (rfl : p.1 = p.1)]
                  have HQX5 := Lib.hid (HQX4.out.below hbF)
                  have HQY5 := Lib.hid (HQY4.out.below hbF)
                  have HFX5 := Lib.hid (HFX4.out.below hbF)
                  have HFY5 := Lib.hid (HFY4.out.below hbF)
                  have HEF := Lib.hid (two HEE.out hbF)
                  clear hbF c0 c1 d0 d1
                  by_cases hp0 : p.2 = 0
                  · have HGP := Lib.hid (HDG.out hp0)
                    have c0 := HQX5.out.c0
                    have c1 := HQX5.out.c1
                    have d0 := HQY5.out.c0
                    have d1 := HQY5.out.c1
                    have HA5 := Lib.hid (HQA.out.below HEF.out)
                    have HB5x := Lib.hid (HQB.out.below HEF.out)
                    have g0 := HA5.out.c0
                    have g1 := HA5.out.c1
                    have g2 := HA5.out.f0
                    have g3 := HA5.out.f1
                    have k0 := HB5x.out.c0
                    have k1 := HB5x.out.c1
                    have k2 := HB5x.out.f0
                    have k3 := HB5x.out.f1
                    have hbne1 : ¬ w.heap.size = bd := fun h => by have := HQA.out.lt; have := HBD.out; omega
                    have hbne2 : ¬ bd = w.heap.size := fun h => hbne1 h.symm
                    have hbne3 : ¬ w.heap.size = w8.heap.size := Nat.ne_of_lt HLT.out
                    have hbne4 : ¬ w8.heap.size = w.heap.size := fun h => hbne3 h.symm
                    have hpi : ((p.2 : Nat) : Int) == 0 := by simp [hp0]
                    clear hp0
                    go_wp2_with fail
                    have HBZ := Lib.hid (((((two HW.out HEF.out).setCell (p := ⟨w.heap.size, 0, none⟩) (Nat.le_refl _) (.slice xo p.1.files.length xc)).setCell (p := ⟨w.heap.size, 1, none⟩) (Nat.le_refl _) (.int .i64 p.1.turn)).setCell (p := ⟨w8.heap.size, 0, none⟩) (Nat.le_of_lt HLT.out) (.slice yo p.1.files.length yc)).setCell (p := ⟨w8.heap.size, 1, none⟩) (Nat.le_of_lt HLT.out) (.int .i64 p.1.turn))
                    have HQ6 := Lib.hid ((HA5.out.set (.slice xo p.1.files.length xc) p.1.turn (files_not_str HFX5.out)).far w8.heap.size hbne4 (.slice yo p.1.files.length yc) p.1.turn)
                    have HM6 := Lib.hid (HB5x.out.far w.heap.size hbne3 (.slice xo p.1.files.length xc) p.1.turn)
                    have HM7 := Lib.hid (HM6.out.set (.slice yo p.1.files.length yc) p.1.turn (files_not_str HFY5.out))
                    have HF6 := Lib.hid (files_set_box (files_set_box HFX5.out HA5.out.ns (.slice xo p.1.files.length xc) (files_not_str HFX5.out) p.1.turn) HM6.out.ns (.slice yo p.1.files.length yc) (files_not_str HFY5.out) p.1.turn)
                    have HF7 := Lib.hid (files_set_box (files_set_box HFY5.out HA5.out.ns (.slice xo p.1.files.length xc) (files_not_str HFX5.out) p.1.turn) HM6.out.ns (.slice yo p.1.files.length yc) (files_not_str HFY5.out) p.1.turn)
                    clear c0 c1 d0 d1 g0 g1 g2 g3 k0 k1 k2 k3 hbne1 hbne2 hbne3 hbne4
                    go_roundw
                    case rel => exact ⟨k + 1, p.1, _, _, by omega, by go_num, HGP.out, HQ6.out, HM7.out, HF6.out, HF7.out, HBZ.out⟩
                    case measure => simp [intOf]; omega
                  · have hpi : (((p.2 : Nat) : Int) == 0) = false := by simp; omega
                    clear hp0
                    go_wp2_with fail
                    go_roundw
                    case rel => exact ⟨k + 1, Q, _, _, by omega, by go_num, HGD.out, HQA.out.below HEF.out, HQB.out.below HEF.out, HFQ.out.below HEF.out, HFM.out.below HEF.out, two HW.out HEF.out⟩
                    case measure => simp [intOf]; omega
            · go_wp2_with fail
              go_ret
              exact ⟨rfl, HW.out⟩
        · have hqp : (0 : Int) < (quiltFault q : Int) := by omega
          replace CR := Lib.hid CR
          clear hqf
          go_enter Try.func9, Try.ntmps9
          go_wp2_with fail
          rw [← HW2.out]
          refine (CS.out _).mono ?_
          rintro e w3 ⟨rfl, hb3⟩
          have HB3 := Lib.hid hb3
          have QA3 := Lib.hid (QA.out.below hb3)
          have QB3 := Lib.hid (QB.out.below hb3)
          have z0 := QA3.out.c0
          have z1 := QA3.out.c1
          have y0 := QB3.out.c0
          have y1 := QB3.out.c1
          clear hb3
          go_wp2_with fail
          refine (CL.out _ (two HB2.out HB3.out)).mono ?_
          rintro e w4 ⟨rfl, hb4⟩
          have HB4 := Lib.hid (two HB3.out hb4)
          have QA4 := Lib.hid (QA3.out.below hb4)
          have QB4 := Lib.hid (QB3.out.below hb4)
          clear hb4 z0 z1 y0 y1
          rw [HLQ.out]
          have y0 := QB4.out.c0
          have y1 := QB4.out.c1
          go_wp2_with fail
          refine (CO.out _ (two HB2.out HB4.out)).mono ?_
          rintro e w5 ⟨rfl, hb5⟩
          have HB5 := Lib.hid (two HB4.out hb5)
          have QA5 := Lib.hid (QA4.out.below hb5)
          have QB5 := Lib.hid (QB4.out.below hb5)
          clear hb5 y0 y1
          rw [HLO.out]
          go_wp2_with fail
          refine (CA.out _ (two HB2.out HB5.out)).mono ?_
          rintro e w6 ⟨rfl, rfl⟩
          rw [HLA.out]
          have z0 := regrown_cell QA5.out.c0
          have z1 := regrown_cell QA5.out.c1
          have y0 := regrown_cell QB5.out.c0
          have y1 := regrown_cell QB5.out.c1
          have K1 := Lib.hid (fun W (hb : Below w5.heap.size w5 W) => quilt_Check (.agg #[.slice ao q.files.length ca, .int .i64 q.turn]) q W ⟨_, rfl, HF.out.below (two (two HB2.out HB5.out) hb)⟩ HQK.out)
          have K2 := Lib.hid (fun W (hb : Below w5.heap.size w5 W) => ref_QuiltFault (.agg #[.slice ao q.files.length ca, .int .i64 q.turn]) q W ⟨_, rfl, HF.out.below (two (two HB2.out HB5.out) hb)⟩ HQK.out)
          have K3 := Lib.hid (fun W (hb : Below w5.heap.size w5 W) => quilt_Same (.agg #[.slice ao q.files.length ca, .int .i64 q.turn]) (.agg #[.slice bo o.files.length cb, .int .i64 o.turn]) q o W ⟨_, rfl, HF.out.below (two (two HB2.out HB5.out) hb)⟩ ⟨_, rfl, HO.out.below (two (two HB2.out HB5.out) hb)⟩)
          have K4 := Lib.hid (fun W (hb : Below w5.heap.size w5 W) => ref_SameQuilt (.agg #[.slice ao q.files.length ca, .int .i64 q.turn]) (.agg #[.slice bo o.files.length cb, .int .i64 o.turn]) q o W ⟨_, rfl, HF.out.below (two (two HB2.out HB5.out) hb)⟩ ⟨_, rfl, HO.out.below (two (two HB2.out HB5.out) hb)⟩)
          go_wp2_with fail
          refine wp_region_q (by kernel_rfl) (by kernel_rfl) ?_
          repeat (go_big_quiet_step (first | (go_at_call 74; exact Calls.regrown_of (K1.out _ (below_regrown _ _ _))) | (go_at_call 75; exact Calls.regrown_of (K2.out _ (below_regrown _ _ _))) | (go_at_call 14; exact Calls.regrown_of (same_eq _ _)) | (go_at_call 76; exact Calls.regrown_of (K3.out _ (below_regrown _ _ _))) | (go_at_call 22; exact Calls.regrown_of (K4.out _ (below_regrown _ _ _)))))
          refine wpQuiet_nil ?_
          intro w7 hb7
          have HB7 := Lib.hid (two HB5.out hb7)
          have QA7 := Lib.hid (QA5.out.below hb7)
          clear hb7 K1 K2 K3 K4 z0 z1 y0 y1
          have z0 := QA7.out.c0
          have z1 := QA7.out.c1
          go_wp2_with fail
          refine (CR.out _ (two HB2.out HB7.out)).mono ?_
          rintro e w8 ⟨rfl, hb8⟩
          have HB8 := Lib.hid (two HB7.out hb8)
          have QA8 := Lib.hid (QA7.out.below hb8)
          clear hb8 z0 z1 QA3 QB3 QA4 QB4 QA5 QB5 QA7
          have z0 := QA8.out.c0
          have z1 := QA8.out.c1
          have g0 := QA8.out.f0
          have g1 := QA8.out.f1
          go_wp2_with fail
          refine (quilt_New _).mono ?_
          rintro e w9 ⟨qN, rfl, ⟨vN, rfl, hfN⟩, hb9⟩
          obtain ⟨no, nc, rfl, _, _⟩ := hfN.parts
          have HB9 := Lib.hid (two HB8.out hb9)
          have QA9 := Lib.hid (QA8.out.below hb9)
          have HFN := Lib.hid hfN
          clear hb9 hfN z0 z1 g0 g1
          have z0 := QA9.out.c0
          have z1 := QA9.out.c1
          have g0 := QA9.out.f0
          have g1 := QA9.out.f1
          go_wp2_with fail
          obtain ⟨W10, hW10⟩ : ∃ W10, W10 = ((w9.setCell ⟨w.heap.size, 0, none⟩ (.slice no 0 nc)).setCell ⟨w.heap.size, 1, none⟩ (.int .i64 1)).alloc (.cells #[.slice no 0 nc, .int .i64 1] 34) := ⟨_, rfl⟩
          have HBS := (two HB2.out HB9.out).setCell (p := ⟨w.heap.size, 0, none⟩) (Nat.le_refl _) (.slice no 0 nc) |>.setCell (p := ⟨w.heap.size, 1, none⟩) (Nat.le_refl _) (.int .i64 1)
          have HW10 : Hid (Below w.heap.size w W10) := Lib.hid (by rw [hW10]; exact two HBS (below_alloc _ _))
          have QX : Hid (QAt W10 w.heap.size (.slice no 0 nc) 1) := Lib.hid (by rw [hW10]; exact (QA9.out.set (.slice no 0 nc) 1 (files_not_str HFN.out)).below (below_alloc _ _))
          have QY : Hid (QAt W10 w9.heap.size (.slice no 0 nc) 1) := Lib.hid (by
            have h := QAt.new ((w9.setCell ⟨w.heap.size, 0, none⟩ (.slice no 0 nc)).setCell ⟨w.heap.size, 1, none⟩ (.int .i64 1)) (.slice no 0 nc) 1 (files_not_str HFN.out)
            rw [← hW10, setCell_size, setCell_size] at h; exact h)
          have HFX : Hid (Files W10 (.slice no 0 nc) []) := Lib.hid (by rw [hW10]; exact (files_set_box HFN.out QA9.out.ns (.slice no 0 nc) (files_not_str HFN.out) 1).below (below_alloc _ _))
          have HG0 := Lib.hid good_new
          have HLT := Lib.hid QA9.out.lt
          rw [← hW10]
          clear hW10 z0 z1 g0 g1 HBS
          go_loopw [9] (fun i wr => ∃ (k : Nat) (Q : Quilt) (vq vm : Value), k ≤ avs.length ∧ i = .int .i64 k ∧ Good Q ∧ QAt wr w.heap.size vq Q.turn ∧ QAt wr w9.heap.size vm Q.turn ∧ Files wr vq Q.files ∧ Files wr vm Q.files ∧ Below w.heap.size w wr) (fun i _ => avs.length - (intOf i).toNat)
          case atStart => exact ⟨0, (⟨[], 1⟩ : Quilt), _, _, Nat.zero_le _, rfl, HG0.out, QX.out, QY.out, HFX.out, HFX.out, HW10.out⟩
          case round =>
            obtain ⟨k, Q, vq, vm, hk, rfl, hgd, hqa, hqb, hfq, hfm, hbw⟩ := hrel
            have HGD := Lib.hid hgd
            have HQA := Lib.hid hqa
            have HQB := Lib.hid hqb
            obtain ⟨qo, qc, rfl, _, _⟩ := hfq.parts
            obtain ⟨mo, mc, rfl, _, _⟩ := hfm.parts
            have HFQ := Lib.hid hfq
            have HFM := Lib.hid hfm
            have HW := Lib.hid hbw
            clear hgd hqa hqb hfq hfm hbw
            by_cases hlt : k < avs.length
            · obtain ⟨ba, oa, rfl, hlb, x0, x1, x2, x3, x4, x5⟩ := ActVs.cell HAV.out k hlt
              have HXC : Hid (∀ W, Below wr.heap.size wr W → W.cell? ⟨ba, oa + k * 6, none⟩ = some (.string avs[k].kind) ∧ W.cell? ⟨ba, oa + k * 6 + 1, none⟩ = some (.string avs[k].s) ∧ W.cell? ⟨ba, oa + k * 6 + 2, none⟩ = some (.string avs[k].t) ∧ W.cell? ⟨ba, oa + k * 6 + 3, none⟩ = some (.int .i64 avs[k].n) ∧ W.cell? ⟨ba, oa + k * 6 + 4, none⟩ = some (.int .u64 avs[k].k) ∧ W.cell? ⟨ba, oa + k * 6 + 5, none⟩ = some avs[k].cv) := Lib.hid fun W hb => by
                obtain ⟨kc, _⟩ := bcell (two HW.out hb)
                exact ⟨(kc _ _ hlb).trans x0, (kc _ _ hlb).trans x1, (kc _ _ hlb).trans x2, (kc _ _ hlb).trans x3, (kc _ _ hlb).trans x4, (kc _ _ hlb).trans x5⟩
              clear x0 x1 x2 x3 x4 x5
              have hlt' : k < al.length := by rw [← HLE.out]; exact hlt
              have CD := fun W (hb : Below wr.heap.size wr W) => law_Do (.agg #[.slice qo Q.files.length qc, .int .i64 Q.turn]) Q avs[k] (al[k]'hlt') W ⟨_, rfl, HFQ.out.below hb⟩ HGD.out ((HAA.out.2 k hlt hlt').below (two HW.out hb)) (HAK.out _ (List.getElem_mem hlt'))
              have CE := fun W (hb : Below wr.heap.size wr W) => law_doneRef (.agg #[.slice mo Q.files.length mc, .int .i64 Q.turn]) Q avs[k] (al[k]'hlt') W ⟨_, rfl, HFM.out.below hb⟩ HGD.out ((HAA.out.2 k hlt hlt').below (two HW.out hb)) (HAK.out _ (List.getElem_mem hlt'))
              have HDG := Lib.hid (do_good HGD.out (al[k]'hlt'))
              obtain ⟨p, hp⟩ : ∃ p, p = doAct Q (al[k]'hlt') := ⟨_, rfl⟩
              unfold RetQE ActV.val at CD
              unfold RetQN ActV.val at CE
              rw [← hp] at CD CE HDG
              clear hp
              replace CD := Lib.hid CD
              replace CE := Lib.hid CE
              have ED := Lib.hid (Below.refl wr.heap.size wr).drew
              have HSK : Hid (∀ W, Below wr.heap.size wr W → W.cell? ⟨w.heap.size, 0, none⟩ = some (.slice qo Q.files.length qc) ∧ W.cell? ⟨w.heap.size, 1, none⟩ = some (.int .i64 Q.turn) ∧ W.cell? ⟨ba, oa + k * 6, none⟩ = some (.string avs[k].kind) ∧ W.cell? ⟨ba, oa + k * 6 + 1, none⟩ = some (.string avs[k].s) ∧ W.cell? ⟨ba, oa + k * 6 + 2, none⟩ = some (.string avs[k].t) ∧ W.cell? ⟨ba, oa + k * 6 + 3, none⟩ = some (.int .i64 avs[k].n) ∧ W.cell? ⟨ba, oa + k * 6 + 4, none⟩ = some (.int .u64 avs[k].k) ∧ W.cell? ⟨ba, oa + k * 6 + 5, none⟩ = some avs[k].cv) := Lib.hid fun W hb => ⟨(HQA.out.below hb).c0, (HQA.out.below hb).c1, HXC.out W hb⟩
              have HSM : Hid (∀ W, Below wr.heap.size wr W → W.cell? ⟨w9.heap.size, 0, none⟩ = some (.slice mo Q.files.length mc) ∧ W.cell? ⟨w9.heap.size, 1, none⟩ = some (.int .i64 Q.turn) ∧ W.cell? ⟨ba, oa + k * 6, none⟩ = some (.string avs[k].kind) ∧ W.cell? ⟨ba, oa + k * 6 + 1, none⟩ = some (.string avs[k].s) ∧ W.cell? ⟨ba, oa + k * 6 + 2, none⟩ = some (.string avs[k].t) ∧ W.cell? ⟨ba, oa + k * 6 + 3, none⟩ = some (.int .i64 avs[k].n) ∧ W.cell? ⟨ba, oa + k * 6 + 4, none⟩ = some (.int .u64 avs[k].k) ∧ W.cell? ⟨ba, oa + k * 6 + 5, none⟩ = some avs[k].cv) := Lib.hid fun W hb => ⟨(HQB.out.below hb).c0, (HQB.out.below hb).c1, HXC.out W hb⟩
              have XE : Hid (QAt (wr.drew.alloc (.cells #[.slice none 0 0, .int .i64 0] 34)) wr.heap.size (.slice none 0 0) 0) := Lib.hid (QAt.new wr.drew (.slice none 0 0) 0 (by intro s h; cases h))
              go_wp2_with fail
              go_region_held3 (fun W => W.cell? ⟨w.heap.size, 0, none⟩ = some (.slice qo Q.files.length qc) ∧ W.cell? ⟨w.heap.size, 1, none⟩ = some (.int .i64 Q.turn) ∧ W.cell? ⟨ba, oa + k * 6, none⟩ = some (.string avs[k].kind) ∧ W.cell? ⟨ba, oa + k * 6 + 1, none⟩ = some (.string avs[k].s) ∧ W.cell? ⟨ba, oa + k * 6 + 2, none⟩ = some (.string avs[k].t) ∧ W.cell? ⟨ba, oa + k * 6 + 3, none⟩ = some (.int .i64 avs[k].n) ∧ W.cell? ⟨ba, oa + k * 6 + 4, none⟩ = some (.int .u64 avs[k].k) ∧ W.cell? ⟨ba, oa + k * 6 + 5, none⟩ = some avs[k].cv)
                (first
                  | exact HSK.out _ ED.out
                  | exact HSK.out _ (HE1 : Hid _).out
                  | exact HSK.out _ (two ED.out (below_alloc _ _))
                  | exact HSK.out _ (two (HE1 : Hid _).out (below_alloc _ _))
                  | exact HSK.out _ (((HE1 : Hid _).out.setCell (p := ⟨wr.heap.size, 0, none⟩) (Nat.le_refl _) _).setCell (p := ⟨wr.heap.size, 1, none⟩) (Nat.le_refl _) _))
                (first | (go_at_call 78; refine (CD.out _ (by first | exact ED.out | exact two ED.out (below_alloc _ _))).mono ?_; rintro e wA ⟨qx, rfl, ⟨vx, rfl, hfx⟩, hba⟩; obtain ⟨xo, xc, rfl, _, _⟩ := hfx.parts; have HX := Lib.hid hfx; have HE1 := Lib.hid (two (by first | exact ED.out | exact two ED.out (below_alloc _ _)) hba); (try (have XF := Lib.hid (XE.out.below hba); have b0 := XF.out.c0; have b1 := XF.out.c1; have b2 := XF.out.f0; have b3 := XF.out.f1)); clear hfx hba))
              all_goals
                first
                  | (obtain ⟨Wc, bx, hW, hbx, hqx, hfx, hex, hbl⟩ : ∃ Wc bx, Wc = wA.alloc (.cells #[.slice xo p.1.files.length xc, .int .i64 p.1.turn] 34) ∧ bx = wA.heap.size ∧ QAt Wc bx (.slice xo p.1.files.length xc) p.1.turn ∧ Files Wc (.slice xo p.1.files.length xc) p.1.files ∧ Below wr.heap.size wr Wc ∧ wr.heap.size ≤ bx := ⟨_, _, rfl, rfl, QAt.new wA _ _ (files_not_str HX.out), HX.out.below (below_alloc _ _), two HE1.out (below_alloc _ _), HE1.out.size⟩
                     rw [← hW, ← hbx])
                  | (obtain ⟨Wc, bx, hW, hbx, hqx, hfx, hex, hbl⟩ : ∃ Wc bx, Wc = (wA.setCell ⟨wr.heap.size, 0, none⟩ (.slice xo p.1.files.length xc)).setCell ⟨wr.heap.size, 1, none⟩ (.int .i64 p.1.turn) ∧ bx = wr.heap.size ∧ QAt Wc bx (.slice xo p.1.files.length xc) p.1.turn ∧ Files Wc (.slice xo p.1.files.length xc) p.1.files ∧ Below wr.heap.size wr Wc ∧ wr.heap.size ≤ bx := ⟨_, _, rfl, rfl, XF.out.set _ _ (files_not_str HX.out), files_set_box HX.out XF.out.ns _ (files_not_str HX.out) _, (HE1.out.setCell (p := ⟨wr.heap.size, 0, none⟩) (Nat.le_refl _) _).setCell (p := ⟨wr.heap.size, 1, none⟩) (Nat.le_refl _) _, Nat.le_refl _⟩
                     rw [← hW, ← hbx])
              all_goals
                have HQX := Lib.hid hqx
                have HFX2 := Lib.hid hfx
                have HEX := Lib.hid hex
                clear hW hbx hqx hfx hex HE1 HX hbl
                (try clear XF)
                (try clear b0 b1 b2 b3)
                have HSN : Hid (∀ W, Below Wc.heap.size Wc W → W.cell? ⟨w9.heap.size, 0, none⟩ = some (.slice mo Q.files.length mc) ∧ W.cell? ⟨w9.heap.size, 1, none⟩ = some (.int .i64 Q.turn) ∧ W.cell? ⟨ba, oa + k * 6, none⟩ = some (.string avs[k].kind) ∧ W.cell? ⟨ba, oa + k * 6 + 1, none⟩ = some (.string avs[k].s) ∧ W.cell? ⟨ba, oa + k * 6 + 2, none⟩ = some (.string avs[k].t) ∧ W.cell? ⟨ba, oa + k * 6 + 3, none⟩ = some (.int .i64 avs[k].n) ∧ W.cell? ⟨ba, oa + k * 6 + 4, none⟩ = some (.int .u64 avs[k].k) ∧ W.cell? ⟨ba, oa + k * 6 + 5, none⟩ = some avs[k].cv) := Lib.hid fun W hb => HSM.out W (two HEX.out hb)
                have EF := Lib.hid (Below.refl Wc.heap.size Wc).drew
                have YE : Hid (QAt (Wc.drew.alloc (.cells #[.slice none 0 0, .int .i64 0] 34)) Wc.heap.size (.slice none 0 0) 0) := Lib.hid (QAt.new Wc.drew (.slice none 0 0) 0 (by intro s h; cases h))
                go_wp2_with fail
                go_region_held3 (fun W => W.cell? ⟨w9.heap.size, 0, none⟩ = some (.slice mo Q.files.length mc) ∧ W.cell? ⟨w9.heap.size, 1, none⟩ = some (.int .i64 Q.turn) ∧ W.cell? ⟨ba, oa + k * 6, none⟩ = some (.string avs[k].kind) ∧ W.cell? ⟨ba, oa + k * 6 + 1, none⟩ = some (.string avs[k].s) ∧ W.cell? ⟨ba, oa + k * 6 + 2, none⟩ = some (.string avs[k].t) ∧ W.cell? ⟨ba, oa + k * 6 + 3, none⟩ = some (.int .i64 avs[k].n) ∧ W.cell? ⟨ba, oa + k * 6 + 4, none⟩ = some (.int .u64 avs[k].k) ∧ W.cell? ⟨ba, oa + k * 6 + 5, none⟩ = some avs[k].cv)
                  (first
                    | exact HSN.out _ EF.out
                    | exact HSN.out _ (HE2 : Hid _).out
                    | exact HSN.out _ (two EF.out (below_alloc _ _))
                    | exact HSN.out _ (two (HE2 : Hid _).out (below_alloc _ _))
                    | exact HSN.out _ (((HE2 : Hid _).out.setCell (p := ⟨Wc.heap.size, 0, none⟩) (Nat.le_refl _) _).setCell (p := ⟨Wc.heap.size, 1, none⟩) (Nat.le_refl _) _))
                  (first | (go_at_call 79; refine (CE.out _ (two HEX.out (by first | exact EF.out | exact two EF.out (below_alloc _ _)))).mono ?_; rintro e wB ⟨qy, rfl, ⟨vy, rfl, hfy⟩, hbb⟩; obtain ⟨yo, yc, rfl, _, _⟩ := hfy.parts; have HY := Lib.hid hfy; have HE2 := Lib.hid (two (by first | exact EF.out | exact two EF.out (below_alloc _ _)) hbb); (try (have YF := Lib.hid (YE.out.below hbb); have b0 := YF.out.c0; have b1 := YF.out.c1; have b2 := YF.out.f0; have b3 := YF.out.f1)); clear hfy hbb))
                all_goals
                  first
                    | (obtain ⟨Wd, bd, hW, hbx, hqx, hfx, hex, hbl⟩ : ∃ Wd bd, Wd = wB.alloc (.cells #[.slice yo p.1.files.length yc, .int .i64 p.1.turn] 34) ∧ bd = wB.heap.size ∧ QAt Wd bd (.slice yo p.1.files.length yc) p.1.turn ∧ Files Wd (.slice yo p.1.files.length yc) p.1.files ∧ Below Wc.heap.size Wc Wd ∧ Wc.heap.size ≤ bd := ⟨_, _, rfl, rfl, QAt.new wB _ _ (files_not_str HY.out), HY.out.below (below_alloc _ _), two HE2.out (below_alloc _ _), HE2.out.size⟩
                       rw [← hW, ← hbx])
                    | (obtain ⟨Wd, bd, hW, hbx, hqx, hfx, hex, hbl⟩ : ∃ Wd bd, Wd = (wB.setCell ⟨Wc.heap.size, 0, none⟩ (.slice yo p.1.files.length yc)).setCell ⟨Wc.heap.size, 1, none⟩ (.int .i64 p.1.turn) ∧ bd = Wc.heap.size ∧ QAt Wd bd (.slice yo p.1.files.length yc) p.1.turn ∧ Files Wd (.slice yo p.1.files.length yc) p.1.files ∧ Below Wc.heap.size Wc Wd ∧ Wc.heap.size ≤ bd := ⟨_, _, rfl, rfl, YF.out.set _ _ (files_not_str HY.out), files_set_box HY.out YF.out.ns _ (files_not_str HY.out) _, (HE2.out.setCell (p := ⟨Wc.heap.size, 0, none⟩) (Nat.le_refl _) _).setCell (p := ⟨Wc.heap.size, 1, none⟩) (Nat.le_refl _) _, Nat.le_refl _⟩
                       rw [← hW, ← hbx])
                all_goals
                  have HBD := Lib.hid (Nat.le_trans HEX.out.size hbl)
                  have HQY := Lib.hid hqx
                  have HQX2 := Lib.hid (HQX.out.below hex)
                  have HFY2 := Lib.hid hfx
                  have HFX3 := Lib.hid (HFX2.out.below hex)
                  have HED := Lib.hid (two HEX.out hex)
                  clear hW hbx hqx hfx hex HE2 HY HQX HFX2 hbl
                  (try clear YF)
                  (try clear b0 b1 b2 b3)
                  go_wp2_with fail
                  refine (same_eq _ _).mono ?_
                  rintro e wE ⟨rfl, hbE⟩
                  have HQX4 := Lib.hid (HQX2.out.below hbE)
                  have HQY4 := Lib.hid (HQY.out.below hbE)
                  have HFX4 := Lib.hid (HFX3.out.below hbE)
                  have HFY4 := Lib.hid (HFY2.out.below hbE)
                  have HEE := Lib.hid (two HED.out hbE)
                  have c0 := HQX4.out.c0
                  have c1 := HQX4.out.c1
                  have d0 := HQY4.out.c0
                  have d1 := HQY4.out.c1
                  clear hbE
                  go_wp2_with fail
                  refine (ref_SameQuilt _ _ p.1 p.1 _ ⟨_, rfl, HFX4.out⟩ ⟨_, rfl, HFY4.out⟩).mono ?_
                  rintro e wF ⟨rfl, hbF⟩
                  rw [decide_eq_true (rfl : p.1 = p.1)]
                  have HQX5 := Lib.hid (HQX4.out.below hbF)
                  have HQY5 := Lib.hid (HQY4.out.below hbF)
                  have HFX5 := Lib.hid (HFX4.out.below hbF)
                  have HFY5 := Lib.hid (HFY4.out.below hbF)
                  have HEF := Lib.hid (two HEE.out hbF)
                  clear hbF c0 c1 d0 d1
                  by_cases hp0 : p.2 = 0
                  · have HGP := Lib.hid (HDG.out hp0)
                    have c0 := HQX5.out.c0
                    have c1 := HQX5.out.c1
                    have d0 := HQY5.out.c0
                    have d1 := HQY5.out.c1
                    have HA5 := Lib.hid (HQA.out.below HEF.out)
                    have HB5x := Lib.hid (HQB.out.below HEF.out)
                    have g0 := HA5.out.c0
                    have g1 := HA5.out.c1
                    have g2 := HA5.out.f0
                    have g3 := HA5.out.f1
                    have k0 := HB5x.out.c0
                    have k1 := HB5x.out.c1
                    have k2 := HB5x.out.f0
                    have k3 := HB5x.out.f1
                    have hbne1 : ¬ w.heap.size = bd := fun h => by have := HQA.out.lt; have := HBD.out; omega
                    have hbne2 : ¬ bd = w.heap.size := fun h => hbne1 h.symm
                    have hbne3 : ¬ w.heap.size = w9.heap.size := Nat.ne_of_lt HLT.out
                    have hbne4 : ¬ w9.heap.size = w.heap.size := fun h => hbne3 h.symm
                    have hpi : ((p.2 : Nat) : Int) == 0 := by simp [hp0]
                    clear hp0
                    go_wp2_with fail
                    have HBZ := Lib.hid (((((two HW.out HEF.out).setCell (p := ⟨w.heap.size, 0, none⟩) (Nat.le_refl _) (.slice xo p.1.files.length xc)).setCell (p := ⟨w.heap.size, 1, none⟩) (Nat.le_refl _) (.int .i64 p.1.turn)).setCell (p := ⟨w9.heap.size, 0, none⟩) (Nat.le_of_lt HLT.out) (.slice yo p.1.files.length yc)).setCell (p := ⟨w9.heap.size, 1, none⟩) (Nat.le_of_lt HLT.out) (.int .i64 p.1.turn))
                    have HQ6 := Lib.hid ((HA5.out.set (.slice xo p.1.files.length xc) p.1.turn (files_not_str HFX5.out)).far w9.heap.size hbne4 (.slice yo p.1.files.length yc) p.1.turn)
                    have HM6 := Lib.hid (HB5x.out.far w.heap.size hbne3 (.slice xo p.1.files.length xc) p.1.turn)
                    have HM7 := Lib.hid (HM6.out.set (.slice yo p.1.files.length yc) p.1.turn (files_not_str HFY5.out))
                    have HF6 := Lib.hid (files_set_box (files_set_box HFX5.out HA5.out.ns (.slice xo p.1.files.length xc) (files_not_str HFX5.out) p.1.turn) HM6.out.ns (.slice yo p.1.files.length yc) (files_not_str HFY5.out) p.1.turn)
                    have HF7 := Lib.hid (files_set_box (files_set_box HFY5.out HA5.out.ns (.slice xo p.1.files.length xc) (files_not_str HFX5.out) p.1.turn) HM6.out.ns (.slice yo p.1.files.length yc) (files_not_str HFY5.out) p.1.turn)
                    clear c0 c1 d0 d1 g0 g1 g2 g3 k0 k1 k2 k3 hbne1 hbne2 hbne3 hbne4
                    go_roundw
                    case rel => exact ⟨k + 1, p.1, _, _, by omega, by go_num, HGP.out, HQ6.out, HM7.out, HF6.out, HF7.out, HBZ.out⟩
                    case measure => simp [intOf]; omega
                  · have hpi : (((p.2 : Nat) : Int) == 0) = false := by simp; omega
                    clear hp0
                    go_wp2_with fail
                    go_roundw
                    case rel => exact ⟨k + 1, Q, _, _, by omega, by go_num, HGD.out, HQA.out.below HEF.out, HQB.out.below HEF.out, HFQ.out.below HEF.out, HFM.out.below HEF.out, two HW.out HEF.out⟩
                    case measure => simp [intOf]; omega
            · go_wp2_with fail
              go_ret
              exact ⟨rfl, HW.out⟩
end Go.Proofs.Ytggpodlecljcbaa
