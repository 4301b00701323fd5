/- The walks of the top statements: a quilt has begun; one grown by acts. -/
import Derived.Test.YtggpodlecljcbabSpecT
import Derived.Test.YtggpodlecljcbabWalkR3
import Derived.Test.YtggpodlecljcbabLawQ
namespace Go.Proofs.Ytggpodlecljcbab
open Go.RowKit Go.Sort
set_option linter.unusedSimpArgs false
set_option linter.unusedVariables false
set_option maxHeartbeats 1000000 in
theorem top_began (w : World) : Calls Try.prog 37 #[] w fun e w' => e = .returned (.bool true) ∧ Below w.heap.size w w' := by
  have C := fun qv W h => quilt_Write qv ⟨[], 1⟩ fileA.name fileA.text W h good_new (by decide) (by decide)
  rw [quiltA] at C
  unfold RetQE at C
  rw [show errV ((((⟨[fileA], 2⟩, 0) : Quilt × Nat)).2) = Value.nilIface from rfl] at C
  replace C := Lib.hid C
  go_enter Try.func37, Try.ntmps37
  go_wp2_with fail
  refine (quilt_New _).mono ?_
  rintro e w1 ⟨qv, rfl, hq, hb1⟩
  have HQ := Lib.hid hq
  have HB1 := Lib.hid hb1
  clear hq hb1
  go_wp2_with fail
  refine (C.out _ _ HQ.out).mono ?_
  rintro e w2 ⟨qv2, rfl, ⟨v2, rfl, hf2⟩, hb2⟩
  obtain ⟨ao, ca, rfl, _, _⟩ := hf2.parts
  have HF := Lib.hid hf2
  have z := QAt.new w2 (.slice ao (List.length [fileA]) ca) 2 (files_not_str hf2)
  have HB2 := Lib.hid (two (two HB1.out hb2) (below_alloc w2 (.cells #[.slice ao (List.length [fileA]) ca, .int .i64 2] 24)))
  have z0 := z.c0
  have z1 := z.c1
  obtain ⟨b, off, e, _, x0, x1, x2⟩ := Files.cell (HF.out.below (below_alloc w2 (.cells #[.slice ao (List.length [fileA]) ca, .int .i64 2] 24))) 0 (by decide)
  cases e
  replace x2 : (w2.alloc (.cells #[.slice (some ⟨b, off, none⟩) 1 ca, .int .i64 2] 24)).cell? ⟨b, off + 2, none⟩ = some (.int .i64 1) := by have h := x2; rw [Nat.zero_mul, Nat.add_zero] at h; exact h
  replace z0 : (w2.alloc (.cells #[.slice (some ⟨b, off, none⟩) 1 ca, .int .i64 2] 24)).cell? ⟨w2.heap.size, 0, none⟩ = some (.slice (some ⟨b, off, none⟩) 1 ca) := z0
  replace z1 : (w2.alloc (.cells #[.slice (some ⟨b, off, none⟩) 1 ca, .int .i64 2] 24)).cell? ⟨w2.heap.size, 1, none⟩ = some (.int .i64 2) := z1
  clear hb2 hf2 x0 x1 z
  go_wp2_with fail
  go_ret
  exact ⟨rfl, HB2.out⟩

/-- What grown hands back. -/
def RetG (al : List Act) (w : World) (e : Ending) (w' : World) : Prop := ∃ v, e = .returned (.tuple #[.agg #[v, .int .i64 (if lightActs al 60 then (grownQ al).turn else 0)], .bool (lightActs al 60)]) ∧ Files w' v (if lightActs al 60 then (grownQ al).files else []) ∧ Below w.heap.size w w'

set_option maxRecDepth 100000 in
set_option maxHeartbeats 4000000 in
theorem top_grown (va : Value) (avs : List ActV) (al : List Act) (w : World) (hav : ActVs w va avs) (haa : IsActs w avs al) (hak : ∀ a ∈ al, a.ok) :
    Calls Try.prog 38 #[va] w (RetG al w) := by
  have CA := Lib.hid fun W hb => law_LightActs va avs al 60 W (hav.below hb) (haa.below hb) hak
  obtain ⟨vo, vc, rfl, hvc, hvc'⟩ := hav.parts
  have QR0 := Lib.hid (QAt.new w (.slice none 0 0) 0 (by intro s h; cases h))
  obtain ⟨W1, hW1⟩ : ∃ W1, W1 = w.alloc (.cells #[.slice none 0 0, .int .i64 0] 24) := ⟨_, rfl⟩
  have HB1 : Hid (Below w.heap.size w W1) := Lib.hid (by rw [hW1]; exact below_alloc _ _)
  rw [← hW1] at QR0
  have HW1 := Lib.hid hW1
  have HAV := Lib.hid hav
  have HAA := Lib.hid haa
  have HLE := Lib.hid haa.1
  have HAK := Lib.hid hak
  clear hW1 hav haa hak
  cases hla : lightActs al 60
  · have HLA := Lib.hid hla
    have HD : Hid (RetG al w = fun e w' => ∃ v, e = .returned (.tuple #[.agg #[v, .int .i64 0], .bool false]) ∧ Files w' v [] ∧ Below w.heap.size w w') := Lib.hid (by unfold RetG; rw [hla]; rfl)
    clear hla
    have z0 := QR0.out.c0
    have z1 := QR0.out.c1
    have z2 := QR0.out.f0
    have z3 := QR0.out.f1
    rw [HD.out]
    go_enter Try.func38, Try.ntmps38
    go_wp2_with fail
    rw [← HW1.out]
    refine (CA.out _ HB1.out).mono ?_
    rintro e w6 ⟨rfl, rfl⟩
    rw [HLA.out]
    go_wp2_with fail
    refine bodyPost_ret (v := .tuple #[.agg #[.slice none 0 0, .int .i64 0], .bool false]) (by simp [results, Try.results38, go_sem, z0, z1, z2, z3]) rfl ?_
    exact ⟨_, rfl, Rd.nil _, by first | exact HB1.out | exact (HB1.out.setCell (p := ⟨w.heap.size, 0, none⟩) (Nat.le_refl _) _).setCell (p := ⟨w.heap.size, 1, none⟩) (Nat.le_refl _) _⟩
  · have HLA := Lib.hid hla
    have HD : Hid (RetG al w = fun e w' => ∃ v, e = .returned (.tuple #[.agg #[v, .int .i64 (grownQ al).turn], .bool true]) ∧ Files w' v (grownQ al).files ∧ Below w.heap.size w w') := Lib.hid (by unfold RetG; rw [hla]; rfl)
    clear hla
    rw [HD.out]
    go_enter Try.func38, Try.ntmps38
    go_wp2_with fail
    rw [← HW1.out]
    refine (CA.out _ HB1.out).mono ?_
    rintro e w6 ⟨rfl, rfl⟩
    rw [HLA.out]
    go_wp2_with fail
    refine (quilt_New _).mono ?_
    rintro e w2 ⟨qN, rfl, ⟨vN, rfl, hfN⟩, hb2⟩
    obtain ⟨no, nc, rfl, _, _⟩ := hfN.parts
    go_wp2_with fail
    obtain ⟨W3, hW3⟩ : ∃ W3, W3 = w2.alloc (.cells #[.slice no 0 nc, .int .i64 1] 24) := ⟨_, rfl⟩
    have B23 : Below w2.heap.size w2 W3 := by rw [hW3]; exact below_alloc _ _
    have HB3 := Lib.hid (two (two HB1.out hb2) B23)
    have QR3 := Lib.hid ((QR0.out.below hb2).below B23)
    have QX : Hid (QAt W3 w2.heap.size (.slice no 0 nc) 1) := Lib.hid (by rw [hW3]; exact QAt.new w2 _ _ (files_not_str hfN))
    have HFX := Lib.hid (hfN.below B23)
    have HLT := Lib.hid ((QR0.out.below hb2).lt)
    rw [← hW3]
    clear hW3 B23 hb2 hfN
    go_loopw [5] (fun i wr => ∃ (k : Nat) (Q : Quilt) (vq : Value), k ≤ avs.length ∧ i = .int .i64 k ∧ Q = grownTo al k ∧ QAt wr w2.heap.size vq Q.turn ∧ QAt wr w.heap.size (.slice none 0 0) 0 ∧ Files wr vq Q.files ∧ Below w.heap.size w wr) (fun i _ => avs.length - (intOf i).toNat)
    case atStart => exact ⟨0, ⟨[], 1⟩, _, Nat.zero_le _, rfl, rfl, QX.out, QR3.out, HFX.out, HB3.out⟩
    case round =>
      obtain ⟨k, Q, vq, hk, rfl, hQ, hqa, hqr, hfq, hbw⟩ := hrel
      have HQK := Lib.hid hQ
      have HGD : Hid (Good Q) := Lib.hid (by rw [hQ]; exact (grown_good al k (by rw [← HLE.out]; exact hk)).1)
      have HQA := Lib.hid hqa
      have HQR := Lib.hid hqr
      obtain ⟨qo, qc, rfl, _, _⟩ := hfq.parts
      have HFQ := Lib.hid hfq
      have HW := Lib.hid hbw
      clear hQ hqa hqr hfq hbw
      by_cases hlt : k < avs.length
      · obtain ⟨ba, oa, rfl, hlb, x0, x1, x2, x3, x4, x5⟩ := ActVs.cell HAV.out k hlt
        have HXC : Hid (∀ W, Below wr.heap.size wr W → W.cell? ⟨ba, oa + k * 6, none⟩ = some (.string avs[k].kind) ∧ W.cell? ⟨ba, oa + k * 6 + 1, none⟩ = some (.string avs[k].s) ∧ W.cell? ⟨ba, oa + k * 6 + 2, none⟩ = some (.string avs[k].t) ∧ W.cell? ⟨ba, oa + k * 6 + 3, none⟩ = some (.int .i64 avs[k].n) ∧ W.cell? ⟨ba, oa + k * 6 + 4, none⟩ = some (.int .u64 avs[k].k) ∧ W.cell? ⟨ba, oa + k * 6 + 5, none⟩ = some avs[k].cv) := Lib.hid fun W hb => by
          obtain ⟨kc, _⟩ := bcell (two HW.out hb)
          exact ⟨(kc _ _ hlb).trans x0, (kc _ _ hlb).trans x1, (kc _ _ hlb).trans x2, (kc _ _ hlb).trans x3, (kc _ _ hlb).trans x4, (kc _ _ hlb).trans x5⟩
        clear x0 x1 x2 x3 x4 x5
        have hlt' : k < al.length := by rw [← HLE.out]; exact hlt
        have CD := fun W (hb : Below wr.heap.size wr W) => law_Do (.agg #[.slice qo Q.files.length qc, .int .i64 Q.turn]) Q avs[k] (al[k]'hlt') W ⟨_, rfl, HFQ.out.below hb⟩ HGD.out ((HAA.out.2 k hlt hlt').below (two HW.out hb)) (HAK.out _ (List.getElem_mem hlt'))
        have HNX := Lib.hid (grown_next al k hlt')
        obtain ⟨p, hp⟩ : ∃ p, p = doAct Q (al[k]'hlt') := ⟨_, rfl⟩
        have HPK := Lib.hid hp
        unfold RetQE ActV.val at CD
        rw [← hp] at CD
        clear hp
        replace CD := Lib.hid CD
        have ED := Lib.hid (Below.refl wr.heap.size wr).drew
        have HSK : Hid (∀ W, Below wr.heap.size wr W → W.cell? ⟨w2.heap.size, 0, none⟩ = some (.slice qo Q.files.length qc) ∧ W.cell? ⟨w2.heap.size, 1, none⟩ = some (.int .i64 Q.turn) ∧ W.cell? ⟨ba, oa + k * 6, none⟩ = some (.string avs[k].kind) ∧ W.cell? ⟨ba, oa + k * 6 + 1, none⟩ = some (.string avs[k].s) ∧ W.cell? ⟨ba, oa + k * 6 + 2, none⟩ = some (.string avs[k].t) ∧ W.cell? ⟨ba, oa + k * 6 + 3, none⟩ = some (.int .i64 avs[k].n) ∧ W.cell? ⟨ba, oa + k * 6 + 4, none⟩ = some (.int .u64 avs[k].k) ∧ W.cell? ⟨ba, oa + k * 6 + 5, none⟩ = some avs[k].cv) := Lib.hid fun W hb => ⟨(HQA.out.below hb).c0, (HQA.out.below hb).c1, HXC.out W hb⟩
        have XE : Hid (QAt (wr.drew.alloc (.cells #[.slice none 0 0, .int .i64 0] 24)) wr.heap.size (.slice none 0 0) 0) := Lib.hid (QAt.new wr.drew (.slice none 0 0) 0 (by intro s h; cases h))
        go_wp2_with fail
        go_region_held3 (fun W => W.cell? ⟨w2.heap.size, 0, none⟩ = some (.slice qo Q.files.length qc) ∧ W.cell? ⟨w2.heap.size, 1, none⟩ = some (.int .i64 Q.turn) ∧ W.cell? ⟨ba, oa + k * 6, none⟩ = some (.string avs[k].kind) ∧ W.cell? ⟨ba, oa + k * 6 + 1, none⟩ = some (.string avs[k].s) ∧ W.cell? ⟨ba, oa + k * 6 + 2, none⟩ = some (.string avs[k].t) ∧ W.cell? ⟨ba, oa + k * 6 + 3, none⟩ = some (.int .i64 avs[k].n) ∧ W.cell? ⟨ba, oa + k * 6 + 4, none⟩ = some (.int .u64 avs[k].k) ∧ W.cell? ⟨ba, oa + k * 6 + 5, none⟩ = some avs[k].cv)
          (first
            | exact HSK.out _ ED.out
            | exact HSK.out _ (HE1 : Hid _).out
            | exact HSK.out _ (two ED.out (below_alloc _ _))
            | exact HSK.out _ (two (HE1 : Hid _).out (below_alloc _ _))
            | exact HSK.out _ (((HE1 : Hid _).out.setCell (p := ⟨wr.heap.size, 0, none⟩) (Nat.le_refl _) _).setCell (p := ⟨wr.heap.size, 1, none⟩) (Nat.le_refl _) _))
          (first | (go_at_call 44; refine (CD.out _ (by first | exact ED.out | exact two ED.out (below_alloc _ _))).mono ?_; rintro e wA ⟨qx, rfl, ⟨vx, rfl, hfx⟩, hba⟩; obtain ⟨xo, xc, rfl, _, _⟩ := hfx.parts; have HX := Lib.hid hfx; have HE1 := Lib.hid (two (by first | exact ED.out | exact two ED.out (below_alloc _ _)) hba); (try (have XF := Lib.hid (XE.out.below hba); have b0 := XF.out.c0; have b1 := XF.out.c1; have b2 := XF.out.f0; have b3 := XF.out.f1)); clear hfx hba))
        all_goals
          first
            | (obtain ⟨Wc, bx, hW, hbx, hqx, hfx, hex, hbl⟩ : ∃ Wc bx, Wc = wA.alloc (.cells #[.slice xo p.1.files.length xc, .int .i64 p.1.turn] 24) ∧ bx = wA.heap.size ∧ QAt Wc bx (.slice xo p.1.files.length xc) p.1.turn ∧ Files Wc (.slice xo p.1.files.length xc) p.1.files ∧ Below wr.heap.size wr Wc ∧ wr.heap.size ≤ bx := ⟨_, _, rfl, rfl, QAt.new wA _ _ (files_not_str HX.out), HX.out.below (below_alloc _ _), two HE1.out (below_alloc _ _), HE1.out.size⟩
               rw [← hW, ← hbx])
            | (obtain ⟨Wc, bx, hW, hbx, hqx, hfx, hex, hbl⟩ : ∃ Wc bx, Wc = (wA.setCell ⟨wr.heap.size, 0, none⟩ (.slice xo p.1.files.length xc)).setCell ⟨wr.heap.size, 1, none⟩ (.int .i64 p.1.turn) ∧ bx = wr.heap.size ∧ QAt Wc bx (.slice xo p.1.files.length xc) p.1.turn ∧ Files Wc (.slice xo p.1.files.length xc) p.1.files ∧ Below wr.heap.size wr Wc ∧ wr.heap.size ≤ bx := ⟨_, _, rfl, rfl, XF.out.set _ _ (files_not_str HX.out), files_set_box HX.out XF.out.ns _ (files_not_str HX.out) _, (HE1.out.setCell (p := ⟨wr.heap.size, 0, none⟩) (Nat.le_refl _) _).setCell (p := ⟨wr.heap.size, 1, none⟩) (Nat.le_refl _) _, Nat.le_refl _⟩
               rw [← hW, ← hbx])
        all_goals
          have HQX := Lib.hid hqx
          have HFX2 := Lib.hid hfx
          have HEX := Lib.hid hex
          have HBX := Lib.hid hbl
          clear hW hbx hqx hfx hex HE1 HX hbl
          (try clear XF)
          (try clear b0 b1 b2 b3)
          have c0 := HQX.out.c0
          have c1 := HQX.out.c1
          have HA5 := Lib.hid (HQA.out.below HEX.out)
          have HR5 := Lib.hid (HQR.out.below HEX.out)
          by_cases hp0 : p.2 = 0
          · have hev : errV p.2 = .nilIface := by rw [hp0]; rfl
            have HST : Hid (grownTo al (k + 1) = p.1) := Lib.hid (by rw [HNX.out, ← HQK.out]; unfold stepQ; rw [← HPK.out, if_pos hp0])
            have g0 := HA5.out.c0
            have g1 := HA5.out.c1
            have g2 := HA5.out.f0
            have g3 := HA5.out.f1
            have hne : ¬ w2.heap.size = w.heap.size := fun h => by have := HLT.out; omega
            clear hp0
            go_wp2_with fail
            have HL0 := Lib.hid (Nat.le_of_lt HLT.out)
            have HBZ := Lib.hid (((two HW.out HEX.out).setCell (p := ⟨w2.heap.size, 0, none⟩) HL0.out (.slice xo p.1.files.length xc)).setCell (p := ⟨w2.heap.size, 1, none⟩) HL0.out (.int .i64 p.1.turn))
            have HQ6 := Lib.hid (HA5.out.set (.slice xo p.1.files.length xc) p.1.turn (files_not_str HFX2.out))
            have HR6 := Lib.hid (HR5.out.far w2.heap.size hne (.slice xo p.1.files.length xc) p.1.turn)
            have HF6 := Lib.hid (files_set_box HFX2.out HA5.out.ns (.slice xo p.1.files.length xc) (files_not_str HFX2.out) p.1.turn)
            clear c0 c1 g0 g1 g2 g3 hne hev
            go_roundw
            case rel => exact ⟨k + 1, p.1, _, by omega, by go_num, HST.out.symm, HQ6.out, HR6.out, HF6.out, HBZ.out⟩
            case measure => simp [intOf]; omega
          · have HST : Hid (Q = grownTo al (k + 1)) := Lib.hid (by rw [HNX.out, ← HQK.out]; unfold stepQ; rw [← HPK.out, if_neg hp0])
            have hev : errV p.2 = .iface 91 (.int .i64 p.2) := errV_pos hp0
            clear hp0
            go_wp2_with fail
            clear c0 c1 hev
            go_roundw
            case rel => exact ⟨k + 1, Q, _, by omega, by go_num, HST.out, HA5.out, HR5.out, HFQ.out.below HEX.out, two HW.out HEX.out⟩
            case measure => simp [intOf]; omega
      · have HQG : Hid (Q = grownQ al) := Lib.hid (by rw [HQK.out]; unfold grownQ; rw [show k = al.length by rw [← HLE.out]; omega])
        have g0 := HQA.out.c0
        have g1 := HQA.out.c1
        have z0 := HQR.out.c0
        have z1 := HQR.out.c1
        have z2 := HQR.out.f0
        have z3 := HQR.out.f1
        go_wp2_with fail
        have HBF := (HW.out.setCell (p := ⟨w.heap.size, 0, none⟩) (Nat.le_refl _) (.slice qo Q.files.length qc)).setCell (p := ⟨w.heap.size, 1, none⟩) (Nat.le_refl _) (.int .i64 Q.turn)
        refine bodyPost_ret (v := .tuple #[.agg #[.slice qo Q.files.length qc, .int .i64 Q.turn], .bool true]) (by simp [results, Try.results38, go_sem, z0, z1, z2, z3]) rfl ?_
        exact ⟨_, by rw [← HQG.out], by rw [← HQG.out]; exact files_set_box HFQ.out HQR.out.ns _ (files_not_str HFQ.out) _, HBF⟩
end Go.Proofs.Ytggpodlecljcbab
