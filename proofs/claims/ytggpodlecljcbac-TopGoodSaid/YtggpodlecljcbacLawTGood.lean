/- The walk of the statement TopGood. -/
import Derived.Test.YtggpodlecljcbacWalkT
import Derived.Test.YtggpodlecljcbacWalkC
namespace Go.Proofs.Ytggpodlecljcbac
open Go.RowKit Go.Sort
set_option linter.unusedSimpArgs false
set_option linter.unusedVariables false
theorem next_none {q : Quilt} {p : List File × Nat} (h0 : (nextQ q p).2 ≠ 0) : (nextQ q p).1 = noQuilt := by
  unfold nextQ at h0 ⊢
  split
  · rfl
  · rename_i hh
    rw [if_neg hh] at h0
    split
    · rfl
    · rename_i h9; rw [if_neg h9] at h0; exact absurd rfl h0
theorem renamed_none {q : Quilt} {a b : ByteArray} (h0 : (renamedQ q a b).2 ≠ 0) : (renamedQ q a b).1 = noQuilt := by
  unfold renamedQ at h0 ⊢
  cases hg : getAt q.files a with
  | none => rfl
  | some f =>
    rw [hg] at h0
    simp only at h0 ⊢
    split
    · rfl
    · rename_i h1
      rw [if_neg h1] at h0
      split
      · rfl
      · rename_i h2; rw [if_neg h2] at h0; exact next_none h0
theorem swapped_none {q : Quilt} {a b : ByteArray} (h0 : (swappedQ q a b).2 ≠ 0) : (swappedQ q a b).1 = noQuilt := by
  unfold swappedQ at h0 ⊢
  cases ha : getAt q.files a with
  | none => rfl
  | some x =>
    cases hb : getAt q.files b with
    | none => rfl
    | some y =>
      rw [ha, hb] at h0
      simp only at h0 ⊢
      split
      · rfl
      · rename_i h1
        rw [if_neg h1] at h0
        split
        · rename_i h2; rw [if_pos h2] at h0; exact next_none h0
        · rename_i h2; rw [if_neg h2] at h0; exact next_none h0
theorem do_none {q : Quilt} {a : Act} (h0 : (doAct q a).2 ≠ 0) : (doAct q a).1 = noQuilt := by
  unfold doAct at h0 ⊢
  split
  · rename_i hh; rw [if_pos hh] at h0; exact next_none h0
  · rename_i hh
    rw [if_neg hh] at h0
    split
    · rename_i hh; rw [if_pos hh] at h0; exact next_none h0
    · rename_i hh
      rw [if_neg hh] at h0
      split
      · rename_i hh; rw [if_pos hh] at h0; exact renamed_none h0
      · rename_i hh
        rw [if_neg hh] at h0
        split
        · rename_i hh; rw [if_pos hh] at h0; exact swapped_none h0
        · rename_i hh; rw [if_neg hh] at h0; exact absurd rfl h0
theorem good_files {q : Quilt} (h : Good q) : ∀ f ∈ q.files, f.ok := fun f hf => by
  obtain ⟨h1, h2, _, _⟩ := file_good (h.fine.each f hf)
  have h3 := name_good h1
  refine ⟨?_, ?_⟩ <;> unfold maxLen
  · have : f.name.size = f.name.data.toList.length := by rw [Array.length_toList]; rfl
    omega
  · omega
def knownKind (a : Act) : Bool := (a.kind.toList == [119, 114, 105, 116, 101]) || (a.kind.toList == [100, 114, 111, 112]) || (a.kind.toList == [110, 97, 109, 101]) || (a.kind.toList == [115, 119, 97, 112])
theorem do_turns {q : Quilt} (h : Good q) {a : Act} (hk : knownKind a = true) (h0 : (doAct q a).2 = 0) : (doAct q a).1.turn = q.turn + 1 := by
  unfold doAct at h0 ⊢
  by_cases h1 : (a.kind.toList == [119, 114, 105, 116, 101]) = true
  · rw [if_pos h1] at h0 ⊢; exact (written_good h _ _ h0).2
  · rw [if_neg h1] at h0 ⊢
    by_cases h2 : (a.kind.toList == [100, 114, 111, 112]) = true
    · rw [if_pos h2] at h0 ⊢; exact (dropped_good h _ h0).2
    · rw [if_neg h2] at h0 ⊢
      by_cases h3 : (a.kind.toList == [110, 97, 109, 101]) = true
      · rw [if_pos h3] at h0 ⊢; exact (renamed_good h _ _ h0).2
      · rw [if_neg h3] at h0 ⊢
        by_cases h4 : (a.kind.toList == [115, 119, 97, 112]) = true
        · rw [if_pos h4] at h0 ⊢; exact (swapped_good h _ _ h0).2
        · simp only [Bool.not_eq_true] at h1 h2 h3 h4
          unfold knownKind at hk
          rw [h1, h2, h3, h4] at hk
          cases hk
set_option maxRecDepth 100000 in
set_option maxHeartbeats 8000000 in
theorem law_TopGood (va : Value) (avs : List ActV) (al : List Act) (w : World) (hav : ActVs w va avs) (haa : IsActs w avs al) (hak : ∀ a ∈ al, a.ok) :
    Calls Try.prog 3 #[va] w fun e w' => e = .returned (.bool true) ∧ Below w.heap.size w w' := by
  have CB := Lib.hid (top_began w)
  have CA := Lib.hid fun W hb => law_LightActs va avs al 60 W (hav.below hb) (haa.below hb) hak
  obtain ⟨vo, vc, rfl, hvc, hvc'⟩ := hav.parts
  have HAV := Lib.hid hav
  have HAA := Lib.hid haa
  have HLE := Lib.hid haa.1
  have HAK := Lib.hid hak
  clear hav haa hak
  cases hla : lightActs al 60
  · have HLA := Lib.hid hla
    clear hla
    go_enter Try.func3, Try.ntmps3
    go_wp2_with fail
    refine CB.out.mono ?_
    rintro e w1 ⟨rfl, hb1⟩
    have HB1 := Lib.hid hb1
    clear hb1
    go_wp2_with fail
    refine (CA.out _ HB1.out).mono ?_
    rintro e w6 ⟨rfl, rfl⟩
    rw [HLA.out]
    go_wp2_with fail
    go_ret
    exact ⟨rfl, HB1.out⟩
  · have HLA := Lib.hid hla
    have HAL : Hid (al.length ≤ 60) := Lib.hid (by
      unfold lightActs at hla
      simp only [Bool.and_eq_true, decide_eq_true_eq] at hla
      omega)
    clear hla
    go_enter Try.func3, Try.ntmps3
    go_wp2_with fail
    refine CB.out.mono ?_
    rintro e w1 ⟨rfl, hb1⟩
    have HB1 := Lib.hid hb1
    clear hb1
    go_wp2_with fail
    refine (CA.out _ HB1.out).mono ?_
    rintro e w6 ⟨rfl, rfl⟩
    rw [HLA.out]
    go_wp2_with fail
    refine (quilt_New _).mono ?_
    rintro e w2 ⟨qN, rfl, ⟨vN, rfl, hfN⟩, hb2⟩
    obtain ⟨no, nc, rfl, _, _⟩ := hfN.parts
    go_wp2_with fail
    obtain ⟨W3, hW3⟩ : ∃ W3, W3 = w2.alloc (.cells #[.slice no 0 nc, .int .i64 1] 27) := ⟨_, rfl⟩
    have B23 : Below w2.heap.size w2 W3 := by rw [hW3]; exact below_alloc _ _
    have HB3 := Lib.hid (two (two HB1.out hb2) B23)
    have QX : Hid (QAt W3 w2.heap.size (.slice no 0 nc) 1) := Lib.hid (by rw [hW3]; exact QAt.new w2 _ _ (files_not_str hfN))
    have HFX := Lib.hid (hfN.below B23)
    have HL0 : Hid (w.heap.size ≤ w2.heap.size) := Lib.hid (two HB1.out hb2).size
    rw [← hW3]
    clear hW3 B23 hb2 hfN
    go_loopw [5] (fun i wr => ∃ (k : Nat) (Q : Quilt) (vq : Value), k ≤ avs.length ∧ i = .int .i64 k ∧ Good Q ∧ Q.turn ≤ k + 1 ∧ QAt wr w2.heap.size vq Q.turn ∧ Files wr vq Q.files ∧ Below w.heap.size w wr) (fun i _ => avs.length - (intOf i).toNat)
    case atStart => exact ⟨0, ⟨[], 1⟩, _, Nat.zero_le _, rfl, good_new, by decide, QX.out, HFX.out, HB3.out⟩
    case round =>
      obtain ⟨k, Q, vq, hk, rfl, hgd, hqt, hqa, hfq, hbw⟩ := hrel
      have HGD := Lib.hid hgd
      have HQA := Lib.hid hqa
      obtain ⟨qo, qc, rfl, _, _⟩ := hfq.parts
      have HFQ := Lib.hid hfq
      have HW := Lib.hid hbw
      have HQT := Lib.hid hqt
      have hq1 := hgd.lo
      have hkl : k ≤ 60 := by have := HAL.out; have := HLE.out; omega
      clear hgd hqa hfq hbw
      by_cases hlt : k < avs.length
      · obtain ⟨ba, oa, rfl, hlb, x0, x1, x2, x3, x4, x5⟩ := ActVs.cell HAV.out k hlt
        have HXC : Hid (∀ W, Below wr.heap.size wr W → W.cell? ⟨ba, oa + k * 6, none⟩ = some (.string avs[k].kind) ∧ W.cell? ⟨ba, oa + k * 6 + 1, none⟩ = some (.string avs[k].s) ∧ W.cell? ⟨ba, oa + k * 6 + 2, none⟩ = some (.string avs[k].t) ∧ W.cell? ⟨ba, oa + k * 6 + 3, none⟩ = some (.int .i64 avs[k].n) ∧ W.cell? ⟨ba, oa + k * 6 + 4, none⟩ = some (.int .u64 avs[k].k) ∧ W.cell? ⟨ba, oa + k * 6 + 5, none⟩ = some avs[k].cv) := Lib.hid fun W hb => by
          obtain ⟨kc, _⟩ := bcell (two HW.out hb)
          exact ⟨(kc _ _ hlb).trans x0, (kc _ _ hlb).trans x1, (kc _ _ hlb).trans x2, (kc _ _ hlb).trans x3, (kc _ _ hlb).trans x4, (kc _ _ hlb).trans x5⟩
        clear x0 x1 x2 x3 x4 x5
        have hlt' : k < al.length := by rw [← HLE.out]; exact hlt
        have CD := fun W (hb : Below wr.heap.size wr W) => law_Do (.agg #[.slice qo Q.files.length qc, .int .i64 Q.turn]) Q avs[k] (al[k]'hlt') W ⟨_, rfl, HFQ.out.below hb⟩ HGD.out ((HAA.out.2 k hlt hlt').below (two HW.out hb)) (HAK.out _ (List.getElem_mem hlt'))
        have HKD : Hid (avs[k].kind = (al[k]'hlt').kind) := Lib.hid (HAA.out.2 k hlt hlt').1
        obtain ⟨p, hp⟩ : ∃ p, p = doAct Q (al[k]'hlt') := ⟨_, rfl⟩
        have HPG : Hid (p.2 = 0 → Good p.1) := Lib.hid (fun h => by rw [hp] at h ⊢; exact do_good HGD.out _ h)
        have HPN : Hid (p.2 ≠ 0 → p.1 = noQuilt) := Lib.hid (fun h => by rw [hp] at h ⊢; exact do_none h)
        have HPT : Hid (knownKind (al[k]'hlt') = true → p.2 = 0 → p.1.turn = Q.turn + 1) := Lib.hid (fun hk h => by rw [hp] at h ⊢; exact do_turns HGD.out hk h)
        have HPU : Hid (p.2 = 0 → p.1.turn ≤ Q.turn + 1) := Lib.hid (fun h => by rw [hp] at h ⊢; exact do_turn HGD.out _ h)
        unfold RetQE ActV.val at CD
        rw [← hp] at CD
        clear hp
        replace CD := Lib.hid CD
        have ED := Lib.hid (Below.refl wr.heap.size wr).drew
        have HSK : Hid (∀ W, Below wr.heap.size wr W → W.cell? ⟨w2.heap.size, 0, none⟩ = some (.slice qo Q.files.length qc) ∧ W.cell? ⟨w2.heap.size, 1, none⟩ = some (.int .i64 Q.turn) ∧ W.cell? ⟨ba, oa + k * 6, none⟩ = some (.string avs[k].kind) ∧ W.cell? ⟨ba, oa + k * 6 + 1, none⟩ = some (.string avs[k].s) ∧ W.cell? ⟨ba, oa + k * 6 + 2, none⟩ = some (.string avs[k].t) ∧ W.cell? ⟨ba, oa + k * 6 + 3, none⟩ = some (.int .i64 avs[k].n) ∧ W.cell? ⟨ba, oa + k * 6 + 4, none⟩ = some (.int .u64 avs[k].k) ∧ W.cell? ⟨ba, oa + k * 6 + 5, none⟩ = some avs[k].cv) := Lib.hid fun W hb => ⟨(HQA.out.below hb).c0, (HQA.out.below hb).c1, HXC.out W hb⟩
        have XE : Hid (QAt (wr.drew.alloc (.cells #[.slice none 0 0, .int .i64 0] 27)) wr.heap.size (.slice none 0 0) 0) := Lib.hid (QAt.new wr.drew (.slice none 0 0) 0 (by intro s h; cases h))
        go_wp2_with fail
        go_region_held3 (fun W => W.cell? ⟨w2.heap.size, 0, none⟩ = some (.slice qo Q.files.length qc) ∧ W.cell? ⟨w2.heap.size, 1, none⟩ = some (.int .i64 Q.turn) ∧ W.cell? ⟨ba, oa + k * 6, none⟩ = some (.string avs[k].kind) ∧ W.cell? ⟨ba, oa + k * 6 + 1, none⟩ = some (.string avs[k].s) ∧ W.cell? ⟨ba, oa + k * 6 + 2, none⟩ = some (.string avs[k].t) ∧ W.cell? ⟨ba, oa + k * 6 + 3, none⟩ = some (.int .i64 avs[k].n) ∧ W.cell? ⟨ba, oa + k * 6 + 4, none⟩ = some (.int .u64 avs[k].k) ∧ W.cell? ⟨ba, oa + k * 6 + 5, none⟩ = some avs[k].cv)
          (first
            | exact HSK.out _ ED.out
            | exact HSK.out _ (HE1 : Hid _).out
            | exact HSK.out _ (two ED.out (below_alloc _ _))
            | exact HSK.out _ (two (HE1 : Hid _).out (below_alloc _ _))
            | exact HSK.out _ (((HE1 : Hid _).out.setCell (p := ⟨wr.heap.size, 0, none⟩) (Nat.le_refl _) _).setCell (p := ⟨wr.heap.size, 1, none⟩) (Nat.le_refl _) _))
          (first | (go_at_call 10; refine (CD.out _ (by first | exact ED.out | exact two ED.out (below_alloc _ _))).mono ?_; rintro e wA ⟨qx, rfl, ⟨vx, rfl, hfx⟩, hba⟩; obtain ⟨xo, xc, rfl, _, _⟩ := hfx.parts; have HX := Lib.hid hfx; have HE1 := Lib.hid (two (by first | exact ED.out | exact two ED.out (below_alloc _ _)) hba); (try (have XF := Lib.hid (XE.out.below hba); have b0 := XF.out.c0; have b1 := XF.out.c1; have b2 := XF.out.f0; have b3 := XF.out.f1)); clear hfx hba))
        all_goals
          first
            | (obtain ⟨Wc, bx, hW, hbx, hqx, hfx, hex, hbl⟩ : ∃ Wc bx, Wc = wA.alloc (.cells #[.slice xo p.1.files.length xc, .int .i64 p.1.turn] 27) ∧ bx = wA.heap.size ∧ QAt Wc bx (.slice xo p.1.files.length xc) p.1.turn ∧ Files Wc (.slice xo p.1.files.length xc) p.1.files ∧ Below wr.heap.size wr Wc ∧ wr.heap.size ≤ bx := ⟨_, _, rfl, rfl, QAt.new wA _ _ (files_not_str HX.out), HX.out.below (below_alloc _ _), two HE1.out (below_alloc _ _), HE1.out.size⟩
               rw [← hW, ← hbx])
            | (obtain ⟨Wc, bx, hW, hbx, hqx, hfx, hex, hbl⟩ : ∃ Wc bx, Wc = (wA.setCell ⟨wr.heap.size, 0, none⟩ (.slice xo p.1.files.length xc)).setCell ⟨wr.heap.size, 1, none⟩ (.int .i64 p.1.turn) ∧ bx = wr.heap.size ∧ QAt Wc bx (.slice xo p.1.files.length xc) p.1.turn ∧ Files Wc (.slice xo p.1.files.length xc) p.1.files ∧ Below wr.heap.size wr Wc ∧ wr.heap.size ≤ bx := ⟨_, _, rfl, rfl, XF.out.set _ _ (files_not_str HX.out), files_set_box HX.out XF.out.ns _ (files_not_str HX.out) _, (HE1.out.setCell (p := ⟨wr.heap.size, 0, none⟩) (Nat.le_refl _) _).setCell (p := ⟨wr.heap.size, 1, none⟩) (Nat.le_refl _) _, Nat.le_refl _⟩
               rw [← hW, ← hbx])
        all_goals
          have HQX := Lib.hid hqx
          have HFX2 := Lib.hid hfx
          have HEX := Lib.hid hex
          have HBX := Lib.hid hbl
          clear hW hbx hqx hfx hex HE1 HX hbl
          (try clear XF)
          (try clear b0 b1 b2 b3)
          have c0 := HQX.out.c0
          have c1 := HQX.out.c1
          have HA5 := Lib.hid (HQA.out.below HEX.out)
          by_cases hp0 : p.2 = 0
          · have hev : errV p.2 = .nilIface := by rw [hp0]; rfl
            have HGP := Lib.hid (HPG.out hp0)
            have HPT2 := Lib.hid (fun hk => HPT.out hk hp0)
            have HPU2 := Lib.hid (HPU.out hp0)
            clear hp0
            have CK := quilt_Check (.agg #[.slice xo p.1.files.length xc, .int .i64 p.1.turn]) p.1 Wc ⟨_, rfl, HFX2.out⟩ (good_files HGP.out)
            rw [(good_iff p.1).2 HGP.out, errV_zero] at CK
            replace CK := Lib.hid CK
            obtain ⟨kb, hkb⟩ : ∃ s, s = avs[k].kind := ⟨_, rfl⟩
            have HKB : Hid (knownKind (al[k]'hlt') = ((kb.toList == [119, 114, 105, 116, 101]) || (kb.toList == [100, 114, 111, 112]) || (kb.toList == [110, 97, 109, 101]) || (kb.toList == [115, 119, 97, 112]))) := Lib.hid (by rw [hkb, HKD.out]; rfl)
            have yk := (HXC.out _ HEX.out).1
            rw [← hkb] at yk
            clear hkb
            cases hw : (kb.toList == [119, 114, 105, 116, 101])
            rotate_left
            · skip
              have hkk : knownKind (al[k]'hlt') = true := by rw [HKB.out]; simp [hw]
              have ht1 := HPT2.out hkk
              clear hkk
              have HT1 := Lib.hid ht1
              clear ht1
              go_wp2_with fail
              refine CK.out.mono ?_
              rintro e w9 ⟨rfl, hb9⟩
              have HA6 := Lib.hid (HA5.out.below hb9)
              have HX6 := Lib.hid (HQX.out.below hb9)
              have HF6 := Lib.hid (HFX2.out.below hb9)
              have HE6 := Lib.hid (two HEX.out hb9)
              clear hb9 yk c0 c1 hev
              have g0 := HA6.out.c0
              have e0 := HX6.out.c0
              have g1 := HA6.out.c1
              have e1 := HX6.out.c1
              have g2 := HA6.out.f0
              have g3 := HA6.out.f1
              rw [HT1.out] at e1
              go_wp2_with fail
              have HBZ := Lib.hid (((two HW.out HE6.out).setCell (p := ⟨w2.heap.size, 0, none⟩) HL0.out (.slice xo p.1.files.length xc)).setCell (p := ⟨w2.heap.size, 1, none⟩) HL0.out (.int .i64 (Q.turn + 1)))
              have HQ6 := Lib.hid (HA6.out.set (.slice xo p.1.files.length xc) p.1.turn (files_not_str HF6.out))
              have HF7 := Lib.hid (files_set_box HF6.out HA6.out.ns (.slice xo p.1.files.length xc) (files_not_str HF6.out) p.1.turn)
              rw [HT1.out] at HQ6 HF7
              clear g0 g1 g2 g3 e0 e1
              go_roundw
              case rel => exact ⟨k + 1, p.1, _, by omega, by go_num, HGP.out, by have h1 := HQT.out; have h2 := HPU2.out; omega, by rw [HT1.out]; exact HQ6.out, HF7.out, HBZ.out⟩
              case measure => simp [intOf]; omega
            cases hd : (kb.toList == [100, 114, 111, 112])
            rotate_left
            · skip
              have hkk : knownKind (al[k]'hlt') = true := by rw [HKB.out]; simp [hw, hd]
              have ht1 := HPT2.out hkk
              clear hkk
              have HT1 := Lib.hid ht1
              clear ht1
              go_wp2_with fail
              refine CK.out.mono ?_
              rintro e w9 ⟨rfl, hb9⟩
              have HA6 := Lib.hid (HA5.out.below hb9)
              have HX6 := Lib.hid (HQX.out.below hb9)
              have HF6 := Lib.hid (HFX2.out.below hb9)
              have HE6 := Lib.hid (two HEX.out hb9)
              clear hb9 yk c0 c1 hev
              have g0 := HA6.out.c0
              have e0 := HX6.out.c0
              have g1 := HA6.out.c1
              have e1 := HX6.out.c1
              have g2 := HA6.out.f0
              have g3 := HA6.out.f1
              rw [HT1.out] at e1
              go_wp2_with fail
              have HBZ := Lib.hid (((two HW.out HE6.out).setCell (p := ⟨w2.heap.size, 0, none⟩) HL0.out (.slice xo p.1.files.length xc)).setCell (p := ⟨w2.heap.size, 1, none⟩) HL0.out (.int .i64 (Q.turn + 1)))
              have HQ6 := Lib.hid (HA6.out.set (.slice xo p.1.files.length xc) p.1.turn (files_not_str HF6.out))
              have HF7 := Lib.hid (files_set_box HF6.out HA6.out.ns (.slice xo p.1.files.length xc) (files_not_str HF6.out) p.1.turn)
              rw [HT1.out] at HQ6 HF7
              clear g0 g1 g2 g3 e0 e1
              go_roundw
              case rel => exact ⟨k + 1, p.1, _, by omega, by go_num, HGP.out, by have h1 := HQT.out; have h2 := HPU2.out; omega, by rw [HT1.out]; exact HQ6.out, HF7.out, HBZ.out⟩
              case measure => simp [intOf]; omega
            cases hn : (kb.toList == [110, 97, 109, 101])
            rotate_left
            · skip
              have hkk : knownKind (al[k]'hlt') = true := by rw [HKB.out]; simp [hw, hd, hn]
              have ht1 := HPT2.out hkk
              clear hkk
              have HT1 := Lib.hid ht1
              clear ht1
              go_wp2_with fail
              refine CK.out.mono ?_
              rintro e w9 ⟨rfl, hb9⟩
              have HA6 := Lib.hid (HA5.out.below hb9)
              have HX6 := Lib.hid (HQX.out.below hb9)
              have HF6 := Lib.hid (HFX2.out.below hb9)
              have HE6 := Lib.hid (two HEX.out hb9)
              clear hb9 yk c0 c1 hev
              have g0 := HA6.out.c0
              have e0 := HX6.out.c0
              have g1 := HA6.out.c1
              have e1 := HX6.out.c1
              have g2 := HA6.out.f0
              have g3 := HA6.out.f1
              rw [HT1.out] at e1
              go_wp2_with fail
              have HBZ := Lib.hid (((two HW.out HE6.out).setCell (p := ⟨w2.heap.size, 0, none⟩) HL0.out (.slice xo p.1.files.length xc)).setCell (p := ⟨w2.heap.size, 1, none⟩) HL0.out (.int .i64 (Q.turn + 1)))
              have HQ6 := Lib.hid (HA6.out.set (.slice xo p.1.files.length xc) p.1.turn (files_not_str HF6.out))
              have HF7 := Lib.hid (files_set_box HF6.out HA6.out.ns (.slice xo p.1.files.length xc) (files_not_str HF6.out) p.1.turn)
              rw [HT1.out] at HQ6 HF7
              clear g0 g1 g2 g3 e0 e1
              go_roundw
              case rel => exact ⟨k + 1, p.1, _, by omega, by go_num, HGP.out, by have h1 := HQT.out; have h2 := HPU2.out; omega, by rw [HT1.out]; exact HQ6.out, HF7.out, HBZ.out⟩
              case measure => simp [intOf]; omega
            cases hs : (kb.toList == [115, 119, 97, 112])
            rotate_left
            · skip
              have hkk : knownKind (al[k]'hlt') = true := by rw [HKB.out]; simp [hw, hd, hn, hs]
              have ht1 := HPT2.out hkk
              clear hkk
              have HT1 := Lib.hid ht1
              clear ht1
              go_wp2_with fail
              refine CK.out.mono ?_
              rintro e w9 ⟨rfl, hb9⟩
              have HA6 := Lib.hid (HA5.out.below hb9)
              have HX6 := Lib.hid (HQX.out.below hb9)
              have HF6 := Lib.hid (HFX2.out.below hb9)
              have HE6 := Lib.hid (two HEX.out hb9)
              clear hb9 yk c0 c1 hev
              have g0 := HA6.out.c0
              have e0 := HX6.out.c0
              have g1 := HA6.out.c1
              have e1 := HX6.out.c1
              have g2 := HA6.out.f0
              have g3 := HA6.out.f1
              rw [HT1.out] at e1
              go_wp2_with fail
              have HBZ := Lib.hid (((two HW.out HE6.out).setCell (p := ⟨w2.heap.size, 0, none⟩) HL0.out (.slice xo p.1.files.length xc)).setCell (p := ⟨w2.heap.size, 1, none⟩) HL0.out (.int .i64 (Q.turn + 1)))
              have HQ6 := Lib.hid (HA6.out.set (.slice xo p.1.files.length xc) p.1.turn (files_not_str HF6.out))
              have HF7 := Lib.hid (files_set_box HF6.out HA6.out.ns (.slice xo p.1.files.length xc) (files_not_str HF6.out) p.1.turn)
              rw [HT1.out] at HQ6 HF7
              clear g0 g1 g2 g3 e0 e1
              go_roundw
              case rel => exact ⟨k + 1, p.1, _, by omega, by go_num, HGP.out, by have h1 := HQT.out; have h2 := HPU2.out; omega, by rw [HT1.out]; exact HQ6.out, HF7.out, HBZ.out⟩
              case measure => simp [intOf]; omega
            have hkk : knownKind (al[k]'hlt') = false := by rw [HKB.out]; simp [hw, hd, hn, hs]
            clear hkk
            go_wp2_with fail
            refine CK.out.mono ?_
            rintro e w9 ⟨rfl, hb9⟩
            have HA6 := Lib.hid (HA5.out.below hb9)
            have HX6 := Lib.hid (HQX.out.below hb9)
            have HF6 := Lib.hid (HFX2.out.below hb9)
            have HE6 := Lib.hid (two HEX.out hb9)
            clear hb9 yk c0 c1 hev
            have g0 := HA6.out.c0
            have e0 := HX6.out.c0
            have g1 := HA6.out.c1
            have e1 := HX6.out.c1
            have g2 := HA6.out.f0
            have g3 := HA6.out.f1
            go_wp2_with fail
            have HBZ := Lib.hid (((two HW.out HE6.out).setCell (p := ⟨w2.heap.size, 0, none⟩) HL0.out (.slice xo p.1.files.length xc)).setCell (p := ⟨w2.heap.size, 1, none⟩) HL0.out (.int .i64 p.1.turn))
            have HQ6 := Lib.hid (HA6.out.set (.slice xo p.1.files.length xc) p.1.turn (files_not_str HF6.out))
            have HF7 := Lib.hid (files_set_box HF6.out HA6.out.ns (.slice xo p.1.files.length xc) (files_not_str HF6.out) p.1.turn)
            clear g0 g1 g2 g3 e0 e1
            go_roundw
            case rel => exact ⟨k + 1, p.1, _, by omega, by go_num, HGP.out, by have h1 := HQT.out; have h2 := HPU2.out; omega, by exact HQ6.out, HF7.out, HBZ.out⟩
            case measure => simp [intOf]; omega
          · have HPQ := Lib.hid (HPN.out hp0)
            have hev : errV p.2 = .iface 70 (.int .i64 p.2) := errV_pos hp0
            clear hp0
            have CS := ref_SameQuilt (.agg #[.slice xo p.1.files.length xc, .int .i64 p.1.turn]) (.agg #[.slice none 0 0, .int .i64 0]) p.1 noQuilt Wc ⟨_, rfl, HFX2.out⟩ ⟨_, rfl, Rd.nil _⟩
            rw [show decide (p.1 = noQuilt) = true by rw [HPQ.out]; simp] at CS
            replace CS := Lib.hid CS
            go_wp2_with fail
            refine CS.out.mono ?_
            rintro e w9 ⟨rfl, hb9⟩
            have HA6 := Lib.hid (HA5.out.below hb9)
            have HE6 := Lib.hid (two HEX.out hb9)
            clear hb9 c0 c1 hev
            go_wp2_with fail
            go_roundw
            case rel => exact ⟨k + 1, Q, _, by omega, by go_num, HGD.out, by have h1 := HQT.out; omega, HA6.out, HFQ.out.below HE6.out, two HW.out HE6.out⟩
            case measure => simp [intOf]; omega
      · go_wp2_with fail
        go_ret
        exact ⟨rfl, HW.out⟩
end Go.Proofs.Ytggpodlecljcbac
