/- The walk of the statement TopCrash. -/
import Derived.Test.YtggpodlecljcbacLawZ
import Derived.Test.YtggpodlecljcbacWalkTY
import Derived.Test.YtggpodlecljcbacSpecZ
import Derived.Deep.CutBlock
namespace Go.Proofs.Ytggpodlecljcbac
set_option linter.unusedSimpArgs false
set_option linter.unusedVariables false
open Go.RowKit Go.Sort
set_option maxRecDepth 100000 in
set_option maxHeartbeats 4000000 in
theorem law_kept (w : World) : Calls Try.prog 17 #[] w fun e w' => e = .returned (.bool true) ∧ Below w.heap.size w w' := by
  have CS := Lib.hid (law_Stored 50 w (by decide) (by decide))
  go_enter Try.func17, Try.ntmps17
  go_wp2_with fail
  refine CS.out.mono ?_
  rintro e w1 ⟨L, sb, lb, rv, D, rfl, hst, hcm, hb1, hsb⟩
  obtain ⟨b, hbd⟩ : ∃ b, b = L.b := ⟨_, rfl⟩
  rw [← hbd] at hst ⊢
  obtain ⟨W2, hW2⟩ : ∃ W2, W2 = w1.alloc (.cells #[.string kxChange.key, .string kxChange.val, .bool kxChange.gone] 75) := ⟨_, rfl⟩
  have hs2 : StD W2 w.heap.size sb b 24 L lb rv D ⟨firstH, 0, []⟩ := by rw [hW2]; exact hst.below (below_alloc _ _)
  have HB2 : Hid (Below w.heap.size w W2) := Lib.hid (by rw [hW2]; exact two hb1 (below_alloc _ _))
  have hone : Changes W2 (.slice (some ⟨w1.heap.size, 0, none⟩) 1 1) [kxChange] := one_changeY (b := w1.heap.size) kxChange (by rw [hW2]; simp) (by rw [hW2]; simp) (by rw [hW2]; simp)
  have hfar : far (stF L lb sb) (.slice (some ⟨w1.heap.size, 0, none⟩) 1 1) := fun a n c e hn hf => by
    simp only [Value.slice.injEq, Option.some.injEq] at e
    obtain ⟨rfl, _, _⟩ := e
    have h2 : stF L lb sb w1.heap.size := hf
    have := hst.lt _ h2
    omega
  have CC := store_Commit sb lb L D ⟨firstH, 0, []⟩ 24 rv _ [kxChange] W2 hs2.s hs2.d hs2.ok hs2.inv (by decide) ⟨hone, hfar⟩ (by intro x hx; simp at hx; subst hx; exact ⟨by decide, by decide⟩) (by decide)
  have hok := keep_commit keptY_ok 24 ⟨firstH, 0, []⟩ [kxChange] D hs2.ok
  have hcf : commitFault 24 ([] : List Change) [kxChange] = 0 := by decide +kernel
  rcases calm_commitZ [kxChange] hs2.inv hcm (by decide) with ⟨h0, _⟩ | ⟨_, E, S', h1, h2, h3, h4, h5, h6⟩
  · exact absurd hcf h0
  rw [h1] at CC hok
  dsimp only at CC hok
  rw [errV_zero] at CC
  have hr4 : S'.rows = [kxChange] := by rw [h4]; decide +kernel
  have hn6 : S'.next = 2 := by rw [h6]; rfl
  have HS2 := Lib.hid hs2
  have HCC := Lib.hid CC
  have HW2 := Lib.hid hW2
  have HIN := Lib.hid (And.intro h2 (And.intro h3 hok))
  have HR4 := Lib.hid hr4
  have HN6 := Lib.hid hn6
  clear hst hcm hb1 hbd hW2 hs2 hone hfar CC hok hcf h1 h2 h3 h4 h5 h6 hr4 hn6
  go_wp2_with fail
  rw [show w1.alloc (.cells #[.string ⟨#[107]⟩, .string ⟨#[120]⟩, .bool false] 75) = W2 from HW2.out.symm]
  refine HCC.out.mono ?_
  rintro e w3 ⟨rfl, hto⟩
  obtain ⟨L3, lb3, rv3, hs3, hb3, _⟩ := HS2.out.to HB2.out.size hto HIN.out.1 HIN.out.2.2
  have HB3 := Lib.hid (HB2.out.trans hb3)
  have HS3 := Lib.hid hs3
  have CO := Lib.hid (open_std w3 w.heap.size b 24 L3 E S' hs3.d hs3.eq hs3.inv hs3.ok (fun k hk => hs3.low k (Or.inl hk)) HB3.out.size)
  clear hto hs3 hb3
  go_wp2_with fail
  refine CO.out.mono ?_
  rintro e w4 ⟨sb4, lb4, rv4, rfl, hs4, hb4, hsb4, _, _⟩
  have HB4 := Lib.hid (two HB3.out hb4)
  have CR := Lib.hid (store_Rows sb4 lb4 L3 S' 24 rv4 w4 hs4.s (by rw [HR4.out]; decide))
  have HS4 := Lib.hid (HS3.out.below hb4)
  clear hs4 hb4 hsb4
  go_wp2_with fail
  refine CR.out.mono ?_
  rintro e w5 ⟨v5, rfl, ho5, hb5⟩
  rw [HR4.out] at ho5
  obtain ⟨ao5, ac5, rfl, _, _⟩ := own_slice ho5
  have HB5 := Lib.hid (two HB4.out hb5)
  clear ho5 hb5
  go_wp2_with fail
  go_ret
  exact ⟨rfl, HB5.out⟩
theorem StD.lower {w : World} {B B' sb b many lb : Nat} {L : Dk} {rv : Value} {D : DiskS} {S : StS} (h : StD w B sb b many L lb rv D S) (hB : B' ≤ B) : StD w B' sb b many L lb rv D S := ⟨h.d, h.eq, h.s, fun k hk => Nat.le_trans hB (h.low k hk), h.inv, h.ok⟩
theorem StD.armed {w w' : World} {B sb b many lb : Nat} {L : Dk} {rv : Value} {D : DiskS} {S : StS} {n : Int} (h : StD w B sb b many L lb rv D S) (hn : n ≤ 9223372036854775807) (hs : Stepped 81 100 w L (armD D n) w') : StD w' B sb b many L lb rv (armD D n) S := by
  have ho : Off L.foot w w' := hs.2.1.mono (fun k hk => Or.inl hk)
  exact ⟨hs.1, h.eq, h.s.turned ho rfl (fun k hk => Or.inl hk), h.low, h.inv.fuse _, h.ok.arm n hn⟩
theorem StD.checked {w : World} {B sb b many lb : Nat} {L : Dk} {rv : Value} {D : DiskS} {S : StS} (h : StD w B sb b many L lb rv D S) (hE : S.h.epoch ≤ 20000) :
    Calls Try.prog 22 #[.pointer (some ⟨sb, 0, none⟩)] w fun e w' => e = .returned (errV (checkZ many S D).2.2) ∧ StoreTo w L lb sb rv many (checkZ many S D).1 (checkZ many S D).2.1 w' := by
  have hI := h.inv
  have hf1 := hI.f1
  have hm1 := hI.m1
  exact store_Checkpoint sb lb L D S many rv w h.s h.d h.ok hI.parts.2.2.2.1 hI.len (by omega) (fun x hx => (hI.good x hx).1) hI.few (by omega) hI.hok.2.1 hI.hok.2.2.2.1 (by omega) (by rw [hI.parts.2.1]; exact Nat.zero_le _)
/-- what a loop's end, or a fall, leaves. -/
structure LeftZ (w wz : World) (b : Nat) (L : Dk) (E : DiskS) (R1 R2 : List Change) (v1 v2 : Value) : Prop where
  eq : L.b = b
  d : DiskAt wz L E
  ok : E.ok
  back : ∀ keep, ∃ S1, InvZ 24 (restartD E keep) S1 ∧ (S1.rows = R1 ∨ S1.rows = R2) ∧ S1.h.epoch ≤ 60
  low : ∀ k, L.foot k → w.heap.size ≤ k
  r1 : ChangesF L.foot wz v1 R1
  r2 : ChangesF L.foot wz v2 R2
  wt : E.wait.length ≤ 1000
  bw : Below w.heap.size w wz
theorem LeftZ.below {w wz wy : World} {b : Nat} {L : Dk} {E : DiskS} {R1 R2 : List Change} {v1 v2 : Value} (h : LeftZ w wz b L E R1 R2 v1 v2) (hb : Below wz.heap.size wz wy) : LeftZ w wy b L E R1 R2 v1 v2 :=
  ⟨h.eq, h.d.below hb, h.ok, h.back, h.low, h.r1.below hb, h.r2.below hb, h.wt, two h.bw hb⟩
theorem rd_app {w' : World} {v : Value} {rows : List Change} {F : Nat → Prop} {B : Nat} (h : Changes w' v rows) (hf : far0 B v) (hF : ∀ k, F k → k < B) : ChangesF F w' v rows := ⟨h, fun a n c e hn hx => hf a n c e hn (hF _ hx)⟩
set_option maxRecDepth 100000 in
set_option maxHeartbeats 64000000 in
theorem law_TopCrash (vl : Value) (dl : List (List Change)) (fuse keep : Int) (w : World) (h : Deeds (fun x => w.heap.size ≤ x) w vl dl) (hok : ∀ c ∈ dl, ∀ x ∈ c, x.ok) (hf1 : -9223372036854775808 ≤ fuse ∧ fuse ≤ 9223372036854775807) (hk0 : 0 ≤ keep) (hk1 : keep < 18446744073709551616) :
    Calls Try.prog 5 #[vl, .int .i64 fuse, .int .u64 keep] w fun e w' => e = .returned (.bool true) ∧ Below w.heap.size w w' := by
  have CK := Lib.hid (law_kept w)
  have HDL := Lib.hid h
  have HOK := Lib.hid hok
  have HK0 := Lib.hid hk0
  have HK1 := Lib.hid hk1
  obtain ⟨vo, vc, rfl, hvc, hvc'⟩ := h.parts
  clear h hok hk0 hk1
  go_enter Try.func5, Try.ntmps5
  go_wp2_with fail
  refine CK.out.mono ?_
  rintro e w1 ⟨rfl, hb1⟩
  have HB1 := Lib.hid hb1
  have CS := Lib.hid (law_Stored 50 w1 (by decide) (by decide))
  clear hb1
  go_wp2_with fail
  refine CS.out.mono ?_
  rintro e w2 ⟨L0, sb, lb0, rv0, D0, rfl, hst, hcm, hb2, hsb⟩
  obtain ⟨b, hbd⟩ : ∃ b, b = L0.b := ⟨_, rfl⟩
  rw [← hbd] at hst ⊢
  have HB2 := Lib.hid (two HB1.out hb2)
  have HST2 : Hid (StD w2 w.heap.size sb b 24 L0 lb0 rv0 D0 ⟨firstH, 0, []⟩) := Lib.hid (hst.lower HB1.out.size)
  have CLD := Lib.hid (top_lightDeeds _ _ dl 20 w2 (HDL.out.below HB2.out) HOK.out)
  have HBD := Lib.hid hbd
  clear hst hcm hb2 hsb hbd
  go_wp2_with fail
  refine CLD.out.mono ?_
  rintro e w4 ⟨rfl, rfl⟩
  cases hli : lightDeeds dl 20
  · go_wp2_with fail
    go_ret
    exact ⟨rfl, HB2.out⟩
  have HLI : Hid (dl.length ≤ 20 ∧ ∀ c ∈ dl, c.length ≤ 14) := Lib.hid (by
    unfold lightDeeds at hli
    simp only [Bool.and_eq_true, decide_eq_true_eq, List.all_eq_true] at hli
    exact ⟨by omega, fun c hc => by have := light_lenY (hli.2 c hc); omega⟩)
  clear hli
  obtain ⟨FZ, hFZ⟩ : ∃ z : Int, z = min (max fuse (-1)) 400 := ⟨_, rfl⟩
  have CA := disk_Arm L0 D0 FZ w2 HST2.out.d (by omega) (by omega)
  rw [← HBD.out] at CA
  have CA2 := Lib.hid CA
  have HFZ := Lib.hid hFZ
  have HFZM : Hid (FZ ≤ 9223372036854775807) := Lib.hid (by omega)
  clear CA hFZ
  go_wp2_with fail
  rw [← HFZ.out]
  refine CA2.out.mono ?_
  rintro e w5 ⟨rfl, hsp⟩
  have HST5 := Lib.hid (HST2.out.armed HFZM.out hsp)
  have HB5 : Hid (Below w.heap.size w w5) := Lib.hid (HB2.out.trans (hsp.2.1.below w.heap.size HB2.out.size (fun x hx => HST2.out.low x (Or.inl (Or.inl hx)))))
  clear hsp
  go_upto_block 0 with fail
  go_cut [10, 11, 12, 13] from 36 to 72 (fun v10 v11 v12 v13 wz => ∃ (L : Dk) (E : DiskS) (R1 R2 : List Change), LeftZ w wz b L E R1 R2 v10 v11)
  case first =>
    go_wp2_with fail
    go_loopw [10, 11, 12, 13] (fun wv lv iv ev wr => ∃ (k lb : Nat) (L : Dk) (D : DiskS) (S : StS) (rv : Value), k ≤ dl.length ∧ iv = .int .i64 k ∧ StD wr w.heap.size sb b 24 L lb rv D S ∧ ChangesF (stF L lb sb) wr wv S.rows ∧ ChangesF (stF L lb sb) wr lv S.rows ∧ S.h.epoch ≤ 1 + 2 * k ∧ Below w.heap.size w wr) (fun _ _ iv _ _ => dl.length - (intOf iv).toNat)
    case atStart => exact ⟨0, lb0, L0, _, ⟨firstH, 0, []⟩, rv0, Nat.zero_le _, rfl, HST5.out, ⟨Rd.nil _, fun a n c h => by cases h⟩, ⟨Rd.nil _, fun a n c h => by cases h⟩, Nat.le_refl _, HB5.out⟩
    case round =>
      clear HST5 HB5 HST2
      obtain ⟨k, lb, L, D, S, rv, hk, rfl, hst, hw, hl, hep, hbw⟩ := hrel
      obtain ⟨wo, wc, rfl, hwc, hwc'⟩ := hw.rd.parts
      obtain ⟨lo, lc, rfl, hlc, hlc'⟩ := hl.rd.parts
      have HST := Lib.hid hst
      have HW := Lib.hid hw
      have HL := Lib.hid hl
      have HEP := Lib.hid hep
      have HBW := Lib.hid hbw
      clear hst hw hl hep hbw
      by_cases hlt : k < dl.length
      · obtain ⟨ba, oa, cv, hvo, x0, hcv⟩ := HDL.out.cell k hlt
        subst hvo
        obtain ⟨c, hc⟩ : ∃ c, c = dl[k] := ⟨_, rfl⟩
        rw [← hc] at hcv
        have hc14 : c.length ≤ 14 := by rw [hc]; exact HLI.out.2 _ (List.getElem_mem hlt)
        have hco : ∀ x ∈ c, x.ok := by rw [hc]; exact HOK.out _ (List.getElem_mem hlt)
        obtain ⟨co, cc, rfl, hcc, hcc'⟩ := hcv.rd.parts
        have HCV := Lib.hid hcv.rd
        have HCO := Lib.hid hco
        have HK20 : Hid (k ≤ 20) := Lib.hid (by have := HLI.out.1; omega)
        have HY : Hid (∀ W, Below w.heap.size w W → W.cell? ⟨ba, oa + k, none⟩ = some (.slice co c.length cc)) := Lib.hid fun W hW => cell_on' hW x0
        have hm5 : Int.tmod (k : Int) 5 = ((k % 5 : Nat) : Int) := rfl
        clear hc hco x0 hcv
        by_cases h5 : k % 5 = 4
        · have h5' : ((k % 5 : Nat) : Int) = 4 := by omega
          have CC := HST.out.checked (by have := HEP.out; have := HK20.out; omega)
          have hcs := checkZ_cases HST.out.inv (by have := HEP.out; have := HK20.out; omega)
          have hok2 := keep_checkZ keptY_ok 24 S D HST.out.ok
          have hwt2 := wait_checkZ HST.out.inv
          obtain ⟨⟨D2, S2, n2⟩, hp⟩ : ∃ p, p = checkZ 24 S D := ⟨_, rfl⟩
          rw [← hp] at CC hcs hok2 hwt2
          dsimp only at CC hok2 hwt2
          have HCC := Lib.hid CC
          have HCS := Lib.hid hcs
          have HOK2 := Lib.hid hok2
          have HWT2 := Lib.hid hwt2
          have CNM := Lib.hid (fun W => top_numY n2 W)
          clear CC hcs hok2 hwt2 hp
          go_wp2_with fail
          refine HCC.out.mono ?_
          rintro e wA ⟨rfl, hto⟩
          have HTA := Lib.hid hto
          clear hto
          go_wp2_with fail
          refine (CNM.out _).mono ?_
          rintro e wB ⟨rfl, rfl⟩
          rcases HCS.out with ⟨E', S', he, hI', hr', hn', hep'⟩ | ⟨E', he, hdn, hbk⟩
          · simp only [Prod.mk.injEq] at he
            obtain ⟨hd2, hs2, hn2⟩ := he
            obtain ⟨L2, lb2, rv2, hs', hb', ho', hg', _⟩ := HST.out.to HBW.out.size HTA.out (by rw [hd2, hs2]; exact hI') HOK2.out
            have hr2 : S2.rows = S.rows := by rw [hs2]; exact hr'
            have HSTC := Lib.hid hs'
            have HBC := Lib.hid (HBW.out.trans hb')
            have HWC : Hid (ChangesF (stF L2 lb2 sb) wB (.slice wo S.rows.length wc) S2.rows) := Lib.hid (by rw [hr2]; exact HW.out.turned (G := stF L2 lb2 sb) (by decide) ho' hg')
            have HLC : Hid (ChangesF (stF L2 lb2 sb) wB (.slice lo S.rows.length lc) S2.rows) := Lib.hid (by rw [hr2]; exact HL.out.turned (G := stF L2 lb2 sb) (by decide) ho' hg')
            have HEPC : Hid (S2.h.epoch ≤ 2 + 2 * k) := Lib.hid (by rw [hs2]; have := HEP.out; omega)
            have hn8' : ¬ ((n2 : Nat) : Int) = 8 := by omega
            clear hd2 hs2 hn2 hI' hr' hn' hep' hs' hb' ho' hg' hr2
            have CC := store_Commit sb lb2 L2 D2 S2 24 rv2 _ c wB HSTC.out.s HSTC.out.d HSTC.out.ok HSTC.out.inv (by have := HEPC.out; have := HK20.out; omega) ((Rd.outside HCV.out (by decide) HSTC.out.low).below HBC.out) HCO.out (by omega)
            have hcs := commit_cases c HSTC.out.inv (by have := HEPC.out; have := HK20.out; omega)
            have hok3 := keep_commit keptY_ok 24 S2 c D2 HSTC.out.ok
            have hwt3 := wait_commitZ c HSTC.out.inv
            have hf8 := commitFault_not8 24 S2.rows c
            obtain ⟨⟨D3, S3, n3⟩, hp3⟩ : ∃ p, p = commitZ 24 S2 c D2 := ⟨_, rfl⟩
            rw [← hp3] at CC hcs hok3 hwt3
            dsimp only at CC hok3 hwt3
            have HCC3 := Lib.hid CC
            have HCS3 := Lib.hid hcs
            have HF8 := Lib.hid hf8
            have HOK3 := Lib.hid hok3
            have HWT3 := Lib.hid hwt3
            have y5 := HY.out _ HBC.out
            clear CC hcs hok3 hwt3 hf8 hp3
            go_wp2_with fail
            refine HCC3.out.mono ?_
            rintro e wD ⟨rfl, hto⟩
            have HTO := Lib.hid hto
            have HBD3 : Hid (Below w.heap.size w wD) := Lib.hid (by
              obtain ⟨_, _, _, _, _, _, o, _, _⟩ := hto
              exact HBC.out.trans (o.below _ HBC.out.size HSTC.out.low))
            clear hto y5
            have y5 := HY.out _ HBD3.out
            rcases HCS3.out with ⟨hf, he⟩ | ⟨hf, E', S', he, hI', hr', he', hn'⟩ | ⟨hf, E', S', he, hdn, hbk⟩
            · simp only [Prod.mk.injEq] at he
              obtain ⟨hd3, hs3, hn3⟩ := he
              have hn0 : n3 ≠ 0 := by rw [hn3]; exact hf
              have hn8 : ¬ ((n3 : Nat) : Int) = 8 := by
                have := HF8.out
                rw [← hn3] at this
                omega
              obtain ⟨L3, lb3, rv3, hs', hb', ho', hg', _⟩ := HSTC.out.to HBC.out.size HTO.out (by rw [hd3, hs3]; exact HSTC.out.inv) HOK3.out
              have HS3 := Lib.hid hs'
              have HB3 := Lib.hid (HBC.out.trans hb')
              have HW3 := Lib.hid (HWC.out.turned (G := stF L3 lb3 sb) (by decide) ho' hg')
              have HL3 := Lib.hid (HLC.out.turned (G := stF L3 lb3 sb) (by decide) ho' hg')
              have HSS := Lib.hid hs3
              have CNM3 := Lib.hid (fun W => top_numY n3 W)
              rw [errV_pos hn0] at CNM3 ⊢
              clear hf hd3 hs3 hn3 hn0 hs' hb' ho' hg'
              go_wp2_with fail
              refine (CNM3.out _).mono ?_
              rintro e wE ⟨rfl, rfl⟩
              go_wp2_with fail
              go_roundw
              case rel => exact ⟨k + 1, lb3, L3, D3, S3, rv3, by omega, by go_num, HS3.out, by rw [HSS.out]; exact HW3.out, by rw [HSS.out]; exact HL3.out, by rw [HSS.out]; have := HEPC.out; omega, HB3.out⟩
              case measure => simp [intOf]; omega
            · simp only [Prod.mk.injEq] at he
              obtain ⟨hd3, hs3, hn3⟩ := he
              obtain ⟨L3, lb3, rv3, hs', hb', ho', hg', _⟩ := HSTC.out.to HBC.out.size HTO.out (by rw [hd3, hs3]; exact hI') HOK3.out
              have HS3 := Lib.hid hs'
              have HB3 := Lib.hid (HBC.out.trans hb')
              have HW3 := Lib.hid (HWC.out.turned (G := stF L3 lb3 sb) (by decide) ho' hg')
              have HR3 : Hid (S3.rows = appsTo S2.rows c c.length) := Lib.hid (by rw [hs3]; exact hr')
              have HE3 : Hid (S3.h.epoch ≤ S2.h.epoch + 1) := Lib.hid (by rw [hs3]; exact he')
              have CAP := Lib.hid (ref_AppliedO _ _ S2.rows c wD HW3.out.rd (HCV.out.below HB3.out) HSTC.out.inv.rises (by have := HSTC.out.inv.few; omega) (by omega))
              rw [show errV n3 = .nilIface by rw [hn3]; rfl]
              clear hf hd3 hs3 hn3 hI' hr' he' hn' hs' hb' ho' hg'
              go_wp2_with fail
              refine CAP.out.mono ?_
              rintro e wE ⟨v, rfl, hv, hfv, hbE⟩
              have HVF : Hid (ChangesF (stF L3 lb3 sb) wE v S3.rows) := Lib.hid (by rw [HR3.out]; exact rd_app hv hfv HS3.out.lt)
              have HBE := Lib.hid (two HB3.out hbE)
              have HSE := Lib.hid (HS3.out.below hbE)
              clear hv hfv hbE
              go_wp2_with fail
              go_roundw
              case rel => exact ⟨k + 1, lb3, L3, D3, S3, rv3, by omega, by go_num, HSE.out, HVF.out, HVF.out, by have := HE3.out; have := HEPC.out; omega, HBE.out⟩
              case measure => simp [intOf]; omega
            · simp only [Prod.mk.injEq] at he
              obtain ⟨hd3, hs3, hn3⟩ := he
              obtain ⟨L3, lb3, rv3, e3, d3, s3, o3, g3, f3⟩ := HTO.out
              have HW3 := Lib.hid (HWC.out.turned (G := stF L3 lb3 sb) (by decide) o3 g3)
              have HLW3 : Hid (∀ k, stF L3 lb3 sb k → w.heap.size ≤ k) := Lib.hid (fun k hk => by
                rcases g3 k hk with h | h
                · exact HSTC.out.low k h
                · have := HBC.out.size; omega)
              have HLT3 : Hid (∀ k, stF L3 lb3 sb k → k < wD.heap.size) := Lib.hid (fun k hk => by
                rcases hk with hk | hk | hk
                · exact d3.lt _ hk
                · rw [hk]; exact (Array.getElem?_eq_some_iff.1 s3.log.box).1
                · rw [hk]; exact s3.lt)
              have HBK : Hid (∀ keep, ∃ S1, InvZ 24 (restartD D3 keep) S1 ∧ (S1.rows = S2.rows ∨ S1.rows = appsTo S2.rows c c.length) ∧ S1.h.epoch ≤ 60) := Lib.hid (fun keep => by
                obtain ⟨S1, h1, h2, h3⟩ := hbk keep
                rw [hd3]
                exact ⟨S1, h1, h2, by have := HEPC.out; have := HK20.out; omega⟩)
              have HD3 : Hid (L3.b = b ∧ DiskAt wD L3 D3) := Lib.hid ⟨e3.trans HSTC.out.eq, d3⟩
              have CAP := Lib.hid (ref_AppliedO _ _ S2.rows c wD HW3.out.rd (HCV.out.below HBD3.out) HSTC.out.inv.rises (by have := HSTC.out.inv.few; omega) (by omega))
              subst hn3
              have hn0 : (8 : Nat) ≠ 0 := by decide
              have CNM3 : Hid (∀ W, Calls Try.prog 21 #[.iface 70 (.int .i64 8)] W fun e w' => e = .returned (.int .i64 8) ∧ w' = W) := Lib.hid (fun W => by
                have := top_numY 8 W
                rw [errV_pos hn0] at this
                exact this)
              rw [errV_pos hn0]
              clear hf hd3 hs3 hn0 hdn hbk e3 d3 s3 o3 g3 f3
              go_wp2_with fail
              refine (CNM3.out _).mono ?_
              rintro e wE ⟨rfl, rfl⟩
              go_wp2_with fail
              refine CAP.out.mono ?_
              rintro e wE ⟨v, rfl, hv, hfv, hbE⟩
              have HVF : Hid (ChangesF (stF L3 lb3 sb) wE v (appsTo S2.rows c c.length)) := Lib.hid (rd_app hv hfv HLT3.out)
              have HBE := Lib.hid hbE
              clear hv hfv hbE
              go_wp2_with fail
              go_meet
              exact ⟨L3, D3, S2.rows, appsTo S2.rows c c.length, HD3.out.1, HD3.out.2.below HBE.out, HOK3.out, HBK.out, fun k hk => HLW3.out k (Or.inl hk), (HW3.out.below HBE.out).moved (by decide) (fun x hx => Or.inl (Or.inl hx)), HVF.out.moved (by decide) (fun x hx => Or.inl (Or.inl hx)), by have := HWT3.out; omega, two HBD3.out HBE.out⟩
          · simp only [Prod.mk.injEq] at he
            obtain ⟨hd2, hs2, hn2⟩ := he
            have hn8' : ((n2 : Nat) : Int) = 8 := by omega
            have HBK : Hid (∀ keep, ∃ S1, InvZ 24 (restartD D2 keep) S1 ∧ (S1.rows = S.rows ∨ S1.rows = S.rows) ∧ S1.h.epoch ≤ 60) := Lib.hid (fun keep => by
              obtain ⟨S1, h1, h2, h3⟩ := hbk keep
              rw [hd2]
              exact ⟨S1, h1, Or.inl h2, by have := HEP.out; have := HK20.out; omega⟩)
            obtain ⟨L2, lb2, rv2, e2, d2, s2, o2, g2, f2⟩ := HTA.out
            have HFIN : Hid (LeftZ w wB b L2 D2 S.rows S.rows (.slice wo S.rows.length wc) (.slice lo S.rows.length lc)) := Lib.hid ⟨e2.trans HST.out.eq, d2, HOK2.out, HBK.out, fun k hk => (by
                rcases g2 k (Or.inl hk) with h | h
                · exact HST.out.low k h
                · have := HBW.out.size; omega), (HW.out.turned (G := stF L2 lb2 sb) (by decide) o2 g2).moved (by decide) (fun x hx => Or.inl (Or.inl hx)), (HL.out.turned (G := stF L2 lb2 sb) (by decide) o2 g2).moved (by decide) (fun x hx => Or.inl (Or.inl hx)), by have := HWT2.out; omega, HBW.out.trans (o2.below _ HBW.out.size HST.out.low)⟩
            clear hd2 hs2 hn2 hdn hbk e2 d2 s2 o2 g2 f2
            go_wp2_with fail
            go_meet
            exact ⟨L2, D2, S.rows, S.rows, HFIN.out⟩
        · have h5' : ¬ ((k % 5 : Nat) : Int) = 4 := by omega
          have CC := store_Commit sb lb L D S 24 rv _ c wr HST.out.s HST.out.d HST.out.ok HST.out.inv (by have := HEP.out; have := HK20.out; omega) ((Rd.outside HCV.out (by decide) HST.out.low).below HBW.out) HCO.out (by omega)
          have hcs := commit_cases c HST.out.inv (by have := HEP.out; have := HK20.out; omega)
          have hok3 := keep_commit keptY_ok 24 S c D HST.out.ok
          have hwt3 := wait_commitZ c HST.out.inv
          have hf8 := commitFault_not8 24 S.rows c
          obtain ⟨⟨D3, S3, n3⟩, hp3⟩ : ∃ p, p = commitZ 24 S c D := ⟨_, rfl⟩
          rw [← hp3] at CC hcs hok3 hwt3
          dsimp only at CC hok3 hwt3
          have HCC3 := Lib.hid CC
          have HCS3 := Lib.hid hcs
          have HF8 := Lib.hid hf8
          have HOK3 := Lib.hid hok3
          have HWT3 := Lib.hid hwt3
          have y5 := HY.out _ HBW.out
          clear CC hcs hok3 hwt3 hf8 hp3
          go_wp2_with fail
          refine HCC3.out.mono ?_
          rintro e wD ⟨rfl, hto⟩
          have HTO := Lib.hid hto
          have HBD3 : Hid (Below w.heap.size w wD) := Lib.hid (by
            obtain ⟨_, _, _, _, _, _, o, _, _⟩ := hto
            exact HBW.out.trans (o.below _ HBW.out.size HST.out.low))
          clear hto y5
          have y5 := HY.out _ HBD3.out
          rcases HCS3.out with ⟨hf, he⟩ | ⟨hf, E', S', he, hI', hr', he', hn'⟩ | ⟨hf, E', S', he, hdn, hbk⟩
          · simp only [Prod.mk.injEq] at he
            obtain ⟨hd3, hs3, hn3⟩ := he
            have hn0 : n3 ≠ 0 := by rw [hn3]; exact hf
            have hn8 : ¬ ((n3 : Nat) : Int) = 8 := by
              have := HF8.out
              rw [← hn3] at this
              omega
            obtain ⟨L3, lb3, rv3, hs', hb', ho', hg', _⟩ := HST.out.to HBW.out.size HTO.out (by rw [hd3, hs3]; exact HST.out.inv) HOK3.out
            have HS3 := Lib.hid hs'
            have HB3 := Lib.hid (HBW.out.trans hb')
            have HW3 := Lib.hid (HW.out.turned (G := stF L3 lb3 sb) (by decide) ho' hg')
            have HL3 := Lib.hid (HL.out.turned (G := stF L3 lb3 sb) (by decide) ho' hg')
            have HSS := Lib.hid hs3
            have CNM3 := Lib.hid (fun W => top_numY n3 W)
            rw [errV_pos hn0] at CNM3 ⊢
            clear hf hd3 hs3 hn3 hn0 hs' hb' ho' hg'
            go_wp2_with fail
            refine (CNM3.out _).mono ?_
            rintro e wE ⟨rfl, rfl⟩
            go_wp2_with fail
            go_roundw
            case rel => exact ⟨k + 1, lb3, L3, D3, S3, rv3, by omega, by go_num, HS3.out, by rw [HSS.out]; exact HW3.out, by rw [HSS.out]; exact HL3.out, by rw [HSS.out]; have := HEP.out; omega, HB3.out⟩
            case measure => simp [intOf]; omega
          · simp only [Prod.mk.injEq] at he
            obtain ⟨hd3, hs3, hn3⟩ := he
            obtain ⟨L3, lb3, rv3, hs', hb', ho', hg', _⟩ := HST.out.to HBW.out.size HTO.out (by rw [hd3, hs3]; exact hI') HOK3.out
            have HS3 := Lib.hid hs'
            have HB3 := Lib.hid (HBW.out.trans hb')
            have HW3 := Lib.hid (HW.out.turned (G := stF L3 lb3 sb) (by decide) ho' hg')
            have HR3 : Hid (S3.rows = appsTo S.rows c c.length) := Lib.hid (by rw [hs3]; exact hr')
            have HE3 : Hid (S3.h.epoch ≤ S.h.epoch + 1) := Lib.hid (by rw [hs3]; exact he')
            have CAP := Lib.hid (ref_AppliedO _ _ S.rows c wD HW3.out.rd (HCV.out.below HB3.out) HST.out.inv.rises (by have := HST.out.inv.few; omega) (by omega))
            rw [show errV n3 = .nilIface by rw [hn3]; rfl]
            clear hf hd3 hs3 hn3 hI' hr' he' hn' hs' hb' ho' hg'
            go_wp2_with fail
            refine CAP.out.mono ?_
            rintro e wE ⟨v, rfl, hv, hfv, hbE⟩
            have HVF : Hid (ChangesF (stF L3 lb3 sb) wE v S3.rows) := Lib.hid (by rw [HR3.out]; exact rd_app hv hfv HS3.out.lt)
            have HBE := Lib.hid (two HB3.out hbE)
            have HSE := Lib.hid (HS3.out.below hbE)
            clear hv hfv hbE
            go_wp2_with fail
            go_roundw
            case rel => exact ⟨k + 1, lb3, L3, D3, S3, rv3, by omega, by go_num, HSE.out, HVF.out, HVF.out, by have := HE3.out; have := HEP.out; omega, HBE.out⟩
            case measure => simp [intOf]; omega
          · simp only [Prod.mk.injEq] at he
            obtain ⟨hd3, hs3, hn3⟩ := he
            obtain ⟨L3, lb3, rv3, e3, d3, s3, o3, g3, f3⟩ := HTO.out
            have HW3 := Lib.hid (HW.out.turned (G := stF L3 lb3 sb) (by decide) o3 g3)
            have HLW3 : Hid (∀ k, stF L3 lb3 sb k → w.heap.size ≤ k) := Lib.hid (fun k hk => by
              rcases g3 k hk with h | h
              · exact HST.out.low k h
              · have := HBW.out.size; omega)
            have HLT3 : Hid (∀ k, stF L3 lb3 sb k → k < wD.heap.size) := Lib.hid (fun k hk => by
              rcases hk with hk | hk | hk
              · exact d3.lt _ hk
              · rw [hk]; exact (Array.getElem?_eq_some_iff.1 s3.log.box).1
              · rw [hk]; exact s3.lt)
            have HBK : Hid (∀ keep, ∃ S1, InvZ 24 (restartD D3 keep) S1 ∧ (S1.rows = S.rows ∨ S1.rows = appsTo S.rows c c.length) ∧ S1.h.epoch ≤ 60) := Lib.hid (fun keep => by
              obtain ⟨S1, h1, h2, h3⟩ := hbk keep
              rw [hd3]
              exact ⟨S1, h1, h2, by have := HEP.out; have := HK20.out; omega⟩)
            have HD3 : Hid (L3.b = b ∧ DiskAt wD L3 D3) := Lib.hid ⟨e3.trans HST.out.eq, d3⟩
            have CAP := Lib.hid (ref_AppliedO _ _ S.rows c wD HW3.out.rd (HCV.out.below HBD3.out) HST.out.inv.rises (by have := HST.out.inv.few; omega) (by omega))
            subst hn3
            have hn0 : (8 : Nat) ≠ 0 := by decide
            have CNM3 : Hid (∀ W, Calls Try.prog 21 #[.iface 70 (.int .i64 8)] W fun e w' => e = .returned (.int .i64 8) ∧ w' = W) := Lib.hid (fun W => by
              have := top_numY 8 W
              rw [errV_pos hn0] at this
              exact this)
            rw [errV_pos hn0]
            clear hf hd3 hs3 hn0 hdn hbk e3 d3 s3 o3 g3 f3
            go_wp2_with fail
            refine (CNM3.out _).mono ?_
            rintro e wE ⟨rfl, rfl⟩
            go_wp2_with fail
            refine CAP.out.mono ?_
            rintro e wE ⟨v, rfl, hv, hfv, hbE⟩
            have HVF : Hid (ChangesF (stF L3 lb3 sb) wE v (appsTo S.rows c c.length)) := Lib.hid (rd_app hv hfv HLT3.out)
            have HBE := Lib.hid hbE
            clear hv hfv hbE
            go_wp2_with fail
            go_meet
            exact ⟨L3, D3, S.rows, appsTo S.rows c c.length, HD3.out.1, HD3.out.2.below HBE.out, HOK3.out, HBK.out, fun k hk => HLW3.out k (Or.inl hk), (HW3.out.below HBE.out).moved (by decide) (fun x hx => Or.inl (Or.inl hx)), HVF.out.moved (by decide) (fun x hx => Or.inl (Or.inl hx)), by have := HWT3.out; omega, two HBD3.out HBE.out⟩
      · obtain rfl : k = dl.length := by omega
        have HFIN : Hid (LeftZ w wr b L D S.rows S.rows (.slice wo S.rows.length wc) (.slice lo S.rows.length lc)) := Lib.hid ⟨HST.out.eq, HST.out.d, HST.out.ok, fun keep => ⟨S, HST.out.inv.restart keep, Or.inl rfl, by have := HEP.out; have := HLI.out.1; omega⟩, fun k hk => HST.out.low k (Or.inl hk), HW.out.moved (by decide) (fun x hx => Or.inl (Or.inl hx)), HL.out.moved (by decide) (fun x hx => Or.inl (Or.inl hx)), by rw [HST.out.inv.parts.2.1]; exact Nat.zero_le _, HBW.out⟩
        go_wp2_with fail
        go_meet
        exact ⟨L, D, S.rows, S.rows, HFIN.out⟩
  case rest =>
  obtain ⟨L, E, R1, R2, hcut⟩ := hcut
  obtain ⟨wo, wcp, rfl, hwc, hwc'⟩ := hcut.r1.rd.parts
  obtain ⟨lo, lcp, rfl, hlc, hlc'⟩ := hcut.r2.rd.parts
  have CR := disk_Restart L E keep wc hcut.d hcut.ok HK0.out HK1.out (by have := hcut.wt; omega)
  rw [hcut.eq] at CR
  have HCR := Lib.hid CR
  have HCUT := Lib.hid hcut
  clear CR hcut
  go_wp2_with fail
  refine HCR.out.mono ?_
  rintro e w6 ⟨rfl, ⟨L6, e6, d6, o6, g6⟩⟩
  obtain ⟨S1, hI1, hR1, hE1⟩ := HCUT.out.back keep
  have o6' : Off L.foot wc w6 := ⟨o6.os, o6.tape, o6.output, o6.size, o6.block⟩
  have HB6 : Hid (Below w.heap.size w w6) := Lib.hid (HCUT.out.bw.trans (o6'.below _ HCUT.out.bw.size HCUT.out.low))
  have HR16 : Hid (Changes w6 (.slice wo R1.length wcp) R1) := Lib.hid (HCUT.out.r1.off o6').rd
  have HR26 : Hid (Changes w6 (.slice lo R2.length lcp) R2) := Lib.hid (HCUT.out.r2.off o6').rd
  have hlow6 : ∀ k, L6.foot k → w.heap.size ≤ k := fun k hk => by
    rcases g6 k hk with h | h
    · exact HCUT.out.low k h
    · have h' : wc.heap.size ≤ k := h
      have := HCUT.out.bw.size; omega
  have CO := Lib.hid (open_std w6 w.heap.size b 24 L6 (restartD E keep) S1 d6 (e6.trans HCUT.out.eq) hI1 (HCUT.out.ok.restart keep) hlow6 HB6.out.size)
  have HR1 := Lib.hid hR1
  have HE1 := Lib.hid hE1
  clear e6 d6 o6 o6' g6 hI1 hR1 hE1 hlow6
  go_wp2_with fail
  refine CO.out.mono ?_
  rintro e w7 ⟨sb2, lb2, rv2, rfl, hst, hb7, hsb, hlb, hfr⟩
  have HST7 := Lib.hid hst
  have HB67 := Lib.hid hb7
  have HB7 := Lib.hid (two HB6.out hb7)
  have CRW := Lib.hid (store_Rows sb2 lb2 L6 S1 24 rv2 w7 hst.s (by have := hst.inv.few; omega))
  clear hst hb7 hsb hlb hfr
  go_wp2_with fail
  refine CRW.out.mono ?_
  rintro e w8 ⟨v8, rfl, ho8, hb8⟩
  obtain ⟨ao8, ac8, rfl, hac8, hac8'⟩ := own_slice ho8
  have HV8 : Hid (ChangesF (stF L6 lb2 sb2) w8 (.slice ao8 S1.rows.length ac8) S1.rows) := Lib.hid ⟨SL.of_own ho8, fun a n c e hn hx => far_own ho8 a n c e hn (HST7.out.lt _ hx)⟩
  have HB8 := Lib.hid (two HB7.out hb8)
  have HST8 := Lib.hid (HST7.out.below hb8)
  have CS1 := Lib.hid (ref_SameChanges _ _ S1.rows R1 w8 HV8.out.rd ((Rd.below HR16.out HB67.out).below hb8))
  have HR28 : Hid (Changes w8 (.slice lo R2.length lcp) R2) := Lib.hid ((Rd.below HR26.out HB67.out).below hb8)
  clear ho8 hb8
  go_wp2_with fail
  refine CS1.out.mono ?_
  rintro e w9 ⟨rfl, hb9⟩
  have HB9 := Lib.hid (two HB8.out hb9)
  have HST9 := Lib.hid (HST8.out.below hb9)
  have HV9 := Lib.hid (HV8.out.below hb9)
  have HR29 := Lib.hid (Rd.below HR28.out hb9)
  clear hb9
  by_cases h1 : S1.rows = R1
  · rw [decide_eq_true h1]
    clear h1
    have CC := store_Commit sb2 lb2 L6 (restartD E keep) S1 24 rv2 (.slice none 0 0) [] w9 HST9.out.s HST9.out.d HST9.out.ok HST9.out.inv (by have := HE1.out; omega) ⟨Rd.nil _, fun a n c h => by cases h⟩ (fun x hx => by cases hx) (by decide)
    have hokA := keep_commit keptY_ok 24 S1 [] (restartD E keep) HST9.out.ok
    obtain ⟨EA, SA, hpA, hIA, hCA, hrA, heA⟩ : ∃ EA SA, commitZ 24 S1 [] (restartD E keep) = (EA, SA, 0) ∧ InvZ 24 EA SA ∧ Calm EA ∧ SA.rows = S1.rows ∧ SA.h.epoch ≤ 61 := by
      rcases calm_commitZ [] HST9.out.inv (restart_calm E keep) (by have := HE1.out; omega) with ⟨h0, _⟩ | ⟨_, E', S', h1, h2, h3, h4, h5, _⟩
      · exact absurd (commit_nil HST9.out.inv) h0
      · refine ⟨E', S', h1, h2, h3, ?_, by have := HE1.out; omega⟩
        rw [h4, apps_fold]; rfl
    rw [hpA] at CC hokA
    dsimp only at CC hokA
    rw [errV_zero] at CC
    have HCC := Lib.hid CC
    have HIA := Lib.hid (And.intro hIA (And.intro hCA hokA))
    have HRA := Lib.hid hrA
    have HEA := Lib.hid heA
    clear CC hokA hpA hIA hCA hrA heA
    go_wp2_with fail
    refine HCC.out.mono ?_
    rintro e wA ⟨rfl, hto⟩
    obtain ⟨LA, lbA, rvA, hsA, hbA, hoA, hgA, _⟩ := HST9.out.to HB9.out.size hto HIA.out.1 HIA.out.2.2
    have HVA := Lib.hid (HV9.out.turned (G := stF LA lbA sb2) (by decide) hoA hgA)
    have HSA := Lib.hid hsA
    have HBA := Lib.hid (HB9.out.trans hbA)
    have CB := hsA.checked (by have := HEA.out; omega)
    have hokB := keep_checkZ keptY_ok 24 SA EA hsA.ok
    obtain ⟨EB, SB, hpB, hIB, hCB, hrB, hnB, heB⟩ := calm_checkZ HIA.out.1 HIA.out.2.1 (by have := HEA.out; omega)
    rw [hpB] at CB hokB
    dsimp only at CB hokB
    rw [errV_zero] at CB
    have HCB := Lib.hid CB
    have HIB := Lib.hid (And.intro hIB hokB)
    have HRB : Hid (SB.rows = S1.rows) := Lib.hid (hrB.trans HRA.out)
    clear hto hsA hbA hoA hgA CB hokB hpB hIB hCB hrB hnB heB
    go_wp2_with fail
    refine HCB.out.mono ?_
    rintro e wB ⟨rfl, hto⟩
    obtain ⟨LB, lbB, rvB, hsB, hbB, hoB, hgB, _⟩ := HSA.out.to HBA.out.size hto HIB.out.1 HIB.out.2
    have HVB := Lib.hid (HVA.out.turned (G := stF LB lbB sb2) (by decide) hoB hgB)
    have HBB := Lib.hid (HBA.out.trans hbB)
    have CO := Lib.hid (open_std wB w.heap.size b 24 LB EB SB hsB.d hsB.eq hsB.inv hsB.ok (fun k hk => hsB.low k (Or.inl hk)) HBB.out.size)
    clear hto hsB hbB hoB hgB
    go_wp2_with fail
    refine CO.out.mono ?_
    rintro e wC ⟨sb3, lb3, rv3, rfl, hs3, hbC, _, _, _⟩
    have HBC := Lib.hid (two HBB.out hbC)
    have HVC := Lib.hid (HVB.out.below hbC)
    have CR3 := Lib.hid (store_Rows sb3 lb3 LB SB 24 rv3 wC hs3.s (by have := hs3.inv.few; omega))
    clear hs3 hbC
    go_wp2_with fail
    refine CR3.out.mono ?_
    rintro e wE ⟨v3, rfl, ho3, hbE⟩
    have HBE := Lib.hid (two HBC.out hbE)
    have CS3 := ref_SameChanges v3 _ SB.rows S1.rows wE (SL.of_own ho3) (HVC.out.below hbE).rd
    rw [decide_eq_true HRB.out] at CS3
    have HCS3 := Lib.hid CS3
    obtain ⟨ao3, ac3, rfl, _, _⟩ := own_slice ho3
    clear ho3 hbE CS3
    go_wp2_with fail
    refine HCS3.out.mono ?_
    rintro e wF ⟨rfl, hbF⟩
    have HBF := Lib.hid (two HBE.out hbF)
    clear hbF
    go_wp2_with fail
    go_ret
    exact ⟨rfl, HBF.out⟩
  · have h2 : S1.rows = R2 := by
      rcases HR1.out with h | h
      · exact absurd h h1
      · exact h
    have CS2 := ref_SameChanges _ _ S1.rows R2 w9 HV9.out.rd HR29.out
    rw [decide_eq_true h2] at CS2
    have HCS2 := Lib.hid CS2
    rw [decide_eq_false h1]
    clear h1 h2 CS2
    go_wp2_with fail
    refine HCS2.out.mono ?_
    rintro e wZ ⟨rfl, hbZ⟩
    replace HB9 := Lib.hid (two HB9.out hbZ)
    replace HST9 := Lib.hid (HST9.out.below hbZ)
    replace HV9 := Lib.hid (HV9.out.below hbZ)
    clear hbZ HR29
    obtain ⟨w9', hw9'⟩ : ∃ W, W = wZ := ⟨_, rfl⟩
    have CC := store_Commit sb2 lb2 L6 (restartD E keep) S1 24 rv2 (.slice none 0 0) [] wZ HST9.out.s HST9.out.d HST9.out.ok HST9.out.inv (by have := HE1.out; omega) ⟨Rd.nil _, fun a n c h => by cases h⟩ (fun x hx => by cases hx) (by decide)
    have hokA := keep_commit keptY_ok 24 S1 [] (restartD E keep) HST9.out.ok
    obtain ⟨EA, SA, hpA, hIA, hCA, hrA, heA⟩ : ∃ EA SA, commitZ 24 S1 [] (restartD E keep) = (EA, SA, 0) ∧ InvZ 24 EA SA ∧ Calm EA ∧ SA.rows = S1.rows ∧ SA.h.epoch ≤ 61 := by
      rcases calm_commitZ [] HST9.out.inv (restart_calm E keep) (by have := HE1.out; omega) with ⟨h0, _⟩ | ⟨_, E', S', h1, h2, h3, h4, h5, _⟩
      · exact absurd (commit_nil HST9.out.inv) h0
      · refine ⟨E', S', h1, h2, h3, ?_, by have := HE1.out; omega⟩
        rw [h4, apps_fold]; rfl
    rw [hpA] at CC hokA
    dsimp only at CC hokA
    rw [errV_zero] at CC
    have HCC := Lib.hid CC
    have HIA := Lib.hid (And.intro hIA (And.intro hCA hokA))
    have HRA := Lib.hid hrA
    have HEA := Lib.hid heA
    clear CC hokA hpA hIA hCA hrA heA
    go_wp2_with fail
    refine HCC.out.mono ?_
    rintro e wA ⟨rfl, hto⟩
    obtain ⟨LA, lbA, rvA, hsA, hbA, hoA, hgA, _⟩ := HST9.out.to HB9.out.size hto HIA.out.1 HIA.out.2.2
    have HVA := Lib.hid (HV9.out.turned (G := stF LA lbA sb2) (by decide) hoA hgA)
    have HSA := Lib.hid hsA
    have HBA := Lib.hid (HB9.out.trans hbA)
    have CB := hsA.checked (by have := HEA.out; omega)
    have hokB := keep_checkZ keptY_ok 24 SA EA hsA.ok
    obtain ⟨EB, SB, hpB, hIB, hCB, hrB, hnB, heB⟩ := calm_checkZ HIA.out.1 HIA.out.2.1 (by have := HEA.out; omega)
    rw [hpB] at CB hokB
    dsimp only at CB hokB
    rw [errV_zero] at CB
    have HCB := Lib.hid CB
    have HIB := Lib.hid (And.intro hIB hokB)
    have HRB : Hid (SB.rows = S1.rows) := Lib.hid (hrB.trans HRA.out)
    clear hto hsA hbA hoA hgA CB hokB hpB hIB hCB hrB hnB heB
    go_wp2_with fail
    refine HCB.out.mono ?_
    rintro e wB ⟨rfl, hto⟩
    obtain ⟨LB, lbB, rvB, hsB, hbB, hoB, hgB, _⟩ := HSA.out.to HBA.out.size hto HIB.out.1 HIB.out.2
    have HVB := Lib.hid (HVA.out.turned (G := stF LB lbB sb2) (by decide) hoB hgB)
    have HBB := Lib.hid (HBA.out.trans hbB)
    have CO := Lib.hid (open_std wB w.heap.size b 24 LB EB SB hsB.d hsB.eq hsB.inv hsB.ok (fun k hk => hsB.low k (Or.inl hk)) HBB.out.size)
    clear hto hsB hbB hoB hgB
    go_wp2_with fail
    refine CO.out.mono ?_
    rintro e wC ⟨sb3, lb3, rv3, rfl, hs3, hbC, _, _, _⟩
    have HBC := Lib.hid (two HBB.out hbC)
    have HVC := Lib.hid (HVB.out.below hbC)
    have CR3 := Lib.hid (store_Rows sb3 lb3 LB SB 24 rv3 wC hs3.s (by have := hs3.inv.few; omega))
    clear hs3 hbC
    go_wp2_with fail
    refine CR3.out.mono ?_
    rintro e wE ⟨v3, rfl, ho3, hbE⟩
    have HBE := Lib.hid (two HBC.out hbE)
    have CS3 := ref_SameChanges v3 _ SB.rows S1.rows wE (SL.of_own ho3) (HVC.out.below hbE).rd
    rw [decide_eq_true HRB.out] at CS3
    have HCS3 := Lib.hid CS3
    obtain ⟨ao3, ac3, rfl, _, _⟩ := own_slice ho3
    clear ho3 hbE CS3
    go_wp2_with fail
    refine HCS3.out.mono ?_
    rintro e wF ⟨rfl, hbF⟩
    have HBF := Lib.hid (two HBE.out hbF)
    clear hbF
    go_wp2_with fail
    go_ret
    exact ⟨rfl, HBF.out⟩
end Go.Proofs.Ytggpodlecljcbac
