/- The walk of the statement TopLog. -/
import Derived.Test.YtggpodlecljcbabWalkTY
import Derived.Test.YtggpodlecljcbabLawY2
namespace Go.Proofs.Ytggpodlecljcbab
set_option linter.unusedSimpArgs false
set_option linter.unusedVariables false
open Go.RowKit Go.Sort
theorem faultsY_8 : ∀ (c : List Change), faultsY c ≠ 8
  | [] => by decide
  | x :: r => by
    unfold faultsY
    split
    · rcases fault_cases x with h | h | h <;> rw [h] <;> decide
    · exact faultsY_8 r
theorem addFault_8 (many next : Nat) (c : List Change) : addFault many next c ≠ 8 := by
  unfold addFault
  split
  · decide
  · split
    · decide
    · exact faultsY_8 c
theorem deeds_nil (F : Nat → Prop) (w : World) : Deeds F w (.slice none 0 0) [] := ⟨[], ⟨Rd.nil w, fun a n c h => by simp at h⟩, rfl, fun i h => by simp at h⟩
theorem wpList_app_g {P : Program} {T E k bytes : Nat} (I : ElemInfo P T E k bytes) {w : World} {ops : Array Oper} {rest : List Oper} {o : Oper} {a : Go.Act} {Q : Exit → Go.Act → World → Prop} (hw : Region.wanted o (yielded ops a.tmps) = true) (s x : Operand)
    (ho : o.op = .call { callee := .builtin .append, args := #[s, x], argTypes := #[T, T] })
    (base : Nat) (v : Value) (n : Nat) (xs : List Value) (hs : a.eval s = v) (hown : w.ownsRow base E k v n xs)
    (ad : Addr) (m c : Nat) (news : List Value) (hx : a.eval x = .slice (some ad) m c) (hl : news.length = m * k) (hnews : ∀ j u, news[j]? = some u → w.cell? (ad.add j) = some u) (h1 : ∀ u ∈ news, u.oneCell' = true)
    (h63 : n + m ≤ 1000000000) (hbase : base ≤ w.heap.size)
    (h : ∀ v' w', w'.ownsRow base E k v' (n + m) (xs ++ news) → w.grownBy w' v.ownBlock → wpList P ops Q rest (a.put o.dst v') w') : wpList P ops Q (o :: rest) a w := by
  obtain ⟨i, z, e1, e2, e3, e4, e5, e6, e7, e8⟩ := I
  rw [wpList, if_pos hw]
  refine Or.inl (wp_append_own w s x T ho base E i z k bytes e1 e2 e3 e4 e5 e6 e7 v n xs hs hown ad m c news hx hl hnews h1 (by unfold maxLen; omega) ?_ hbase (fun v' w' a b _ => h v' w' a b))
  calc (n + m) * bytes ≤ 1000000000 * 100 := Nat.mul_le_mul h63 e8
    _ ≤ 140737488355328 := by decide
def zzChange : Change := ⟨⟨#[122]⟩, ⟨#[122]⟩, false⟩
theorem zz_add {n : Nat} (h : n + 2 ≤ 59) : addFault 59 n [zzChange] = 0 := by
  unfold addFault
  rw [if_neg (by decide), if_neg (by simp; omega)]
  decide +kernel
set_option maxRecDepth 100000 in
set_option maxHeartbeats 64000000 in
theorem law_TopLog (vl : Value) (dl : List (List Change)) (fuse keep : Int) (w : World) (h : Deeds (fun x => w.heap.size ≤ x) w vl dl) (hok : ∀ c ∈ dl, ∀ x ∈ c, x.ok) (hf1 : -9223372036854775808 ≤ fuse ∧ fuse ≤ 9223372036854775807) (hk0 : 0 ≤ keep) (hk1 : keep < 18446744073709551616) :
    Calls Try.prog 6 #[vl, .int .i64 fuse, .int .u64 keep] w fun e w' => e = .returned (.bool true) ∧ Below w.heap.size w w' := by
  have CN := Lib.hid (disk_New 60 w (by decide) (by decide))
  have HDL := Lib.hid h
  have HOK := Lib.hid hok
  have HF1 := Lib.hid hf1
  have HK0 := Lib.hid hk0
  have HK1 := Lib.hid hk1
  obtain ⟨vo, vc, rfl, hvc, hvc'⟩ := h.parts
  clear h hok hf1 hk0 hk1
  go_enter Try.func6, Try.ntmps6
  go_wp2_with fail
  refine CN.out.mono ?_
  rintro e w1 ⟨L0, rfl, hd, hb, hf⟩
  obtain ⟨b, hbd⟩ : ∃ b, b = L0.b := ⟨_, rfl⟩
  have C := open_logd w1 w.heap.size b L0 (newD 60) 1 59 5 hd hbd.symm rfl (newD_ok (by decide) (by decide)) (newD_40 60) (by decide) (by simp [newD]) (by decide) (by decide) hf hb.size (newD_log 60 1 59 5 (by decide) (by decide) (by decide) (by decide))
  rw [← hbd]
  have HB1 := Lib.hid hb
  replace C := Lib.hid C
  clear hd hb hf hbd
  go_wp2_with fail
  refine C.out.mono ?_
  rintro e w2 ⟨lb, gv, rfl, hld, hde, hlb, hb2⟩
  obtain ⟨go, gc, rfl, hgc, hgc'⟩ := hde.parts
  have HLD := Lib.hid hld
  have HB2 := Lib.hid (two HB1.out hb2)
  have CR := Lib.hid (log_Room lb L0 1 59 5 0 w2 hld.l (by decide) (by decide))
  clear hld hde hlb hb2
  have hz0 : ([] : List (List Change)).length = 0 := rfl
  go_wp2_with fail
  refine CR.out.mono ?_
  rintro e w3 ⟨rfl, hb3⟩
  have HLD3 := Lib.hid (HLD.out.below hb3)
  have HB3 := Lib.hid (two HB2.out hb3)
  have CLD := Lib.hid (top_lightDeeds _ _ dl 8 w3 (HDL.out.below HB3.out) HOK.out)
  clear hb3
  go_wp2_with fail
  refine CLD.out.mono ?_
  rintro e w4 ⟨rfl, rfl⟩
  cases hli : lightDeeds dl 8
  · go_wp2_with fail
    go_ret
    exact ⟨rfl, HB3.out⟩
  have HLI : Hid (dl.length ≤ 8 ∧ ∀ c ∈ dl, c.length ≤ 14) := Lib.hid (by
    unfold lightDeeds at hli
    simp only [Bool.and_eq_true, decide_eq_true_eq, List.all_eq_true] at hli
    exact ⟨by omega, fun c hc => by have := light_lenY (hli.2 c hc); omega⟩)
  clear hli
  obtain ⟨FZ, hFZ⟩ : ∃ z : Int, z = min (max fuse (-1)) 200 := ⟨_, rfl⟩
  have hFZ1 : -1 ≤ FZ := by omega
  have hFZ2 : FZ ≤ 200 := by omega
  have CA := disk_Arm L0 (newD 60) FZ w3 HLD3.out.d (by omega) (by omega)
  rw [HLD3.out.eq] at CA
  have CA2 := Lib.hid CA
  have HFZ := Lib.hid hFZ
  clear CA hFZ
  go_wp2_with fail
  rw [← HFZ.out]
  refine CA2.out.mono ?_
  rintro e w5 ⟨rfl, hst⟩
  obtain ⟨D1, hD1⟩ : ∃ D1, D1 = armD (newD 60) FZ := ⟨_, rfl⟩
  rw [← hD1] at hst
  have HI1 : Hid (InvY 5 1 59 D1 [] 0) := Lib.hid (by rw [hD1]; exact newD_inv 60 1 59 5 (by decide) (by decide) (by decide) (by decide) (newD_log 60 1 59 5 (by decide) (by decide) (by decide) (by decide)) (max FZ (-1)))
  have HX1 : Hid (D1.ok ∧ D1.now.length = 60) := Lib.hid (by rw [hD1]; exact ⟨(newD_ok (by decide) (by decide)).arm FZ (by omega), newD_len 60⟩)
  have HL5 : Hid (LogD w5 w.heap.size lb b L0 D1 1 59 5 0) := Lib.hid ⟨hst.1, HLD3.out.eq, HLD3.out.l.off hst.2.1 (fun e => HLD3.out.out (Or.inl e)) rfl, HLD3.out.out, HLD3.out.low, HLD3.out.blow⟩
  have HB5 : Hid (Below w.heap.size w w5) := Lib.hid (HB3.out.trans (hst.2.1.below w.heap.size HB3.out.size (fun x hx => HLD3.out.low x (Or.inl hx))))
  clear hst hD1
  go_wp2_with fail
  go_loopw [11, 12, 13] (fun wv lv iv wr => ∃ (k : Nat) (L : Dk) (D : DiskS) (want : List (List Change)) (next : Nat), k ≤ dl.length ∧ iv = .int .i64 k ∧ LogD wr w.heap.size lb b L D 1 59 5 next ∧ InvY 5 1 59 D want next ∧ D.ok ∧ D.now.length = 60 ∧ Deeds (logF L lb) wr wv want ∧ Deeds (logF L lb) wr lv want ∧ want.length ≤ k ∧ Below w.heap.size w wr) (fun _ _ iv _ => dl.length - (intOf iv).toNat)
  case atStart => exact ⟨0, L0, D1, [], 0, Nat.zero_le _, rfl, HL5.out, HI1.out, HX1.out.1, HX1.out.2, deeds_nil _ _, deeds_nil _ _, by simp, HB5.out⟩
  case round =>
    clear HI1 HX1 HL5 HB5 HLD HLD3
    obtain ⟨k, L, D, want, next, hk, rfl, hld, hin, hok, hnl, hdw, hdl, hwk, hbw⟩ := hrel
    obtain ⟨wo, wc, rfl, hwc, hwc'⟩ := hdw.parts
    obtain ⟨lo, lc, rfl, hlc, hlc'⟩ := hdl.parts
    have HLD := Lib.hid hld
    have HIN := Lib.hid hin
    have HXD : Hid (D.ok ∧ D.now.length = 60) := Lib.hid ⟨hok, hnl⟩
    have HDW := Lib.hid hdw
    have HDU := Lib.hid hdl
    have HBW := Lib.hid hbw
    clear hld hin hok hnl hdw hdl hbw
    by_cases hlt : k < dl.length
    · skip
      obtain ⟨ba, oa, cv, hvo, x0, hcv⟩ := HDL.out.cell k hlt
      subst hvo
      obtain ⟨c, hc⟩ : ∃ c, c = dl[k] := ⟨_, rfl⟩
      rw [← hc] at hcv
      have hc14 : c.length ≤ 14 := by rw [hc]; exact HLI.out.2 _ (List.getElem_mem hlt)
      have hco : ∀ x ∈ c, x.ok := by rw [hc]; exact HOK.out _ (List.getElem_mem hlt)
      obtain ⟨co, cc, rfl, hcc, hcc'⟩ := hcv.rd.parts
      have HCV := Lib.hid hcv.rd
      have HY7 : Hid (∀ W, Below w.heap.size w W → W.cell? ⟨ba, oa + k, none⟩ = some (.slice co c.length cc)) := Lib.hid fun W hW => cell_on' hW x0
      have ha := log_Add lb L D 1 59 5 next _ c wr HLD.out.l HLD.out.d HXD.out.1 HLD.out.out ((Rd.outside hcv.rd (by decide) HLD.out.low).below HBW.out) hco (by rw [HIN.out.wait]; simp) (by omega) (by decide) (inv_len HIN.out (by rw [HXD.out.2]; decide)) (by decide)
      have hcs := add_cases c HIN.out (by rw [HXD.out.2]; decide) (by decide) (by decide)
      have hok2 := keep_add keptY_ok 1 59 5 next c D HXD.out.1
      have hnl2 := keep_add (keptY_len 60) 1 59 5 next c D HXD.out.2
      have hwt2 := add_wait 1 59 5 next c D
      rw [HIN.out.wait] at hwt2
      obtain ⟨⟨D2, n2⟩, hp⟩ : ∃ p, p = addY 1 59 5 next c D := ⟨_, rfl⟩
      rw [← hp] at ha hcs hok2 hnl2 hwt2
      have HWT := Lib.hid hwt2
      have CA := Lib.hid ha
      have HCS := Lib.hid hcs
      have HX2 : Hid (D2.ok ∧ D2.now.length = 60) := Lib.hid ⟨hok2, hnl2⟩
      have y5 := HY7.out _ HBW.out
      clear hc ha hcs hok2 hnl2 hwt2 hp x0 hcv hco
      go_wp2_with fail
      refine CA.out.mono ?_
      rintro e wA ⟨rfl, had⟩
      obtain ⟨L', hl', hbl', hO', hG'⟩ := HLD.out.added HBW.out.size had
      have HLD3 := Lib.hid hl'
      have HBA := Lib.hid (HBW.out.trans hbl')
      have HDW4 := Lib.hid (HDW.out.turned hO' hG')
      clear y5
      have y5 := HY7.out _ HBA.out
      have hq5 : ∀ o, (wA.alloc o).cell? ⟨ba, oa + k, none⟩ = some (.slice co c.length cc) := fun o => HY7.out _ (two HBA.out (below_alloc wA o))
      clear had hl' hbl' hO' hG'
      obtain ⟨vs, h1, h2, h3⟩ := HDW4.out
      have HVL := Lib.hid h2
      have HV3 := Lib.hid h3
      have hk8 : want.length ≤ 8 := by have := HLI.out.1; omega
      have hone : ∀ u ∈ vs, u.oneCell' = true := fun u hu => by
        obtain ⟨i, hi, rfl⟩ := List.getElem_of_mem hu
        obtain ⟨ao, cap, e, _, _⟩ := (h3 i hi (by omega)).rd.parts
        rw [e]; rfl
      have HONE := Lib.hid hone
      have HH1 := Lib.hid h1
      clear h1 h2 h3 hone
      have HL3F := Lib.hid HLD3.out.lt
      have HCF2 : Hid (ChangesF (logF L' lb) wA (.slice co c.length cc) c) := Lib.hid ((Rd.outside HCV.out (by decide) (fun x hx => by
        rcases hx with hx | hx
        · exact HLD3.out.low x hx
        · rw [hx]; exact HLD3.out.blow)).below HBA.out)
      cases wo with
      | none =>
        have hv0 : vs = [] := by
          obtain ⟨_, ao, cap, e, _, _, _, h6⟩ := HH1.out.rd
          cases vs with
          | nil => rfl
          | cons a r =>
            obtain ⟨b0, off0, e0, _⟩ := h6 0 a rfl
            rw [e0] at e
            cases e
        have hd0 : want.length = 0 := by rw [← HVL.out, hv0]; rfl
        have HD0 := Lib.hid hd0
        have HV0 := Lib.hid hv0
        rw [hd0]
        clear hv0
        go_wp2_with fail
        go_region_law (first
          | (refine step_own _ rfl (.tmp 73) (.tmp 78) 66 rfl wA.heap.size 48 1 24 I_deeds (.slice none 0 0) 0 [] (by simp [Act.eval, Act.put]) (World.ownsRow_nil _ _ _ _) ⟨wA.heap.size, 0, none⟩ 1 1 [.slice co c.length cc] (by simp [Act.eval, Act.put]) rfl one_newd (by simp [Value.oneCell']) (by omega) (by simp) ?_; intro v2 w2 ho2 hg2; have HO2 : Hid (w2.ownsRow wA.heap.size 48 1 v2 (vs.length + 1) (vs ++ [.slice co c.length cc])) := Lib.hid (by rw [HV0.out]; exact ho2); have HB2 : Hid (Below wA.heap.size wA w2) := Lib.hid (grown_below (by first | exact (below_alloc _ _).drew | exact below_alloc _ _) (World.ownsRow_nil _ _ 48 1) hg2 (Nat.le_refl _)); have y6 := HY7.out _ (two HBA.out HB2.out); clear ho2 hg2))
        all_goals
          have HD2 := Lib.hid (deeds_push HV3.out HVL.out HCF2.out HB2.out HO2.out HL3F.out)
          have HL2 := Lib.hid (HLD3.out.below HB2.out)
          have HBE := Lib.hid (two HBA.out HB2.out)
          have HDW5 := Lib.hid (HDW4.out.below HB2.out)
          clear y5 hq5 y6
          rcases HCS.out with ⟨hf, hp⟩ | ⟨E, hf, hp, hi, hl⟩ | ⟨E, hf, hp, hdn, hkp⟩
          · have h8 : n2 ≠ 8 := by have := (Prod.mk.inj hp).2; rw [this]; exact addFault_8 _ _ _
            have h0 : n2 ≠ 0 := by have := (Prod.mk.inj hp).2; rw [this]; exact hf
            obtain rfl : D2 = D := (Prod.mk.inj hp).1
            have h8i : ((n2 : Int) == 8) = false := by simp; omega
            have CN2 := Lib.hid (top_numY n2 w2)
            have H0 := Lib.hid h0
            rw [errV_pos h0] at CN2 ⊢
            clear hf hp h8 h0
            go_wp2_with fail
            refine CN2.out.mono ?_
            rintro e wN ⟨rfl, hq⟩
            rw [hq]
            clear hq
            go_wp2_with fail
            go_roundw
            case rel => exact ⟨k + 1, L', D2, want, next, by omega, by go_num, HL2.out.as (if_neg H0.out), HIN.out, HX2.out.1, HX2.out.2, (by first | exact HDW5.out | (have h5 := HDW5.out; rw [HD0.out] at h5; exact h5)), (by first | exact HDW5.out | (have h5 := HDW5.out; rw [HD0.out] at h5; exact h5)), by omega, HBE.out⟩
            case measure => simp [intOf]; omega
          · obtain ⟨rfl, rfl⟩ := Prod.mk.inj hp
            have HI2 := Lib.hid hi
            rw [errV_zero]
            clear hf hp hi hl
            go_wp2_with fail
            go_roundw
            case rel => exact ⟨k + 1, L', D2, want ++ [c], next + c.length + 1, by omega, by go_num, HL2.out.as rfl, HI2.out, HX2.out.1, HX2.out.2, HD2.out, HD2.out, by simp; omega, HBE.out⟩
            case measure => simp [intOf]; omega
          · obtain ⟨rfl, rfl⟩ := Prod.mk.inj hp
            have HKP := Lib.hid hkp
            have CN2 := Lib.hid (top_numY 8 w2)
            rw [errV_pos (by decide)] at CN2 ⊢
            clear hf hp hdn hkp
            go_wp2_with fail
            refine CN2.out.mono ?_
            rintro e wN ⟨rfl, hq⟩
            rw [hq]
            clear hq
            go_wp2_with fail
            have HTL := HL2
            have h55 := HDW5.out
            rw [HD0.out] at h55
            have HTW := Lib.hid h55
            clear h55
            have HTX := HD2
            have HTB := HBE
            have HTO : Hid (D2.ok ∧ D2.now.length = 60 ∧ D2.wait.length ≤ 100) := Lib.hid ⟨HX2.out.1, HX2.out.2, by have h5 : D2.wait.length ≤ 0 + c.length + 2 := HWT.out; omega⟩
            have HT : Hid (∃ got n', InvY 5 1 59 (restartD D2 keep) got n' ∧ (got = want ∨ got = want ++ [c])) := Lib.hid (by
              rcases HKP.out keep with h | h
              · exact ⟨_, _, h, Or.inl rfl⟩
              · exact ⟨_, _, h, Or.inr rfl⟩)
            have CRS0 := disk_Restart _ _ keep _ HTL.out.d HTO.out.1 HK0.out HK1.out (by have := HTO.out.2.2; omega)
            rw [HTL.out.eq] at CRS0
            have CRS := Lib.hid CRS0
            clear CRS0
            refine CRS.out.mono ?_
            rintro e wR ⟨rfl, hT⟩
            obtain ⟨LR, eR, dR, oR, gR⟩ := hT
            have hsz := HTB.out.size
            have HRB : Hid (Below w.heap.size w wR) := Lib.hid (HTB.out.trans (oR.below _ HTB.out.size (fun x hx => HTL.out.low x hx)))
            have HRW := Lib.hid ((HTW.out.mono (fun x hx => Or.inl hx)).turned oR gR)
            have HRX := Lib.hid ((HTX.out.mono (fun x hx => Or.inl hx)).turned oR gR)
            have HLOW : Hid (∀ k, LR.foot k → w.heap.size ≤ k) := Lib.hid (fun k hk => by
              rcases gR k hk with h | h
              · exact HTL.out.low k h
              · omega)
            obtain ⟨got, nn, hinv, hgw⟩ := HT.out
            have hRl : (restartD D2 keep).now.length = 60 := by rw [restart_len HTO.out.1]; exact HTO.out.2.1
            have hRok := HTO.out.1.restart keep
            have hnn : nn ≤ 59 := inv_len hinv (by rw [hRl]; decide)
            have CO0 := open_logd wR w.heap.size b LR (restartD D2 keep) 1 59 5 dR (eR.trans HTL.out.eq) rfl hRok hinv.forty (by decide) (by rw [hRl]; decide) (by decide) (by decide) HLOW.out HRB.out.size hinv.cl
            have CO := Lib.hid CO0
            have HRI : Hid (InvY 5 1 59 (restartD D2 keep) got nn) := Lib.hid hinv
            have HRK : Hid ((restartD D2 keep).ok ∧ (restartD D2 keep).now.length = 60) := Lib.hid ⟨hRok, hRl⟩
            have HGW := Lib.hid hgw
            clear CO0 hinv hgw hRl hRok dR oR gR
            clear HTL HTW HTX HTB
            go_wp2_with fail
            refine CO.out.mono ?_
            rintro e wO ⟨lb2, gv2, rfl, hld, hde, hlb, hb⟩
            obtain ⟨go2, gc2, rfl, hgc2, hgc2'⟩ := hde.parts
            have HLO := Lib.hid hld
            have HDO := Lib.hid hde
            have HBO2 := Lib.hid (two HRB.out hb)
            have CS10 := ref_SameDeeds _ _ _ _ got want wO hde (HRW.out.below hb)
            have CS1 := Lib.hid CS10
            have HOX := Lib.hid (HRX.out.below hb)
            clear hld hde hlb hb CS10
            have hgs : (decide (got = want) = true) ∨ (decide (got = want) = false ∧ got = (want ++ [c])) := by
              rcases HGW.out with h | h
              · exact Or.inl (by simp [h])
              · by_cases h2 : got = want
                · exact Or.inl (by simp [h2])
                · exact Or.inr ⟨by simp [h2], h⟩
            have CX : Hid (∃ wS, Below wO.heap.size wO wS ∧ True) := Lib.hid ⟨wO, Below.refl _ _, trivial⟩
            rcases hgs with hgs | ⟨hgs, hgl⟩
            · rw [hgs] at CS1
              clear hgs
              go_wp2_with fail
              refine CS1.out.mono ?_
              rintro e wS ⟨rfl, hbs⟩
              have HBS := Lib.hid hbs
              clear hbs
              obtain ⟨W3, hW3⟩ : ∃ W3, W3 = wS.alloc (.cells #[.string zzChange.key, .string zzChange.val, .bool zzChange.gone] 75) := ⟨_, rfl⟩
              have hb3 : Below wO.heap.size wO W3 := by rw [hW3]; exact two HBS.out (below_alloc _ _)
              have HL3 := Lib.hid (HLO.out.below hb3)
              have HD3 := Lib.hid (HDO.out.below hb3)
              have HB3z := Lib.hid (two HBO2.out hb3)
              have hone : Changes W3 (.slice (some ⟨wS.heap.size, 0, none⟩) 1 1) [zzChange] := one_changeY (b := wS.heap.size) zzChange (by rw [hW3]; simp) (by rw [hW3]; simp) (by rw [hW3]; simp)
              have hfar : ∀ (F : Nat → Prop), (∀ k, F k → k < wS.heap.size) → far F (.slice (some ⟨wS.heap.size, 0, none⟩) 1 1) := fun F hF a n c e hn hf => by
                simp only [Value.slice.injEq, Option.some.injEq] at e
                obtain ⟨rfl, _, _⟩ := e
                have := hF _ hf
                simp at this
              have hLt : ∀ k, logF LR lb2 k → k < wS.heap.size := fun k hk => by have h1 := HLO.out.lt k hk; have h2 := HBS.out.size; omega
              have HCF : Hid (ChangesF (logF LR lb2) W3 (.slice (some ⟨wS.heap.size, 0, none⟩) 1 1) [zzChange]) := Lib.hid ⟨hone, hfar _ hLt⟩
              have CRM := Lib.hid (log_Room lb2 LR 1 59 5 nn W3 HL3.out.l (by omega) (by decide))
              have HW3 := Lib.hid hW3
              clear hb3 hone hfar hLt hW3
              by_cases hrm : nn + 2 ≤ 59
              rotate_left
              · have hrm2 : ((59 : Int) - nn) < 2 := by omega
                go_wp2_with fail
                rw [show wS.alloc (.cells #[.string ⟨#[122]⟩, .string ⟨#[122]⟩, .bool false] 75) = W3 from HW3.out.symm]
                refine CRM.out.mono ?_
                rintro e wM ⟨rfl, hbm⟩
                go_wp2_with fail
                go_ret
                exact ⟨rfl, two HB3z.out hbm⟩
              have hrm2 : ¬ ((59 : Int) - nn) < 2 := by omega
              have hca := calm_add 1 59 5 nn [zzChange] (restartD D2 keep) got (restart_calm _ _) (zz_add hrm) (by rw [HRK.out.2]; decide) (by decide) (by decide) (by rw [HRK.out.2]; decide) HRI.out.cl
              have hok4 := keep_add keptY_ok 1 59 5 nn [zzChange] (restartD D2 keep) HRK.out.1
              have hl4 := keep_add (keptY_len 60) 1 59 5 nn [zzChange] (restartD D2 keep) HRK.out.2
              have h404 := keep_add keptY_40 1 59 5 nn [zzChange] (restartD D2 keep) HRI.out.forty
              have HADD : Hid (∀ W, Below W3.heap.size W3 W → _) := Lib.hid (fun W (hbW : Below W3.heap.size W3 W) => log_Add lb2 LR (restartD D2 keep) 1 59 5 nn _ [zzChange] W (HL3.out.below hbW).l (HL3.out.below hbW).d HRK.out.1 HL3.out.out (((show ChangesF LR.foot W3 _ _ from ⟨HCF.out.rd, fun a n c e p q => HCF.out.far a n c e p (Or.inl q)⟩)).below hbW) (by intro x hx; simp at hx; subst hx; exact ⟨by decide, by decide⟩) (by show ([] : List Turn).length ≤ _; decide) (by decide) (by decide) (by omega) (by decide))
              obtain ⟨⟨D4, n4⟩, hp4⟩ : ∃ p, p = addY 1 59 5 nn [zzChange] (restartD D2 keep) := ⟨_, rfl⟩
              rw [← hp4] at hca HADD hok4 hl4 h404
              obtain rfl : n4 = 0 := hca.1
              obtain ⟨AL, hAL⟩ : ∃ x, x = got ++ [[zzChange]] := ⟨_, rfl⟩
              rw [← hAL] at hca
              have HAL := Lib.hid hAL
              have HGL9 : Hid (got.length ≤ 59) := Lib.hid (by have h8 := HLI.out.1; rcases HGW.out with h | h <;> rw [h] <;> (try simp) <;> omega)
              clear hAL
              have HC4 : Hid (Calm D4 ∧ closedY 5 (sectorsY D4 1 59) 0 [] [] 0 = (AL, nn + [zzChange].length + 1)) := Lib.hid ⟨hca.2.1, hca.2.2⟩
              have HK4 : Hid (D4.ok ∧ D4.now.length = 60 ∧ ∀ s ∈ D4.now, s.size = 40) := Lib.hid ⟨hok4, hl4, h404⟩
              clear hca hok4 hl4 h404 hp4
              go_wp2_with fail
              rw [show wS.alloc (.cells #[.string ⟨#[122]⟩, .string ⟨#[122]⟩, .bool false] 75) = W3 from HW3.out.symm]
              refine CRM.out.mono ?_
              rintro e wM ⟨rfl, hbm⟩
              have CA4 := Lib.hid (HADD.out wM hbm)
              have HLM := Lib.hid (HL3.out.below hbm)
              have HDM := Lib.hid (HD3.out.below hbm)
              have HCM := Lib.hid (HCF.out.below hbm)
              have HBM := Lib.hid (two HB3z.out hbm)
              clear hbm HADD
              go_wp2_with fail
              refine CA4.out.mono ?_
              rintro e w4 ⟨rfl, had⟩
              obtain ⟨L4, hl4, hb4, hO4, hG4⟩ := HLM.out.added (by have := HBM.out.size; omega) had
              have HL4 := Lib.hid hl4
              have HB4 := Lib.hid (HBM.out.trans hb4)
              have HD4 := Lib.hid (HDM.out.turned hO4 hG4)
              have HC5 := Lib.hid (HCM.out.turned (by decide) hO4 hG4)
              rw [errV_zero]
              clear had hl4 hb4 hO4 hG4
              have CO50 := open_logd w4 w.heap.size b L4 D4 1 59 5 HL4.out.d HL4.out.eq HC4.out.1.1 HK4.out.1 HK4.out.2.2 (by decide) (by rw [HK4.out.2.1]; decide) (by decide) (by decide) HL4.out.low HB4.out.size HC4.out.2
              have CO5 := Lib.hid CO50
              clear CO50
              go_wp2_with fail
              refine CO5.out.mono ?_
              rintro e w5 ⟨lb5, gv5, rfl, hld5, hde5, hlb5, hb5⟩
              have HDE5 := Lib.hid hde5
              have HB5 := Lib.hid (two HB4.out hb5)
              have HLB5 := Lib.hid hb5
              have HD5 := Lib.hid (HD4.out.below hb5)
              have HC6 := Lib.hid (HC5.out.below hb5)
              clear hld5 hde5 hlb5 hb5
              obtain ⟨go5, gc5, rfl, hgc5, hgc5'⟩ := HDE5.out.parts
              obtain ⟨vs, h1, h2, h3⟩ := HD5.out
              have HVL := Lib.hid h2
              have HV3 := Lib.hid h3
              have hone : ∀ u ∈ vs, u.oneCell' = true := fun u hu => by
                obtain ⟨i, hi, rfl⟩ := List.getElem_of_mem hu
                obtain ⟨ao, cap, e, _, _⟩ := (h3 i hi (by omega)).rd.parts
                rw [e]; rfl
              have HONE := Lib.hid hone
              have HH1 := Lib.hid h1
              have HLFT : Hid (∀ k, logF L4 lb2 k → k < w5.heap.size) := Lib.hid (fun k hk => by have h8 := HL4.out.lt k hk; have h9 := (HB5.out).size; have h7 := HLB5.out.size; omega)
              clear h1 h2 h3 hone
              cases go2 with
              | none =>
                have hv0 : vs = [] := by
                  obtain ⟨_, ao, cap, e, _, _, _, h6⟩ := HH1.out.rd
                  cases vs with
                  | nil => rfl
                  | cons a r =>
                    obtain ⟨b0, off0, e0, _⟩ := h6 0 a rfl
                    rw [e0] at e
                    cases e
                have hd0 : got.length = 0 := by rw [← HVL.out, hv0]; rfl
                have HV0 := Lib.hid hv0
                rw [hd0]
                clear hv0
                go_wp2_with (at_builtin; (refine wpList_app_g I_deeds (by first | rfl | simp [Region.wanted, yielded]) (.tmp 132) (.tmp 134) rfl w5.heap.size (.slice none 0 0) 0 [] rfl (World.ownsRow_nil _ _ _ _) ⟨w5.heap.size, 0, none⟩ 1 1 [.slice (some ⟨wS.heap.size, 0, none⟩) 1 1] rfl rfl one_new (by simp [Value.oneCell']) (by omega) (by simp) ?_; intro v2 w2 ho2 hg2; have HO2 : Hid (w2.ownsRow w5.heap.size 48 1 v2 (vs.length + 1) (vs ++ [.slice (some ⟨wS.heap.size, 0, none⟩) 1 1])) := Lib.hid (by rw [HV0.out]; exact ho2); have HB2 : Hid (Below w5.heap.size w5 w2) := Lib.hid (grown_below (below_alloc _ _) (World.ownsRow_nil _ _ 48 1) hg2 (Nat.le_refl _)); clear ho2 hg2))
                have HD2 := deeds_push HV3.out HVL.out HC6.out HB2.out HO2.out HLFT.out
                rw [← HAL.out] at HD2
                have CSZ0 := ref_SameDeeds _ _ _ _ AL AL w2 (HDE5.out.below HB2.out) HD2
                rw [decide_eq_true rfl] at CSZ0
                have CSZ := Lib.hid CSZ0
                clear HD2 CSZ0
                refine CSZ.out.mono ?_
                rintro e w6 ⟨rfl, hb6⟩
                go_wp2_with fail
                go_ret
                exact ⟨rfl, two (two HB5.out HB2.out) hb6⟩
              | some ad =>
                have HNW : Hid (∀ W, Below w5.heap.size w5 W → ∀ j u, vs[j]? = some u → W.cell? (ad.add j) = some u) := Lib.hid fun W hW j u hj => by
                  obtain ⟨_, ao, cap, e, _, _, _, h6⟩ := (HH1.out.below hW).rd
                  obtain ⟨b0, off0, e0, hc0⟩ := h6 j u (by rw [flat_single]; exact hj)
                  rw [e0] at e
                  simp only [Value.slice.injEq, Option.some.injEq] at e
                  rw [e.1, Addr.add_lit]
                  exact hc0
                have hvl : vs.length = got.length * 1 := by rw [HVL.out]; omega
                have hglen : got.length ≤ 59 := HGL9.out
                go_wp2_with (at_builtin; first
                  | (refine wpList_app_g I_deeds (by first | rfl | simp [Region.wanted, yielded]) (.const (.slice none 0 0)) (.tmp 131) rfl w5.heap.size (.slice none 0 0) 0 [] rfl (World.ownsRow_nil _ _ _ _) ad got.length gc2 vs rfl hvl (HNW.out _ (Below.refl _ _)) HONE.out (by omega) (Nat.le_refl _) ?_; intro v1 w1 ho1 hg1; have HO1 : Hid (w1.ownsRow w5.heap.size 48 1 v1 got.length vs) := Lib.hid (by simpa using ho1); have HBO : Hid (Below w5.heap.size w5 w1) := Lib.hid (grown_below (Below.refl _ _) (World.ownsRow_nil _ _ 48 1) hg1 (Nat.le_refl _)); clear ho1 hg1)
                  | (refine wpList_app_g I_deeds (by first | rfl | simp [Region.wanted, yielded]) (.tmp 132) (.tmp 134) rfl w5.heap.size v1 got.length vs rfl (HO1.out.alloc _) ⟨w1.heap.size, 0, none⟩ 1 1 [.slice (some ⟨wS.heap.size, 0, none⟩) 1 1] rfl rfl one_new (by simp [Value.oneCell']) (by omega) (by have := HBO.out.size; simp; omega) ?_; intro v2 w2 ho2 hg2; have HO2 : Hid (w2.ownsRow w5.heap.size 48 1 v2 (vs.length + 1) (vs ++ [.slice (some ⟨wS.heap.size, 0, none⟩) 1 1])) := Lib.hid (by rw [HVL.out]; exact ho2); have HB2 : Hid (Below w5.heap.size w5 w2) := Lib.hid (grown_below (two HBO.out (below_alloc _ _)) (HO1.out.alloc (.cells #[.slice (some ⟨wS.heap.size, 0, none⟩) 1 1] 48)) hg2 (Nat.le_refl _)); clear ho2 hg2))
                have HD2 := deeds_push HV3.out HVL.out HC6.out HB2.out HO2.out HLFT.out
                rw [← HAL.out] at HD2
                have CSZ0 := ref_SameDeeds _ _ _ _ AL AL w2 (HDE5.out.below HB2.out) HD2
                rw [decide_eq_true rfl] at CSZ0
                have CSZ := Lib.hid CSZ0
                clear HD2 CSZ0
                refine CSZ.out.mono ?_
                rintro e w6 ⟨rfl, hb6⟩
                go_wp2_with fail
                go_ret
                exact ⟨rfl, two (two HB5.out HB2.out) hb6⟩
            · rw [hgs] at CS1
              have HGL := Lib.hid hgl
              clear hgs hgl
              go_wp2_with fail
              refine CS1.out.mono ?_
              rintro e wS0 ⟨rfl, hbs0⟩
              have CS20 := ref_SameDeeds _ _ _ _ got (want ++ [c]) wS0 (HDO.out.below hbs0) (HOX.out.below hbs0)
              rw [decide_eq_true HGL.out] at CS20
              have CS2 := Lib.hid CS20
              have HBS0 := Lib.hid hbs0
              clear hbs0 CS20
              go_wp2_with fail
              refine CS2.out.mono ?_
              rintro e wS ⟨rfl, hbs⟩
              have HBS := Lib.hid (two HBS0.out hbs)
              clear hbs
              obtain ⟨W3, hW3⟩ : ∃ W3, W3 = wS.alloc (.cells #[.string zzChange.key, .string zzChange.val, .bool zzChange.gone] 75) := ⟨_, rfl⟩
              have hb3 : Below wO.heap.size wO W3 := by rw [hW3]; exact two HBS.out (below_alloc _ _)
              have HL3 := Lib.hid (HLO.out.below hb3)
              have HD3 := Lib.hid (HDO.out.below hb3)
              have HB3z := Lib.hid (two HBO2.out hb3)
              have hone : Changes W3 (.slice (some ⟨wS.heap.size, 0, none⟩) 1 1) [zzChange] := one_changeY (b := wS.heap.size) zzChange (by rw [hW3]; simp) (by rw [hW3]; simp) (by rw [hW3]; simp)
              have hfar : ∀ (F : Nat → Prop), (∀ k, F k → k < wS.heap.size) → far F (.slice (some ⟨wS.heap.size, 0, none⟩) 1 1) := fun F hF a n c e hn hf => by
                simp only [Value.slice.injEq, Option.some.injEq] at e
                obtain ⟨rfl, _, _⟩ := e
                have := hF _ hf
                simp at this
              have hLt : ∀ k, logF LR lb2 k → k < wS.heap.size := fun k hk => by have h1 := HLO.out.lt k hk; have h2 := HBS.out.size; omega
              have HCF : Hid (ChangesF (logF LR lb2) W3 (.slice (some ⟨wS.heap.size, 0, none⟩) 1 1) [zzChange]) := Lib.hid ⟨hone, hfar _ hLt⟩
              have CRM := Lib.hid (log_Room lb2 LR 1 59 5 nn W3 HL3.out.l (by omega) (by decide))
              have HW3 := Lib.hid hW3
              clear hb3 hone hfar hLt hW3
              by_cases hrm : nn + 2 ≤ 59
              rotate_left
              · have hrm2 : ((59 : Int) - nn) < 2 := by omega
                go_wp2_with fail
                rw [show wS.alloc (.cells #[.string ⟨#[122]⟩, .string ⟨#[122]⟩, .bool false] 75) = W3 from HW3.out.symm]
                refine CRM.out.mono ?_
                rintro e wM ⟨rfl, hbm⟩
                go_wp2_with fail
                go_ret
                exact ⟨rfl, two HB3z.out hbm⟩
              have hrm2 : ¬ ((59 : Int) - nn) < 2 := by omega
              have hca := calm_add 1 59 5 nn [zzChange] (restartD D2 keep) got (restart_calm _ _) (zz_add hrm) (by rw [HRK.out.2]; decide) (by decide) (by decide) (by rw [HRK.out.2]; decide) HRI.out.cl
              have hok4 := keep_add keptY_ok 1 59 5 nn [zzChange] (restartD D2 keep) HRK.out.1
              have hl4 := keep_add (keptY_len 60) 1 59 5 nn [zzChange] (restartD D2 keep) HRK.out.2
              have h404 := keep_add keptY_40 1 59 5 nn [zzChange] (restartD D2 keep) HRI.out.forty
              have HADD : Hid (∀ W, Below W3.heap.size W3 W → _) := Lib.hid (fun W (hbW : Below W3.heap.size W3 W) => log_Add lb2 LR (restartD D2 keep) 1 59 5 nn _ [zzChange] W (HL3.out.below hbW).l (HL3.out.below hbW).d HRK.out.1 HL3.out.out (((show ChangesF LR.foot W3 _ _ from ⟨HCF.out.rd, fun a n c e p q => HCF.out.far a n c e p (Or.inl q)⟩)).below hbW) (by intro x hx; simp at hx; subst hx; exact ⟨by decide, by decide⟩) (by show ([] : List Turn).length ≤ _; decide) (by decide) (by decide) (by omega) (by decide))
              obtain ⟨⟨D4, n4⟩, hp4⟩ : ∃ p, p = addY 1 59 5 nn [zzChange] (restartD D2 keep) := ⟨_, rfl⟩
              rw [← hp4] at hca HADD hok4 hl4 h404
              obtain rfl : n4 = 0 := hca.1
              obtain ⟨AL, hAL⟩ : ∃ x, x = got ++ [[zzChange]] := ⟨_, rfl⟩
              rw [← hAL] at hca
              have HAL := Lib.hid hAL
              have HGL9 : Hid (got.length ≤ 59) := Lib.hid (by have h8 := HLI.out.1; rcases HGW.out with h | h <;> rw [h] <;> (try simp) <;> omega)
              clear hAL
              have HC4 : Hid (Calm D4 ∧ closedY 5 (sectorsY D4 1 59) 0 [] [] 0 = (AL, nn + [zzChange].length + 1)) := Lib.hid ⟨hca.2.1, hca.2.2⟩
              have HK4 : Hid (D4.ok ∧ D4.now.length = 60 ∧ ∀ s ∈ D4.now, s.size = 40) := Lib.hid ⟨hok4, hl4, h404⟩
              clear hca hok4 hl4 h404 hp4
              go_wp2_with fail
              rw [show wS.alloc (.cells #[.string ⟨#[122]⟩, .string ⟨#[122]⟩, .bool false] 75) = W3 from HW3.out.symm]
              refine CRM.out.mono ?_
              rintro e wM ⟨rfl, hbm⟩
              have CA4 := Lib.hid (HADD.out wM hbm)
              have HLM := Lib.hid (HL3.out.below hbm)
              have HDM := Lib.hid (HD3.out.below hbm)
              have HCM := Lib.hid (HCF.out.below hbm)
              have HBM := Lib.hid (two HB3z.out hbm)
              clear hbm HADD
              go_wp2_with fail
              refine CA4.out.mono ?_
              rintro e w4 ⟨rfl, had⟩
              obtain ⟨L4, hl4, hb4, hO4, hG4⟩ := HLM.out.added (by have := HBM.out.size; omega) had
              have HL4 := Lib.hid hl4
              have HB4 := Lib.hid (HBM.out.trans hb4)
              have HD4 := Lib.hid (HDM.out.turned hO4 hG4)
              have HC5 := Lib.hid (HCM.out.turned (by decide) hO4 hG4)
              rw [errV_zero]
              clear had hl4 hb4 hO4 hG4
              have CO50 := open_logd w4 w.heap.size b L4 D4 1 59 5 HL4.out.d HL4.out.eq HC4.out.1.1 HK4.out.1 HK4.out.2.2 (by decide) (by rw [HK4.out.2.1]; decide) (by decide) (by decide) HL4.out.low HB4.out.size HC4.out.2
              have CO5 := Lib.hid CO50
              clear CO50
              go_wp2_with fail
              refine CO5.out.mono ?_
              rintro e w5 ⟨lb5, gv5, rfl, hld5, hde5, hlb5, hb5⟩
              have HDE5 := Lib.hid hde5
              have HB5 := Lib.hid (two HB4.out hb5)
              have HLB5 := Lib.hid hb5
              have HD5 := Lib.hid (HD4.out.below hb5)
              have HC6 := Lib.hid (HC5.out.below hb5)
              clear hld5 hde5 hlb5 hb5
              obtain ⟨go5, gc5, rfl, hgc5, hgc5'⟩ := HDE5.out.parts
              obtain ⟨vs, h1, h2, h3⟩ := HD5.out
              have HVL := Lib.hid h2
              have HV3 := Lib.hid h3
              have hone : ∀ u ∈ vs, u.oneCell' = true := fun u hu => by
                obtain ⟨i, hi, rfl⟩ := List.getElem_of_mem hu
                obtain ⟨ao, cap, e, _, _⟩ := (h3 i hi (by omega)).rd.parts
                rw [e]; rfl
              have HONE := Lib.hid hone
              have HH1 := Lib.hid h1
              have HLFT : Hid (∀ k, logF L4 lb2 k → k < w5.heap.size) := Lib.hid (fun k hk => by have h8 := HL4.out.lt k hk; have h9 := (HB5.out).size; have h7 := HLB5.out.size; omega)
              clear h1 h2 h3 hone
              cases go2 with
              | none =>
                have hv0 : vs = [] := by
                  obtain ⟨_, ao, cap, e, _, _, _, h6⟩ := HH1.out.rd
                  cases vs with
                  | nil => rfl
                  | cons a r =>
                    obtain ⟨b0, off0, e0, _⟩ := h6 0 a rfl
                    rw [e0] at e
                    cases e
                have hd0 : got.length = 0 := by rw [← HVL.out, hv0]; rfl
                have HV0 := Lib.hid hv0
                rw [hd0]
                clear hv0
                go_wp2_with (at_builtin; (refine wpList_app_g I_deeds (by first | rfl | simp [Region.wanted, yielded]) (.tmp 132) (.tmp 134) rfl w5.heap.size (.slice none 0 0) 0 [] rfl (World.ownsRow_nil _ _ _ _) ⟨w5.heap.size, 0, none⟩ 1 1 [.slice (some ⟨wS.heap.size, 0, none⟩) 1 1] rfl rfl one_new (by simp [Value.oneCell']) (by omega) (by simp) ?_; intro v2 w2 ho2 hg2; have HO2 : Hid (w2.ownsRow w5.heap.size 48 1 v2 (vs.length + 1) (vs ++ [.slice (some ⟨wS.heap.size, 0, none⟩) 1 1])) := Lib.hid (by rw [HV0.out]; exact ho2); have HB2 : Hid (Below w5.heap.size w5 w2) := Lib.hid (grown_below (below_alloc _ _) (World.ownsRow_nil _ _ 48 1) hg2 (Nat.le_refl _)); clear ho2 hg2))
                have HD2 := deeds_push HV3.out HVL.out HC6.out HB2.out HO2.out HLFT.out
                rw [← HAL.out] at HD2
                have CSZ0 := ref_SameDeeds _ _ _ _ AL AL w2 (HDE5.out.below HB2.out) HD2
                rw [decide_eq_true rfl] at CSZ0
                have CSZ := Lib.hid CSZ0
                clear HD2 CSZ0
                refine CSZ.out.mono ?_
                rintro e w6 ⟨rfl, hb6⟩
                go_wp2_with fail
                go_ret
                exact ⟨rfl, two (two HB5.out HB2.out) hb6⟩
              | some ad =>
                have HNW : Hid (∀ W, Below w5.heap.size w5 W → ∀ j u, vs[j]? = some u → W.cell? (ad.add j) = some u) := Lib.hid fun W hW j u hj => by
                  obtain ⟨_, ao, cap, e, _, _, _, h6⟩ := (HH1.out.below hW).rd
                  obtain ⟨b0, off0, e0, hc0⟩ := h6 j u (by rw [flat_single]; exact hj)
                  rw [e0] at e
                  simp only [Value.slice.injEq, Option.some.injEq] at e
                  rw [e.1, Addr.add_lit]
                  exact hc0
                have hvl : vs.length = got.length * 1 := by rw [HVL.out]; omega
                have hglen : got.length ≤ 59 := HGL9.out
                go_wp2_with (at_builtin; first
                  | (refine wpList_app_g I_deeds (by first | rfl | simp [Region.wanted, yielded]) (.const (.slice none 0 0)) (.tmp 131) rfl w5.heap.size (.slice none 0 0) 0 [] rfl (World.ownsRow_nil _ _ _ _) ad got.length gc2 vs rfl hvl (HNW.out _ (Below.refl _ _)) HONE.out (by omega) (Nat.le_refl _) ?_; intro v1 w1 ho1 hg1; have HO1 : Hid (w1.ownsRow w5.heap.size 48 1 v1 got.length vs) := Lib.hid (by simpa using ho1); have HBO : Hid (Below w5.heap.size w5 w1) := Lib.hid (grown_below (Below.refl _ _) (World.ownsRow_nil _ _ 48 1) hg1 (Nat.le_refl _)); clear ho1 hg1)
                  | (refine wpList_app_g I_deeds (by first | rfl | simp [Region.wanted, yielded]) (.tmp 132) (.tmp 134) rfl w5.heap.size v1 got.length vs rfl (HO1.out.alloc _) ⟨w1.heap.size, 0, none⟩ 1 1 [.slice (some ⟨wS.heap.size, 0, none⟩) 1 1] rfl rfl one_new (by simp [Value.oneCell']) (by omega) (by have := HBO.out.size; simp; omega) ?_; intro v2 w2 ho2 hg2; have HO2 : Hid (w2.ownsRow w5.heap.size 48 1 v2 (vs.length + 1) (vs ++ [.slice (some ⟨wS.heap.size, 0, none⟩) 1 1])) := Lib.hid (by rw [HVL.out]; exact ho2); have HB2 : Hid (Below w5.heap.size w5 w2) := Lib.hid (grown_below (two HBO.out (below_alloc _ _)) (HO1.out.alloc (.cells #[.slice (some ⟨wS.heap.size, 0, none⟩) 1 1] 48)) hg2 (Nat.le_refl _)); clear ho2 hg2))
                have HD2 := deeds_push HV3.out HVL.out HC6.out HB2.out HO2.out HLFT.out
                rw [← HAL.out] at HD2
                have CSZ0 := ref_SameDeeds _ _ _ _ AL AL w2 (HDE5.out.below HB2.out) HD2
                rw [decide_eq_true rfl] at CSZ0
                have CSZ := Lib.hid CSZ0
                clear HD2 CSZ0
                refine CSZ.out.mono ?_
                rintro e w6 ⟨rfl, hb6⟩
                go_wp2_with fail
                go_ret
                exact ⟨rfl, two (two HB5.out HB2.out) hb6⟩
      | some ad =>
        have HNW : Hid (∀ W, Below wA.heap.size wA W → ∀ j u, vs[j]? = some u → W.cell? (ad.add j) = some u) := Lib.hid fun W hW j u hj => by
          obtain ⟨_, ao, cap, e, _, _, _, h6⟩ := (HH1.out.below hW).rd
          obtain ⟨b0, off0, e0, hc0⟩ := h6 j u (by rw [flat_single]; exact hj)
          rw [e0] at e
          simp only [Value.slice.injEq, Option.some.injEq] at e
          rw [e.1, Addr.add_lit]
          exact hc0
        have hvl : vs.length = want.length * 1 := by rw [HVL.out]; omega
        go_wp2_with fail
        go_region_law (first
          | (refine step_own _ rfl (.const (.slice none 0 0)) (.tmp 72) 66 rfl wA.heap.size 48 1 24 I_deeds (.slice none 0 0) 0 [] (by simp [Act.eval, Act.put]) (World.ownsRow_nil _ _ _ _) ad want.length wc vs (by simp [Act.eval, Act.put]) hvl (by first | exact HNW.out _ (Below.refl _ _).drew | exact HNW.out _ (below_alloc _ _).drew) HONE.out (by omega) (by simp) ?_; intro v1 w1 ho1 hg1; have HO1 : Hid (w1.ownsRow wA.heap.size 48 1 v1 want.length vs) := Lib.hid (by simpa using ho1); have HBO : Hid (Below wA.heap.size wA w1) := Lib.hid (by first | exact grown_below (Below.refl _ _).drew (World.ownsRow_nil _ _ 48 1) hg1 (Nat.le_refl _) | exact grown_below (below_alloc _ _).drew (World.ownsRow_nil _ _ 48 1) hg1 (Nat.le_refl _)); have y8 := HY7.out _ (two HBA.out HBO.out); have y9 := fun o => HY7.out _ (two HBA.out (two HBO.out (below_alloc w1 o))); (try (with_reducible have HSRC := Lib.hid (srcd hg1))); clear ho1 hg1)
          | (refine step_own _ rfl (.tmp 73) (.tmp 78) 66 rfl wA.heap.size 48 1 24 I_deeds v1 want.length vs (by simp [Act.eval, Act.put]) (HO1.out.alloc _) ⟨w1.heap.size, 0, none⟩ 1 1 [.slice co c.length cc] (by simp [Act.eval, Act.put]) rfl one_new (by simp [Value.oneCell']) (by omega) (by have := HBO.out.size; simp; omega) ?_; intro v2 w2 ho2 hg2; have HO2 : Hid (w2.ownsRow wA.heap.size 48 1 v2 (vs.length + 1) (vs ++ [.slice co c.length cc])) := Lib.hid (by rw [HVL.out]; exact ho2); have HB2 : Hid (Below wA.heap.size wA w2) := Lib.hid (grown_below (two HBO.out (below_alloc _ _)) (HO1.out.alloc (.cells #[.slice co c.length cc] 48)) hg2 (Nat.le_refl _)); have y6 := HY7.out _ (two HBA.out HB2.out); clear ho2 hg2)
          | (refine step_own _ rfl (.tmp 73) (.tmp 78) 66 rfl wA.heap.size 48 1 24 I_deeds v1 want.length vs (by simp [Act.eval, Act.put]) HO1.out ⟨wA.heap.size, 0, none⟩ 1 1 [.slice co c.length cc] (by simp [Act.eval, Act.put]) rfl HSRC.out (by simp [Value.oneCell']) (by omega) (by have := HBO.out.size; omega) ?_; intro v2 w2 ho2 hg2; have HO2 : Hid (w2.ownsRow wA.heap.size 48 1 v2 (vs.length + 1) (vs ++ [.slice co c.length cc])) := Lib.hid (by rw [HVL.out]; exact ho2); have HB2 : Hid (Below wA.heap.size wA w2) := Lib.hid (grown_below HBO.out HO1.out hg2 (Nat.le_refl _)); have y6 := HY7.out _ (two HBA.out HB2.out); clear ho2 hg2))
        all_goals
          have HD2 := Lib.hid (deeds_push HV3.out HVL.out HCF2.out HB2.out HO2.out HL3F.out)
          have HL2 := Lib.hid (HLD3.out.below HB2.out)
          have HBE := Lib.hid (two HBA.out HB2.out)
          have HDW5 := Lib.hid (HDW4.out.below HB2.out)
          clear y5 hq5 y6
          rcases HCS.out with ⟨hf, hp⟩ | ⟨E, hf, hp, hi, hl⟩ | ⟨E, hf, hp, hdn, hkp⟩
          · have h8 : n2 ≠ 8 := by have := (Prod.mk.inj hp).2; rw [this]; exact addFault_8 _ _ _
            have h0 : n2 ≠ 0 := by have := (Prod.mk.inj hp).2; rw [this]; exact hf
            obtain rfl : D2 = D := (Prod.mk.inj hp).1
            have h8i : ((n2 : Int) == 8) = false := by simp; omega
            have CN2 := Lib.hid (top_numY n2 w2)
            have H0 := Lib.hid h0
            rw [errV_pos h0] at CN2 ⊢
            clear hf hp h8 h0
            go_wp2_with fail
            refine CN2.out.mono ?_
            rintro e wN ⟨rfl, hq⟩
            rw [hq]
            clear hq
            go_wp2_with fail
            go_roundw
            case rel => exact ⟨k + 1, L', D2, want, next, by omega, by go_num, HL2.out.as (if_neg H0.out), HIN.out, HX2.out.1, HX2.out.2, (by first | exact HDW5.out | (have h5 := HDW5.out; rw [HD0.out] at h5; exact h5)), (by first | exact HDW5.out | (have h5 := HDW5.out; rw [HD0.out] at h5; exact h5)), by omega, HBE.out⟩
            case measure => simp [intOf]; omega
          · obtain ⟨rfl, rfl⟩ := Prod.mk.inj hp
            have HI2 := Lib.hid hi
            rw [errV_zero]
            clear hf hp hi hl
            go_wp2_with fail
            go_roundw
            case rel => exact ⟨k + 1, L', D2, want ++ [c], next + c.length + 1, by omega, by go_num, HL2.out.as rfl, HI2.out, HX2.out.1, HX2.out.2, HD2.out, HD2.out, by simp; omega, HBE.out⟩
            case measure => simp [intOf]; omega
          · obtain ⟨rfl, rfl⟩ := Prod.mk.inj hp
            have HKP := Lib.hid hkp
            have CN2 := Lib.hid (top_numY 8 w2)
            rw [errV_pos (by decide)] at CN2 ⊢
            clear hf hp hdn hkp
            go_wp2_with fail
            refine CN2.out.mono ?_
            rintro e wN ⟨rfl, hq⟩
            rw [hq]
            clear hq
            go_wp2_with fail
            have HTL := HL2
            have HTW := HDW5
            have HTX := HD2
            have HTB := HBE
            have HTO : Hid (D2.ok ∧ D2.now.length = 60 ∧ D2.wait.length ≤ 100) := Lib.hid ⟨HX2.out.1, HX2.out.2, by have h5 : D2.wait.length ≤ 0 + c.length + 2 := HWT.out; omega⟩
            have HT : Hid (∃ got n', InvY 5 1 59 (restartD D2 keep) got n' ∧ (got = want ∨ got = want ++ [c])) := Lib.hid (by
              rcases HKP.out keep with h | h
              · exact ⟨_, _, h, Or.inl rfl⟩
              · exact ⟨_, _, h, Or.inr rfl⟩)
            have CRS0 := disk_Restart _ _ keep _ HTL.out.d HTO.out.1 HK0.out HK1.out (by have := HTO.out.2.2; omega)
            rw [HTL.out.eq] at CRS0
            have CRS := Lib.hid CRS0
            clear CRS0
            refine CRS.out.mono ?_
            rintro e wR ⟨rfl, hT⟩
            obtain ⟨LR, eR, dR, oR, gR⟩ := hT
            have hsz := HTB.out.size
            have HRB : Hid (Below w.heap.size w wR) := Lib.hid (HTB.out.trans (oR.below _ HTB.out.size (fun x hx => HTL.out.low x hx)))
            have HRW := Lib.hid ((HTW.out.mono (fun x hx => Or.inl hx)).turned oR gR)
            have HRX := Lib.hid ((HTX.out.mono (fun x hx => Or.inl hx)).turned oR gR)
            have HLOW : Hid (∀ k, LR.foot k → w.heap.size ≤ k) := Lib.hid (fun k hk => by
              rcases gR k hk with h | h
              · exact HTL.out.low k h
              · omega)
            obtain ⟨got, nn, hinv, hgw⟩ := HT.out
            have hRl : (restartD D2 keep).now.length = 60 := by rw [restart_len HTO.out.1]; exact HTO.out.2.1
            have hRok := HTO.out.1.restart keep
            have hnn : nn ≤ 59 := inv_len hinv (by rw [hRl]; decide)
            have CO0 := open_logd wR w.heap.size b LR (restartD D2 keep) 1 59 5 dR (eR.trans HTL.out.eq) rfl hRok hinv.forty (by decide) (by rw [hRl]; decide) (by decide) (by decide) HLOW.out HRB.out.size hinv.cl
            have CO := Lib.hid CO0
            have HRI : Hid (InvY 5 1 59 (restartD D2 keep) got nn) := Lib.hid hinv
            have HRK : Hid ((restartD D2 keep).ok ∧ (restartD D2 keep).now.length = 60) := Lib.hid ⟨hRok, hRl⟩
            have HGW := Lib.hid hgw
            clear CO0 hinv hgw hRl hRok dR oR gR
            clear HTL HTW HTX HTB
            go_wp2_with fail
            refine CO.out.mono ?_
            rintro e wO ⟨lb2, gv2, rfl, hld, hde, hlb, hb⟩
            obtain ⟨go2, gc2, rfl, hgc2, hgc2'⟩ := hde.parts
            have HLO := Lib.hid hld
            have HDO := Lib.hid hde
            have HBO2 := Lib.hid (two HRB.out hb)
            have CS10 := ref_SameDeeds _ _ _ _ got want wO hde (HRW.out.below hb)
            have CS1 := Lib.hid CS10
            have HOX := Lib.hid (HRX.out.below hb)
            clear hld hde hlb hb CS10
            have hgs : (decide (got = want) = true) ∨ (decide (got = want) = false ∧ got = (want ++ [c])) := by
              rcases HGW.out with h | h
              · exact Or.inl (by simp [h])
              · by_cases h2 : got = want
                · exact Or.inl (by simp [h2])
                · exact Or.inr ⟨by simp [h2], h⟩
            have CX : Hid (∃ wS, Below wO.heap.size wO wS ∧ True) := Lib.hid ⟨wO, Below.refl _ _, trivial⟩
            rcases hgs with hgs | ⟨hgs, hgl⟩
            · rw [hgs] at CS1
              clear hgs
              go_wp2_with fail
              refine CS1.out.mono ?_
              rintro e wS ⟨rfl, hbs⟩
              have HBS := Lib.hid hbs
              clear hbs
              obtain ⟨W3, hW3⟩ : ∃ W3, W3 = wS.alloc (.cells #[.string zzChange.key, .string zzChange.val, .bool zzChange.gone] 75) := ⟨_, rfl⟩
              have hb3 : Below wO.heap.size wO W3 := by rw [hW3]; exact two HBS.out (below_alloc _ _)
              have HL3 := Lib.hid (HLO.out.below hb3)
              have HD3 := Lib.hid (HDO.out.below hb3)
              have HB3z := Lib.hid (two HBO2.out hb3)
              have hone : Changes W3 (.slice (some ⟨wS.heap.size, 0, none⟩) 1 1) [zzChange] := one_changeY (b := wS.heap.size) zzChange (by rw [hW3]; simp) (by rw [hW3]; simp) (by rw [hW3]; simp)
              have hfar : ∀ (F : Nat → Prop), (∀ k, F k → k < wS.heap.size) → far F (.slice (some ⟨wS.heap.size, 0, none⟩) 1 1) := fun F hF a n c e hn hf => by
                simp only [Value.slice.injEq, Option.some.injEq] at e
                obtain ⟨rfl, _, _⟩ := e
                have := hF _ hf
                simp at this
              have hLt : ∀ k, logF LR lb2 k → k < wS.heap.size := fun k hk => by have h1 := HLO.out.lt k hk; have h2 := HBS.out.size; omega
              have HCF : Hid (ChangesF (logF LR lb2) W3 (.slice (some ⟨wS.heap.size, 0, none⟩) 1 1) [zzChange]) := Lib.hid ⟨hone, hfar _ hLt⟩
              have CRM := Lib.hid (log_Room lb2 LR 1 59 5 nn W3 HL3.out.l (by omega) (by decide))
              have HW3 := Lib.hid hW3
              clear hb3 hone hfar hLt hW3
              by_cases hrm : nn + 2 ≤ 59
              rotate_left
              · have hrm2 : ((59 : Int) - nn) < 2 := by omega
                go_wp2_with fail
                rw [show wS.alloc (.cells #[.string ⟨#[122]⟩, .string ⟨#[122]⟩, .bool false] 75) = W3 from HW3.out.symm]
                refine CRM.out.mono ?_
                rintro e wM ⟨rfl, hbm⟩
                go_wp2_with fail
                go_ret
                exact ⟨rfl, two HB3z.out hbm⟩
              have hrm2 : ¬ ((59 : Int) - nn) < 2 := by omega
              have hca := calm_add 1 59 5 nn [zzChange] (restartD D2 keep) got (restart_calm _ _) (zz_add hrm) (by rw [HRK.out.2]; decide) (by decide) (by decide) (by rw [HRK.out.2]; decide) HRI.out.cl
              have hok4 := keep_add keptY_ok 1 59 5 nn [zzChange] (restartD D2 keep) HRK.out.1
              have hl4 := keep_add (keptY_len 60) 1 59 5 nn [zzChange] (restartD D2 keep) HRK.out.2
              have h404 := keep_add keptY_40 1 59 5 nn [zzChange] (restartD D2 keep) HRI.out.forty
              have HADD : Hid (∀ W, Below W3.heap.size W3 W → _) := Lib.hid (fun W (hbW : Below W3.heap.size W3 W) => log_Add lb2 LR (restartD D2 keep) 1 59 5 nn _ [zzChange] W (HL3.out.below hbW).l (HL3.out.below hbW).d HRK.out.1 HL3.out.out (((show ChangesF LR.foot W3 _ _ from ⟨HCF.out.rd, fun a n c e p q => HCF.out.far a n c e p (Or.inl q)⟩)).below hbW) (by intro x hx; simp at hx; subst hx; exact ⟨by decide, by decide⟩) (by show ([] : List Turn).length ≤ _; decide) (by decide) (by decide) (by omega) (by decide))
              obtain ⟨⟨D4, n4⟩, hp4⟩ : ∃ p, p = addY 1 59 5 nn [zzChange] (restartD D2 keep) := ⟨_, rfl⟩
              rw [← hp4] at hca HADD hok4 hl4 h404
              obtain rfl : n4 = 0 := hca.1
              obtain ⟨AL, hAL⟩ : ∃ x, x = got ++ [[zzChange]] := ⟨_, rfl⟩
              rw [← hAL] at hca
              have HAL := Lib.hid hAL
              have HGL9 : Hid (got.length ≤ 59) := Lib.hid (by have h8 := HLI.out.1; rcases HGW.out with h | h <;> rw [h] <;> (try simp) <;> omega)
              clear hAL
              have HC4 : Hid (Calm D4 ∧ closedY 5 (sectorsY D4 1 59) 0 [] [] 0 = (AL, nn + [zzChange].length + 1)) := Lib.hid ⟨hca.2.1, hca.2.2⟩
              have HK4 : Hid (D4.ok ∧ D4.now.length = 60 ∧ ∀ s ∈ D4.now, s.size = 40) := Lib.hid ⟨hok4, hl4, h404⟩
              clear hca hok4 hl4 h404 hp4
              go_wp2_with fail
              rw [show wS.alloc (.cells #[.string ⟨#[122]⟩, .string ⟨#[122]⟩, .bool false] 75) = W3 from HW3.out.symm]
              refine CRM.out.mono ?_
              rintro e wM ⟨rfl, hbm⟩
              have CA4 := Lib.hid (HADD.out wM hbm)
              have HLM := Lib.hid (HL3.out.below hbm)
              have HDM := Lib.hid (HD3.out.below hbm)
              have HCM := Lib.hid (HCF.out.below hbm)
              have HBM := Lib.hid (two HB3z.out hbm)
              clear hbm HADD
              go_wp2_with fail
              refine CA4.out.mono ?_
              rintro e w4 ⟨rfl, had⟩
              obtain ⟨L4, hl4, hb4, hO4, hG4⟩ := HLM.out.added (by have := HBM.out.size; omega) had
              have HL4 := Lib.hid hl4
              have HB4 := Lib.hid (HBM.out.trans hb4)
              have HD4 := Lib.hid (HDM.out.turned hO4 hG4)
              have HC5 := Lib.hid (HCM.out.turned (by decide) hO4 hG4)
              rw [errV_zero]
              clear had hl4 hb4 hO4 hG4
              have CO50 := open_logd w4 w.heap.size b L4 D4 1 59 5 HL4.out.d HL4.out.eq HC4.out.1.1 HK4.out.1 HK4.out.2.2 (by decide) (by rw [HK4.out.2.1]; decide) (by decide) (by decide) HL4.out.low HB4.out.size HC4.out.2
              have CO5 := Lib.hid CO50
              clear CO50
              go_wp2_with fail
              refine CO5.out.mono ?_
              rintro e w5 ⟨lb5, gv5, rfl, hld5, hde5, hlb5, hb5⟩
              have HDE5 := Lib.hid hde5
              have HB5 := Lib.hid (two HB4.out hb5)
              have HLB5 := Lib.hid hb5
              have HD5 := Lib.hid (HD4.out.below hb5)
              have HC6 := Lib.hid (HC5.out.below hb5)
              clear hld5 hde5 hlb5 hb5
              obtain ⟨go5, gc5, rfl, hgc5, hgc5'⟩ := HDE5.out.parts
              obtain ⟨vs, h1, h2, h3⟩ := HD5.out
              have HVL := Lib.hid h2
              have HV3 := Lib.hid h3
              have hone : ∀ u ∈ vs, u.oneCell' = true := fun u hu => by
                obtain ⟨i, hi, rfl⟩ := List.getElem_of_mem hu
                obtain ⟨ao, cap, e, _, _⟩ := (h3 i hi (by omega)).rd.parts
                rw [e]; rfl
              have HONE := Lib.hid hone
              have HH1 := Lib.hid h1
              have HLFT : Hid (∀ k, logF L4 lb2 k → k < w5.heap.size) := Lib.hid (fun k hk => by have h8 := HL4.out.lt k hk; have h9 := (HB5.out).size; have h7 := HLB5.out.size; omega)
              clear h1 h2 h3 hone
              cases go2 with
              | none =>
                have hv0 : vs = [] := by
                  obtain ⟨_, ao, cap, e, _, _, _, h6⟩ := HH1.out.rd
                  cases vs with
                  | nil => rfl
                  | cons a r =>
                    obtain ⟨b0, off0, e0, _⟩ := h6 0 a rfl
                    rw [e0] at e
                    cases e
                have hd0 : got.length = 0 := by rw [← HVL.out, hv0]; rfl
                have HV0 := Lib.hid hv0
                rw [hd0]
                clear hv0
                go_wp2_with (at_builtin; (refine wpList_app_g I_deeds (by first | rfl | simp [Region.wanted, yielded]) (.tmp 132) (.tmp 134) rfl w5.heap.size (.slice none 0 0) 0 [] rfl (World.ownsRow_nil _ _ _ _) ⟨w5.heap.size, 0, none⟩ 1 1 [.slice (some ⟨wS.heap.size, 0, none⟩) 1 1] rfl rfl one_new (by simp [Value.oneCell']) (by omega) (by simp) ?_; intro v2 w2 ho2 hg2; have HO2 : Hid (w2.ownsRow w5.heap.size 48 1 v2 (vs.length + 1) (vs ++ [.slice (some ⟨wS.heap.size, 0, none⟩) 1 1])) := Lib.hid (by rw [HV0.out]; exact ho2); have HB2 : Hid (Below w5.heap.size w5 w2) := Lib.hid (grown_below (below_alloc _ _) (World.ownsRow_nil _ _ 48 1) hg2 (Nat.le_refl _)); clear ho2 hg2))
                have HD2 := deeds_push HV3.out HVL.out HC6.out HB2.out HO2.out HLFT.out
                rw [← HAL.out] at HD2
                have CSZ0 := ref_SameDeeds _ _ _ _ AL AL w2 (HDE5.out.below HB2.out) HD2
                rw [decide_eq_true rfl] at CSZ0
                have CSZ := Lib.hid CSZ0
                clear HD2 CSZ0
                refine CSZ.out.mono ?_
                rintro e w6 ⟨rfl, hb6⟩
                go_wp2_with fail
                go_ret
                exact ⟨rfl, two (two HB5.out HB2.out) hb6⟩
              | some ad =>
                have HNW : Hid (∀ W, Below w5.heap.size w5 W → ∀ j u, vs[j]? = some u → W.cell? (ad.add j) = some u) := Lib.hid fun W hW j u hj => by
                  obtain ⟨_, ao, cap, e, _, _, _, h6⟩ := (HH1.out.below hW).rd
                  obtain ⟨b0, off0, e0, hc0⟩ := h6 j u (by rw [flat_single]; exact hj)
                  rw [e0] at e
                  simp only [Value.slice.injEq, Option.some.injEq] at e
                  rw [e.1, Addr.add_lit]
                  exact hc0
                have hvl : vs.length = got.length * 1 := by rw [HVL.out]; omega
                have hglen : got.length ≤ 59 := HGL9.out
                go_wp2_with (at_builtin; first
                  | (refine wpList_app_g I_deeds (by first | rfl | simp [Region.wanted, yielded]) (.const (.slice none 0 0)) (.tmp 131) rfl w5.heap.size (.slice none 0 0) 0 [] rfl (World.ownsRow_nil _ _ _ _) ad got.length gc2 vs rfl hvl (HNW.out _ (Below.refl _ _)) HONE.out (by omega) (Nat.le_refl _) ?_; intro v1 w1 ho1 hg1; have HO1 : Hid (w1.ownsRow w5.heap.size 48 1 v1 got.length vs) := Lib.hid (by simpa using ho1); have HBO : Hid (Below w5.heap.size w5 w1) := Lib.hid (grown_below (Below.refl _ _) (World.ownsRow_nil _ _ 48 1) hg1 (Nat.le_refl _)); clear ho1 hg1)
                  | (refine wpList_app_g I_deeds (by first | rfl | simp [Region.wanted, yielded]) (.tmp 132) (.tmp 134) rfl w5.heap.size v1 got.length vs rfl (HO1.out.alloc _) ⟨w1.heap.size, 0, none⟩ 1 1 [.slice (some ⟨wS.heap.size, 0, none⟩) 1 1] rfl rfl one_new (by simp [Value.oneCell']) (by omega) (by have := HBO.out.size; simp; omega) ?_; intro v2 w2 ho2 hg2; have HO2 : Hid (w2.ownsRow w5.heap.size 48 1 v2 (vs.length + 1) (vs ++ [.slice (some ⟨wS.heap.size, 0, none⟩) 1 1])) := Lib.hid (by rw [HVL.out]; exact ho2); have HB2 : Hid (Below w5.heap.size w5 w2) := Lib.hid (grown_below (two HBO.out (below_alloc _ _)) (HO1.out.alloc (.cells #[.slice (some ⟨wS.heap.size, 0, none⟩) 1 1] 48)) hg2 (Nat.le_refl _)); clear ho2 hg2))
                have HD2 := deeds_push HV3.out HVL.out HC6.out HB2.out HO2.out HLFT.out
                rw [← HAL.out] at HD2
                have CSZ0 := ref_SameDeeds _ _ _ _ AL AL w2 (HDE5.out.below HB2.out) HD2
                rw [decide_eq_true rfl] at CSZ0
                have CSZ := Lib.hid CSZ0
                clear HD2 CSZ0
                refine CSZ.out.mono ?_
                rintro e w6 ⟨rfl, hb6⟩
                go_wp2_with fail
                go_ret
                exact ⟨rfl, two (two HB5.out HB2.out) hb6⟩
            · rw [hgs] at CS1
              have HGL := Lib.hid hgl
              clear hgs hgl
              go_wp2_with fail
              refine CS1.out.mono ?_
              rintro e wS0 ⟨rfl, hbs0⟩
              have CS20 := ref_SameDeeds _ _ _ _ got (want ++ [c]) wS0 (HDO.out.below hbs0) (HOX.out.below hbs0)
              rw [decide_eq_true HGL.out] at CS20
              have CS2 := Lib.hid CS20
              have HBS0 := Lib.hid hbs0
              clear hbs0 CS20
              go_wp2_with fail
              refine CS2.out.mono ?_
              rintro e wS ⟨rfl, hbs⟩
              have HBS := Lib.hid (two HBS0.out hbs)
              clear hbs
              obtain ⟨W3, hW3⟩ : ∃ W3, W3 = wS.alloc (.cells #[.string zzChange.key, .string zzChange.val, .bool zzChange.gone] 75) := ⟨_, rfl⟩
              have hb3 : Below wO.heap.size wO W3 := by rw [hW3]; exact two HBS.out (below_alloc _ _)
              have HL3 := Lib.hid (HLO.out.below hb3)
              have HD3 := Lib.hid (HDO.out.below hb3)
              have HB3z := Lib.hid (two HBO2.out hb3)
              have hone : Changes W3 (.slice (some ⟨wS.heap.size, 0, none⟩) 1 1) [zzChange] := one_changeY (b := wS.heap.size) zzChange (by rw [hW3]; simp) (by rw [hW3]; simp) (by rw [hW3]; simp)
              have hfar : ∀ (F : Nat → Prop), (∀ k, F k → k < wS.heap.size) → far F (.slice (some ⟨wS.heap.size, 0, none⟩) 1 1) := fun F hF a n c e hn hf => by
                simp only [Value.slice.injEq, Option.some.injEq] at e
                obtain ⟨rfl, _, _⟩ := e
                have := hF _ hf
                simp at this
              have hLt : ∀ k, logF LR lb2 k → k < wS.heap.size := fun k hk => by have h1 := HLO.out.lt k hk; have h2 := HBS.out.size; omega
              have HCF : Hid (ChangesF (logF LR lb2) W3 (.slice (some ⟨wS.heap.size, 0, none⟩) 1 1) [zzChange]) := Lib.hid ⟨hone, hfar _ hLt⟩
              have CRM := Lib.hid (log_Room lb2 LR 1 59 5 nn W3 HL3.out.l (by omega) (by decide))
              have HW3 := Lib.hid hW3
              clear hb3 hone hfar hLt hW3
              by_cases hrm : nn + 2 ≤ 59
              rotate_left
              · have hrm2 : ((59 : Int) - nn) < 2 := by omega
                go_wp2_with fail
                rw [show wS.alloc (.cells #[.string ⟨#[122]⟩, .string ⟨#[122]⟩, .bool false] 75) = W3 from HW3.out.symm]
                refine CRM.out.mono ?_
                rintro e wM ⟨rfl, hbm⟩
                go_wp2_with fail
                go_ret
                exact ⟨rfl, two HB3z.out hbm⟩
              have hrm2 : ¬ ((59 : Int) - nn) < 2 := by omega
              have hca := calm_add 1 59 5 nn [zzChange] (restartD D2 keep) got (restart_calm _ _) (zz_add hrm) (by rw [HRK.out.2]; decide) (by decide) (by decide) (by rw [HRK.out.2]; decide) HRI.out.cl
              have hok4 := keep_add keptY_ok 1 59 5 nn [zzChange] (restartD D2 keep) HRK.out.1
              have hl4 := keep_add (keptY_len 60) 1 59 5 nn [zzChange] (restartD D2 keep) HRK.out.2
              have h404 := keep_add keptY_40 1 59 5 nn [zzChange] (restartD D2 keep) HRI.out.forty
              have HADD : Hid (∀ W, Below W3.heap.size W3 W → _) := Lib.hid (fun W (hbW : Below W3.heap.size W3 W) => log_Add lb2 LR (restartD D2 keep) 1 59 5 nn _ [zzChange] W (HL3.out.below hbW).l (HL3.out.below hbW).d HRK.out.1 HL3.out.out (((show ChangesF LR.foot W3 _ _ from ⟨HCF.out.rd, fun a n c e p q => HCF.out.far a n c e p (Or.inl q)⟩)).below hbW) (by intro x hx; simp at hx; subst hx; exact ⟨by decide, by decide⟩) (by show ([] : List Turn).length ≤ _; decide) (by decide) (by decide) (by omega) (by decide))
              obtain ⟨⟨D4, n4⟩, hp4⟩ : ∃ p, p = addY 1 59 5 nn [zzChange] (restartD D2 keep) := ⟨_, rfl⟩
              rw [← hp4] at hca HADD hok4 hl4 h404
              obtain rfl : n4 = 0 := hca.1
              obtain ⟨AL, hAL⟩ : ∃ x, x = got ++ [[zzChange]] := ⟨_, rfl⟩
              rw [← hAL] at hca
              have HAL := Lib.hid hAL
              have HGL9 : Hid (got.length ≤ 59) := Lib.hid (by have h8 := HLI.out.1; rcases HGW.out with h | h <;> rw [h] <;> (try simp) <;> omega)
              clear hAL
              have HC4 : Hid (Calm D4 ∧ closedY 5 (sectorsY D4 1 59) 0 [] [] 0 = (AL, nn + [zzChange].length + 1)) := Lib.hid ⟨hca.2.1, hca.2.2⟩
              have HK4 : Hid (D4.ok ∧ D4.now.length = 60 ∧ ∀ s ∈ D4.now, s.size = 40) := Lib.hid ⟨hok4, hl4, h404⟩
              clear hca hok4 hl4 h404 hp4
              go_wp2_with fail
              rw [show wS.alloc (.cells #[.string ⟨#[122]⟩, .string ⟨#[122]⟩, .bool false] 75) = W3 from HW3.out.symm]
              refine CRM.out.mono ?_
              rintro e wM ⟨rfl, hbm⟩
              have CA4 := Lib.hid (HADD.out wM hbm)
              have HLM := Lib.hid (HL3.out.below hbm)
              have HDM := Lib.hid (HD3.out.below hbm)
              have HCM := Lib.hid (HCF.out.below hbm)
              have HBM := Lib.hid (two HB3z.out hbm)
              clear hbm HADD
              go_wp2_with fail
              refine CA4.out.mono ?_
              rintro e w4 ⟨rfl, had⟩
              obtain ⟨L4, hl4, hb4, hO4, hG4⟩ := HLM.out.added (by have := HBM.out.size; omega) had
              have HL4 := Lib.hid hl4
              have HB4 := Lib.hid (HBM.out.trans hb4)
              have HD4 := Lib.hid (HDM.out.turned hO4 hG4)
              have HC5 := Lib.hid (HCM.out.turned (by decide) hO4 hG4)
              rw [errV_zero]
              clear had hl4 hb4 hO4 hG4
              have CO50 := open_logd w4 w.heap.size b L4 D4 1 59 5 HL4.out.d HL4.out.eq HC4.out.1.1 HK4.out.1 HK4.out.2.2 (by decide) (by rw [HK4.out.2.1]; decide) (by decide) (by decide) HL4.out.low HB4.out.size HC4.out.2
              have CO5 := Lib.hid CO50
              clear CO50
              go_wp2_with fail
              refine CO5.out.mono ?_
              rintro e w5 ⟨lb5, gv5, rfl, hld5, hde5, hlb5, hb5⟩
              have HDE5 := Lib.hid hde5
              have HB5 := Lib.hid (two HB4.out hb5)
              have HLB5 := Lib.hid hb5
              have HD5 := Lib.hid (HD4.out.below hb5)
              have HC6 := Lib.hid (HC5.out.below hb5)
              clear hld5 hde5 hlb5 hb5
              obtain ⟨go5, gc5, rfl, hgc5, hgc5'⟩ := HDE5.out.parts
              obtain ⟨vs, h1, h2, h3⟩ := HD5.out
              have HVL := Lib.hid h2
              have HV3 := Lib.hid h3
              have hone : ∀ u ∈ vs, u.oneCell' = true := fun u hu => by
                obtain ⟨i, hi, rfl⟩ := List.getElem_of_mem hu
                obtain ⟨ao, cap, e, _, _⟩ := (h3 i hi (by omega)).rd.parts
                rw [e]; rfl
              have HONE := Lib.hid hone
              have HH1 := Lib.hid h1
              have HLFT : Hid (∀ k, logF L4 lb2 k → k < w5.heap.size) := Lib.hid (fun k hk => by have h8 := HL4.out.lt k hk; have h9 := (HB5.out).size; have h7 := HLB5.out.size; omega)
              clear h1 h2 h3 hone
              cases go2 with
              | none =>
                have hv0 : vs = [] := by
                  obtain ⟨_, ao, cap, e, _, _, _, h6⟩ := HH1.out.rd
                  cases vs with
                  | nil => rfl
                  | cons a r =>
                    obtain ⟨b0, off0, e0, _⟩ := h6 0 a rfl
                    rw [e0] at e
                    cases e
                have hd0 : got.length = 0 := by rw [← HVL.out, hv0]; rfl
                have HV0 := Lib.hid hv0
                rw [hd0]
                clear hv0
                go_wp2_with (at_builtin; (refine wpList_app_g I_deeds (by first | rfl | simp [Region.wanted, yielded]) (.tmp 132) (.tmp 134) rfl w5.heap.size (.slice none 0 0) 0 [] rfl (World.ownsRow_nil _ _ _ _) ⟨w5.heap.size, 0, none⟩ 1 1 [.slice (some ⟨wS.heap.size, 0, none⟩) 1 1] rfl rfl one_new (by simp [Value.oneCell']) (by omega) (by simp) ?_; intro v2 w2 ho2 hg2; have HO2 : Hid (w2.ownsRow w5.heap.size 48 1 v2 (vs.length + 1) (vs ++ [.slice (some ⟨wS.heap.size, 0, none⟩) 1 1])) := Lib.hid (by rw [HV0.out]; exact ho2); have HB2 : Hid (Below w5.heap.size w5 w2) := Lib.hid (grown_below (below_alloc _ _) (World.ownsRow_nil _ _ 48 1) hg2 (Nat.le_refl _)); clear ho2 hg2))
                have HD2 := deeds_push HV3.out HVL.out HC6.out HB2.out HO2.out HLFT.out
                rw [← HAL.out] at HD2
                have CSZ0 := ref_SameDeeds _ _ _ _ AL AL w2 (HDE5.out.below HB2.out) HD2
                rw [decide_eq_true rfl] at CSZ0
                have CSZ := Lib.hid CSZ0
                clear HD2 CSZ0
                refine CSZ.out.mono ?_
                rintro e w6 ⟨rfl, hb6⟩
                go_wp2_with fail
                go_ret
                exact ⟨rfl, two (two HB5.out HB2.out) hb6⟩
              | some ad =>
                have HNW : Hid (∀ W, Below w5.heap.size w5 W → ∀ j u, vs[j]? = some u → W.cell? (ad.add j) = some u) := Lib.hid fun W hW j u hj => by
                  obtain ⟨_, ao, cap, e, _, _, _, h6⟩ := (HH1.out.below hW).rd
                  obtain ⟨b0, off0, e0, hc0⟩ := h6 j u (by rw [flat_single]; exact hj)
                  rw [e0] at e
                  simp only [Value.slice.injEq, Option.some.injEq] at e
                  rw [e.1, Addr.add_lit]
                  exact hc0
                have hvl : vs.length = got.length * 1 := by rw [HVL.out]; omega
                have hglen : got.length ≤ 59 := HGL9.out
                go_wp2_with (at_builtin; first
                  | (refine wpList_app_g I_deeds (by first | rfl | simp [Region.wanted, yielded]) (.const (.slice none 0 0)) (.tmp 131) rfl w5.heap.size (.slice none 0 0) 0 [] rfl (World.ownsRow_nil _ _ _ _) ad got.length gc2 vs rfl hvl (HNW.out _ (Below.refl _ _)) HONE.out (by omega) (Nat.le_refl _) ?_; intro v1 w1 ho1 hg1; have HO1 : Hid (w1.ownsRow w5.heap.size 48 1 v1 got.length vs) := Lib.hid (by simpa using ho1); have HBO : Hid (Below w5.heap.size w5 w1) := Lib.hid (grown_below (Below.refl _ _) (World.ownsRow_nil _ _ 48 1) hg1 (Nat.le_refl _)); clear ho1 hg1)
                  | (refine wpList_app_g I_deeds (by first | rfl | simp [Region.wanted, yielded]) (.tmp 132) (.tmp 134) rfl w5.heap.size v1 got.length vs rfl (HO1.out.alloc _) ⟨w1.heap.size, 0, none⟩ 1 1 [.slice (some ⟨wS.heap.size, 0, none⟩) 1 1] rfl rfl one_new (by simp [Value.oneCell']) (by omega) (by have := HBO.out.size; simp; omega) ?_; intro v2 w2 ho2 hg2; have HO2 : Hid (w2.ownsRow w5.heap.size 48 1 v2 (vs.length + 1) (vs ++ [.slice (some ⟨wS.heap.size, 0, none⟩) 1 1])) := Lib.hid (by rw [HVL.out]; exact ho2); have HB2 : Hid (Below w5.heap.size w5 w2) := Lib.hid (grown_below (two HBO.out (below_alloc _ _)) (HO1.out.alloc (.cells #[.slice (some ⟨wS.heap.size, 0, none⟩) 1 1] 48)) hg2 (Nat.le_refl _)); clear ho2 hg2))
                have HD2 := deeds_push HV3.out HVL.out HC6.out HB2.out HO2.out HLFT.out
                rw [← HAL.out] at HD2
                have CSZ0 := ref_SameDeeds _ _ _ _ AL AL w2 (HDE5.out.below HB2.out) HD2
                rw [decide_eq_true rfl] at CSZ0
                have CSZ := Lib.hid CSZ0
                clear HD2 CSZ0
                refine CSZ.out.mono ?_
                rintro e w6 ⟨rfl, hb6⟩
                go_wp2_with fail
                go_ret
                exact ⟨rfl, two (two HB5.out HB2.out) hb6⟩
    · obtain rfl : k = dl.length := by omega
      have HTL := HLD
      have HTW := HDW
      have HTX := HDU
      have HTB := HBW
      have HTO : Hid (D.ok ∧ D.now.length = 60 ∧ D.wait.length ≤ 100) := Lib.hid ⟨HXD.out.1, HXD.out.2, by rw [HIN.out.wait]; simp⟩
      have HT : Hid (∃ got n', InvY 5 1 59 (restartD D keep) got n' ∧ (got = want ∨ got = want)) := Lib.hid ⟨_, _, inv_restart HIN.out keep, Or.inl rfl⟩
      have CRS0 := disk_Restart _ _ keep _ HTL.out.d HTO.out.1 HK0.out HK1.out (by have := HTO.out.2.2; omega)
      rw [HTL.out.eq] at CRS0
      have CRS := Lib.hid CRS0
      clear CRS0
      go_wp2_with fail
      refine CRS.out.mono ?_
      rintro e wR ⟨rfl, hT⟩
      obtain ⟨LR, eR, dR, oR, gR⟩ := hT
      have hsz := HTB.out.size
      have HRB : Hid (Below w.heap.size w wR) := Lib.hid (HTB.out.trans (oR.below _ HTB.out.size (fun x hx => HTL.out.low x hx)))
      have HRW := Lib.hid ((HTW.out.mono (fun x hx => Or.inl hx)).turned oR gR)
      have HRX := Lib.hid ((HTX.out.mono (fun x hx => Or.inl hx)).turned oR gR)
      have HLOW : Hid (∀ k, LR.foot k → w.heap.size ≤ k) := Lib.hid (fun k hk => by
        rcases gR k hk with h | h
        · exact HTL.out.low k h
        · omega)
      obtain ⟨got, nn, hinv, hgw⟩ := HT.out
      have hRl : (restartD D keep).now.length = 60 := by rw [restart_len HTO.out.1]; exact HTO.out.2.1
      have hRok := HTO.out.1.restart keep
      have hnn : nn ≤ 59 := inv_len hinv (by rw [hRl]; decide)
      have CO0 := open_logd wR w.heap.size b LR (restartD D keep) 1 59 5 dR (eR.trans HTL.out.eq) rfl hRok hinv.forty (by decide) (by rw [hRl]; decide) (by decide) (by decide) HLOW.out HRB.out.size hinv.cl
      have CO := Lib.hid CO0
      have HRI : Hid (InvY 5 1 59 (restartD D keep) got nn) := Lib.hid hinv
      have HRK : Hid ((restartD D keep).ok ∧ (restartD D keep).now.length = 60) := Lib.hid ⟨hRok, hRl⟩
      have HGW := Lib.hid hgw
      clear CO0 hinv hgw hRl hRok dR oR gR
      clear HTL HTW HTX HTB
      go_wp2_with fail
      refine CO.out.mono ?_
      rintro e wO ⟨lb2, gv2, rfl, hld, hde, hlb, hb⟩
      obtain ⟨go2, gc2, rfl, hgc2, hgc2'⟩ := hde.parts
      have HLO := Lib.hid hld
      have HDO := Lib.hid hde
      have HBO2 := Lib.hid (two HRB.out hb)
      have CS10 := ref_SameDeeds _ _ _ _ got want wO hde (HRW.out.below hb)
      have CS1 := Lib.hid CS10
      have HOX := Lib.hid (HRX.out.below hb)
      clear hld hde hlb hb CS10
      have hgs : (decide (got = want) = true) ∨ (decide (got = want) = false ∧ got = want) := by
        rcases HGW.out with h | h
        · exact Or.inl (by simp [h])
        · by_cases h2 : got = want
          · exact Or.inl (by simp [h2])
          · exact Or.inr ⟨by simp [h2], h⟩
      have CX : Hid (∃ wS, Below wO.heap.size wO wS ∧ True) := Lib.hid ⟨wO, Below.refl _ _, trivial⟩
      rcases hgs with hgs | ⟨hgs, hgl⟩
      · rw [hgs] at CS1
        clear hgs
        go_wp2_with fail
        refine CS1.out.mono ?_
        rintro e wS ⟨rfl, hbs⟩
        have HBS := Lib.hid hbs
        clear hbs
        obtain ⟨W3, hW3⟩ : ∃ W3, W3 = wS.alloc (.cells #[.string zzChange.key, .string zzChange.val, .bool zzChange.gone] 75) := ⟨_, rfl⟩
        have hb3 : Below wO.heap.size wO W3 := by rw [hW3]; exact two HBS.out (below_alloc _ _)
        have HL3 := Lib.hid (HLO.out.below hb3)
        have HD3 := Lib.hid (HDO.out.below hb3)
        have HB3z := Lib.hid (two HBO2.out hb3)
        have hone : Changes W3 (.slice (some ⟨wS.heap.size, 0, none⟩) 1 1) [zzChange] := one_changeY (b := wS.heap.size) zzChange (by rw [hW3]; simp) (by rw [hW3]; simp) (by rw [hW3]; simp)
        have hfar : ∀ (F : Nat → Prop), (∀ k, F k → k < wS.heap.size) → far F (.slice (some ⟨wS.heap.size, 0, none⟩) 1 1) := fun F hF a n c e hn hf => by
          simp only [Value.slice.injEq, Option.some.injEq] at e
          obtain ⟨rfl, _, _⟩ := e
          have := hF _ hf
          simp at this
        have hLt : ∀ k, logF LR lb2 k → k < wS.heap.size := fun k hk => by have h1 := HLO.out.lt k hk; have h2 := HBS.out.size; omega
        have HCF : Hid (ChangesF (logF LR lb2) W3 (.slice (some ⟨wS.heap.size, 0, none⟩) 1 1) [zzChange]) := Lib.hid ⟨hone, hfar _ hLt⟩
        have CRM := Lib.hid (log_Room lb2 LR 1 59 5 nn W3 HL3.out.l (by omega) (by decide))
        have HW3 := Lib.hid hW3
        clear hb3 hone hfar hLt hW3
        by_cases hrm : nn + 2 ≤ 59
        rotate_left
        · have hrm2 : ((59 : Int) - nn) < 2 := by omega
          go_wp2_with fail
          rw [show wS.alloc (.cells #[.string ⟨#[122]⟩, .string ⟨#[122]⟩, .bool false] 75) = W3 from HW3.out.symm]
          refine CRM.out.mono ?_
          rintro e wM ⟨rfl, hbm⟩
          go_wp2_with fail
          go_ret
          exact ⟨rfl, two HB3z.out hbm⟩
        have hrm2 : ¬ ((59 : Int) - nn) < 2 := by omega
        have hca := calm_add 1 59 5 nn [zzChange] (restartD D keep) got (restart_calm _ _) (zz_add hrm) (by rw [HRK.out.2]; decide) (by decide) (by decide) (by rw [HRK.out.2]; decide) HRI.out.cl
        have hok4 := keep_add keptY_ok 1 59 5 nn [zzChange] (restartD D keep) HRK.out.1
        have hl4 := keep_add (keptY_len 60) 1 59 5 nn [zzChange] (restartD D keep) HRK.out.2
        have h404 := keep_add keptY_40 1 59 5 nn [zzChange] (restartD D keep) HRI.out.forty
        have HADD : Hid (∀ W, Below W3.heap.size W3 W → _) := Lib.hid (fun W (hbW : Below W3.heap.size W3 W) => log_Add lb2 LR (restartD D keep) 1 59 5 nn _ [zzChange] W (HL3.out.below hbW).l (HL3.out.below hbW).d HRK.out.1 HL3.out.out (((show ChangesF LR.foot W3 _ _ from ⟨HCF.out.rd, fun a n c e p q => HCF.out.far a n c e p (Or.inl q)⟩)).below hbW) (by intro x hx; simp at hx; subst hx; exact ⟨by decide, by decide⟩) (by show ([] : List Turn).length ≤ _; decide) (by decide) (by decide) (by omega) (by decide))
        obtain ⟨⟨D4, n4⟩, hp4⟩ : ∃ p, p = addY 1 59 5 nn [zzChange] (restartD D keep) := ⟨_, rfl⟩
        rw [← hp4] at hca HADD hok4 hl4 h404
        obtain rfl : n4 = 0 := hca.1
        obtain ⟨AL, hAL⟩ : ∃ x, x = got ++ [[zzChange]] := ⟨_, rfl⟩
        rw [← hAL] at hca
        have HAL := Lib.hid hAL
        have HGL9 : Hid (got.length ≤ 59) := Lib.hid (by have h8 := HLI.out.1; rcases HGW.out with h | h <;> rw [h] <;> (try simp) <;> omega)
        clear hAL
        have HC4 : Hid (Calm D4 ∧ closedY 5 (sectorsY D4 1 59) 0 [] [] 0 = (AL, nn + [zzChange].length + 1)) := Lib.hid ⟨hca.2.1, hca.2.2⟩
        have HK4 : Hid (D4.ok ∧ D4.now.length = 60 ∧ ∀ s ∈ D4.now, s.size = 40) := Lib.hid ⟨hok4, hl4, h404⟩
        clear hca hok4 hl4 h404 hp4
        go_wp2_with fail
        rw [show wS.alloc (.cells #[.string ⟨#[122]⟩, .string ⟨#[122]⟩, .bool false] 75) = W3 from HW3.out.symm]
        refine CRM.out.mono ?_
        rintro e wM ⟨rfl, hbm⟩
        have CA4 := Lib.hid (HADD.out wM hbm)
        have HLM := Lib.hid (HL3.out.below hbm)
        have HDM := Lib.hid (HD3.out.below hbm)
        have HCM := Lib.hid (HCF.out.below hbm)
        have HBM := Lib.hid (two HB3z.out hbm)
        clear hbm HADD
        go_wp2_with fail
        refine CA4.out.mono ?_
        rintro e w4 ⟨rfl, had⟩
        obtain ⟨L4, hl4, hb4, hO4, hG4⟩ := HLM.out.added (by have := HBM.out.size; omega) had
        have HL4 := Lib.hid hl4
        have HB4 := Lib.hid (HBM.out.trans hb4)
        have HD4 := Lib.hid (HDM.out.turned hO4 hG4)
        have HC5 := Lib.hid (HCM.out.turned (by decide) hO4 hG4)
        rw [errV_zero]
        clear had hl4 hb4 hO4 hG4
        have CO50 := open_logd w4 w.heap.size b L4 D4 1 59 5 HL4.out.d HL4.out.eq HC4.out.1.1 HK4.out.1 HK4.out.2.2 (by decide) (by rw [HK4.out.2.1]; decide) (by decide) (by decide) HL4.out.low HB4.out.size HC4.out.2
        have CO5 := Lib.hid CO50
        clear CO50
        go_wp2_with fail
        refine CO5.out.mono ?_
        rintro e w5 ⟨lb5, gv5, rfl, hld5, hde5, hlb5, hb5⟩
        have HDE5 := Lib.hid hde5
        have HB5 := Lib.hid (two HB4.out hb5)
        have HLB5 := Lib.hid hb5
        have HD5 := Lib.hid (HD4.out.below hb5)
        have HC6 := Lib.hid (HC5.out.below hb5)
        clear hld5 hde5 hlb5 hb5
        obtain ⟨go5, gc5, rfl, hgc5, hgc5'⟩ := HDE5.out.parts
        obtain ⟨vs, h1, h2, h3⟩ := HD5.out
        have HVL := Lib.hid h2
        have HV3 := Lib.hid h3
        have hone : ∀ u ∈ vs, u.oneCell' = true := fun u hu => by
          obtain ⟨i, hi, rfl⟩ := List.getElem_of_mem hu
          obtain ⟨ao, cap, e, _, _⟩ := (h3 i hi (by omega)).rd.parts
          rw [e]; rfl
        have HONE := Lib.hid hone
        have HH1 := Lib.hid h1
        have HLFT : Hid (∀ k, logF L4 lb2 k → k < w5.heap.size) := Lib.hid (fun k hk => by have h8 := HL4.out.lt k hk; have h9 := (HB5.out).size; have h7 := HLB5.out.size; omega)
        clear h1 h2 h3 hone
        cases go2 with
        | none =>
          have hv0 : vs = [] := by
            obtain ⟨_, ao, cap, e, _, _, _, h6⟩ := HH1.out.rd
            cases vs with
            | nil => rfl
            | cons a r =>
              obtain ⟨b0, off0, e0, _⟩ := h6 0 a rfl
              rw [e0] at e
              cases e
          have hd0 : got.length = 0 := by rw [← HVL.out, hv0]; rfl
          have HV0 := Lib.hid hv0
          rw [hd0]
          clear hv0
          go_wp2_with (at_builtin; (refine wpList_app_g I_deeds (by first | rfl | simp [Region.wanted, yielded]) (.tmp 132) (.tmp 134) rfl w5.heap.size (.slice none 0 0) 0 [] rfl (World.ownsRow_nil _ _ _ _) ⟨w5.heap.size, 0, none⟩ 1 1 [.slice (some ⟨wS.heap.size, 0, none⟩) 1 1] rfl rfl one_new (by simp [Value.oneCell']) (by omega) (by simp) ?_; intro v2 w2 ho2 hg2; have HO2 : Hid (w2.ownsRow w5.heap.size 48 1 v2 (vs.length + 1) (vs ++ [.slice (some ⟨wS.heap.size, 0, none⟩) 1 1])) := Lib.hid (by rw [HV0.out]; exact ho2); have HB2 : Hid (Below w5.heap.size w5 w2) := Lib.hid (grown_below (below_alloc _ _) (World.ownsRow_nil _ _ 48 1) hg2 (Nat.le_refl _)); clear ho2 hg2))
          have HD2 := deeds_push HV3.out HVL.out HC6.out HB2.out HO2.out HLFT.out
          rw [← HAL.out] at HD2
          have CSZ0 := ref_SameDeeds _ _ _ _ AL AL w2 (HDE5.out.below HB2.out) HD2
          rw [decide_eq_true rfl] at CSZ0
          have CSZ := Lib.hid CSZ0
          clear HD2 CSZ0
          refine CSZ.out.mono ?_
          rintro e w6 ⟨rfl, hb6⟩
          go_wp2_with fail
          go_ret
          exact ⟨rfl, two (two HB5.out HB2.out) hb6⟩
        | some ad =>
          have HNW : Hid (∀ W, Below w5.heap.size w5 W → ∀ j u, vs[j]? = some u → W.cell? (ad.add j) = some u) := Lib.hid fun W hW j u hj => by
            obtain ⟨_, ao, cap, e, _, _, _, h6⟩ := (HH1.out.below hW).rd
            obtain ⟨b0, off0, e0, hc0⟩ := h6 j u (by rw [flat_single]; exact hj)
            rw [e0] at e
            simp only [Value.slice.injEq, Option.some.injEq] at e
            rw [e.1, Addr.add_lit]
            exact hc0
          have hvl : vs.length = got.length * 1 := by rw [HVL.out]; omega
          have hglen : got.length ≤ 59 := HGL9.out
          go_wp2_with (at_builtin; first
            | (refine wpList_app_g I_deeds (by first | rfl | simp [Region.wanted, yielded]) (.const (.slice none 0 0)) (.tmp 131) rfl w5.heap.size (.slice none 0 0) 0 [] rfl (World.ownsRow_nil _ _ _ _) ad got.length gc2 vs rfl hvl (HNW.out _ (Below.refl _ _)) HONE.out (by omega) (Nat.le_refl _) ?_; intro v1 w1 ho1 hg1; have HO1 : Hid (w1.ownsRow w5.heap.size 48 1 v1 got.length vs) := Lib.hid (by simpa using ho1); have HBO : Hid (Below w5.heap.size w5 w1) := Lib.hid (grown_below (Below.refl _ _) (World.ownsRow_nil _ _ 48 1) hg1 (Nat.le_refl _)); clear ho1 hg1)
            | (refine wpList_app_g I_deeds (by first | rfl | simp [Region.wanted, yielded]) (.tmp 132) (.tmp 134) rfl w5.heap.size v1 got.length vs rfl (HO1.out.alloc _) ⟨w1.heap.size, 0, none⟩ 1 1 [.slice (some ⟨wS.heap.size, 0, none⟩) 1 1] rfl rfl one_new (by simp [Value.oneCell']) (by omega) (by have := HBO.out.size; simp; omega) ?_; intro v2 w2 ho2 hg2; have HO2 : Hid (w2.ownsRow w5.heap.size 48 1 v2 (vs.length + 1) (vs ++ [.slice (some ⟨wS.heap.size, 0, none⟩) 1 1])) := Lib.hid (by rw [HVL.out]; exact ho2); have HB2 : Hid (Below w5.heap.size w5 w2) := Lib.hid (grown_below (two HBO.out (below_alloc _ _)) (HO1.out.alloc (.cells #[.slice (some ⟨wS.heap.size, 0, none⟩) 1 1] 48)) hg2 (Nat.le_refl _)); clear ho2 hg2))
          have HD2 := deeds_push HV3.out HVL.out HC6.out HB2.out HO2.out HLFT.out
          rw [← HAL.out] at HD2
          have CSZ0 := ref_SameDeeds _ _ _ _ AL AL w2 (HDE5.out.below HB2.out) HD2
          rw [decide_eq_true rfl] at CSZ0
          have CSZ := Lib.hid CSZ0
          clear HD2 CSZ0
          refine CSZ.out.mono ?_
          rintro e w6 ⟨rfl, hb6⟩
          go_wp2_with fail
          go_ret
          exact ⟨rfl, two (two HB5.out HB2.out) hb6⟩
      · rw [hgs] at CS1
        have HGL := Lib.hid hgl
        clear hgs hgl
        go_wp2_with fail
        refine CS1.out.mono ?_
        rintro e wS0 ⟨rfl, hbs0⟩
        have CS20 := ref_SameDeeds _ _ _ _ got want wS0 (HDO.out.below hbs0) (HOX.out.below hbs0)
        rw [decide_eq_true HGL.out] at CS20
        have CS2 := Lib.hid CS20
        have HBS0 := Lib.hid hbs0
        clear hbs0 CS20
        go_wp2_with fail
        refine CS2.out.mono ?_
        rintro e wS ⟨rfl, hbs⟩
        have HBS := Lib.hid (two HBS0.out hbs)
        clear hbs
        obtain ⟨W3, hW3⟩ : ∃ W3, W3 = wS.alloc (.cells #[.string zzChange.key, .string zzChange.val, .bool zzChange.gone] 75) := ⟨_, rfl⟩
        have hb3 : Below wO.heap.size wO W3 := by rw [hW3]; exact two HBS.out (below_alloc _ _)
        have HL3 := Lib.hid (HLO.out.below hb3)
        have HD3 := Lib.hid (HDO.out.below hb3)
        have HB3z := Lib.hid (two HBO2.out hb3)
        have hone : Changes W3 (.slice (some ⟨wS.heap.size, 0, none⟩) 1 1) [zzChange] := one_changeY (b := wS.heap.size) zzChange (by rw [hW3]; simp) (by rw [hW3]; simp) (by rw [hW3]; simp)
        have hfar : ∀ (F : Nat → Prop), (∀ k, F k → k < wS.heap.size) → far F (.slice (some ⟨wS.heap.size, 0, none⟩) 1 1) := fun F hF a n c e hn hf => by
          simp only [Value.slice.injEq, Option.some.injEq] at e
          obtain ⟨rfl, _, _⟩ := e
          have := hF _ hf
          simp at this
        have hLt : ∀ k, logF LR lb2 k → k < wS.heap.size := fun k hk => by have h1 := HLO.out.lt k hk; have h2 := HBS.out.size; omega
        have HCF : Hid (ChangesF (logF LR lb2) W3 (.slice (some ⟨wS.heap.size, 0, none⟩) 1 1) [zzChange]) := Lib.hid ⟨hone, hfar _ hLt⟩
        have CRM := Lib.hid (log_Room lb2 LR 1 59 5 nn W3 HL3.out.l (by omega) (by decide))
        have HW3 := Lib.hid hW3
        clear hb3 hone hfar hLt hW3
        by_cases hrm : nn + 2 ≤ 59
        rotate_left
        · have hrm2 : ((59 : Int) - nn) < 2 := by omega
          go_wp2_with fail
          rw [show wS.alloc (.cells #[.string ⟨#[122]⟩, .string ⟨#[122]⟩, .bool false] 75) = W3 from HW3.out.symm]
          refine CRM.out.mono ?_
          rintro e wM ⟨rfl, hbm⟩
          go_wp2_with fail
          go_ret
          exact ⟨rfl, two HB3z.out hbm⟩
        have hrm2 : ¬ ((59 : Int) - nn) < 2 := by omega
        have hca := calm_add 1 59 5 nn [zzChange] (restartD D keep) got (restart_calm _ _) (zz_add hrm) (by rw [HRK.out.2]; decide) (by decide) (by decide) (by rw [HRK.out.2]; decide) HRI.out.cl
        have hok4 := keep_add keptY_ok 1 59 5 nn [zzChange] (restartD D keep) HRK.out.1
        have hl4 := keep_add (keptY_len 60) 1 59 5 nn [zzChange] (restartD D keep) HRK.out.2
        have h404 := keep_add keptY_40 1 59 5 nn [zzChange] (restartD D keep) HRI.out.forty
        have HADD : Hid (∀ W, Below W3.heap.size W3 W → _) := Lib.hid (fun W (hbW : Below W3.heap.size W3 W) => log_Add lb2 LR (restartD D keep) 1 59 5 nn _ [zzChange] W (HL3.out.below hbW).l (HL3.out.below hbW).d HRK.out.1 HL3.out.out (((show ChangesF LR.foot W3 _ _ from ⟨HCF.out.rd, fun a n c e p q => HCF.out.far a n c e p (Or.inl q)⟩)).below hbW) (by intro x hx; simp at hx; subst hx; exact ⟨by decide, by decide⟩) (by show ([] : List Turn).length ≤ _; decide) (by decide) (by decide) (by omega) (by decide))
        obtain ⟨⟨D4, n4⟩, hp4⟩ : ∃ p, p = addY 1 59 5 nn [zzChange] (restartD D keep) := ⟨_, rfl⟩
        rw [← hp4] at hca HADD hok4 hl4 h404
        obtain rfl : n4 = 0 := hca.1
        obtain ⟨AL, hAL⟩ : ∃ x, x = got ++ [[zzChange]] := ⟨_, rfl⟩
        rw [← hAL] at hca
        have HAL := Lib.hid hAL
        have HGL9 : Hid (got.length ≤ 59) := Lib.hid (by have h8 := HLI.out.1; rcases HGW.out with h | h <;> rw [h] <;> (try simp) <;> omega)
        clear hAL
        have HC4 : Hid (Calm D4 ∧ closedY 5 (sectorsY D4 1 59) 0 [] [] 0 = (AL, nn + [zzChange].length + 1)) := Lib.hid ⟨hca.2.1, hca.2.2⟩
        have HK4 : Hid (D4.ok ∧ D4.now.length = 60 ∧ ∀ s ∈ D4.now, s.size = 40) := Lib.hid ⟨hok4, hl4, h404⟩
        clear hca hok4 hl4 h404 hp4
        go_wp2_with fail
        rw [show wS.alloc (.cells #[.string ⟨#[122]⟩, .string ⟨#[122]⟩, .bool false] 75) = W3 from HW3.out.symm]
        refine CRM.out.mono ?_
        rintro e wM ⟨rfl, hbm⟩
        have CA4 := Lib.hid (HADD.out wM hbm)
        have HLM := Lib.hid (HL3.out.below hbm)
        have HDM := Lib.hid (HD3.out.below hbm)
        have HCM := Lib.hid (HCF.out.below hbm)
        have HBM := Lib.hid (two HB3z.out hbm)
        clear hbm HADD
        go_wp2_with fail
        refine CA4.out.mono ?_
        rintro e w4 ⟨rfl, had⟩
        obtain ⟨L4, hl4, hb4, hO4, hG4⟩ := HLM.out.added (by have := HBM.out.size; omega) had
        have HL4 := Lib.hid hl4
        have HB4 := Lib.hid (HBM.out.trans hb4)
        have HD4 := Lib.hid (HDM.out.turned hO4 hG4)
        have HC5 := Lib.hid (HCM.out.turned (by decide) hO4 hG4)
        rw [errV_zero]
        clear had hl4 hb4 hO4 hG4
        have CO50 := open_logd w4 w.heap.size b L4 D4 1 59 5 HL4.out.d HL4.out.eq HC4.out.1.1 HK4.out.1 HK4.out.2.2 (by decide) (by rw [HK4.out.2.1]; decide) (by decide) (by decide) HL4.out.low HB4.out.size HC4.out.2
        have CO5 := Lib.hid CO50
        clear CO50
        go_wp2_with fail
        refine CO5.out.mono ?_
        rintro e w5 ⟨lb5, gv5, rfl, hld5, hde5, hlb5, hb5⟩
        have HDE5 := Lib.hid hde5
        have HB5 := Lib.hid (two HB4.out hb5)
        have HLB5 := Lib.hid hb5
        have HD5 := Lib.hid (HD4.out.below hb5)
        have HC6 := Lib.hid (HC5.out.below hb5)
        clear hld5 hde5 hlb5 hb5
        obtain ⟨go5, gc5, rfl, hgc5, hgc5'⟩ := HDE5.out.parts
        obtain ⟨vs, h1, h2, h3⟩ := HD5.out
        have HVL := Lib.hid h2
        have HV3 := Lib.hid h3
        have hone : ∀ u ∈ vs, u.oneCell' = true := fun u hu => by
          obtain ⟨i, hi, rfl⟩ := List.getElem_of_mem hu
          obtain ⟨ao, cap, e, _, _⟩ := (h3 i hi (by omega)).rd.parts
          rw [e]; rfl
        have HONE := Lib.hid hone
        have HH1 := Lib.hid h1
        have HLFT : Hid (∀ k, logF L4 lb2 k → k < w5.heap.size) := Lib.hid (fun k hk => by have h8 := HL4.out.lt k hk; have h9 := (HB5.out).size; have h7 := HLB5.out.size; omega)
        clear h1 h2 h3 hone
        cases go2 with
        | none =>
          have hv0 : vs = [] := by
            obtain ⟨_, ao, cap, e, _, _, _, h6⟩ := HH1.out.rd
            cases vs with
            | nil => rfl
            | cons a r =>
              obtain ⟨b0, off0, e0, _⟩ := h6 0 a rfl
              rw [e0] at e
              cases e
          have hd0 : got.length = 0 := by rw [← HVL.out, hv0]; rfl
          have HV0 := Lib.hid hv0
          rw [hd0]
          clear hv0
          go_wp2_with (at_builtin; (refine wpList_app_g I_deeds (by first | rfl | simp [Region.wanted, yielded]) (.tmp 132) (.tmp 134) rfl w5.heap.size (.slice none 0 0) 0 [] rfl (World.ownsRow_nil _ _ _ _) ⟨w5.heap.size, 0, none⟩ 1 1 [.slice (some ⟨wS.heap.size, 0, none⟩) 1 1] rfl rfl one_new (by simp [Value.oneCell']) (by omega) (by simp) ?_; intro v2 w2 ho2 hg2; have HO2 : Hid (w2.ownsRow w5.heap.size 48 1 v2 (vs.length + 1) (vs ++ [.slice (some ⟨wS.heap.size, 0, none⟩) 1 1])) := Lib.hid (by rw [HV0.out]; exact ho2); have HB2 : Hid (Below w5.heap.size w5 w2) := Lib.hid (grown_below (below_alloc _ _) (World.ownsRow_nil _ _ 48 1) hg2 (Nat.le_refl _)); clear ho2 hg2))
          have HD2 := deeds_push HV3.out HVL.out HC6.out HB2.out HO2.out HLFT.out
          rw [← HAL.out] at HD2
          have CSZ0 := ref_SameDeeds _ _ _ _ AL AL w2 (HDE5.out.below HB2.out) HD2
          rw [decide_eq_true rfl] at CSZ0
          have CSZ := Lib.hid CSZ0
          clear HD2 CSZ0
          refine CSZ.out.mono ?_
          rintro e w6 ⟨rfl, hb6⟩
          go_wp2_with fail
          go_ret
          exact ⟨rfl, two (two HB5.out HB2.out) hb6⟩
        | some ad =>
          have HNW : Hid (∀ W, Below w5.heap.size w5 W → ∀ j u, vs[j]? = some u → W.cell? (ad.add j) = some u) := Lib.hid fun W hW j u hj => by
            obtain ⟨_, ao, cap, e, _, _, _, h6⟩ := (HH1.out.below hW).rd
            obtain ⟨b0, off0, e0, hc0⟩ := h6 j u (by rw [flat_single]; exact hj)
            rw [e0] at e
            simp only [Value.slice.injEq, Option.some.injEq] at e
            rw [e.1, Addr.add_lit]
            exact hc0
          have hvl : vs.length = got.length * 1 := by rw [HVL.out]; omega
          have hglen : got.length ≤ 59 := HGL9.out
          go_wp2_with (at_builtin; first
            | (refine wpList_app_g I_deeds (by first | rfl | simp [Region.wanted, yielded]) (.const (.slice none 0 0)) (.tmp 131) rfl w5.heap.size (.slice none 0 0) 0 [] rfl (World.ownsRow_nil _ _ _ _) ad got.length gc2 vs rfl hvl (HNW.out _ (Below.refl _ _)) HONE.out (by omega) (Nat.le_refl _) ?_; intro v1 w1 ho1 hg1; have HO1 : Hid (w1.ownsRow w5.heap.size 48 1 v1 got.length vs) := Lib.hid (by simpa using ho1); have HBO : Hid (Below w5.heap.size w5 w1) := Lib.hid (grown_below (Below.refl _ _) (World.ownsRow_nil _ _ 48 1) hg1 (Nat.le_refl _)); clear ho1 hg1)
            | (refine wpList_app_g I_deeds (by first | rfl | simp [Region.wanted, yielded]) (.tmp 132) (.tmp 134) rfl w5.heap.size v1 got.length vs rfl (HO1.out.alloc _) ⟨w1.heap.size, 0, none⟩ 1 1 [.slice (some ⟨wS.heap.size, 0, none⟩) 1 1] rfl rfl one_new (by simp [Value.oneCell']) (by omega) (by have := HBO.out.size; simp; omega) ?_; intro v2 w2 ho2 hg2; have HO2 : Hid (w2.ownsRow w5.heap.size 48 1 v2 (vs.length + 1) (vs ++ [.slice (some ⟨wS.heap.size, 0, none⟩) 1 1])) := Lib.hid (by rw [HVL.out]; exact ho2); have HB2 : Hid (Below w5.heap.size w5 w2) := Lib.hid (grown_below (two HBO.out (below_alloc _ _)) (HO1.out.alloc (.cells #[.slice (some ⟨wS.heap.size, 0, none⟩) 1 1] 48)) hg2 (Nat.le_refl _)); clear ho2 hg2))
          have HD2 := deeds_push HV3.out HVL.out HC6.out HB2.out HO2.out HLFT.out
          rw [← HAL.out] at HD2
          have CSZ0 := ref_SameDeeds _ _ _ _ AL AL w2 (HDE5.out.below HB2.out) HD2
          rw [decide_eq_true rfl] at CSZ0
          have CSZ := Lib.hid CSZ0
          clear HD2 CSZ0
          refine CSZ.out.mono ?_
          rintro e w6 ⟨rfl, hb6⟩
          go_wp2_with fail
          go_ret
          exact ⟨rfl, two (two HB5.out HB2.out) hb6⟩
end Go.Proofs.Ytggpodlecljcbab
