/- The walk of the statement StoreSays. -/
import Derived.Test.YtggpodlecljcbaaLawZ
import Derived.Test.YtggpodlecljcbaaOpenA
namespace Go.Proofs.Ytggpodlecljcbaa
set_option linter.unusedSimpArgs false
set_option linter.unusedVariables false
open Go.RowKit Go.Sort
set_option maxRecDepth 100000 in
set_option maxHeartbeats 16000000 in
theorem law_StoreSays (n : Int) (va : Value) (avs : List ActV) (al : List Act) (w : World) (hav : ActVs w va avs) (haa : IsActs w avs al) (hak : ∀ a ∈ al, a.ok) (hn : -9223372036854775808 ≤ n ∧ n ≤ 9223372036854775807) :
    Calls Try.prog 10 #[.int .i64 n, va] w fun e w' => e = .returned (.bool true) ∧ Below w.heap.size w w' := by
  have CG := Lib.hid (law_stores w)
  have CA := Lib.hid fun W hb => law_LightActs va avs al 40 W (hav.below hb) (haa.below hb) hak
  obtain ⟨vo, vc, rfl, hvc, hvc'⟩ := hav.parts
  have HAV := Lib.hid hav
  have HAA := Lib.hid haa
  have HLE := Lib.hid haa.1
  have HAK := Lib.hid hak
  clear hav haa hak
  go_enter Try.func10, Try.ntmps10
  go_wp2_with fail
  refine CG.out.mono ?_
  rintro e w1 ⟨rfl, hb1⟩
  have HB1 := Lib.hid hb1
  clear hb1
  go_wp2_with fail
  refine (CA.out _ HB1.out).mono ?_
  rintro e w2 ⟨rfl, rfl⟩
  cases hla : lightActs al 40
  · go_wp2_with fail
    go_ret
    exact ⟨rfl, HB1.out⟩
  have HA40 : Hid (al.length ≤ 40 ∧ ∀ a ∈ al, a.changes.length ≤ 20) := Lib.hid (by
    unfold lightActs at hla
    simp only [Bool.and_eq_true, decide_eq_true_eq, List.all_eq_true] at hla
    refine ⟨by omega, fun a ha => ?_⟩
    have := hla.2 a ha
    unfold Act.light at this
    simp only [Bool.and_eq_true, decide_eq_true_eq] at this
    have := light_lenY this.2
    omega)
  clear hla
  have CSM := Lib.hid fun F W => same_is F W
  by_cases hbad : n < 1 ∨ 60 < n
  · have CB := Lib.hid (disk_New_bad n w1 hbad)
    by_cases hn1 : n < 1
    · go_wp2_with fail
      refine CB.out.mono ?_
      rintro e w2 ⟨rfl, hw2⟩
      have HW2 := Lib.hid hw2
      clear hw2 hbad
      go_wp2_with fail
      refine (CSM.out _ _).mono ?_
      rintro e w3 ⟨rfl, hb3⟩
      rw [HW2.out] at hb3
      have HB3 := Lib.hid (two HB1.out hb3)
      clear hb3
      go_wp2_with fail
      go_ret
      exact ⟨rfl, HB3.out⟩
    · have hn2 : 60 < n := by omega
      go_wp2_with fail
      refine CB.out.mono ?_
      rintro e w2 ⟨rfl, hw2⟩
      have HW2 := Lib.hid hw2
      clear hw2 hbad
      go_wp2_with fail
      refine (CSM.out _ _).mono ?_
      rintro e w3 ⟨rfl, hb3⟩
      rw [HW2.out] at hb3
      have HB3 := Lib.hid (two HB1.out hb3)
      clear hb3
      go_wp2_with fail
      go_ret
      exact ⟨rfl, HB3.out⟩
  obtain ⟨N, rfl⟩ : ∃ N : Nat, n = (N : Int) := ⟨n.toNat, by omega⟩
  have hN1 : 1 ≤ N := by omega
  have hN2 : N ≤ 60 := by omega
  have hx1 : ¬ (N : Int) < 1 := by omega
  have hx2 : ¬ (60 : Int) < (N : Int) := by omega
  have CN := Lib.hid (disk_New N w1 hN1 hN2)
  clear hbad hn
  go_wp2_with fail
  refine CN.out.mono ?_
  rintro e w2 ⟨L0, rfl, hd2, hb2, hf2⟩
  have CO := Lib.hid (open_new L0 N w2 hd2 hN1 hN2)
  have HD2 := Lib.hid hd2
  have HB2 := Lib.hid (two HB1.out hb2)
  have HF2 : Hid (∀ k, L0.foot k → w.heap.size ≤ k) := Lib.hid fun k hk => Nat.le_trans HB1.out.size (hf2 k hk)
  obtain ⟨b, hbd⟩ : ∃ b, b = L0.b := ⟨_, rfl⟩
  rw [← hbd] at CO ⊢
  have HBD := Lib.hid hbd
  clear hd2 hb2 hf2 hbd
  go_wp2_with fail
  refine CO.out.mono ?_
  rintro e w3 ⟨rfl, hb3⟩
  have HB3 := Lib.hid (two HB2.out hb3)
  have HD3 := Lib.hid (HD2.out.below hb3)
  clear hb3
  go_wp2_with fail
  refine (CSM.out _ _).mono ?_
  rintro e w4 ⟨rfl, hb4⟩
  have HB4 := Lib.hid (two HB3.out hb4)
  have HD4 := Lib.hid (HD3.out.below hb4)
  have CF := store_Format L0 (newD N) w4 HD4.out (newD_ok hN1 hN2) (by simp [newD])
  rw [← HBD.out] at CF
  clear hb4
  by_cases h42 : N < 42
  · have hx3 : (N : Int) < 42 := by omega
    have hfd : formatD (newD N) = (newD N, 7) := by unfold formatD; rw [if_pos (by rw [newD_len]; exact h42)]
    rw [hfd] at CF
    have HCF := Lib.hid CF
    clear CF hfd h42
    go_wp2_with fail
    refine HCF.out.mono ?_
    rintro e w5 ⟨rfl, ⟨L5, _, d5, o5, g5⟩⟩
    have HB5 := Lib.hid (HB4.out.trans (o5.below _ HB4.out.size HF2.out))
    clear d5 o5 g5
    go_wp2_with fail
    refine (CSM.out _ _).mono ?_
    rintro e w6 ⟨rfl, hb6⟩
    have HB6 := Lib.hid (two HB5.out hb6)
    clear hb6
    go_wp2_with fail
    go_ret
    exact ⟨rfl, HB6.out⟩
  have hx3 : ¬ (N : Int) < 42 := by omega
  have hok1 := formatD_ok _ (newD_ok hN1 hN2)
  obtain ⟨E, e1, e2, e3⟩ := format_inv (newD N) (newD_calm N) (newD_40 N) (by rw [newD_len]; omega) (by rw [newD_len]; exact hN2)
  rw [newD_len] at e3
  rw [e1] at CF hok1
  dsimp only at CF hok1
  rw [errV_zero] at CF
  obtain ⟨many, hmany⟩ : ∃ m, m = N - 26 := ⟨_, rfl⟩
  rw [← hmany] at e3
  have hmm : (N : Int) - 26 = (many : Int) := by omega
  have hm60 : many ≤ 60 := by omega
  have HCF := Lib.hid CF
  have HE := Lib.hid (And.intro e3 (And.intro e2 hok1))
  clear CF e1 e2 e3 hok1 hmany h42
  go_wp2_with fail
  refine HCF.out.mono ?_
  rintro e w5 ⟨rfl, ⟨L5, eL, d5, o5, g5⟩⟩
  have hz4 := HB4.out.size
  have hlow : ∀ k, L5.foot k → w.heap.size ≤ k := fun k hk => by
    rcases g5 k hk with h | h
    · exact HF2.out k h
    · omega
  have HB5 := Lib.hid (HB4.out.trans (o5.below _ hz4 HF2.out))
  have CO5 := Lib.hid (open_std w5 w.heap.size b many L5 E ⟨firstH, 0, []⟩ d5 (eL.trans HBD.out.symm) HE.out.1 HE.out.2.2 hlow HB5.out.size)
  clear eL d5 o5 g5 hz4 hlow
  go_wp2_with fail
  refine CO5.out.mono ?_
  rintro e w6 ⟨sb, lb, rv, rfl, hst, hb6, hsb, hlb, hfr⟩
  have HST := Lib.hid hst
  have HB6 := Lib.hid (two HB5.out hb6)
  clear hst hb6 hsb hlb hfr
  go_wp2_with fail
  obtain ⟨mb, hmb⟩ : ∃ mb, mb = w6.heap.size := ⟨_, rfl⟩
  have HP0 : Hid (PairZ w (w6.alloc (.cells #[.slice none 0 0, .int .i64 0, .int .i64 many] 126)) b many mb sb lb L5 E ⟨firstH, 0, []⟩ rv 0 [] (.slice none 0 0)) := Lib.hid (by
    rw [hmb]
    have hs := HST.out
    exact ⟨hs.below (below_alloc _ _), ⟨alloc_heap _ _, ⟨Rd.nil _, fun a n c h => by cases h⟩⟩, fun a n c h => (by cases h), fun hf => by have := hs.lt _ hf; omega, (RdF.moved (F := fun _ => False) (G := fun k => k = w6.heap.size) ⟨hs.s.rows.rd, fun _ _ _ _ _ h => h⟩ (by decide) (fun x hx => Or.inr (Nat.le_of_eq hx.symm))).far, two HB6.out (below_alloc _ _), HB6.out.size, HE.out.2.1⟩)
  rw [← hmb]
  clear hmb
  go_loopw [9, 12] (fun sv iv wr => ∃ (k sb lb : Nat) (L : Dk) (D : DiskS) (S : StS) (rv rvm : Value), k ≤ avs.length ∧ sv = .pointer (some ⟨sb, 0, none⟩) ∧ iv = .int .i64 k ∧ PairZ w wr b many mb sb lb L D S rv S.next S.rows rvm ∧ S.h.epoch ≤ 1 + k) (fun _ iv _ => avs.length - (intOf iv).toNat)
  case atStart => exact ⟨0, sb, lb, L5, E, ⟨firstH, 0, []⟩, rv, .slice none 0 0, Nat.zero_le _, rfl, rfl, HP0.out, Nat.le_refl _⟩
  case round =>
    clear HP0 HST HCF HE CO5 HB5 HB6 HB4 HD4 CN CO HD2 HD3 HB2 HB3
    obtain ⟨k, sb, lb, L, D, S, rv, rvm, hk, rfl, rfl, hpz, hep⟩ := hrel
    have HPZ := Lib.hid hpz
    have HEP := Lib.hid hep
    clear hpz hep
    by_cases hke : k = avs.length
    · have hke' : ¬ (k : Int) < (avs.length : Int) := by omega
      clear hke
      go_wp2_with fail
      go_ret
      exact ⟨rfl, HPZ.out.bw⟩
    have hke' : (k : Int) < (avs.length : Int) := by omega
    have hlt4 : k < avs.length := by omega
    have hlt4' : k < al.length := by rw [← HLE.out]; exact hlt4
    obtain ⟨ba, oa, rfl, hlb, x0, x1, x2, x3, x4, x5⟩ := ActVs.cell (Rd.below HAV.out HPZ.out.bw) k hlt4
    have hia := HAA.out.2 k hlt4 hlt4'
    have hcl20 : al[k].changes.length ≤ 20 := HA40.out.2 _ (List.getElem_mem hlt4')
    have hcok := (HAK.out _ (List.getElem_mem hlt4')).2.2.2
    obtain ⟨c, hcc⟩ : ∃ c, c = al[k].changes := ⟨_, rfl⟩
    have hch := hia.2.2.2.2.2
    rw [← hcc] at hch hcl20 hcok
    obtain ⟨av, hav⟩ : ∃ v, v = avs[k] := ⟨_, rfl⟩
    rw [← hav] at hch x0 x1 x2 x3 x4 x5
    obtain ⟨co, cc, hcv, hcle, hcle'⟩ := hch.parts
    rw [hcv] at hch x5
    have HCH := Lib.hid hch
    have HCOK := Lib.hid hcok
    have HK40 : Hid (k ≤ 40) := Lib.hid (by have := HA40.out.1; have := HLE.out; omega)
    obtain ⟨W3, hW3⟩ : ∃ W3, W3 = wr.alloc (.cells #[.string av.kind, .string av.s, .string av.t, .int .i64 av.n, .int .u64 av.k, .slice co c.length cc] 62) := ⟨_, rfl⟩
    have HB3 : Hid (Below wr.heap.size wr W3) := Lib.hid (by rw [hW3]; exact below_alloc _ _)
    have HP3 := Lib.hid (HPZ.out.below HB3.out)
    have HBX : Hid (∀ W, Below W3.heap.size W3 W → W.cell? ⟨wr.heap.size, 5, none⟩ = some (.slice co c.length cc)) := Lib.hid fun W hb => cell_on' hb (by rw [hW3]; simp)
    have y0 : W3.cell? ⟨wr.heap.size, 0, none⟩ = some (.string av.kind) := by rw [hW3]; simp
    have HNB : Hid (¬ stF L lb sb wr.heap.size ∧ wr.heap.size ≠ mb) := Lib.hid ⟨fun hf => by have := HPZ.out.st.lt _ hf; omega, fun h => by have := HPZ.out.m.lt; omega⟩
    have HCHW : Hid (∀ W, Below w.heap.size w W → Changes W (.slice co c.length cc) c) := Lib.hid fun W hW => HCH.out.below hW
    have HW3 := Lib.hid hW3
    clear hia hcc hav hch hcok hcv hW3 hke
    cases hkd : (av.kind.toList == [99, 111, 109, 109, 105, 116])
    · cases hks : (av.kind.toList == [115, 97, 118, 101])
      · -- it is opened anew
        have CO := Lib.hid (open_std W3 w.heap.size b many L D S HP3.out.st.d HP3.out.st.eq HP3.out.st.inv HP3.out.st.ok (fun k hk => HP3.out.st.low k (Or.inl hk)) HP3.out.bw.size)
        go_wp2_with fail
        rw [← HW3.out]
        clear x0 x1 x2 x3 x4 x5 hlb
        refine CO.out.mono ?_
        rintro e wz ⟨sbz, lbz, rvz, rfl, hst, hbz, hsb, hlb, hfr⟩
        have HZ : Hid (PairZ w wz b many mb sbz lbz L D S rvz S.next S.rows rvm) := Lib.hid (HP3.out.opened hst hbz hsb hlb hfr)
        have HEZ : Hid (S.h.epoch ≤ 1 + (k + 1)) := Lib.hid (by have := HEP.out; omega)
        clear hst hbz hsb hlb hfr y0 hkd hks
        go_wp2_with fail
        have CRM : Hid (∀ W, Below wz.heap.size wz W → Calls Try.prog 86 #[.pointer (some ⟨sbz, 0, none⟩)] W fun e w' => e = .returned (.int .i64 ((many : Int) - S.next)) ∧ Below W.heap.size W w') := Lib.hid fun W hW => store_Room _ _ _ S many _ W (HZ.out.below hW).st.s HZ.out.st.inv.parts.2.2.2.2 (by omega)
        have CRW : Hid (∀ W, Below wz.heap.size wz W → Calls Try.prog 87 #[.pointer (some ⟨sbz, 0, none⟩)] W fun e w' => ∃ v, e = .returned v ∧ Changes w' v S.rows ∧ Below W.heap.size W w') := Lib.hid fun W hW => (store_Rows _ _ _ S many _ W (HZ.out.below hW).st.s (by have := HZ.out.st.inv.few; omega)).mono fun e w' ⟨v, h1, h2, h3⟩ => ⟨v, h1, SL.of_own h2, h3⟩
        have HMC : Hid (∀ W, Below wz.heap.size wz W → W.cell? ⟨mb, 0, none⟩ = some rvm ∧ W.cell? ⟨mb, 1, none⟩ = some (.int .i64 S.next) ∧ W.cell? ⟨mb, 2, none⟩ = some (.int .i64 many)) := Lib.hid fun W hW => ⟨(HZ.out.below hW).m.cells.1, (HZ.out.below hW).m.cells.2.1, (HZ.out.below hW).m.cells.2.2.1⟩
        have CSC : Hid (∀ W v, Below wz.heap.size wz W → Changes W v S.rows → Calls Try.prog 52 #[v, rvm] W fun e w' => e = .returned (.bool true) ∧ Below W.heap.size W w') := Lib.hid fun W v hW hv => by
          have := ref_SameChanges v rvm S.rows S.rows W hv (HZ.out.below hW).m.rows.rd
          rw [decide_eq_true (rfl : S.rows = S.rows)] at this
          exact this
        have hzn : S.next ≤ many := HZ.out.st.inv.parts.2.2.2.2
        have hwr : IntKind.i64.wrap ((many : Int) - S.next) = (many : Int) - S.next := by rw [IntKind.wrap_i64]; omega
        go_region_held3 (fun W => W.cell? ⟨mb, 0, none⟩ = some rvm ∧ W.cell? ⟨mb, 1, none⟩ = some (.int .i64 S.next) ∧ W.cell? ⟨mb, 2, none⟩ = some (.int .i64 many))
          (first
            | exact HMC.out _ (Below.refl _ _).drew
            | exact HMC.out _ (HD1 : Hid (Below wz.heap.size wz _)).out
            | exact HMC.out _ (HD2 : Hid (Below wz.heap.size wz _)).out
            | exact HMC.out _ (HD3 : Hid (Below wz.heap.size wz _)).out)
          (first
            | (go_at_call 86; refine (CRM.out _ (Below.refl _ _).drew).mono ?_; rintro e wD ⟨rfl, hd1⟩; have HD1 : Hid (Below wz.heap.size wz wD) := Lib.hid (two (Below.refl _ _).drew hd1); clear hd1)
            | (go_at_call 87; refine (CRW.out _ (HD1 : Hid (Below wz.heap.size wz _)).out).mono ?_; rintro e wE ⟨ve, rfl, hve, hd2⟩; have HVE := Lib.hid hve; have HD2 : Hid (Below wz.heap.size wz wE) := Lib.hid (two (HD1 : Hid (Below wz.heap.size wz _)).out hd2); clear hve hd2)
            | (go_at_call 52; refine (CSC.out _ _ (HD2 : Hid (Below wz.heap.size wz _)).out (HVE : Hid _).out).mono ?_; rintro e wG ⟨rfl, hd3⟩; have HD3 : Hid (Below wz.heap.size wz wG) := Lib.hid (two (HD2 : Hid (Below wz.heap.size wz _)).out hd3); clear hd3))
        all_goals
          go_wp2_with fail
          go_roundw
          case rel => exact ⟨k + 1, _, _, _, _, S, _, _, by omega, rfl, by go_num, HZ.out.below (HD3 : Hid (Below wz.heap.size wz _)).out, HEZ.out⟩
          case measure => simp [intOf]; omega
      · -- all rows are laid
        obtain ⟨D', S', hcz, hI', hC', hr', hn', he'⟩ := calm_checkZ HP3.out.st.inv HP3.out.calm (by have := HEP.out; have := HK40.out; omega)
        have hok' := keep_checkZ keptY_ok many S D HP3.out.st.ok
        have CC := HP3.out.checked (by have := HEP.out; have := HK40.out; omega)
        rw [hcz] at CC hok'
        dsimp only at CC hok'
        rw [errV_zero] at CC
        have HCC := Lib.hid CC
        have HIN := Lib.hid (And.intro hI' (And.intro hC' hok'))
        have HSN := Lib.hid (And.intro hr' hn')
        have HEZ : Hid (S'.h.epoch ≤ 1 + (k + 1)) := Lib.hid (by have := HEP.out; omega)
        clear hcz hI' hC' hr' hn' he' hok' CC
        go_wp2_with fail
        rw [← HW3.out]
        clear x0 x1 x2 x3 x4 x5 hlb
        refine HCC.out.mono ?_
        rintro e wA ⟨rfl, hto⟩
        obtain ⟨L', lb', rv', hpa, hoff⟩ := HP3.out.store hto HIN.out.1 HIN.out.2.1 HIN.out.2.2
        have HPA := Lib.hid hpa
        obtain ⟨m0, m1, m2, mf⟩ := hpa.m.cells
        clear hto hpa hoff y0 hkd hks m0 m2
        go_wp2_with fail
        have HZ : Hid (PairZ w (wA.setCell ⟨mb, 1, none⟩ (.int .i64 0)) b many mb sb lb' L' D' S' rv' S'.next S'.rows rvm) := Lib.hid (by
          rw [HSN.out.1, HSN.out.2]
          exact HPA.out.set0)
        obtain ⟨wz, hwz⟩ : ∃ W, W = wA.setCell ⟨mb, 1, none⟩ (.int .i64 0) := ⟨_, rfl⟩
        rw [← hwz] at HZ ⊢
        clear hwz m1 mf
        have CRM : Hid (∀ W, Below wz.heap.size wz W → Calls Try.prog 86 #[.pointer (some ⟨sb, 0, none⟩)] W fun e w' => e = .returned (.int .i64 ((many : Int) - S'.next)) ∧ Below W.heap.size W w') := Lib.hid fun W hW => store_Room _ _ _ S' many _ W (HZ.out.below hW).st.s HZ.out.st.inv.parts.2.2.2.2 (by omega)
        have CRW : Hid (∀ W, Below wz.heap.size wz W → Calls Try.prog 87 #[.pointer (some ⟨sb, 0, none⟩)] W fun e w' => ∃ v, e = .returned v ∧ Changes w' v S'.rows ∧ Below W.heap.size W w') := Lib.hid fun W hW => (store_Rows _ _ _ S' many _ W (HZ.out.below hW).st.s (by have := HZ.out.st.inv.few; omega)).mono fun e w' ⟨v, h1, h2, h3⟩ => ⟨v, h1, SL.of_own h2, h3⟩
        have HMC : Hid (∀ W, Below wz.heap.size wz W → W.cell? ⟨mb, 0, none⟩ = some rvm ∧ W.cell? ⟨mb, 1, none⟩ = some (.int .i64 S'.next) ∧ W.cell? ⟨mb, 2, none⟩ = some (.int .i64 many)) := Lib.hid fun W hW => ⟨(HZ.out.below hW).m.cells.1, (HZ.out.below hW).m.cells.2.1, (HZ.out.below hW).m.cells.2.2.1⟩
        have CSC : Hid (∀ W v, Below wz.heap.size wz W → Changes W v S'.rows → Calls Try.prog 52 #[v, rvm] W fun e w' => e = .returned (.bool true) ∧ Below W.heap.size W w') := Lib.hid fun W v hW hv => by
          have := ref_SameChanges v rvm S'.rows S'.rows W hv (HZ.out.below hW).m.rows.rd
          rw [decide_eq_true (rfl : S'.rows = S'.rows)] at this
          exact this
        have hzn : S'.next ≤ many := HZ.out.st.inv.parts.2.2.2.2
        have hwr : IntKind.i64.wrap ((many : Int) - S'.next) = (many : Int) - S'.next := by rw [IntKind.wrap_i64]; omega
        go_region_held3 (fun W => W.cell? ⟨mb, 0, none⟩ = some rvm ∧ W.cell? ⟨mb, 1, none⟩ = some (.int .i64 S'.next) ∧ W.cell? ⟨mb, 2, none⟩ = some (.int .i64 many))
          (first
            | exact HMC.out _ (Below.refl _ _).drew
            | exact HMC.out _ (HD1 : Hid (Below wz.heap.size wz _)).out
            | exact HMC.out _ (HD2 : Hid (Below wz.heap.size wz _)).out
            | exact HMC.out _ (HD3 : Hid (Below wz.heap.size wz _)).out)
          (first
            | (go_at_call 86; refine (CRM.out _ (Below.refl _ _).drew).mono ?_; rintro e wD ⟨rfl, hd1⟩; have HD1 : Hid (Below wz.heap.size wz wD) := Lib.hid (two (Below.refl _ _).drew hd1); clear hd1)
            | (go_at_call 87; refine (CRW.out _ (HD1 : Hid (Below wz.heap.size wz _)).out).mono ?_; rintro e wE ⟨ve, rfl, hve, hd2⟩; have HVE := Lib.hid hve; have HD2 : Hid (Below wz.heap.size wz wE) := Lib.hid (two (HD1 : Hid (Below wz.heap.size wz _)).out hd2); clear hve hd2)
            | (go_at_call 52; refine (CSC.out _ _ (HD2 : Hid (Below wz.heap.size wz _)).out (HVE : Hid _).out).mono ?_; rintro e wG ⟨rfl, hd3⟩; have HD3 : Hid (Below wz.heap.size wz wG) := Lib.hid (two (HD2 : Hid (Below wz.heap.size wz _)).out hd3); clear hd3))
        all_goals
          go_wp2_with fail
          go_roundw
          case rel => exact ⟨k + 1, _, _, _, _, S', _, _, by omega, rfl, by go_num, HZ.out.below (HD3 : Hid (Below wz.heap.size wz _)).out, HEZ.out⟩
          case measure => simp [intOf]; omega
    · -- a deed
      obtain ⟨F, hF⟩ : ∃ F, F = commitFault many S.rows c := ⟨_, rfl⟩
      obtain ⟨D', S', hcz, hI', hC', hru, hrr, he'⟩ := calm_commit_ref c HP3.out.st.inv HP3.out.calm (by have := HEP.out; have := HK40.out; omega)
      have hok' := keep_commit keptY_ok many S c D HP3.out.st.ok
      rw [hcz] at hok'
      rw [← hF] at hcz
      have HIN := Lib.hid (And.intro hI' (And.intro hC' hok'))
      have CCM : Hid (∀ W, PairZ w W b many mb sb lb L D S rv S.next S.rows rvm → Calls Try.prog 83 #[.pointer (some ⟨sb, 0, none⟩), .slice co c.length cc] W fun e w' => e = .returned (errV F) ∧ ∃ L' lb' rv', PairZ w w' b many mb sb lb' L' D' S' rv' S.next S.rows rvm ∧ Off (stF L lb sb) W w') := Lib.hid (fun W hp => by
        have := store_Commit sb lb L D S many rv _ c W hp.st.s hp.st.d hp.st.ok hp.st.inv (by have := HEP.out; have := HK40.out; omega) (Rd.outside HCH.out (by decide) hp.st.low |>.below hp.bw) HCOK.out (by omega)
        rw [hcz] at this
        refine this.mono ?_
        rintro e w' ⟨rfl, hto⟩
        exact ⟨rfl, hp.store hto hI' hC' hok'⟩)
      have CRF : Hid (∀ W lb' L' rv', PairZ w W b many mb sb lb' L' D' S' rv' S.next S.rows rvm → Calls Try.prog 84 #[.pointer (some ⟨mb, 0, none⟩), .slice co c.length cc] W fun e w' => e = .returned (.int .i64 F) ∧ ∃ rvm', PairZ w w' b many mb sb lb' L' D' S' rv' S'.next S'.rows rvm' ∧ Off (fun k => k = mb) W w') := Lib.hid (fun W lb' L' rv' hp => by
        have hml := hp.ml
        have := refStore_Commit mb many S.next rvm _ S.rows c W hp.m (by have := HP3.out.st.inv.m2; omega) HP3.out.st.inv.parts.2.2.2.2 HP3.out.st.inv.rises (by have := HP3.out.st.inv.few; omega) (Rd.outside (F := fun k => k = mb) HCH.out (by decide) (fun x hx => by rw [hx]; exact hml) |>.below hp.bw) HCOK.out (by omega)
        rw [← hF, hru, hrr] at this
        refine this.mono ?_
        rintro e w' ⟨rfl, rvm', hm', ho', hf'⟩
        exact ⟨rfl, rvm', hp.refd hm' ho' hf', ho'⟩)
      have HEZ : Hid (S'.h.epoch ≤ 1 + (k + 1)) := Lib.hid (by have := HEP.out; omega)
      have HPD : Hid (PairZ w W3.drew b many mb sb lb L D S rv S.next S.rows rvm) := Lib.hid (HP3.out.below (Below.refl _ _).drew)
      have HSD := Lib.hid (HBX.out _ (Below.refl _ _).drew)
      clear hF hcz hI' hC' hru hrr he' hok' y0
      go_wp2_with fail
      rw [← HW3.out]
      clear x0 x1 x2 x3 x4 x5 hlb hkd
      go_region_held3 (fun W => W.cell? ⟨wr.heap.size, 5, none⟩ = some (.slice co c.length cc))
        (first
          | exact HSD.out
          | exact (HOA : Hid (Off (stF L lb sb) _ _)).out.cell HSD.out HNB.out.1
          | exact (HOB : Hid (Off (fun k => k = mb) _ _)).out.cell ((HOA : Hid (Off (stF L lb sb) _ _)).out.cell HSD.out HNB.out.1) HNB.out.2
          | exact cell_on' (HBC : Hid _).out ((HOB : Hid (Off (fun k => k = mb) _ _)).out.cell ((HOA : Hid (Off (stF L lb sb) _ _)).out.cell HSD.out HNB.out.1) HNB.out.2))
        (first
          | (go_at_call 83; refine (CCM.out _ HPD.out).mono ?_; rintro e wA ⟨rfl, L', lb', rv', hpa, hoa⟩; have HPA := Lib.hid hpa; have HOA := Lib.hid hoa; clear hpa hoa)
          | (go_at_call 84; refine (CRF.out _ _ _ _ (HPA : Hid _).out).mono ?_; rintro e wB ⟨rfl, rvm', hpb, hob⟩; have HPB := Lib.hid hpb; have HOB := Lib.hid hob; clear hpb hob)
          | (go_at_call 14; refine (CSM.out _ _).mono ?_; rintro e wz ⟨rfl, hbc⟩; have HBC := Lib.hid hbc; have HZ := Lib.hid ((HPB : Hid (PairZ w _ b many mb sb _ _ D' S' _ S'.next S'.rows _)).out.below hbc); clear hbc))
      all_goals
        go_wp2_with fail
        have CRM : Hid (∀ W, Below wz.heap.size wz W → Calls Try.prog 86 #[.pointer (some ⟨sb, 0, none⟩)] W fun e w' => e = .returned (.int .i64 ((many : Int) - S'.next)) ∧ Below W.heap.size W w') := Lib.hid fun W hW => store_Room _ _ _ S' many _ W (HZ.out.below hW).st.s HZ.out.st.inv.parts.2.2.2.2 (by omega)
        have CRW : Hid (∀ W, Below wz.heap.size wz W → Calls Try.prog 87 #[.pointer (some ⟨sb, 0, none⟩)] W fun e w' => ∃ v, e = .returned v ∧ Changes w' v S'.rows ∧ Below W.heap.size W w') := Lib.hid fun W hW => (store_Rows _ _ _ S' many _ W (HZ.out.below hW).st.s (by have := HZ.out.st.inv.few; omega)).mono fun e w' ⟨v, h1, h2, h3⟩ => ⟨v, h1, SL.of_own h2, h3⟩
        have HMC : Hid (∀ W, Below wz.heap.size wz W → W.cell? ⟨mb, 0, none⟩ = some rvm' ∧ W.cell? ⟨mb, 1, none⟩ = some (.int .i64 S'.next) ∧ W.cell? ⟨mb, 2, none⟩ = some (.int .i64 many)) := Lib.hid fun W hW => ⟨(HZ.out.below hW).m.cells.1, (HZ.out.below hW).m.cells.2.1, (HZ.out.below hW).m.cells.2.2.1⟩
        have CSC : Hid (∀ W v, Below wz.heap.size wz W → Changes W v S'.rows → Calls Try.prog 52 #[v, rvm'] W fun e w' => e = .returned (.bool true) ∧ Below W.heap.size W w') := Lib.hid fun W v hW hv => by
          have := ref_SameChanges v rvm' S'.rows S'.rows W hv (HZ.out.below hW).m.rows.rd
          rw [decide_eq_true (rfl : S'.rows = S'.rows)] at this
          exact this
        have hzn : S'.next ≤ many := HZ.out.st.inv.parts.2.2.2.2
        have hwr : IntKind.i64.wrap ((many : Int) - S'.next) = (many : Int) - S'.next := by rw [IntKind.wrap_i64]; omega
        go_region_held3 (fun W => W.cell? ⟨mb, 0, none⟩ = some rvm' ∧ W.cell? ⟨mb, 1, none⟩ = some (.int .i64 S'.next) ∧ W.cell? ⟨mb, 2, none⟩ = some (.int .i64 many))
          (first
            | exact HMC.out _ (Below.refl _ _).drew
            | exact HMC.out _ (HD1 : Hid (Below wz.heap.size wz _)).out
            | exact HMC.out _ (HD2 : Hid (Below wz.heap.size wz _)).out
            | exact HMC.out _ (HD3 : Hid (Below wz.heap.size wz _)).out)
          (first
            | (go_at_call 86; refine (CRM.out _ (Below.refl _ _).drew).mono ?_; rintro e wD ⟨rfl, hd1⟩; have HD1 : Hid (Below wz.heap.size wz wD) := Lib.hid (two (Below.refl _ _).drew hd1); clear hd1)
            | (go_at_call 87; refine (CRW.out _ (HD1 : Hid (Below wz.heap.size wz _)).out).mono ?_; rintro e wE ⟨ve, rfl, hve, hd2⟩; have HVE := Lib.hid hve; have HD2 : Hid (Below wz.heap.size wz wE) := Lib.hid (two (HD1 : Hid (Below wz.heap.size wz _)).out hd2); clear hve hd2)
            | (go_at_call 52; refine (CSC.out _ _ (HD2 : Hid (Below wz.heap.size wz _)).out (HVE : Hid _).out).mono ?_; rintro e wG ⟨rfl, hd3⟩; have HD3 : Hid (Below wz.heap.size wz wG) := Lib.hid (two (HD2 : Hid (Below wz.heap.size wz _)).out hd3); clear hd3))
        all_goals
          go_wp2_with fail
          go_roundw
          case rel => exact ⟨k + 1, _, _, _, _, S', _, _, by omega, rfl, by go_num, HZ.out.below (HD3 : Hid (Below wz.heap.size wz _)).out, HEZ.out⟩
          case measure => simp [intOf]; omega
theorem store_says (n : Int) (va : Value) (avs : List ActV) (al : List Act) (w : World) (hav : ActVs w va avs) (haa : IsActs w avs al) (hn : (Lit.int .i64 n).wf = true) (hak : ∀ a ∈ al, a.ok) :
    Calls Try.prog 10 #[.int .i64 n, va] w fun e w' => e = .returned (.bool true) ∧ Below w.heap.size w w' :=
  law_StoreSays n va avs al w hav haa hak (wf_i64 hn)
end Go.Proofs.Ytggpodlecljcbaa
