/- The walk of the statement RowSays. -/
import Derived.Test.YtggpodlecljcbaaWalkX9
namespace Go.Proofs.Ytggpodlecljcbaa
set_option linter.unusedSimpArgs false
set_option linter.unusedVariables false
open Go.RowKit Go.Sort
theorem light_len {l : List Change} {most : Int} (h : lightChanges l most = true) : (l.length : Int) ≤ most := by
  unfold lightChanges at h
  simp only [Bool.and_eq_true, decide_eq_true_eq] at h
  exact h.1
theorem one_change {w : World} {b : Nat} (f : Change) (h0 : w.cell? ⟨b, 0, none⟩ = some (.string f.key)) (h1 : w.cell? ⟨b, 1, none⟩ = some (.string f.val)) (h2 : w.cell? ⟨b, 2, none⟩ = some (.bool f.gone)) : Changes w (.slice (some ⟨b, 0, none⟩) 1 1) [f] := by
  refine ⟨rfl, some ⟨b, 0, none⟩, 1, rfl, Nat.le_refl _, by decide, (fun _ h => by cases h), fun j u hj => ⟨b, 0, rfl, ?_⟩⟩
  rw [Nat.zero_add]
  match j, hj with
  | 0, hj => simp [Change.cells] at hj; subst hj; exact h0
  | 1, hj => simp [Change.cells] at hj; subst hj; exact h1
  | 2, hj => simp [Change.cells] at hj; subst hj; exact h2
  | j + 3, hj => simp [Change.cells] at hj
set_option maxRecDepth 100000 in
set_option maxHeartbeats 8000000 in
theorem law_RowSays (va : Value) (l : List Change) (vc : Value) (cs : List Change) (c : Change) (s : ByteArray) (w : World) (ha : Changes w va l) (hc : Changes w vc cs) (hol : ∀ x ∈ l, x.ok) (hoc : ∀ x ∈ cs, x.ok) (hco : c.ok) (hs : s.size ≤ maxLen) :
    Calls Try.prog 6 #[va, vc, .agg #[.string c.key, .string c.val, .bool c.gone], .string s] w fun e w' => e = .returned (.bool true) ∧ Below w.heap.size w w' := by
  have CR := Lib.hid fun W => law_rows W
  have CL := Lib.hid fun W hw => law_LightChanges va l 70 W (Rd.below ha hw) hol
  have CC := Lib.hid fun W hw => law_LightChanges vc cs 20 W (Rd.below hc hw) hoc
  have C1 := Lib.hid fun v W h => law_LightChanges v [c] 1 W h (by intro x hx; simp at hx; subst hx; exact hco)
  obtain ⟨ao, ac, rfl, hac, hac'⟩ := ha.parts
  obtain ⟨co, cc, rfl, hcc, hcc'⟩ := hc.parts
  have HA := Lib.hid ha
  have HC := Lib.hid hc
  have HOL := Lib.hid hol
  have HOC := Lib.hid hoc
  have HCO := Lib.hid hco
  unfold maxLen at hs
  obtain ⟨W1, hW1⟩ : ∃ W1, W1 = w.alloc (.cells #[.string c.key, .string c.val, .bool c.gone] 78) := ⟨_, rfl⟩
  have HB1 : Hid (Below w.heap.size w W1) := Lib.hid (by rw [hW1]; exact below_alloc _ _)
  have HQ1 : Hid (QXAt W1 w.heap.size c) := Lib.hid (by rw [hW1]; exact QXAt.new w c)
  have HQ : Hid (∀ W, Below W1.heap.size W1 W → W.cell? ⟨w.heap.size, 0, none⟩ = some (.string c.key) ∧ W.cell? ⟨w.heap.size, 1, none⟩ = some (.string c.val) ∧ W.cell? ⟨w.heap.size, 2, none⟩ = some (.bool c.gone)) := Lib.hid fun W hb => ⟨(HQ1.out.below hb).c0, (HQ1.out.below hb).c1, (HQ1.out.below hb).c2⟩
  have HW1 := Lib.hid hW1
  clear hW1 ha hc hol hoc hco
  go_enter Try.func6, Try.ntmps6
  go_wp2_with fail
  rw [← HW1.out]
  refine (CR.out _).mono ?_
  rintro e w2 ⟨rfl, hb2⟩
  have HB2 := Lib.hid hb2
  clear hb2
  go_wp2_with fail
  refine (CL.out _ (two HB1.out HB2.out)).mono ?_
  rintro e w3 ⟨rfl, rfl⟩
  cases hl : lightChanges l 70
  · go_wp2_with fail
    go_ret
    exact ⟨rfl, two HB1.out HB2.out⟩
  have HL70 : Hid (l.length ≤ 100) := Lib.hid (by have := light_len hl; omega)
  clear hl
  go_wp2_with fail
  refine (CC.out _ (two HB1.out HB2.out)).mono ?_
  rintro e w4 ⟨rfl, rfl⟩
  cases hl : lightChanges cs 20
  · go_wp2_with fail
    go_ret
    exact ⟨rfl, two HB1.out HB2.out⟩
  have HL20 : Hid (cs.length ≤ 100) := Lib.hid (by have := light_len hl; omega)
  clear hl
  obtain ⟨q0, q1, q2⟩ := HQ.out _ HB2.out
  obtain ⟨W5, hW5⟩ : ∃ W5, W5 = w2.alloc (.cells #[.string c.key, .string c.val, .bool c.gone] 78) := ⟨_, rfl⟩
  have CV := C1.out _ W5 (one_change (b := w2.heap.size) c (by rw [hW5]; simp) (by rw [hW5]; simp) (by rw [hW5]; simp))
  have HB5 : Hid (Below W1.heap.size W1 W5) := Lib.hid (by rw [hW5]; exact two HB2.out (below_alloc _ _))
  replace CV := Lib.hid CV
  have HW5 := Lib.hid hW5
  clear hW5
  go_wp2_with fail
  rw [← HW5.out]
  refine CV.out.mono ?_
  rintro e w6 ⟨rfl, rfl⟩
  clear q0 q1 q2
  cases hl : lightChanges [c] 1
  · go_wp2_with fail
    go_ret
    exact ⟨rfl, two HB1.out HB5.out⟩
  clear hl
  by_cases hs2 : 200 < s.size
  · have hs3 : (200 : Int) < (s.size : Int) := by omega
    clear hs2
    go_wp2_with fail
    go_ret
    exact ⟨rfl, two HB1.out HB5.out⟩
  have hs3 : ¬ (200 : Int) < (s.size : Int) := by omega
  have HS2 : Hid (s.size ≤ 1000) := Lib.hid (by omega)
  clear hs2
  obtain ⟨q0, q1, q2⟩ := HQ.out _ HB5.out
  have CB := fun W => row_Bytes c W HCO.out.1 HCO.out.2
  have CD := fun W => ref_ChangeBytes c W HCO.out.1 HCO.out.2
  obtain ⟨⟨bs, n1⟩, hp1⟩ : ∃ p, p = changeBytes c := ⟨_, rfl⟩
  simp only [← hp1] at CB CD
  have CP := fun W => row_Parse s W HS2.out
  have CO := fun W => ref_ChangeOf s W HS2.out
  obtain ⟨⟨⟨xk, xv, xg⟩, n2⟩, hp2⟩ : ∃ p, p = changeOf s := ⟨_, rfl⟩
  simp only [← hp2, Change.val'] at CP CO
  have CK := fun W => row_Check c.key c.val c.gone W HCO.out.1 HCO.out.2
  have CF := fun W => ref_ChangeFault c.key c.val c.gone W HCO.out.1 HCO.out.2
  obtain ⟨n3, hn3⟩ : ∃ n, n = changeFault ⟨c.key, c.val, c.gone⟩ := ⟨_, rfl⟩
  simp only [← hn3] at CK CF
  have SM := Lib.hid fun n W => same_eq n W
  replace CB := Lib.hid CB
  replace CD := Lib.hid CD
  replace CP := Lib.hid CP
  replace CO := Lib.hid CO
  replace CK := Lib.hid CK
  replace CF := Lib.hid CF
  clear hp1 hp2 hn3
  go_wp2_with fail
  clear hs3
  refine (CB.out _).mono ?_
  rintro e w7 ⟨rfl, hb7⟩
  have HB7 := Lib.hid (two HB5.out hb7)
  clear hb7 q0 q1 q2
  obtain ⟨q0, q1, q2⟩ := HQ.out _ HB7.out
  go_wp2_with fail
  refine (CD.out _).mono ?_
  rintro e w8 ⟨rfl, hb8⟩
  have HB8 := Lib.hid (two HB7.out hb8)
  clear hb8 q0 q1 q2
  go_wp2_with fail
  refine (CP.out _).mono ?_
  rintro e w9 ⟨rfl, hb9⟩
  obtain ⟨W9, hW9⟩ : ∃ W9, W9 = w9.alloc (.cells #[.string xk, .string xv, .bool xg] 78) := ⟨_, rfl⟩
  have HX9 : Hid (QXAt W9 w9.heap.size ⟨xk, xv, xg⟩) := Lib.hid (by rw [hW9]; exact QXAt.new w9 ⟨xk, xv, xg⟩)
  have HB9 : Hid (Below W1.heap.size W1 W9) := Lib.hid (by rw [hW9]; exact two HB8.out (two hb9 (below_alloc _ _)))
  have HW9 := Lib.hid hW9
  obtain ⟨xb, hxb⟩ : ∃ xb, xb = w9.heap.size := ⟨_, rfl⟩
  have HXB := Lib.hid hxb
  rw [← hxb] at HX9
  clear hb9 hW9 hxb
  go_wp2_with fail
  rw [← HW9.out]
  refine (CO.out _).mono ?_
  rintro e w10 ⟨rfl, hb10⟩
  obtain ⟨W11, hW11⟩ : ∃ W11, W11 = w10.alloc (.cells #[.string xk, .string xv, .bool xg] 78) := ⟨_, rfl⟩
  have HY11 : Hid (QXAt W11 w10.heap.size ⟨xk, xv, xg⟩) := Lib.hid (by rw [hW11]; exact QXAt.new w10 ⟨xk, xv, xg⟩)
  have HX11 : Hid (QXAt W11 xb ⟨xk, xv, xg⟩) := Lib.hid (HX9.out.below (by rw [hW11]; exact two hb10 (below_alloc _ _)))
  have HB11 : Hid (Below W1.heap.size W1 W11) := Lib.hid (by rw [hW11]; exact two HB9.out (two hb10 (below_alloc _ _)))
  have HW11 := Lib.hid hW11
  obtain ⟨yb, hyb⟩ : ∃ yb, yb = w10.heap.size := ⟨_, rfl⟩
  have HYB := Lib.hid hyb
  rw [← hyb] at HY11
  clear hb10 hW11 hyb
  have hsame : changeSame xk xv xg xk xv xg = true := by simp [changeSame]
  go_wp2_with fail
  rw [← HW11.out, ← HXB.out, ← HYB.out]
  obtain ⟨q0, q1, q2⟩ := HQ.out _ HB11.out
  have x0 := regrown_cell HX11.out.c0
  have x1 := regrown_cell HX11.out.c1
  have x2 := regrown_cell HX11.out.c2
  have y0 := regrown_cell HY11.out.c0
  have y1 := regrown_cell HY11.out.c1
  have y2 := regrown_cell HY11.out.c2
  dsimp only at x0 x1 x2 y0 y1 y2
  replace q0 := regrown_cell q0
  replace q1 := regrown_cell q1
  replace q2 := regrown_cell q2
  refine wp_region_q (by kernel_rfl) (by kernel_rfl) ?_
  repeat (go_big_quiet_step (first
    | (go_at_call 49; exact Calls.regrown_of (CK.out _))
    | (go_at_call 50; exact Calls.regrown_of (CF.out _))
    | (go_at_call 14; exact Calls.regrown_of (SM.out _ _))))
  refine wpQuiet_nil ?_
  intro w12 hb12
  have HB12 := Lib.hid (two HB11.out hb12)
  clear hb12 x0 x1 x2 y0 y1 y2 q0 q1 q2 hsame
  go_wp2_with fail
  go_loopw [18] (fun i wr => ∃ k : Nat, k ≤ cs.length ∧ i = .int .i64 k ∧ Below W1.heap.size W1 wr) (fun i _ => cs.length - (intOf i).toNat)
  case atStart => exact ⟨0, Nat.zero_le _, rfl, HB12.out⟩
  case round =>
    obtain ⟨k, hk, rfl, hbw⟩ := hrel
    have HBW := Lib.hid hbw
    clear hbw
    by_cases hlt : k < cs.length
    · obtain ⟨cb, cof, rfl, hlb, x0, x1, x2⟩ := Changes.cell (HC.out.below (two HB1.out HBW.out)) k hlt
      have hks := HOC.out cs[k] (List.getElem_mem hlt)
      have CG := Lib.hid (ref_ChangeFault cs[k].key cs[k].val cs[k].gone wr hks.1 hks.2)
      clear hks
      by_cases hf : 0 < changeFault ⟨cs[k].key, cs[k].val, cs[k].gone⟩
      · have hf1 : (0 : Int) < (changeFault ⟨cs[k].key, cs[k].val, cs[k].gone⟩ : Int) := by omega
        clear hf
        go_wp2_with fail
        refine CG.out.mono ?_
        rintro e w13 ⟨rfl, hb13⟩
        have HB13 := Lib.hid (two HBW.out hb13)
        clear hb13
        go_wp2_with fail
        go_ret
        exact ⟨rfl, two HB1.out HB13.out⟩
      · have hf1 : ¬ (0 : Int) < (changeFault ⟨cs[k].key, cs[k].val, cs[k].gone⟩ : Int) := by omega
        clear hf
        go_wp2_with fail
        refine CG.out.mono ?_
        rintro e w13 ⟨rfl, hb13⟩
        have HB13 := Lib.hid (two HBW.out hb13)
        clear hb13 x0 x1 x2
        go_wp2_with fail
        go_roundw
        case rel => exact ⟨k + 1, by omega, by go_num, HB13.out⟩
        case measure => simp [intOf]; omega
    · have CGR := Lib.hid (law_goodRows _ l wr (HA.out.below (two HB1.out HBW.out)) HOL.out)
      go_wp2_with fail
      refine CGR.out.mono ?_
      rintro e w13 ⟨g, rfl, hg, hb13⟩
      have HB13 := Lib.hid (two HBW.out hb13)
      clear hb13
      cases g
      · go_wp2_with fail
        go_ret
        exact ⟨rfl, two HB1.out HB13.out⟩
      have HRI := Lib.hid (hg rfl)
      clear hg
      have CA := Lib.hid (row_Apply _ _ l cs w13 (HA.out.below (two HB1.out HB13.out)) (HC.out.below (two HB1.out HB13.out)) HRI.out HL70.out HL20.out)
      go_wp2_with fail
      refine CA.out.mono ?_
      rintro e w14 ⟨v1, rfl, ht1, hb14⟩
      have HT1 := Lib.hid ht1
      have HB14 := Lib.hid (two HB13.out hb14)
      have CE := Lib.hid (ref_Applied _ _ l cs w14 (HA.out.below (two HB1.out HB14.out)) (HC.out.below (two HB1.out HB14.out)) HRI.out HL70.out HL20.out)
      clear ht1 hb14
      go_wp2_with fail
      refine CE.out.mono ?_
      rintro e w15 ⟨v2, rfl, ht2, hb15⟩
      have CS := ref_SameChanges v1 v2 _ _ w15 (HT1.out.below hb15) ht2
      rw [decide_eq_true (rfl : appsTo l cs cs.length = appsTo l cs cs.length)] at CS
      have HB15 := Lib.hid (two HB14.out hb15)
      replace CS := Lib.hid CS
      clear ht2 hb15
      go_wp2_with fail
      refine CS.out.mono ?_
      rintro e w16 ⟨rfl, hb16⟩
      have HB16 := Lib.hid (two HB15.out hb16)
      clear hb16
      go_wp2_with fail
      go_ret
      exact ⟨rfl, two HB1.out HB16.out⟩
end Go.Proofs.Ytggpodlecljcbaa
