/- The walk of the statement TopWhole. Printed by wip/mk_ttr.py. -/
import Derived.Test.YtggpodlecljcbacGreatDoorMT0
namespace Go.Proofs.YtggpodlecljcbacGreatDoor
set_option linter.unusedSimpArgs false
set_option linter.unusedVariables false
open Go.RowKit Go.Sort
theorem one_actT {w : World} {b : Nat} (av : ActV) (h0 : w.cell? ⟨b, 0, none⟩ = some (.string av.kind)) (h1 : w.cell? ⟨b, 1, none⟩ = some (.string av.s)) (h2 : w.cell? ⟨b, 2, none⟩ = some (.string av.t)) (h3 : w.cell? ⟨b, 3, none⟩ = some (.int .i64 av.n)) (h4 : w.cell? ⟨b, 4, none⟩ = some (.int .u64 av.k)) (h5 : w.cell? ⟨b, 5, none⟩ = some av.cv) : ActVs w (.slice (some ⟨b, 0, none⟩) 1 1) [av] := by
  refine ⟨by simp [ActV.cells], some ⟨b, 0, none⟩, 1, rfl, Nat.le_refl _, by decide, (fun h _ => by simp at h), fun j u hj => ⟨b, 0, rfl, ?_⟩⟩
  rw [Nat.zero_add]
  match j, hj with
  | 0, hj => simp [ActV.cells] at hj; subst hj; exact h0
  | 1, hj => simp [ActV.cells] at hj; subst hj; exact h1
  | 2, hj => simp [ActV.cells] at hj; subst hj; exact h2
  | 3, hj => simp [ActV.cells] at hj; subst hj; exact h3
  | 4, hj => simp [ActV.cells] at hj; subst hj; exact h4
  | 5, hj => simp [ActV.cells] at hj; subst hj; exact h5
  | j + 6, hj => simp [ActV.cells] at hj
theorem number_someT (n : Nat) (w : World) : Calls Tryz.prog 18 #[.iface 79 (.int .i64 (n : Int))] w fun e w' => e = .returned (.int .i64 (n : Int)) ∧ w' = w := by
  go_enter Tryz.func18, Tryz.ntmps18
  go_wp2_with fail
  go_ret
  exact ⟨rfl, rfl⟩
theorem number_nilT (w : World) : Calls Tryz.prog 18 #[.nilIface] w fun e w' => e = .returned (.int .i64 0) ∧ w' = w := by
  go_enter Tryz.func18, Tryz.ntmps18
  go_wp2_with fail
  go_ret
  exact ⟨rfl, rfl⟩
set_option maxRecDepth 100000 in
set_option maxHeartbeats 16000000 in
theorem law_TopWhole (va : Value) (avs : List ActV) (al : List Act) (av : ActV) (a : Act) (w : World) (hav : ActVs w va avs) (haa : IsActs w avs al) (hia : IsAct w av a) (hak : ∀ x ∈ al, x.ok) (hok : a.ok) (hg : GlobI w) :
    Calls Tryz.prog 4 #[va, av.val] w fun e w' => e = .returned (.bool true) ∧ Below w.heap.size w w' := by
  obtain ⟨vo, vc, rfl, hvc, hvm⟩ := hav.parts
  obtain ⟨ca, cc, hcv, _, _⟩ := hia.2.2.2.2.2.parts
  obtain ⟨cn, hcn⟩ : ∃ cn, cn = a.changes.length := ⟨_, rfl⟩
  rw [← hcn] at hcv
  obtain ⟨W1, hW1⟩ : ∃ W1, W1 = w.alloc (.cells #[.string av.kind, .string av.s, .string av.t, .int .i64 av.n, .int .u64 av.k, .slice ca cn cc] 43) := ⟨_, rfl⟩
  have BT1 : Hid (Below w.heap.size w W1) := Lib.hid (by rw [hW1]; exact below_alloc w _)
  have HBOX : Hid (∀ W, Below W1.heap.size W1 W → W.cell? ⟨w.heap.size, 0, none⟩ = some (.string av.kind) ∧ W.cell? ⟨w.heap.size, 1, none⟩ = some (.string av.s) ∧ W.cell? ⟨w.heap.size, 2, none⟩ = some (.string av.t) ∧ W.cell? ⟨w.heap.size, 3, none⟩ = some (.int .i64 av.n) ∧ W.cell? ⟨w.heap.size, 4, none⟩ = some (.int .u64 av.k) ∧ W.cell? ⟨w.heap.size, 5, none⟩ = some (.slice ca cn cc)) := Lib.hid (fun W hb => by
    obtain ⟨hc, _⟩ := bcell hb
    rw [hc _ _ (by rw [hW1]; simp), hc _ _ (by rw [hW1]; simp), hc _ _ (by rw [hW1]; simp), hc _ _ (by rw [hW1]; simp), hc _ _ (by rw [hW1]; simp), hc _ _ (by rw [hW1]; simp), hW1]
    simp)
  have HW1 := Lib.hid hW1
  have CW := Lib.hid (top_works W1 (hg.below BT1.out))
  have CP := Lib.hid fun W hb => top_played (.slice vo avs.length vc) avs al W ((hg.below BT1.out).below hb) ((hav.below BT1.out).below hb) ((haa.below BT1.out).below hb) hak
  have HG := Lib.hid (hg.below BT1.out)
  have HIA := Lib.hid (hia.below BT1.out)
  have HOK := Lib.hid hok
  have HCV := Lib.hid hcv
  have CL : Hid (∀ v W, ActVs W v [av] → Below W1.heap.size W1 W → Calls Tryz.prog 15 #[v, .int .i64 1] W fun e w' => e = .returned (.bool (lightActs [a] 1)) ∧ W = w') := Lib.hid fun v W h hb => law_LightActs v [av] [a] 1 W h ⟨rfl, fun i h1 h2 => by simp at h1; subst h1; exact HIA.out.below hb⟩ (fun x hx => by simp at hx; subst hx; exact HOK.out)
  unfold ActV.val
  rw [hcv]
  clear hg hav haa hak hia hok hW1 hcv hcn
  go_enter Tryz.func4, Tryz.ntmps4
  go_wp2_with fail
  rw [← HW1.out]
  refine CW.out.mono ?_
  rintro e w1 ⟨rfl, hb1⟩
  have HB1 := Lib.hid hb1
  have CP1 := Lib.hid (CP.out w1 hb1)
  clear hb1
  go_wp2_with fail
  refine CP1.out.mono ?_
  rintro e w2 (⟨hl, ⟨p0, p1, p2, rfl⟩, hb2⟩ | ⟨hl, B, b, tb, L, D, S, lb, sb, rv, v, rfl, htr, hB, hb2⟩)
  · have HB2 := Lib.hid (two HB1.out (two hb2 (below_alloc w2 (.cells #[.pointer p0, .pointer p1, .pointer p2] 25))))
    clear hb2
    go_wp2_with fail
    go_ret
    exact ⟨rfl, two BT1.out HB2.out⟩
  · have HB2 := Lib.hid (two HB1.out hb2)
    obtain ⟨W3, hW3⟩ : ∃ W3, W3 = w2.alloc (.cells #[.pointer (some ⟨b 0, 0, none⟩), .pointer (some ⟨b 1, 0, none⟩), .pointer (some ⟨b 2, 0, none⟩)] 25) := ⟨_, rfl⟩
    have hb23 : Below w2.heap.size w2 W3 := by rw [hW3]; exact below_alloc _ _
    have HW3 := Lib.hid hW3
    have hbx : W3.heap[w2.heap.size]? = some (.cells #[.pointer (some ⟨b 0, 0, none⟩), .pointer (some ⟨b 1, 0, none⟩), .pointer (some ⟨b 2, 0, none⟩)] 25 (0, 0)) := by rw [hW3]; show (w2.heap.push _)[w2.heap.size]? = _; simp
    have HBX := Lib.hid hbx
    have HZ3 : Hid (W3.heap.size = w2.heap.size + 1) := Lib.hid (by rw [hW3]; simp)
    have hbw3 := two HB1.out (two hb2 hb23)
    have hz1 := HB1.out.size
    obtain ⟨X, hXs, hXg, hXw, hX0⟩ := cut_base hbw3 (B := B) (by omega) (htr.below hb23).lo HG.out
    obtain ⟨q, hq⟩ : ∃ q, q = grownQ al := ⟨_, rfl⟩
    rw [← hq] at htr
    have HTR : Hid (TrioQ 60 X.heap.size b W3 tb q L D S lb sb rv v) := Lib.hid (by rw [hXs]; exact htr.below hb23)
    have HTL : Hid (∀ x, TF tb L lb sb x → x < w2.heap.size) := Lib.hid (fun x hx => (htr.lt hx).1)
    have HXG := Lib.hid hXg
    have HX3 := Lib.hid hXw
    have HX0 := Lib.hid hX0
    have CQ := Lib.hid (trio_Quilt HTR.out.pre HTR.out.few)
    obtain ⟨y0, y1, y2, yf⟩ := arr3_cells hbx
    clear hW3 hb23 hbx hbw3 hz1 hXs hXg hXw hX0 htr hB hq
    obtain ⟨x0, x1, x2, x3, x4, x5⟩ := HBOX.out W3 (two HB2.out (by rw [HW3.out]; exact below_alloc _ _))
    rw [HW3.out] at x0 x1 x2 x3 x4 x5
    obtain ⟨W3a, hW3a⟩ : ∃ W3a, W3a = W3.alloc (.cells #[.string av.kind, .string av.s, .string av.t, .int .i64 av.n, .int .u64 av.k, .slice ca cn cc] 43) := ⟨_, rfl⟩
    have hb3a : Below W3.heap.size W3 W3a := by rw [hW3a]; exact below_alloc _ _
    have HW3a := Lib.hid hW3a
    have HB3a := Lib.hid hb3a
    have HB13 : Hid (Below W1.heap.size W1 W3a) := Lib.hid (two HB2.out (two (by rw [HW3.out]; exact below_alloc _ _) hb3a))
    have cll := (CL.out (.slice (some ⟨W3.heap.size, 0, none⟩) 1 1) W3a (one_actT av (by rw [hW3a]; simp) (by rw [hW3a]; simp) (by rw [hW3a]; simp) (by rw [hW3a]; simp) (by rw [hW3a]; simp) (by rw [hW3a, HCV.out]; simp)) HB13.out)
    rw [HZ3.out] at cll
    have CLL := Lib.hid cll
    clear hW3a hb3a cll
    go_wp2_with fail
    rw [← HW3.out, ← HW3a.out]
    refine CLL.out.mono ?_
    rintro e w3 ⟨rfl, rfl⟩
    clear x0 x1 x2 x3 x4 x5
    by_cases hla : lightActs [a] 1 = true
    rotate_left
    · rw [Bool.not_eq_true] at hla
      rw [hla]
      clear hla
      go_wp2_with fail
      go_ret
      exact ⟨rfl, two BT1.out HB13.out⟩
    rw [hla]
    clear hla
    have HTRa := Lib.hid (HTR.out.below HB3a.out)
    have HX3a := Lib.hid (two HX3.out HB3a.out)
    have HBXa : Hid (W3a.heap[w2.heap.size]? = some (.cells #[.pointer (some ⟨b 0, 0, none⟩), .pointer (some ⟨b 1, 0, none⟩), .pointer (some ⟨b 2, 0, none⟩)] 25 (0, 0))) := Lib.hid (by rw [HB3a.out.block _ (by rw [HZ3.out]; omega)]; exact HBX.out)
    clear CQ
    have CQ := Lib.hid (trio_Quilt HTRa.out.pre HTRa.out.few)
    have HS3a : Hid (W3.heap.size ≤ W3a.heap.size) := Lib.hid HB3a.out.size
    go_wp2_with fail
    refine CQ.out.mono ?_
    rintro e w4 ⟨qv, rfl, ⟨v4, rfl, hf4, hfr4⟩, hb4⟩
    obtain ⟨ao4, ac4, rfl, hac4, hac4'⟩ := hf4.parts
    obtain ⟨W5, hW5⟩ : ∃ W5, W5 = w4.alloc (.cells #[.slice ao4 q.files.length ac4, .int .i64 q.turn] 31) := ⟨_, rfl⟩
    have hb45 : Below w4.heap.size w4 W5 := by rw [hW5]; exact below_alloc _ _
    have HW5 := Lib.hid hW5
    have HF5 : Hid (Files W5 (.slice ao4 q.files.length ac4) q.files ∧ Fresh W3a.heap.size (.slice ao4 q.files.length ac4)) := Lib.hid ⟨hf4.below hb45, hfr4⟩
    have HQX : Hid (W5.heap[w4.heap.size]? = some (.cells #[.slice ao4 q.files.length ac4, .int .i64 q.turn] 31 (0, 0))) := Lib.hid (by rw [hW5]; show (w4.heap.push _)[w4.heap.size]? = _; simp)
    have HB35 := Lib.hid (two hb4 hb45)
    have HZ4 : Hid (W3a.heap.size ≤ w4.heap.size ∧ W5.heap.size = w4.heap.size + 1) := Lib.hid ⟨hb4.size, by rw [hW5]; simp⟩
    have HT5 := Lib.hid (HTRa.out.below (two hb4 hb45))
    have HX5 := Lib.hid (two HX3a.out (two hb4 hb45))
    have HDX5 : Hid (W5.heap[w2.heap.size]? = some (.cells #[.pointer (some ⟨b 0, 0, none⟩), .pointer (some ⟨b 1, 0, none⟩), .pointer (some ⟨b 2, 0, none⟩)] 25 (0, 0))) := Lib.hid (by rw [(two hb4 hb45).block _ (by have := HZ3.out; have := HS3a.out; omega)]; exact HBXa.out)
    obtain ⟨y0, y1, y2, yf⟩ := arr3_cells HDX5.out
    have s0 : W5.cell? ⟨w4.heap.size, 0, none⟩ = some (.slice ao4 q.files.length ac4) := by simp [World.cell?, HQX.out]
    have s1 : W5.cell? ⟨w4.heap.size, 1, none⟩ = some (.int .i64 q.turn) := by simp [World.cell?, HQX.out]
    clear hf4 hfr4 hb4 hb45
    have HIA5 := Lib.hid (HIA.out.below (two HB13.out HB35.out))
    obtain ⟨x0, x1, x2, x3, x4, x5⟩ := HBOX.out W5 (two HB13.out HB35.out)
    have CD := law_Do_f W3a.heap.size (.agg #[.slice ao4 q.files.length ac4, .int .i64 q.turn]) q av a W5 (by have := HZ4.out; omega) ⟨_, rfl, HF5.out.1, HF5.out.2⟩ HT5.out.good HIA5.out HOK.out
    unfold ActV.val at CD
    rw [HCV.out] at CD
    obtain ⟨p, hp⟩ : ∃ p, p = doAct q a := ⟨_, rfl⟩
    rw [← hp] at CD
    have HCD := Lib.hid CD
    have HP := Lib.hid hp
    rw [hW5] at x0 x1 x2 x3 x4 x5 s0 s1 y0 y1 y2
    clear hW5 CD hp
    go_wp2_with fail
    rw [← HW5.out]
    refine HCD.out.mono ?_
    rintro e w6 ⟨qv6, rfl, ⟨v6, rfl, hf6, hfr6⟩, hb6⟩
    obtain ⟨ao6, ac6, rfl, hac6, hac6'⟩ := hf6.parts
    obtain ⟨W7, hW7⟩ : ∃ W7, W7 = w6.alloc (.cells #[.slice ao6 p.1.files.length ac6, .int .i64 p.1.turn] 31) := ⟨_, rfl⟩
    have hb67 : Below w6.heap.size w6 W7 := by rw [hW7]; exact below_alloc _ _
    have HW7 := Lib.hid hW7
    have HB57 := Lib.hid (two hb6 hb67)
    have HF7 : Hid (Files W7 (.slice ao6 p.1.files.length ac6) p.1.files ∧ Fresh W3a.heap.size (.slice ao6 p.1.files.length ac6)) := Lib.hid ⟨hf6.below hb67, hfr6⟩
    have HNX : Hid (W7.heap[w6.heap.size]? = some (.cells #[.slice ao6 p.1.files.length ac6, .int .i64 p.1.turn] 31 (0, 0))) := Lib.hid (by rw [hW7]; show (w6.heap.push _)[w6.heap.size]? = _; simp)
    have HZ6 : Hid (W5.heap.size ≤ w6.heap.size ∧ W7.heap.size = w6.heap.size + 1) := Lib.hid ⟨hb6.size, by rw [hW7]; simp⟩
    have HT7 := Lib.hid (HT5.out.below (two hb6 hb67))
    have HX7 := Lib.hid (two HX5.out (two hb6 hb67))
    have HIA7 := Lib.hid (HIA5.out.below (two hb6 hb67))
    have HQX7 : Hid (W7.heap[w4.heap.size]? = some (.cells #[.slice ao4 q.files.length ac4, .int .i64 q.turn] 31 (0, 0))) := Lib.hid (by rw [(two hb6 hb67).block _ (Array.getElem?_eq_some_iff.1 HQX.out).1]; exact HQX.out)
    have HDX7 : Hid (W7.heap[w2.heap.size]? = some (.cells #[.pointer (some ⟨b 0, 0, none⟩), .pointer (some ⟨b 1, 0, none⟩), .pointer (some ⟨b 2, 0, none⟩)] 25 (0, 0))) := Lib.hid (by rw [(two hb6 hb67).block _ (Array.getElem?_eq_some_iff.1 HDX5.out).1]; exact HDX5.out)
    have HB17 := Lib.hid (two HB13.out (two HB35.out (two hb6 hb67)))
    clear x0 x1 x2 x3 x4 x5
    obtain ⟨x0, x1, x2, x3, x4, x5⟩ := HBOX.out W7 HB17.out
    rw [hW7] at x0 x1 x2 x3 x4 x5
    clear hf6 hfr6 hb6 hb67 hW7 s0 s1 y0 y1 y2 yf
    have HNT : Hid (∀ y, w2.heap.size ≤ y → ¬ TF tb L lb sb y) := Lib.hid (fun y hy hx => by have := HTL.out _ hx; omega)
    by_cases hp2 : p.2 = 0
    · have CT := law_DoTrioQ X W7 60 b tb L D S lb sb rv v q av a HT7.out (by decide) HXG.out HX7.out HIA7.out HOK.out
      unfold ActV.val at CT
      have hsq : stepQ q a = p.1 := by unfold stepQ; rw [← HP.out, if_pos hp2]
      rw [HCV.out, ← HP.out, hp2, errV_zero, hsq] at CT
      have HCT := Lib.hid CT
      rw [hp2, errV_zero]
      clear CT hp2 hsq
      go_wp2_with fail
      rw [← HW7.out]
      refine HCT.out.mono ?_
      rintro e wz ⟨rfl, L8, D8, S8, lb8, rv8, v8, ht8, hb8, hs8⟩
      have hzz := HZ4.out
      have hz6 := HZ6.out
      have hs3a := HS3a.out
      have HTZ := Lib.hid ht8
      have HXZ := Lib.hid hb8
      have HNB := Lib.hid ((hs8.keep (Array.getElem?_eq_some_iff.1 HNX.out).1 (HNT.out _ (by have := HZ3.out; omega))).1.trans HNX.out)
      have HDB := Lib.hid ((hs8.keep (Array.getElem?_eq_some_iff.1 HDX7.out).1 (HNT.out _ (Nat.le_refl _))).1.trans HDX7.out)
      have HFZ : Hid (Files wz (.slice ao6 p.1.files.length ac6) p.1.files) := Lib.hid (RdF.off (F := TF tb L lb sb) ⟨HF7.out.1, fresh_far HF7.out.2 (fun x hx => by have := HTL.out _ hx; have := HZ3.out; omega)⟩ hs8.off).rd
      have HBZ : Hid (Below w.heap.size w wz) := Lib.hid (two BT1.out (two HX0.out hb8))
      have CN := Lib.hid (number_nilT wz)
      clear ht8 hb8 hs8 hzz hz6 hs3a x0 x1 x2 x3 x4 x5
      go_wp2_with fail
      refine CN.out.mono ?_
      rintro e y ⟨rfl, hy⟩
      rw [hy]
      clear hy
      go_wp2_with fail
      refine CN.out.mono ?_
      rintro e y ⟨rfl, hy⟩
      rw [hy]
      clear hy
      have CQZ : Hid (∀ W, Below wz.heap.size wz W → Calls Tryz.prog 11 #[.pointer (some ⟨tb, 0, none⟩)] W fun e w' => ∃ qv, e = .returned qv ∧ QuiltsF W.heap.size w' qv (p.1) ∧ Below W.heap.size W w') := Lib.hid (fun W hW => trio_Quilt (HTZ.out.below hW).pre HTZ.out.few)
      have CSZ : Hid (∀ W v8, Below wz.heap.size wz W → Files W v8 (p.1).files → Calls Tryz.prog 14 #[.agg #[v8, .int .i64 (p.1).turn], .agg #[.slice ao6 p.1.files.length ac6, .int .i64 (p.1).turn]] W fun e w' => e = .returned (.bool true) ∧ Below W.heap.size W w') := Lib.hid (fun W v8 hW h8 => by
        have := ref_SameQuilt _ _ (p.1) (p.1) W ⟨_, rfl, h8⟩ ⟨_, rfl, HFZ.out.below hW⟩
        rw [decide_eq_true rfl] at this
        exact this)
      have CAZ : Hid (∀ W, Below wz.heap.size wz W → Calls Tryz.prog 12 #[.agg #[.pointer (some ⟨b 0, 0, none⟩), .pointer (some ⟨b 1, 0, none⟩), .pointer (some ⟨b 2, 0, none⟩)], .agg #[.slice ao6 p.1.files.length ac6, .int .i64 (p.1).turn]] W fun e w' => e = .returned (.bool true) ∧ Below W.heap.size W w') := Lib.hid (fun W hW => top_all b _ _ _ (p.1) W (looks_of (HTZ.out.below hW).pre.ds (fun k hk => (HTZ.out.has k hk).sound) (HXG.out.below (two HXZ.out hW))) (fun k hk => (HTZ.out.has k hk).copyC) ⟨_, rfl, HFZ.out.below hW⟩)
      have HKZ : Hid (∀ W, Below wz.heap.size wz W → (W.cell? ⟨w6.heap.size, 0, none⟩ = some (.slice ao6 p.1.files.length ac6) ∧ W.cell? ⟨w6.heap.size, 1, none⟩ = some (.int .i64 (p.1).turn)) ∧ W.cell? ⟨w2.heap.size, 0, none⟩ = some (.pointer (some ⟨b 0, 0, none⟩)) ∧ W.cell? ⟨w2.heap.size, 1, none⟩ = some (.pointer (some ⟨b 1, 0, none⟩)) ∧ W.cell? ⟨w2.heap.size, 2, none⟩ = some (.pointer (some ⟨b 2, 0, none⟩))) := Lib.hid (fun W hW => ⟨⟨cell_on' hW (by simp [World.cell?, HNB.out]), cell_on' hW (by simp [World.cell?, HNB.out])⟩, cell_on' hW (by simp [World.cell?, HDB.out]), cell_on' hW (by simp [World.cell?, HDB.out]), cell_on' hW (by simp [World.cell?, HDB.out])⟩)
      go_wp2_with fail
      go_region_held3 (fun W => (W.cell? ⟨w6.heap.size, 0, none⟩ = some (.slice ao6 p.1.files.length ac6) ∧ W.cell? ⟨w6.heap.size, 1, none⟩ = some (.int .i64 (p.1).turn)) ∧ W.cell? ⟨w2.heap.size, 0, none⟩ = some (.pointer (some ⟨b 0, 0, none⟩)) ∧ W.cell? ⟨w2.heap.size, 1, none⟩ = some (.pointer (some ⟨b 1, 0, none⟩)) ∧ W.cell? ⟨w2.heap.size, 2, none⟩ = some (.pointer (some ⟨b 2, 0, none⟩)))
        (first
          | exact HKZ.out _ (Below.refl _ _).drew
          | exact HKZ.out _ (HBY3 : Hid _).out
          | exact HKZ.out _ (HBY2 : Hid _).out
          | exact HKZ.out _ (HBY1 : Hid _).out)
        (first
          | (go_at_call 11; refine (CQZ.out _ (Below.refl _ _).drew).mono ?_; rintro e y1 ⟨q8, rfl, ⟨v8, rfl, hf8, _⟩, hb8⟩; obtain ⟨ao8, ac8, rfl, _, _⟩ := hf8.parts; have HBY1 : Hid (Below wz.heap.size wz y1) := Lib.hid (two (Below.refl _ _).drew hb8); have HF8 := Lib.hid hf8; clear hf8 hb8)
          | (go_at_call 14; refine (CSZ.out _ _ (HBY1 : Hid _).out (HF8 : Hid _).out).mono ?_; rintro e y2 ⟨rfl, hb9⟩; have HBY2 : Hid (Below wz.heap.size wz y2) := Lib.hid (two (HBY1 : Hid _).out hb9); clear hb9)
          | (go_at_call 12; refine (CAZ.out _ (HBY2 : Hid _).out).mono ?_; rintro e y3 ⟨rfl, hb9⟩; have HBY3 : Hid (Below wz.heap.size wz y3) := Lib.hid (two (HBY2 : Hid _).out hb9); clear hb9))
      all_goals
        go_wp2_with fail
        go_ret
        exact ⟨rfl, two HBZ.out (HBY3 : Hid _).out⟩
    · have CT := law_DoTrio X W7 b tb L D lb sb rv v q S av a HT7.out.pre (fun k hk => (HT7.out.has k hk).i) (fun k hk => by have := HT7.out.ep k hk; omega) HXG.out HX7.out HT7.out.good HIA7.out HOK.out
      unfold ActV.val at CT
      rw [HCV.out, ← HP.out] at CT
      have HCT := Lib.hid CT
      have HPN := Lib.hid hp2
      rw [errV_pos hp2]
      clear CT hp2
      go_wp2_with fail
      rw [← HW7.out]
      refine HCT.out.mono ?_
      rintro e w8 (⟨_, rfl, hb8⟩ | ⟨h0, _⟩)
      rotate_left
      · exact absurd h0 HPN.out
      rw [errV_pos HPN.out]
      have CN := Lib.hid (number_someT p.2 w8)
      have HB78 := Lib.hid hb8
      have hqx8 : w8.heap[w4.heap.size]? = some (.cells #[.slice ao4 q.files.length ac4, .int .i64 q.turn] 31 (0, 0)) := by rw [hb8.block _ (Array.getElem?_eq_some_iff.1 HQX7.out).1]; exact HQX7.out
      have hnx8 : w8.heap[w6.heap.size]? = some (.cells #[.slice ao6 p.1.files.length ac6, .int .i64 p.1.turn] 31 (0, 0)) := by rw [hb8.block _ (Array.getElem?_eq_some_iff.1 HNX.out).1]; exact HNX.out
      have s0 : w8.cell? ⟨w4.heap.size, 0, none⟩ = some (.slice ao4 q.files.length ac4) := by simp [World.cell?, hqx8]
      have s1 : w8.cell? ⟨w4.heap.size, 1, none⟩ = some (.int .i64 q.turn) := by simp [World.cell?, hqx8]
      have n0 : w8.cell? ⟨w6.heap.size, 0, none⟩ = some (.slice ao6 p.1.files.length ac6) := by simp [World.cell?, hnx8]
      have n1 : w8.cell? ⟨w6.heap.size, 1, none⟩ = some (.int .i64 p.1.turn) := by simp [World.cell?, hnx8]
      have nf : ∀ o, w8.frozen? ⟨w6.heap.size, o, none⟩ = false := fun o => by simp [World.frozen?, hnx8]
      obtain ⟨wz, hwz⟩ : ∃ wz, wz = (w8.setCell ⟨w6.heap.size, 0, none⟩ (.slice ao4 q.files.length ac4)).setCell ⟨w6.heap.size, 1, none⟩ (.int .i64 q.turn) := ⟨_, rfl⟩
      have hO : Below w6.heap.size w8 wz := by
        rw [hwz]
        have hr : Below w6.heap.size w8 w8 := (Below.refl w8.heap.size w8).mono (Nat.le_of_lt (Array.getElem?_eq_some_iff.1 hnx8).1)
        exact (hr.setCell (p := ⟨w6.heap.size, 0, none⟩) (Nat.le_refl _) _).setCell (p := ⟨w6.heap.size, 1, none⟩) (Nat.le_refl _) _
      have HNB : Hid (wz.heap[w6.heap.size]? = some (.cells #[.slice ao4 q.files.length ac4, .int .i64 q.turn] 31 (0, 0))) := Lib.hid (by rw [hwz]; exact heap_set_self _ _ _ _ (heap_set_self _ _ _ _ hnx8))
      have hz4 := HZ4.out
      have hz6 := HZ6.out
      have hzs := HS3a.out
      have hz3 := HZ3.out
      have h8 : Below W5.heap.size W7 w8 := hb8.mono (by omega)
      have h9 : Below W5.heap.size w8 wz := hO.mono hz6.1
      have hW5z : Below W5.heap.size W5 wz := (HB57.out.trans h8).trans h9
      clear h8 h9
      have HTZ := Lib.hid (HT5.out.below hW5z)
      have HXZ := Lib.hid (two HX5.out hW5z)
      have HFZ := Lib.hid (HF5.out.1.below hW5z)
      have HDB : Hid (wz.heap[w2.heap.size]? = some (.cells #[.pointer (some ⟨b 0, 0, none⟩), .pointer (some ⟨b 1, 0, none⟩), .pointer (some ⟨b 2, 0, none⟩)] 25 (0, 0))) := Lib.hid (by rw [hW5z.block _ (Array.getElem?_eq_some_iff.1 HDX5.out).1]; exact HDX5.out)
      have HBZ : Hid (Below w.heap.size w wz) := Lib.hid (two BT1.out (two HB13.out (two HB35.out hW5z)))
      have HWZ := Lib.hid hwz
      clear hb8 hqx8 hnx8 hwz hO hz4 hz6 hzs hz3 hW5z x0 x1 x2 x3 x4 x5
      go_wp2_with fail
      refine CN.out.mono ?_
      rintro e y ⟨rfl, hy⟩
      rw [hy]
      clear hy
      go_wp2_with fail
      refine CN.out.mono ?_
      rintro e y ⟨rfl, hy⟩
      rw [hy]
      clear hy
      go_wp2_with fail
      rw [← HWZ.out]
      have CQZ : Hid (∀ W, Below wz.heap.size wz W → Calls Tryz.prog 11 #[.pointer (some ⟨tb, 0, none⟩)] W fun e w' => ∃ qv, e = .returned qv ∧ QuiltsF W.heap.size w' qv (q) ∧ Below W.heap.size W w') := Lib.hid (fun W hW => trio_Quilt (HTZ.out.below hW).pre HTZ.out.few)
      have CSZ : Hid (∀ W v8, Below wz.heap.size wz W → Files W v8 (q).files → Calls Tryz.prog 14 #[.agg #[v8, .int .i64 (q).turn], .agg #[.slice ao4 q.files.length ac4, .int .i64 (q).turn]] W fun e w' => e = .returned (.bool true) ∧ Below W.heap.size W w') := Lib.hid (fun W v8 hW h8 => by
        have := ref_SameQuilt _ _ (q) (q) W ⟨_, rfl, h8⟩ ⟨_, rfl, HFZ.out.below hW⟩
        rw [decide_eq_true rfl] at this
        exact this)
      have CAZ : Hid (∀ W, Below wz.heap.size wz W → Calls Tryz.prog 12 #[.agg #[.pointer (some ⟨b 0, 0, none⟩), .pointer (some ⟨b 1, 0, none⟩), .pointer (some ⟨b 2, 0, none⟩)], .agg #[.slice ao4 q.files.length ac4, .int .i64 (q).turn]] W fun e w' => e = .returned (.bool true) ∧ Below W.heap.size W w') := Lib.hid (fun W hW => top_all b _ _ _ (q) W (looks_of (HTZ.out.below hW).pre.ds (fun k hk => (HTZ.out.has k hk).sound) (HXG.out.below (two HXZ.out hW))) (fun k hk => (HTZ.out.has k hk).copyC) ⟨_, rfl, HFZ.out.below hW⟩)
      have HKZ : Hid (∀ W, Below wz.heap.size wz W → (W.cell? ⟨w6.heap.size, 0, none⟩ = some (.slice ao4 q.files.length ac4) ∧ W.cell? ⟨w6.heap.size, 1, none⟩ = some (.int .i64 (q).turn)) ∧ W.cell? ⟨w2.heap.size, 0, none⟩ = some (.pointer (some ⟨b 0, 0, none⟩)) ∧ W.cell? ⟨w2.heap.size, 1, none⟩ = some (.pointer (some ⟨b 1, 0, none⟩)) ∧ W.cell? ⟨w2.heap.size, 2, none⟩ = some (.pointer (some ⟨b 2, 0, none⟩))) := Lib.hid (fun W hW => ⟨⟨cell_on' hW (by simp [World.cell?, HNB.out]), cell_on' hW (by simp [World.cell?, HNB.out])⟩, cell_on' hW (by simp [World.cell?, HDB.out]), cell_on' hW (by simp [World.cell?, HDB.out]), cell_on' hW (by simp [World.cell?, HDB.out])⟩)
      go_region_held3 (fun W => (W.cell? ⟨w6.heap.size, 0, none⟩ = some (.slice ao4 q.files.length ac4) ∧ W.cell? ⟨w6.heap.size, 1, none⟩ = some (.int .i64 (q).turn)) ∧ W.cell? ⟨w2.heap.size, 0, none⟩ = some (.pointer (some ⟨b 0, 0, none⟩)) ∧ W.cell? ⟨w2.heap.size, 1, none⟩ = some (.pointer (some ⟨b 1, 0, none⟩)) ∧ W.cell? ⟨w2.heap.size, 2, none⟩ = some (.pointer (some ⟨b 2, 0, none⟩)))
        (first
          | exact HKZ.out _ (Below.refl _ _).drew
          | exact HKZ.out _ (HBY3 : Hid _).out
          | exact HKZ.out _ (HBY2 : Hid _).out
          | exact HKZ.out _ (HBY1 : Hid _).out)
        (first
          | (go_at_call 11; refine (CQZ.out _ (Below.refl _ _).drew).mono ?_; rintro e y1 ⟨q8, rfl, ⟨v8, rfl, hf8, _⟩, hb8⟩; obtain ⟨ao8, ac8, rfl, _, _⟩ := hf8.parts; have HBY1 : Hid (Below wz.heap.size wz y1) := Lib.hid (two (Below.refl _ _).drew hb8); have HF8 := Lib.hid hf8; clear hf8 hb8)
          | (go_at_call 14; refine (CSZ.out _ _ (HBY1 : Hid _).out (HF8 : Hid _).out).mono ?_; rintro e y2 ⟨rfl, hb9⟩; have HBY2 : Hid (Below wz.heap.size wz y2) := Lib.hid (two (HBY1 : Hid _).out hb9); clear hb9)
          | (go_at_call 12; refine (CAZ.out _ (HBY2 : Hid _).out).mono ?_; rintro e y3 ⟨rfl, hb9⟩; have HBY3 : Hid (Below wz.heap.size wz y3) := Lib.hid (two (HBY2 : Hid _).out hb9); clear hb9))
      all_goals
        go_wp2_with fail
        go_ret
        exact ⟨rfl, two HBZ.out (HBY3 : Hid _).out⟩
end Go.Proofs.YtggpodlecljcbacGreatDoor
