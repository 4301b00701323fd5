/- The walk of the statement TopFall. Printed by wip/mk_ttr.py. -/
import Derived.Test.YtggpodlecljcbadGreatDoorMTr5
namespace Go.Proofs.YtggpodlecljcbadGreatDoor
set_option linter.unusedSimpArgs false
set_option linter.unusedVariables false
open Go.RowKit Go.Sort
theorem wf_i64T {n : Int} (h : (Lit.int .i64 n).wf = true) : -9223372036854775808 ≤ n ∧ n ≤ 9223372036854775807 := by
  have h1 : (decide (IntKind.min .i64 ≤ n) && decide (n ≤ IntKind.max .i64)) = true := h
  simp only [Bool.and_eq_true, decide_eq_true_eq] at h1
  exact h1
theorem wf_u64T {n : Int} (h : (Lit.int .u64 n).wf = true) : 0 ≤ n ∧ n < 18446744073709551616 := by
  have h1 : (decide (IntKind.min .u64 ≤ n) && decide (n ≤ IntKind.max .u64)) = true := h
  simp only [Bool.and_eq_true, decide_eq_true_eq] at h1
  have h2 : 0 ≤ n ∧ n ≤ 18446744073709551615 := h1
  omega
theorem rem3T (m : Nat) : ∃ k : Nat, k < 3 ∧ ((m : Int) % 3) = (k : Int) := ⟨m % 3, Nat.mod_lt _ (by decide), by omega⟩
theorem one_actT {w : World} {b : Nat} (av : ActV) (h0 : w.cell? ⟨b, 0, none⟩ = some (.string av.kind)) (h1 : w.cell? ⟨b, 1, none⟩ = some (.string av.s)) (h2 : w.cell? ⟨b, 2, none⟩ = some (.string av.t)) (h3 : w.cell? ⟨b, 3, none⟩ = some (.int .i64 av.n)) (h4 : w.cell? ⟨b, 4, none⟩ = some (.int .u64 av.k)) (h5 : w.cell? ⟨b, 5, none⟩ = some av.cv) : ActVs w (.slice (some ⟨b, 0, none⟩) 1 1) [av] := by
  refine ⟨by simp [ActV.cells], some ⟨b, 0, none⟩, 1, rfl, Nat.le_refl _, by decide, (fun h _ => by simp at h), fun j u hj => ⟨b, 0, rfl, ?_⟩⟩
  rw [Nat.zero_add]
  match j, hj with
  | 0, hj => simp [ActV.cells] at hj; subst hj; exact h0
  | 1, hj => simp [ActV.cells] at hj; subst hj; exact h1
  | 2, hj => simp [ActV.cells] at hj; subst hj; exact h2
  | 3, hj => simp [ActV.cells] at hj; subst hj; exact h3
  | 4, hj => simp [ActV.cells] at hj; subst hj; exact h4
  | 5, hj => simp [ActV.cells] at hj; subst hj; exact h5
  | j + 6, hj => simp [ActV.cells] at hj
set_option maxRecDepth 100000 in
set_option maxHeartbeats 16000000 in
theorem law_TopFall (va : Value) (avs : List ActV) (al : List Act) (av : ActV) (a : Act) (which fuse keep : Int) (w : World) (hav : ActVs w va avs) (haa : IsActs w avs al) (hia : IsAct w av a) (hak : ∀ x ∈ al, x.ok) (hok : a.ok) (_ : (Lit.int .i64 which).wf = true) (hfw : (Lit.int .i64 fuse).wf = true) (hkw : (Lit.int .u64 keep).wf = true) (hg : GlobI w) :
    Calls Tryz.prog 3 #[va, av.val, .int .i64 which, .int .i64 fuse, .int .u64 keep] w fun e w' => e = .returned (.bool true) ∧ Below w.heap.size w w' := by
  obtain ⟨hf1, hf2⟩ := wf_i64T hfw
  obtain ⟨hk1, hk2⟩ := wf_u64T hkw
  obtain ⟨vo, vc, rfl, hvc, hvm⟩ := hav.parts
  obtain ⟨ca, cc, hcv, _, _⟩ := hia.2.2.2.2.2.parts
  obtain ⟨cn, hcn⟩ : ∃ cn, cn = a.changes.length := ⟨_, rfl⟩
  rw [← hcn] at hcv
  obtain ⟨W1, hW1⟩ : ∃ W1, W1 = w.alloc (.cells #[.string av.kind, .string av.s, .string av.t, .int .i64 av.n, .int .u64 av.k, .slice ca cn cc] 26) := ⟨_, rfl⟩
  have BT1 : Hid (Below w.heap.size w W1) := Lib.hid (by rw [hW1]; exact below_alloc w _)
  have HBOX : Hid (∀ W, Below W1.heap.size W1 W → W.cell? ⟨w.heap.size, 0, none⟩ = some (.string av.kind) ∧ W.cell? ⟨w.heap.size, 1, none⟩ = some (.string av.s) ∧ W.cell? ⟨w.heap.size, 2, none⟩ = some (.string av.t) ∧ W.cell? ⟨w.heap.size, 3, none⟩ = some (.int .i64 av.n) ∧ W.cell? ⟨w.heap.size, 4, none⟩ = some (.int .u64 av.k) ∧ W.cell? ⟨w.heap.size, 5, none⟩ = some (.slice ca cn cc)) := Lib.hid (fun W hb => by
    obtain ⟨hc, _⟩ := bcell hb
    rw [hc _ _ (by rw [hW1]; simp), hc _ _ (by rw [hW1]; simp), hc _ _ (by rw [hW1]; simp), hc _ _ (by rw [hW1]; simp), hc _ _ (by rw [hW1]; simp), hc _ _ (by rw [hW1]; simp), hW1]
    simp)
  have HW1 := Lib.hid hW1
  have CW := Lib.hid (top_works W1 (hg.below BT1.out))
  have CP := Lib.hid fun W hb => top_played (.slice vo avs.length vc) avs al W ((hg.below BT1.out).below hb) ((hav.below BT1.out).below hb) ((haa.below BT1.out).below hb) hak
  have HG := Lib.hid (hg.below BT1.out)
  have HIA := Lib.hid (hia.below BT1.out)
  have HOK := Lib.hid hok
  have HCV := Lib.hid hcv
  have CL : Hid (∀ v W, ActVs W v [av] → Below W1.heap.size W1 W → Calls Tryz.prog 9 #[v, .int .i64 1] W fun e w' => e = .returned (.bool (lightActs [a] 1)) ∧ W = w') := Lib.hid fun v W h hb => law_LightActs v [av] [a] 1 W h ⟨rfl, fun i h1 h2 => by simp at h1; subst h1; exact HIA.out.below hb⟩ (fun x hx => by simp at hx; subst hx; exact HOK.out)
  unfold ActV.val
  rw [hcv]
  clear hg hav haa hak hia hok hW1 hcv hcn
  go_enter Tryz.func3, Tryz.ntmps3
  go_wp2_with fail
  rw [← HW1.out]
  refine CW.out.mono ?_
  rintro e w1 ⟨rfl, hb1⟩
  have HB1 := Lib.hid hb1
  have CP1 := Lib.hid (CP.out w1 hb1)
  clear hb1
  go_wp2_with fail
  refine CP1.out.mono ?_
  rintro e w2 (⟨hl, ⟨p0, p1, p2, rfl⟩, hb2⟩ | ⟨hl, B, b, tb, L, D, S, lb, sb, rv, v, rfl, htr, hB, hb2⟩)
  · have HB2 := Lib.hid (two HB1.out (two hb2 (below_alloc w2 (.cells #[.pointer p0, .pointer p1, .pointer p2] 29))))
    clear hb2
    go_wp2_with fail
    go_ret
    exact ⟨rfl, two BT1.out HB2.out⟩
  · have HB2 := Lib.hid (two HB1.out hb2)
    obtain ⟨W3, hW3⟩ : ∃ W3, W3 = w2.alloc (.cells #[.pointer (some ⟨b 0, 0, none⟩), .pointer (some ⟨b 1, 0, none⟩), .pointer (some ⟨b 2, 0, none⟩)] 29) := ⟨_, rfl⟩
    have hb23 : Below w2.heap.size w2 W3 := by rw [hW3]; exact below_alloc _ _
    have HW3 := Lib.hid hW3
    have HB23 := Lib.hid hb23
    have hbx : W3.heap[w2.heap.size]? = some (.cells #[.pointer (some ⟨b 0, 0, none⟩), .pointer (some ⟨b 1, 0, none⟩), .pointer (some ⟨b 2, 0, none⟩)] 29 (0, 0)) := by rw [hW3]; show (w2.heap.push _)[w2.heap.size]? = _; simp
    have HBX := Lib.hid hbx
    have HZ3 : Hid (W3.heap.size = w2.heap.size + 1) := Lib.hid (by rw [hW3]; simp)
    have hbw3 := two HB1.out (two hb2 hb23)
    have hz1 := HB1.out.size
    obtain ⟨X, hXs, hXg, hXw, hX0⟩ := cut_base hbw3 (B := B) (by omega) (htr.below hb23).lo HG.out
    obtain ⟨q, hq⟩ : ∃ q, q = grownQ al := ⟨_, rfl⟩
    rw [← hq] at htr
    have HTR : Hid (TrioQ 60 X.heap.size b W3 tb q L D S lb sb rv v) := Lib.hid (by rw [hXs]; exact htr.below hb23)
    have HTL : Hid (∀ x, TF tb L lb sb x → x < w2.heap.size) := Lib.hid (fun x hx => (htr.lt hx).1)
    have HXG := Lib.hid hXg
    have HX3 := Lib.hid hXw
    have HX0 := Lib.hid hX0
    have CQ := Lib.hid (trio_Quilt HTR.out.pre HTR.out.few)
    obtain ⟨y0, y1, y2, yf⟩ := arr3_cells hbx
    clear hW3 hb23 hbx hbw3 hz1 hXs hXg hXw hX0 htr hB hq
    obtain ⟨x0, x1, x2, x3, x4, x5⟩ := HBOX.out W3 (two HB2.out HB23.out)
    rw [HW3.out] at x0 x1 x2 x3 x4 x5
    obtain ⟨W3a, hW3a⟩ : ∃ W3a, W3a = W3.alloc (.cells #[.string av.kind, .string av.s, .string av.t, .int .i64 av.n, .int .u64 av.k, .slice ca cn cc] 26) := ⟨_, rfl⟩
    have hb3a : Below W3.heap.size W3 W3a := by rw [hW3a]; exact below_alloc _ _
    have HW3a := Lib.hid hW3a
    have HB3a := Lib.hid hb3a
    have HB13 : Hid (Below W1.heap.size W1 W3a) := Lib.hid (two HB2.out (two HB23.out hb3a))
    have cll := (CL.out (.slice (some ⟨W3.heap.size, 0, none⟩) 1 1) W3a (one_actT av (by rw [hW3a]; simp) (by rw [hW3a]; simp) (by rw [hW3a]; simp) (by rw [hW3a]; simp) (by rw [hW3a]; simp) (by rw [hW3a, HCV.out]; simp)) HB13.out)
    rw [HZ3.out] at cll
    have CLL := Lib.hid cll
    clear hW3a hb3a cll
    go_wp2_with fail
    rw [← HW3.out, ← HW3a.out]
    refine CLL.out.mono ?_
    rintro e w3 ⟨rfl, rfl⟩
    clear x0 x1 x2 x3 x4 x5
    by_cases hla : lightActs [a] 1 = true
    rotate_left
    · rw [Bool.not_eq_true] at hla
      rw [hla]
      clear hla
      go_wp2_with fail
      go_ret
      exact ⟨rfl, two BT1.out HB13.out⟩
    rw [hla]
    clear hla
    have HTRa := Lib.hid (HTR.out.below HB3a.out)
    have HX3a := Lib.hid (two HX3.out HB3a.out)
    have HBXa : Hid (W3a.heap[w2.heap.size]? = some (.cells #[.pointer (some ⟨b 0, 0, none⟩), .pointer (some ⟨b 1, 0, none⟩), .pointer (some ⟨b 2, 0, none⟩)] 29 (0, 0))) := Lib.hid (by rw [HB3a.out.block _ (by rw [HZ3.out]; omega)]; exact HBX.out)
    clear CQ
    have CQ := Lib.hid (trio_Quilt HTRa.out.pre HTRa.out.few)
    have HS3a : Hid (W3.heap.size ≤ W3a.heap.size) := Lib.hid HB3a.out.size
    go_wp2_with fail
    refine CQ.out.mono ?_
    rintro e w4 ⟨qv, rfl, ⟨v4, rfl, hf4, hfr4⟩, hb4⟩
    obtain ⟨ao4, ac4, rfl, hac4, hac4'⟩ := hf4.parts
    obtain ⟨W5, hW5⟩ : ∃ W5, W5 = w4.alloc (.cells #[.slice ao4 q.files.length ac4, .int .i64 q.turn] 36) := ⟨_, rfl⟩
    have hb45 : Below w4.heap.size w4 W5 := by rw [hW5]; exact below_alloc _ _
    have HW5 := Lib.hid hW5
    have HF5 : Hid (Files W5 (.slice ao4 q.files.length ac4) q.files ∧ Fresh W3a.heap.size (.slice ao4 q.files.length ac4)) := Lib.hid ⟨hf4.below hb45, hfr4⟩
    have HQX : Hid (W5.heap[w4.heap.size]? = some (.cells #[.slice ao4 q.files.length ac4, .int .i64 q.turn] 36 (0, 0))) := Lib.hid (by rw [hW5]; show (w4.heap.push _)[w4.heap.size]? = _; simp)
    have HB35 := Lib.hid (two hb4 hb45)
    have HZ4 : Hid (W3a.heap.size ≤ w4.heap.size ∧ W5.heap.size = w4.heap.size + 1) := Lib.hid ⟨hb4.size, by rw [hW5]; simp⟩
    have HT5 := Lib.hid (HTRa.out.below (two hb4 hb45))
    have HX5 := Lib.hid (two HX3a.out (two hb4 hb45))
    have HDX5 : Hid (W5.heap[w2.heap.size]? = some (.cells #[.pointer (some ⟨b 0, 0, none⟩), .pointer (some ⟨b 1, 0, none⟩), .pointer (some ⟨b 2, 0, none⟩)] 29 (0, 0))) := Lib.hid (by rw [(two hb4 hb45).block _ (by have := HZ3.out; have := HS3a.out; omega)]; exact HBXa.out)
    obtain ⟨y0, y1, y2, yf⟩ := arr3_cells HDX5.out
    have s0 : W5.cell? ⟨w4.heap.size, 0, none⟩ = some (.slice ao4 q.files.length ac4) := by simp [World.cell?, HQX.out]
    have s1 : W5.cell? ⟨w4.heap.size, 1, none⟩ = some (.int .i64 q.turn) := by simp [World.cell?, HQX.out]
    clear hf4 hfr4 hb4 hb45
    have HIA5 := Lib.hid (HIA.out.below (two HB13.out HB35.out))
    obtain ⟨x0, x1, x2, x3, x4, x5⟩ := HBOX.out W5 (two HB13.out HB35.out)
    have CD := law_Do_f W3a.heap.size (.agg #[.slice ao4 q.files.length ac4, .int .i64 q.turn]) q av a W5 (by have := HZ4.out; omega) ⟨_, rfl, HF5.out.1, HF5.out.2⟩ HT5.out.good HIA5.out HOK.out
    unfold ActV.val at CD
    rw [HCV.out] at CD
    obtain ⟨p, hp⟩ : ∃ p, p = doAct q a := ⟨_, rfl⟩
    rw [← hp] at CD
    have HCD := Lib.hid CD
    have HP := Lib.hid hp
    rw [hW5] at x0 x1 x2 x3 x4 x5 s0 s1 y0 y1 y2
    clear hW5 CD hp
    go_wp2_with fail
    rw [← HW5.out]
    refine HCD.out.mono ?_
    rintro e w6 ⟨qv6, rfl, ⟨v6, rfl, hf6, hfr6⟩, hb6⟩
    obtain ⟨ao6, ac6, rfl, hac6, hac6'⟩ := hf6.parts
    obtain ⟨W7, hW7⟩ : ∃ W7, W7 = w6.alloc (.cells #[.slice ao6 p.1.files.length ac6, .int .i64 p.1.turn] 36) := ⟨_, rfl⟩
    have hb67 : Below w6.heap.size w6 W7 := by rw [hW7]; exact below_alloc _ _
    have HW7 := Lib.hid hW7
    have HB57 := Lib.hid (two hb6 hb67)
    have HF7 : Hid (Files W7 (.slice ao6 p.1.files.length ac6) p.1.files ∧ Fresh W3a.heap.size (.slice ao6 p.1.files.length ac6)) := Lib.hid ⟨hf6.below hb67, hfr6⟩
    have HNX : Hid (W7.heap[w6.heap.size]? = some (.cells #[.slice ao6 p.1.files.length ac6, .int .i64 p.1.turn] 36 (0, 0))) := Lib.hid (by rw [hW7]; show (w6.heap.push _)[w6.heap.size]? = _; simp)
    have HZ6 : Hid (W5.heap.size ≤ w6.heap.size ∧ W7.heap.size = w6.heap.size + 1) := Lib.hid ⟨hb6.size, by rw [hW7]; simp⟩
    have HT7 := Lib.hid (HT5.out.below (two hb6 hb67))
    have HX7 := Lib.hid (two HX5.out (two hb6 hb67))
    have HIA7 := Lib.hid (HIA5.out.below (two hb6 hb67))
    have HQX7 : Hid (W7.heap[w4.heap.size]? = some (.cells #[.slice ao4 q.files.length ac4, .int .i64 q.turn] 36 (0, 0))) := Lib.hid (by rw [(two hb6 hb67).block _ (Array.getElem?_eq_some_iff.1 HQX.out).1]; exact HQX.out)
    have HDX7 : Hid (W7.heap[w2.heap.size]? = some (.cells #[.pointer (some ⟨b 0, 0, none⟩), .pointer (some ⟨b 1, 0, none⟩), .pointer (some ⟨b 2, 0, none⟩)] 29 (0, 0))) := Lib.hid (by rw [(two hb6 hb67).block _ (Array.getElem?_eq_some_iff.1 HDX5.out).1]; exact HDX5.out)
    have HB17 := Lib.hid (two HB13.out (two HB35.out (two hb6 hb67)))
    clear x0 x1 x2 x3 x4 x5
    obtain ⟨x0, x1, x2, x3, x4, x5⟩ := HBOX.out W7 HB17.out
    rw [hW7] at x0 x1 x2 x3 x4 x5
    clear hf6 hfr6 hb6 hb67 hW7 s0 s1 y0 y1 y2 yf x0 x1 x2 x3 x4 x5
    have HNT : Hid (∀ y, w2.heap.size ≤ y → ¬ TF tb L lb sb y) := Lib.hid (fun y hy hx => by have := HTL.out _ hx; omega)
    obtain ⟨y0, y1, y2, yf⟩ := arr3_cells HDX7.out
    rw [HW7.out] at y0 y1 y2
    obtain ⟨m1, hm1, _⟩ := and1023T which
    obtain ⟨k, hk, hkk⟩ := rem3T m1
    obtain ⟨FZ, hFZ⟩ : ∃ z : Int, z = min (max fuse (-1)) 100 := ⟨_, rfl⟩
    have HFM : Hid (-9223372036854775808 ≤ FZ ∧ FZ ≤ 9223372036854775807) := Lib.hid (by omega)
    have HFZ := Lib.hid hFZ
    clear hFZ
    have yk : (w6.alloc (.cells #[.slice ao6 p.1.files.length ac6, .int .i64 p.1.turn] 36)).cell? ⟨w2.heap.size, k, none⟩ = some (.pointer (some ⟨b k, 0, none⟩)) := by
      obtain rfl | rfl | rfl : k = 0 ∨ k = 1 ∨ k = 2 := by omega
      · exact y0
      · exact y1
      · exact y2
    clear y0 y1 y2
    have hk3 : (m1 : Int) % 3 = (k : Int) := hkk
    have CA := disk_Arm (L k) (D k) FZ W7 (HT7.out.pre.ds.d k hk) HFM.out.2 HFM.out.1
    rw [HT7.out.pre.ds.eq k hk] at CA
    have HCA := Lib.hid CA
    clear CA hkk
    go_wp2_with fail
    rw [← HW7.out, ← HFZ.out]
    refine HCA.out.mono ?_
    rintro e w8 ⟨rfl, hsp⟩
    obtain ⟨hpa, hia8, hst8⟩ := HT7.out.pre.armed (S := S) (fun k hk => (HT7.out.has k hk).i) (k := k) hk HX7.out.size HFM.out.2 hsp
    have hx8 : Below X.heap.size X w8 := HX7.out.trans (hst8.off.below _ HX7.out.size (fun x hx => (HT7.out.lt hx).2))
    have hia9 := HIA.out.below (two HX0.out hx8)
    have CT := law_DoTrio X w8 b tb L (upd D k (armD (D k) FZ)) lb sb rv v q S av a hpa hia8 (fun k hk => by have := HT7.out.ep k hk; omega) HXG.out hx8 HT7.out.good hia9 HOK.out
    unfold ActV.val at CT
    rw [HCV.out] at CT
    have HCT := Lib.hid CT
    have HPA := Lib.hid (And.intro hpa hia8)
    have HX8 := Lib.hid hx8
    have HS8 := Lib.hid hst8
    clear yk yf
    obtain ⟨x0, x1, x2, x3, x4, x5⟩ := HBOX.out w8 (two HX0.out hx8)
    clear hsp hpa hia8 hst8 hx8 hia9 CT hk hk3 hm1
    go_wp2_with fail
    refine HCT.out.mono ?_
    rintro e w9 hr9
    obtain ⟨n, L9, D9, rfl, hf9⟩ := fell_of HPA.out.1 HPA.out.2 (fun k hk => by have := HT7.out.ep k hk; omega) HX8.out HT7.out.good hr9
    rw [← HP.out] at hf9
    have HF9 := Lib.hid hf9
    have HS9 : Hid (Steps (TF tb L lb sb) W7 w9 (DF L9)) := Lib.hid (HS8.out.trans hf9.st)
    have hk9 := HS9.out.keep (Array.getElem?_eq_some_iff.1 HDX7.out).1 (HNT.out _ (Nat.le_refl _))
    have HD9 : Hid (w9.heap[w2.heap.size]? = some (.cells #[.pointer (some ⟨b 0, 0, none⟩), .pointer (some ⟨b 1, 0, none⟩), .pointer (some ⟨b 2, 0, none⟩)] 29 (0, 0)) ∧ ¬ DF L9 w2.heap.size) := Lib.hid ⟨hk9.1.trans HDX7.out, hk9.2.1⟩
    clear hr9 hf9 hk9 x0 x1 x2 x3 x4 x5
    go_wp2_with fail
    go_loopw [18] (fun iv wr => ∃ (k : Nat) (keeps : Nat → Int) (LR : Nat → Dk), k ≤ 3 ∧ iv = .int .i64 k ∧ Disks3 X.heap.size b wr LR (fun i => if i < k then restartD (D9 i) (keeps i) else D9 i) ∧ Steps (DF L9) w9 wr (DF LR) ∧ Below X.heap.size X wr) (fun iv _ => 3 - (intOf iv).toNat)
    case atStart => exact ⟨0, fun _ => 0, L9, by omega, rfl, HF9.out.ds.as (fun k _ => by rw [if_neg (by omega)]), Steps.refl _ _, HF9.out.low⟩
    case round =>
      obtain ⟨j, keeps, LR, hj, rfl, hds, hst, hxr⟩ := hrel
      have HDR := Lib.hid hds
      have HSR := Lib.hid hst
      have HXR := Lib.hid hxr
      have HDBR : Hid (wr.heap[w2.heap.size]? = some (.cells #[.pointer (some ⟨b 0, 0, none⟩), .pointer (some ⟨b 1, 0, none⟩), .pointer (some ⟨b 2, 0, none⟩)] 29 (0, 0))) := Lib.hid ((hst.keep (Array.getElem?_eq_some_iff.1 HD9.out.1).1 HD9.out.2).1.trans HD9.out.1)
      obtain ⟨y0, y1, y2, yf⟩ := arr3_cells HDBR.out
      clear hds hst hxr
      obtain rfl | rfl | rfl | rfl : j = 0 ∨ j = 1 ∨ j = 2 ∨ j = 3 := by omega
      · have hdj := (HDR.out.below (Below.refl _ _).drew).d 0 (by decide)
        rw [if_neg (by omega)] at hdj
        have CR : Hid (∀ Y : Int, 0 ≤ Y → Y < 18446744073709551616 → Calls Tryz.prog 14 #[.pointer (some ⟨b 0, 0, none⟩), .int .u64 Y] wr.drew fun e w' => e = .returned (.tuple #[]) ∧ Turned 68 72 wr.drew (LR 0) (restartD (D9 0) Y) w') := Lib.hid (fun Y h1 h2 => by
          have := disk_Restart (LR 0) (D9 0) Y wr.drew hdj (HF9.out.ok 0 (by decide)).1 h1 h2 (by have := (HF9.out.ok 0 (by decide)).2; omega)
          rw [HDR.out.eq 0 (by decide)] at this
          exact this)
        clear hdj
        rw [show ((0 : Nat) : Int) = 0 from rfl]
        have hwj : IntKind.i64.wrap 0 = 0 := by decide
        go_wp2_with fail
        go_region_with (first | (go_at_call 14; refine (CR.out _ (by first | omega | (simp; omega)) (by first | omega | (simp; omega))).mono ?_; rintro e wq ⟨rfl, ht⟩; have HTT : Hid (∃ Y : Int, Turned 68 72 wr.drew (LR 0) (restartD (D9 0) Y) wq) := Lib.hid ⟨_, ht⟩; clear ht))
        all_goals
          obtain ⟨Y, hty⟩ := HTT.out
          obtain ⟨L', hd', ho', hg', hb'⟩ := (HDR.out.below (Below.refl _ _).drew).turn (k := 0) (by decide) (by have := HXR.out.size; show X.heap.size ≤ wr.heap.size; omega) hty
          have HD' := Lib.hid hd'
          have HS' : Hid (Steps (DF LR) wr wq (DF (upd LR 0 L'))) := Lib.hid (Steps.after (Below.refl _ _).drew (steps_disk (L := LR) (k := 0) (by decide) ho' hg'))
          have HB' : Hid (Below X.heap.size X wq) := Lib.hid ((HXR.out.drew).trans hb')
          clear hd' ho' hg' hb' hty y0 y1 y2 yf
          go_wp2_with fail
          go_roundw
          case rel =>
            refine ⟨1, upd keeps 0 Y, upd LR 0 L', by omega, rfl, HD'.out.as (fun i hi => ?_), HSR.out.trans HS'.out, HB'.out⟩
            by_cases e : i = 0
            · subst e
              rw [upd_same, if_pos (by omega), upd_same]
            · rw [upd_ne _ _ e, upd_ne _ _ e]
              by_cases h1 : i < 0
              · rw [if_pos h1, if_pos (by omega)]
              · rw [if_neg h1, if_neg (by omega)]
          case measure => simp [intOf]
      · have hdj := (HDR.out.below (Below.refl _ _).drew).d 1 (by decide)
        rw [if_neg (by omega)] at hdj
        have CR : Hid (∀ Y : Int, 0 ≤ Y → Y < 18446744073709551616 → Calls Tryz.prog 14 #[.pointer (some ⟨b 1, 0, none⟩), .int .u64 Y] wr.drew fun e w' => e = .returned (.tuple #[]) ∧ Turned 68 72 wr.drew (LR 1) (restartD (D9 1) Y) w') := Lib.hid (fun Y h1 h2 => by
          have := disk_Restart (LR 1) (D9 1) Y wr.drew hdj (HF9.out.ok 1 (by decide)).1 h1 h2 (by have := (HF9.out.ok 1 (by decide)).2; omega)
          rw [HDR.out.eq 1 (by decide)] at this
          exact this)
        clear hdj
        rw [show ((1 : Nat) : Int) = 1 from rfl]
        have hwj : IntKind.i64.wrap 8 = 8 := by decide
        go_wp2_with fail
        go_region_with (first | (go_at_call 14; refine (CR.out _ (by first | omega | (simp; omega)) (by first | omega | (simp; omega))).mono ?_; rintro e wq ⟨rfl, ht⟩; have HTT : Hid (∃ Y : Int, Turned 68 72 wr.drew (LR 1) (restartD (D9 1) Y) wq) := Lib.hid ⟨_, ht⟩; clear ht))
        all_goals
          obtain ⟨Y, hty⟩ := HTT.out
          obtain ⟨L', hd', ho', hg', hb'⟩ := (HDR.out.below (Below.refl _ _).drew).turn (k := 1) (by decide) (by have := HXR.out.size; show X.heap.size ≤ wr.heap.size; omega) hty
          have HD' := Lib.hid hd'
          have HS' : Hid (Steps (DF LR) wr wq (DF (upd LR 1 L'))) := Lib.hid (Steps.after (Below.refl _ _).drew (steps_disk (L := LR) (k := 1) (by decide) ho' hg'))
          have HB' : Hid (Below X.heap.size X wq) := Lib.hid ((HXR.out.drew).trans hb')
          clear hd' ho' hg' hb' hty y0 y1 y2 yf
          go_wp2_with fail
          go_roundw
          case rel =>
            refine ⟨2, upd keeps 1 Y, upd LR 1 L', by omega, rfl, HD'.out.as (fun i hi => ?_), HSR.out.trans HS'.out, HB'.out⟩
            by_cases e : i = 1
            · subst e
              rw [upd_same, if_pos (by omega), upd_same]
            · rw [upd_ne _ _ e, upd_ne _ _ e]
              by_cases h1 : i < 1
              · rw [if_pos h1, if_pos (by omega)]
              · rw [if_neg h1, if_neg (by omega)]
          case measure => simp [intOf]
      · have hdj := (HDR.out.below (Below.refl _ _).drew).d 2 (by decide)
        rw [if_neg (by omega)] at hdj
        have CR : Hid (∀ Y : Int, 0 ≤ Y → Y < 18446744073709551616 → Calls Tryz.prog 14 #[.pointer (some ⟨b 2, 0, none⟩), .int .u64 Y] wr.drew fun e w' => e = .returned (.tuple #[]) ∧ Turned 68 72 wr.drew (LR 2) (restartD (D9 2) Y) w') := Lib.hid (fun Y h1 h2 => by
          have := disk_Restart (LR 2) (D9 2) Y wr.drew hdj (HF9.out.ok 2 (by decide)).1 h1 h2 (by have := (HF9.out.ok 2 (by decide)).2; omega)
          rw [HDR.out.eq 2 (by decide)] at this
          exact this)
        clear hdj
        rw [show ((2 : Nat) : Int) = 2 from rfl]
        have hwj : IntKind.i64.wrap 16 = 16 := by decide
        go_wp2_with fail
        go_region_with (first | (go_at_call 14; refine (CR.out _ (by first | omega | (simp; omega)) (by first | omega | (simp; omega))).mono ?_; rintro e wq ⟨rfl, ht⟩; have HTT : Hid (∃ Y : Int, Turned 68 72 wr.drew (LR 2) (restartD (D9 2) Y) wq) := Lib.hid ⟨_, ht⟩; clear ht))
        all_goals
          obtain ⟨Y, hty⟩ := HTT.out
          obtain ⟨L', hd', ho', hg', hb'⟩ := (HDR.out.below (Below.refl _ _).drew).turn (k := 2) (by decide) (by have := HXR.out.size; show X.heap.size ≤ wr.heap.size; omega) hty
          have HD' := Lib.hid hd'
          have HS' : Hid (Steps (DF LR) wr wq (DF (upd LR 2 L'))) := Lib.hid (Steps.after (Below.refl _ _).drew (steps_disk (L := LR) (k := 2) (by decide) ho' hg'))
          have HB' : Hid (Below X.heap.size X wq) := Lib.hid ((HXR.out.drew).trans hb')
          clear hd' ho' hg' hb' hty y0 y1 y2 yf
          go_wp2_with fail
          go_roundw
          case rel =>
            refine ⟨3, upd keeps 2 Y, upd LR 2 L', by omega, rfl, HD'.out.as (fun i hi => ?_), HSR.out.trans HS'.out, HB'.out⟩
            by_cases e : i = 2
            · subst e
              rw [upd_same, if_pos (by omega), upd_same]
            · rw [upd_ne _ _ e, upd_ne _ _ e]
              by_cases h1 : i < 2
              · rw [if_pos h1, if_pos (by omega)]
              · rw [if_neg h1, if_neg (by omega)]
          case measure => simp [intOf]
      · obtain ⟨r, hvr, hp1, hp2⟩ := HF9.out.vote keeps
        obtain ⟨DR, hDR⟩ : ∃ DR : Nat → DiskS, DR = fun i => restartD (D9 i) (keeps i) := ⟨_, rfl⟩
        have hde : Disks3 X.heap.size b wr LR DR := HDR.out.as (fun i hi => by rw [if_pos hi, hDR])
        have HSE : Hid (Steps (TF tb L lb sb) W7 wr (DF LR)) := Lib.hid (HS9.out.trans HSR.out)
        obtain ⟨⟨kx, hkx, hmost⟩, hsnd, hgr⟩ := hvr
        have hmost' : ∀ i, i < 3 → i ≠ kx → copyC (DR i) = ⟨true, r⟩ := fun i h1 h2 => by rw [hDR]; exact hmost i h1 h2
        have hsnd' : ∀ i, i < 3 → Sound (DR i) := fun i h1 => by rw [hDR]; exact hsnd i h1
        obtain ⟨hv1, hv2, hv3, _⟩ := most_right (D := DR) (q := r) (k := kx) hkx hmost'
        have CO := Lib.hid (trio_Open X b LR DR r wr hde hsnd' HXG.out HXR.out hv1 hv2 (fault_good hgr))
        obtain ⟨nn, hnn⟩ : ∃ nn, nn = (wrongs (trioC DR) r).length := ⟨_, rfl⟩
        rw [← hnn] at CO hv3
        have hv3' : (nn : Int) ≤ 1 := by omega
        have HSD := Lib.hid hsnd'
        have HGR := Lib.hid hgr
        have HP1 := Lib.hid hp1
        have HP2 := Lib.hid hp2
        clear hDR hde hmost hsnd hgr hmost' hsnd' hv1 hv2 hv3 hnn hp1 hp2 hkx hj
        go_wp2_with fail
        refine CO.out.mono ?_
        rintro e wz ⟨tb7, L7, D7, lb7, sb7, rv7, sp7, v7, rfl, ho7, _, hs7⟩
        have hs8 := HSE.out.trans hs7
        have hz3 := HZ3.out
        have hz4 := HZ4.out.1
        have hzs := HS3a.out
        have hz6 := HZ6.out
        have HQZ := Lib.hid ((hs8.keep (Array.getElem?_eq_some_iff.1 HQX7.out).1 (HNT.out _ (by omega))).1.trans HQX7.out)
        have HNZ := Lib.hid ((hs8.keep (Array.getElem?_eq_some_iff.1 HNX.out).1 (HNT.out _ (by have := HZ4.out; omega))).1.trans HNX.out)
        have HDZ := Lib.hid ((hs8.keep (Array.getElem?_eq_some_iff.1 HDX7.out).1 (HNT.out _ (Nat.le_refl _))).1.trans HDX7.out)
        have hft : ∀ x, TF tb L lb sb x → x < W3a.heap.size := fun x hx => by have := HTL.out _ hx; omega
        have HFQ : Hid (Files wz (.slice ao4 q.files.length ac4) q.files) := Lib.hid (RdF.off (F := TF tb L lb sb) ⟨HF5.out.1.below HB57.out, fresh_far HF5.out.2 hft⟩ hs8.off).rd
        have HFN : Hid (Files wz (.slice ao6 p.1.files.length ac6) p.1.files) := Lib.hid (RdF.off (F := TF tb L lb sb) ⟨HF7.out.1, fresh_far HF7.out.2 hft⟩ hs8.off).rd
        have HXZ := Lib.hid ho7.low
        have HBZ : Hid (Below w.heap.size w wz) := Lib.hid (two BT1.out (two HX0.out ho7.low))
        have HC7 : Hid (∀ i, i < 3 → copyC (D7 i) = ⟨true, r⟩ ∧ Sound (D7 i)) := Lib.hid (fun i hi => by
          by_cases e : copyC (DR i) = ⟨true, r⟩
          · rw [ho7.right i hi e]; exact ⟨e, HSD.out i hi⟩
          · obtain ⟨S', h1, _⟩ := ho7.laid i hi e
            exact ⟨h1.copyC, h1.sound⟩)
        have HPZ := Lib.hid ho7.pre
        have hfew : r.files.length ≤ 1000 := by
          have := HGR.out.fine.len
          omega
        have CQZ := Lib.hid (trio_Quilt ho7.pre hfew)
        clear ho7 hs7 hs8 hz3 hz4 hzs hz6 hft hfew y0 y1 y2 yf
        go_wp2_with fail
        refine CQZ.out.mono ?_
        rintro e w10 ⟨qv10, rfl, ⟨v10, rfl, hf10, _⟩, hb10⟩
        obtain ⟨ao10, ac10, rfl, _, _⟩ := hf10.parts
        obtain ⟨W11, hW11⟩ : ∃ W11, W11 = w10.alloc (.cells #[.slice ao10 r.files.length ac10, .int .i64 r.turn] 36) := ⟨_, rfl⟩
        have hb11 : Below w10.heap.size w10 W11 := by rw [hW11]; exact below_alloc _ _
        have HW11 := Lib.hid hW11
        have HBZ11 := Lib.hid (two hb10 hb11)
        have HFR : Hid (Files W11 (.slice ao10 r.files.length ac10) r.files) := Lib.hid (hf10.below hb11)
        have HRX : Hid (W11.heap[w10.heap.size]? = some (.cells #[.slice ao10 r.files.length ac10, .int .i64 r.turn] 36 (0, 0))) := Lib.hid (by rw [hW11]; show (w10.heap.push _)[w10.heap.size]? = _; simp)
        have HKZ : Hid (∀ W, Below W11.heap.size W11 W → ((W.cell? ⟨w10.heap.size, 0, none⟩ = some (.slice ao10 r.files.length ac10) ∧ W.cell? ⟨w10.heap.size, 1, none⟩ = some (.int .i64 r.turn)) ∧ (W.cell? ⟨w4.heap.size, 0, none⟩ = some (.slice ao4 q.files.length ac4) ∧ W.cell? ⟨w4.heap.size, 1, none⟩ = some (.int .i64 q.turn)) ∧ W.cell? ⟨w6.heap.size, 0, none⟩ = some (.slice ao6 p.1.files.length ac6) ∧ W.cell? ⟨w6.heap.size, 1, none⟩ = some (.int .i64 p.1.turn)) ∧ W.cell? ⟨w2.heap.size, 0, none⟩ = some (.pointer (some ⟨b 0, 0, none⟩)) ∧ W.cell? ⟨w2.heap.size, 1, none⟩ = some (.pointer (some ⟨b 1, 0, none⟩)) ∧ W.cell? ⟨w2.heap.size, 2, none⟩ = some (.pointer (some ⟨b 2, 0, none⟩))) := Lib.hid (fun W hW => by
          have h2 := two HBZ11.out hW
          exact ⟨⟨⟨cell_on' hW (by simp [World.cell?, HRX.out]), cell_on' hW (by simp [World.cell?, HRX.out])⟩, ⟨cell_on' h2 (by simp [World.cell?, HQZ.out]), cell_on' h2 (by simp [World.cell?, HQZ.out])⟩, cell_on' h2 (by simp [World.cell?, HNZ.out]), cell_on' h2 (by simp [World.cell?, HNZ.out])⟩, cell_on' h2 (by simp [World.cell?, HDZ.out]), cell_on' h2 (by simp [World.cell?, HDZ.out]), cell_on' h2 (by simp [World.cell?, HDZ.out])⟩)
        have CA := Lib.hid (top_all b L7 D7 (.agg #[.slice ao10 r.files.length ac10, .int .i64 r.turn]) r W11 (looks_of (HPZ.out.below HBZ11.out).ds (fun k hk => (HC7.out k hk).2) (HXG.out.below (two HXZ.out HBZ11.out))) (fun k hk => (HC7.out k hk).1) ⟨_, rfl, HFR.out⟩)
        have CS1 : Hid (∀ W, Below W11.heap.size W11 W → Calls Tryz.prog 17 #[.agg #[.slice ao10 r.files.length ac10, .int .i64 r.turn], .agg #[.slice ao4 q.files.length ac4, .int .i64 q.turn]] W fun e w' => e = .returned (.bool (decide (r = q))) ∧ Below W.heap.size W w') := Lib.hid (fun W hW => ref_SameQuilt _ _ r q W ⟨_, rfl, HFR.out.below hW⟩ ⟨_, rfl, HFQ.out.below (two HBZ11.out hW)⟩)
        have CS2 : Hid (∀ W, Below W11.heap.size W11 W → Calls Tryz.prog 17 #[.agg #[.slice ao10 r.files.length ac10, .int .i64 r.turn], .agg #[.slice ao6 p.1.files.length ac6, .int .i64 p.1.turn]] W fun e w' => e = .returned (.bool (decide (r = p.1))) ∧ Below W.heap.size W w') := Lib.hid (fun W hW => ref_SameQuilt _ _ r p.1 W ⟨_, rfl, HFR.out.below hW⟩ ⟨_, rfl, HFN.out.below (two HBZ11.out hW)⟩)
        obtain ⟨⟨⟨r0, r1⟩, ⟨q0, q1⟩, n0, n1⟩, y0, y1, y2⟩ := HKZ.out W11 (Below.refl _ _)
        rw [hW11] at r0 r1 y0 y1 y2
        clear hf10 hb10 hb11 hW11 q0 q1 n0 n1
        go_wp2_with fail
        rw [← HW11.out]
        refine CA.out.mono ?_
        rintro e w12 ⟨rfl, hb12⟩
        have HB12 := Lib.hid hb12
        obtain ⟨⟨⟨r0', r1'⟩, ⟨q0, q1⟩, n0, n1⟩, _⟩ := HKZ.out w12 hb12
        clear hb12 r0 r1 y0 y1 y2
        by_cases hp2 : p.2 = 0
        · rw [hp2, errV_zero]
          by_cases hn : n = 0
          · rw [hn, errV_zero]
            have hr := (HP2.out hp2).1 hn
            have CS := CS2.out w12 HB12.out
            rw [decide_eq_true hr] at CS
            have HCS := Lib.hid CS
            clear CS hr hn hp2
            go_wp2_with fail
            refine HCS.out.mono ?_
            rintro e w13 ⟨rfl, hb13⟩
            have HB13' := Lib.hid hb13
            clear hb13
            go_wp2_with fail
            go_ret
            exact ⟨rfl, two HBZ.out (two HBZ11.out (two HB12.out HB13'.out))⟩
          · rw [errV_pos hn]
            have hr := (HP2.out hp2).2
            clear hp2
            have CS := CS1.out w12 HB12.out
            by_cases hrq : r = q
            · rw [decide_eq_true hrq] at CS
              have HCS := Lib.hid CS
              clear CS hr hrq
              go_wp2_with fail
              refine HCS.out.mono ?_
              rintro e w13 ⟨rfl, hb13⟩
              have HB13' := Lib.hid hb13
              clear hb13
              go_wp2_with fail
              go_ret
              exact ⟨rfl, two HBZ.out (two HBZ11.out (two HB12.out HB13'.out))⟩
            · have hrn : r = p.1 := hr.resolve_left hrq
              rw [decide_eq_false hrq] at CS
              have HCS := Lib.hid CS
              have CT2 : Hid (∀ W, Below W11.heap.size W11 W → Calls Tryz.prog 17 #[.agg #[.slice ao10 r.files.length ac10, .int .i64 r.turn], .agg #[.slice ao6 p.1.files.length ac6, .int .i64 p.1.turn]] W fun e w' => e = .returned (.bool true) ∧ Below W.heap.size W w') := Lib.hid (fun W hW => by
                have := CS2.out W hW
                rw [decide_eq_true hrn] at this
                exact this)
              clear CS hr hrq hrn
              go_wp2_with fail
              refine HCS.out.mono ?_
              rintro e w13 ⟨rfl, hb13⟩
              have HB13' := Lib.hid (two HB12.out hb13)
              clear hb13 r0' r1' n0 n1 q0 q1
              obtain ⟨⟨⟨r0', r1'⟩, ⟨q0, q1⟩, n0, n1⟩, _⟩ := HKZ.out w13 HB13'.out
              clear q0 q1
              go_wp2_with fail
              refine (CT2.out w13 HB13'.out).mono ?_
              rintro e w14 ⟨rfl, hb14⟩
              have HB14 := Lib.hid hb14
              clear hb14
              go_wp2_with fail
              go_ret
              exact ⟨rfl, two HBZ.out (two HBZ11.out (two HB13'.out HB14.out))⟩
        · obtain ⟨hn, hr⟩ := HP1.out hp2
          rw [errV_pos hp2, errV_pos hn]
          have CS := CS1.out w12 HB12.out
          rw [decide_eq_true hr] at CS
          have HCS := Lib.hid CS
          clear CS hr hn hp2
          go_wp2_with fail
          refine HCS.out.mono ?_
          rintro e w13 ⟨rfl, hb13⟩
          have HB13' := Lib.hid hb13
          clear hb13
          go_wp2_with fail
          go_ret
          exact ⟨rfl, two HBZ.out (two HBZ11.out (two HB12.out HB13'.out))⟩
end Go.Proofs.YtggpodlecljcbadGreatDoor
