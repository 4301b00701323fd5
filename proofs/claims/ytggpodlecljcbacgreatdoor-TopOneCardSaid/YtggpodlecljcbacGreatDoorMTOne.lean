/- The walk of the statement TopOne. Printed by wip/mk_ttr.py. -/
import Derived.Test.YtggpodlecljcbacGreatDoorMTr4
namespace Go.Proofs.YtggpodlecljcbacGreatDoor
set_option linter.unusedSimpArgs false
set_option linter.unusedVariables false
open Go.RowKit Go.Sort
theorem rem3T (m : Nat) : ∃ k : Nat, k < 3 ∧ ((m : Int) % 3) = (k : Int) := ⟨m % 3, Nat.mod_lt _ (by decide), by omega⟩
set_option maxRecDepth 100000 in
set_option maxHeartbeats 16000000 in
theorem law_TopOne (va : Value) (avs : List ActV) (al : List Act) (which at_ : Int) (vt : Value) (lt : List ByteArray) (w : World) (hav : ActVs w va avs) (haa : IsActs w avs al) (hvt : Texts w vt lt) (hak : ∀ a ∈ al, a.ok) (_ : (Lit.int .i64 which).wf = true) (_ : (Lit.int .i64 at_).wf = true) (hot : ∀ s ∈ lt, s.size ≤ maxLen) (hg : GlobI w) :
    Calls Tryz.prog 5 #[va, .int .i64 which, .int .i64 at_, vt] w fun e w' => e = .returned (.bool true) ∧ Below w.heap.size w w' := by
  have HVT := Lib.hid hvt
  have HOT := Lib.hid hot
  obtain ⟨to_, tc, rfl, htc, htm⟩ := hvt.parts
  clear hvt hot
  have CW := Lib.hid (top_works w hg)
  obtain ⟨vo, vc, rfl, hvc, hvm⟩ := hav.parts
  have CP := Lib.hid fun W hb => top_played (.slice vo avs.length vc) avs al W (hg.below hb) (hav.below hb) (haa.below hb) hak
  have HG := Lib.hid hg
  clear hg hav haa hak
  go_enter Tryz.func5, Tryz.ntmps5
  go_wp2_with fail
  refine CW.out.mono ?_
  rintro e w1 ⟨rfl, hb1⟩
  have HB1 := Lib.hid hb1
  have CP1 := Lib.hid (CP.out w1 hb1)
  clear hb1
  go_wp2_with fail
  refine CP1.out.mono ?_
  rintro e w2 (⟨hl, ⟨p0, p1, p2, rfl⟩, hb2⟩ | ⟨hl, B, b, tb, L, D, S, lb, sb, rv, v, rfl, htr, hB, hb2⟩)
  · have HB2 := Lib.hid (two HB1.out (two hb2 (below_alloc w2 (.cells #[.pointer p0, .pointer p1, .pointer p2] 25))))
    clear hb2
    go_wp2_with fail
    go_ret
    exact ⟨rfl, HB2.out⟩
  · have HB2 := Lib.hid (two HB1.out hb2)
    obtain ⟨W3, hW3⟩ : ∃ W3, W3 = w2.alloc (.cells #[.pointer (some ⟨b 0, 0, none⟩), .pointer (some ⟨b 1, 0, none⟩), .pointer (some ⟨b 2, 0, none⟩)] 25) := ⟨_, rfl⟩
    have hb23 : Below w2.heap.size w2 W3 := by rw [hW3]; exact below_alloc _ _
    have HW3 := Lib.hid hW3
    have HB23 := Lib.hid hb23
    have hbx : W3.heap[w2.heap.size]? = some (.cells #[.pointer (some ⟨b 0, 0, none⟩), .pointer (some ⟨b 1, 0, none⟩), .pointer (some ⟨b 2, 0, none⟩)] 25 (0, 0)) := by rw [hW3]; show (w2.heap.push _)[w2.heap.size]? = _; simp
    have HBX := Lib.hid hbx
    have HZ3 : Hid (W3.heap.size = w2.heap.size + 1) := Lib.hid (by rw [hW3]; simp)
    have hbw3 := two HB1.out (two hb2 hb23)
    have hz1 := HB1.out.size
    obtain ⟨X, hXs, hXg, hXw, hX0⟩ := cut_base hbw3 (B := B) (by omega) (htr.below hb23).lo HG.out
    obtain ⟨q, hq⟩ : ∃ q, q = grownQ al := ⟨_, rfl⟩
    rw [← hq] at htr
    have HTR : Hid (TrioQ 60 X.heap.size b W3 tb q L D S lb sb rv v) := Lib.hid (by rw [hXs]; exact htr.below hb23)
    have HTL : Hid (∀ x, TF tb L lb sb x → x < w2.heap.size) := Lib.hid (fun x hx => (htr.lt hx).1)
    have HXG := Lib.hid hXg
    have HX3 := Lib.hid hXw
    have HX0 := Lib.hid hX0
    have CQ := Lib.hid (trio_Quilt HTR.out.pre HTR.out.few)
    obtain ⟨y0, y1, y2, yf⟩ := arr3_cells hbx
    clear hW3 hb23 hbx hbw3 hz1 hXs hXg hXw hX0 htr hB hq
    have HVT3 := Lib.hid (HVT.out.below (two HB2.out HB23.out))
    have CFW := Lib.hid (top_fewTexts (.slice to_ lt.length tc) lt W3 HVT3.out HOT.out)
    go_wp2_with fail
    rw [← HW3.out]
    refine CFW.out.mono ?_
    rintro e w3 ⟨rfl, hw3⟩
    rw [hw3]
    clear hw3
    by_cases hfw : fewT lt = true
    rotate_left
    · rw [Bool.not_eq_true] at hfw
      rw [hfw]
      clear hfw
      go_wp2_with fail
      go_ret
      exact ⟨rfl, two HB2.out HB23.out⟩
    rw [hfw]
    obtain ⟨hft1, hft2⟩ := fewT_yes hfw
    have HFT := Lib.hid (And.intro hft1 hft2)
    clear hfw hft1 hft2
    go_wp2_with fail
    refine CQ.out.mono ?_
    rintro e w4 ⟨qv, rfl, ⟨v4, rfl, hf4, hfr4⟩, hb4⟩
    obtain ⟨ao4, ac4, rfl, hac4, hac4'⟩ := hf4.parts
    obtain ⟨W5, hW5⟩ : ∃ W5, W5 = w4.alloc (.cells #[.slice ao4 q.files.length ac4, .int .i64 q.turn] 31) := ⟨_, rfl⟩
    have hb45 : Below w4.heap.size w4 W5 := by rw [hW5]; exact below_alloc _ _
    have HW5 := Lib.hid hW5
    have HF5 : Hid (Files W5 (.slice ao4 q.files.length ac4) q.files ∧ Fresh W3.heap.size (.slice ao4 q.files.length ac4)) := Lib.hid ⟨hf4.below hb45, hfr4⟩
    have HQX : Hid (W5.heap[w4.heap.size]? = some (.cells #[.slice ao4 q.files.length ac4, .int .i64 q.turn] 31 (0, 0))) := Lib.hid (by rw [hW5]; show (w4.heap.push _)[w4.heap.size]? = _; simp)
    have HB35 := Lib.hid (two hb4 hb45)
    have HZ4 : Hid (W3.heap.size ≤ w4.heap.size ∧ W5.heap.size = w4.heap.size + 1) := Lib.hid ⟨hb4.size, by rw [hW5]; simp⟩
    have HT5 := Lib.hid (HTR.out.below (two hb4 hb45))
    have HX5 := Lib.hid (two HX3.out (two hb4 hb45))
    have HDX5 : Hid (W5.heap[w2.heap.size]? = some (.cells #[.pointer (some ⟨b 0, 0, none⟩), .pointer (some ⟨b 1, 0, none⟩), .pointer (some ⟨b 2, 0, none⟩)] 25 (0, 0))) := Lib.hid (by rw [(two hb4 hb45).block _ (by rw [HZ3.out]; omega)]; exact HBX.out)
    obtain ⟨y0, y1, y2, yf⟩ := arr3_cells HDX5.out
    have s0 : W5.cell? ⟨w4.heap.size, 0, none⟩ = some (.slice ao4 q.files.length ac4) := by simp [World.cell?, HQX.out]
    have s1 : W5.cell? ⟨w4.heap.size, 1, none⟩ = some (.int .i64 q.turn) := by simp [World.cell?, HQX.out]
    clear hf4 hfr4 hb4 hb45
    have HFAR : Hid (∀ k, k < 3 → RdF (L k).foot 1 strCells W5 (.slice to_ lt.length tc) lt) := Lib.hid (fun k hk => ⟨HVT3.out.below HB35.out, fun a n c e hn hx => by
      have h1 := HT5.out.pre.ds.low k hk _ hx
      have h2 := HX0.out.size
      exact rd_lt HVT.out (by decide) a n c e hn (by omega)⟩)
    obtain ⟨m1, hm1, _⟩ := and1023T which
    obtain ⟨k, hk, hk2⟩ := rem3T m1
    obtain ⟨m2, hm2, hm2'⟩ := and1023T at_
    rw [hW5] at y0 y1 y2 s0 s1
    clear hW5
    obtain rfl | rfl | rfl : k = 0 ∨ k = 1 ∨ k = 2 := by omega
    · have hk3 : (m1 : Int) % 3 = 0 := hk2
      have CSP := top_spoil (L 0) (D 0) ((m2 : Nat) : Int) (.slice to_ lt.length tc) lt W5 (HT5.out.pre.ds.d 0 (by decide)) (HT5.out.has 0 (by decide)).sound (by omega) (HFAR.out 0 (by decide)) HFT.out.1 HFT.out.2
      rw [HT5.out.pre.ds.eq 0 (by decide)] at CSP
      have HCSP := Lib.hid CSP
      obtain ⟨_, hsn, _⟩ := spoil_flush (HT5.out.has 0 (by decide)).sound ((m2 : Nat) : Int) lt HFT.out.2
      have HSN := Lib.hid hsn
      clear CSP hsn
      clear hk2
      go_wp2_with fail
      rw [← HW5.out]
      refine HCSP.out.mono ?_
      rintro e w6 ⟨rfl, ht6⟩
      clear y0 y1 y2 s0 s1 yf
      obtain ⟨L', hd6, ho6, hg6, hb6⟩ := HT5.out.pre.ds.turn (k := 0) (by decide) HX5.out.size ht6
      have hst6 := steps_disk (L := L) (k := 0) (by decide) ho6 hg6
      obtain ⟨L6, hL6⟩ : ∃ L6, L6 = upd L 0 L' := ⟨_, rfl⟩
      obtain ⟨D6, hD6⟩ : ∃ D6, D6 = upd D 0 (spoilD ((m2 : Nat) : Int) lt (D 0)) := ⟨_, rfl⟩
      rw [← hL6] at hst6 hd6
      rw [← hD6] at hd6
      have HH6 : Hid (∀ i, i < 3 → i ≠ 0 → HasQ (D6 i) (S i) q) := Lib.hid (fun i hi hne => by rw [hD6, upd_ne _ _ hne]; exact HT5.out.has i hi)
      have HS6 : Hid (∀ i, i < 3 → Sound (D6 i)) := Lib.hid (fun i hi => by
        by_cases e : i = 0
        · rw [e, hD6, upd_same]; exact HSN.out
        · exact (HH6.out i hi e).sound)
      have HX6 := Lib.hid (HX5.out.trans hb6)
      have HST6 := Lib.hid hst6
      obtain ⟨hv1, hv2, hv3, hv4⟩ := most_right (D := D6) (q := q) (k := 0) (by decide) (fun i hi hne => (HH6.out i hi hne).copyC)
      have CO := Lib.hid (trio_Open X b L6 D6 q w6 hd6 HS6.out HXG.out HX6.out hv1 hv2 (fault_good HT5.out.good))
      obtain ⟨nn, hnn⟩ : ∃ nn, nn = (wrongs (trioC D6) q).length := ⟨_, rfl⟩
      rw [← hnn] at CO hv3
      have HNN := Lib.hid hnn
      have HDX6 : Hid (w6.heap[w2.heap.size]? = some (.cells #[.pointer (some ⟨b 0, 0, none⟩), .pointer (some ⟨b 1, 0, none⟩), .pointer (some ⟨b 2, 0, none⟩)] 25 (0, 0))) := Lib.hid ((hst6.keep (Array.getElem?_eq_some_iff.1 HDX5.out).1 (fun hx => by have := HTL.out _ (df_tf (tb := tb) (lb := lb) (sb := sb) hx); omega)).1.trans HDX5.out)
      obtain ⟨y0, y1, y2, yf⟩ := arr3_cells HDX6.out
      have hv3' : (nn : Int) ≤ 1 := by omega
      have HV4 := Lib.hid hv4
      have HD6 := Lib.hid hD6
      clear hd6 ho6 hg6 hb6 hst6 hL6 hD6 hv1 hv2 hv4 hnn ht6
      go_wp2_with fail
      refine CO.out.mono ?_
      rintro e wz ⟨tb7, L7, D7, lb7, sb7, rv7, sp7, v7, rfl, ho7, _, hs7⟩
      have hst7 := HST6.out.trans hs7
      have hnd : ∀ y, w2.heap.size ≤ y → ¬ DF L y := fun y hy hx => by have := HTL.out _ (df_tf (tb := tb) (lb := lb) (sb := sb) hx); omega
      have hz3 := HZ3.out
      have hz4 := HZ4.out.1
      have HNB := Lib.hid ((hst7.keep (Array.getElem?_eq_some_iff.1 HQX.out).1 (hnd _ (by omega))).1.trans HQX.out)
      have HDB := Lib.hid ((hst7.keep (Array.getElem?_eq_some_iff.1 HDX5.out).1 (hnd _ (Nat.le_refl _))).1.trans HDX5.out)
      have HFZ : Hid (Files wz (.slice ao4 q.files.length ac4) q.files) := Lib.hid (RdF.off (F := DF L) ⟨HF5.out.1, fresh_far HF5.out.2 (fun x hx => by have := HTL.out _ (df_tf (tb := tb) (lb := lb) (sb := sb) hx); omega)⟩ hst7.off).rd
      have HXZ := Lib.hid ho7.low
      have HBZ : Hid (Below w.heap.size w wz) := Lib.hid (two HX0.out ho7.low)
      have HC7 : Hid (∀ i, i < 3 → copyC (D7 i) = ⟨true, q⟩ ∧ Sound (D7 i)) := Lib.hid (fun i hi => by
        by_cases e : copyC (D6 i) = ⟨true, q⟩
        · rw [ho7.right i hi e]; exact ⟨e, HS6.out i hi⟩
        · obtain ⟨S', h1, _⟩ := ho7.laid i hi e
          exact ⟨h1.copyC, h1.sound⟩)
      have HPZ := Lib.hid ho7.pre
      have CQZ : Hid (∀ W, Below wz.heap.size wz W → Calls Tryz.prog 11 #[.pointer (some ⟨tb7, 0, none⟩)] W fun e w' => ∃ qv, e = .returned qv ∧ QuiltsF W.heap.size w' qv q ∧ Below W.heap.size W w') := Lib.hid (fun W hW => trio_Quilt (HPZ.out.below hW) HT5.out.few)
      have CSZ : Hid (∀ W v8, Below wz.heap.size wz W → Files W v8 q.files → Calls Tryz.prog 14 #[.agg #[v8, .int .i64 q.turn], .agg #[.slice ao4 q.files.length ac4, .int .i64 q.turn]] W fun e w' => e = .returned (.bool true) ∧ Below W.heap.size W w') := Lib.hid (fun W v8 hW h8 => by
        have := ref_SameQuilt _ _ q q W ⟨_, rfl, h8⟩ ⟨_, rfl, HFZ.out.below hW⟩
        rw [decide_eq_true rfl] at this
        exact this)
      have CAZ : Hid (∀ W, Below wz.heap.size wz W → Calls Tryz.prog 12 #[.agg #[.pointer (some ⟨b 0, 0, none⟩), .pointer (some ⟨b 1, 0, none⟩), .pointer (some ⟨b 2, 0, none⟩)], .agg #[.slice ao4 q.files.length ac4, .int .i64 q.turn]] W fun e w' => e = .returned (.bool true) ∧ Below W.heap.size W w') := Lib.hid (fun W hW => top_all b L7 D7 _ q W (looks_of (HPZ.out.below hW).ds (fun k hk => (HC7.out k hk).2) (HXG.out.below (two HXZ.out hW))) (fun k hk => (HC7.out k hk).1) ⟨_, rfl, HFZ.out.below hW⟩)
      have HKZ : Hid (∀ W, Below wz.heap.size wz W → (W.cell? ⟨w4.heap.size, 0, none⟩ = some (.slice ao4 q.files.length ac4) ∧ W.cell? ⟨w4.heap.size, 1, none⟩ = some (.int .i64 q.turn)) ∧ W.cell? ⟨w2.heap.size, 0, none⟩ = some (.pointer (some ⟨b 0, 0, none⟩)) ∧ W.cell? ⟨w2.heap.size, 1, none⟩ = some (.pointer (some ⟨b 1, 0, none⟩)) ∧ W.cell? ⟨w2.heap.size, 2, none⟩ = some (.pointer (some ⟨b 2, 0, none⟩))) := Lib.hid (fun W hW => ⟨⟨cell_on' hW (by simp [World.cell?, HNB.out]), cell_on' hW (by simp [World.cell?, HNB.out])⟩, cell_on' hW (by simp [World.cell?, HDB.out]), cell_on' hW (by simp [World.cell?, HDB.out]), cell_on' hW (by simp [World.cell?, HDB.out])⟩)
      clear ho7 hs7 hst7 hnd hz3 hz4 y0 y1 y2 yf
      go_wp2_with fail
      go_region_held3 (fun W => (W.cell? ⟨w4.heap.size, 0, none⟩ = some (.slice ao4 q.files.length ac4) ∧ W.cell? ⟨w4.heap.size, 1, none⟩ = some (.int .i64 (q).turn)) ∧ W.cell? ⟨w2.heap.size, 0, none⟩ = some (.pointer (some ⟨b 0, 0, none⟩)) ∧ W.cell? ⟨w2.heap.size, 1, none⟩ = some (.pointer (some ⟨b 1, 0, none⟩)) ∧ W.cell? ⟨w2.heap.size, 2, none⟩ = some (.pointer (some ⟨b 2, 0, none⟩)))
        (first
          | exact HKZ.out _ (Below.refl _ _).drew
          | exact HKZ.out _ (HBY3 : Hid _).out
          | exact HKZ.out _ (HBY2 : Hid _).out
          | exact HKZ.out _ (HBY1 : Hid _).out)
        (first
          | (go_at_call 11; refine (CQZ.out _ (Below.refl _ _).drew).mono ?_; rintro e y1 ⟨q8, rfl, ⟨v8, rfl, hf8, _⟩, hb8⟩; obtain ⟨ao8, ac8, rfl, _, _⟩ := hf8.parts; have HBY1 : Hid (Below wz.heap.size wz y1) := Lib.hid (two (Below.refl _ _).drew hb8); have HF8 := Lib.hid hf8; clear hf8 hb8)
          | (go_at_call 14; refine (CSZ.out _ _ (HBY1 : Hid _).out (HF8 : Hid _).out).mono ?_; rintro e y2 ⟨rfl, hb9⟩; have HBY2 : Hid (Below wz.heap.size wz y2) := Lib.hid (two (HBY1 : Hid _).out hb9); clear hb9)
          | (go_at_call 12; refine (CAZ.out _ (HBY2 : Hid _).out).mono ?_; rintro e y3 ⟨rfl, hb9⟩; have HBY3 : Hid (Below wz.heap.size wz y3) := Lib.hid (two (HBY2 : Hid _).out hb9); clear hb9))
      all_goals
        go_wp2_with fail
        go_ret
        exact ⟨rfl, two HBZ.out (HBY3 : Hid _).out⟩
    · have hk3 : (m1 : Int) % 3 = 1 := hk2
      have CSP := top_spoil (L 1) (D 1) ((m2 : Nat) : Int) (.slice to_ lt.length tc) lt W5 (HT5.out.pre.ds.d 1 (by decide)) (HT5.out.has 1 (by decide)).sound (by omega) (HFAR.out 1 (by decide)) HFT.out.1 HFT.out.2
      rw [HT5.out.pre.ds.eq 1 (by decide)] at CSP
      have HCSP := Lib.hid CSP
      obtain ⟨_, hsn, _⟩ := spoil_flush (HT5.out.has 1 (by decide)).sound ((m2 : Nat) : Int) lt HFT.out.2
      have HSN := Lib.hid hsn
      clear CSP hsn
      clear hk2
      go_wp2_with fail
      rw [← HW5.out]
      refine HCSP.out.mono ?_
      rintro e w6 ⟨rfl, ht6⟩
      clear y0 y1 y2 s0 s1 yf
      obtain ⟨L', hd6, ho6, hg6, hb6⟩ := HT5.out.pre.ds.turn (k := 1) (by decide) HX5.out.size ht6
      have hst6 := steps_disk (L := L) (k := 1) (by decide) ho6 hg6
      obtain ⟨L6, hL6⟩ : ∃ L6, L6 = upd L 1 L' := ⟨_, rfl⟩
      obtain ⟨D6, hD6⟩ : ∃ D6, D6 = upd D 1 (spoilD ((m2 : Nat) : Int) lt (D 1)) := ⟨_, rfl⟩
      rw [← hL6] at hst6 hd6
      rw [← hD6] at hd6
      have HH6 : Hid (∀ i, i < 3 → i ≠ 1 → HasQ (D6 i) (S i) q) := Lib.hid (fun i hi hne => by rw [hD6, upd_ne _ _ hne]; exact HT5.out.has i hi)
      have HS6 : Hid (∀ i, i < 3 → Sound (D6 i)) := Lib.hid (fun i hi => by
        by_cases e : i = 1
        · rw [e, hD6, upd_same]; exact HSN.out
        · exact (HH6.out i hi e).sound)
      have HX6 := Lib.hid (HX5.out.trans hb6)
      have HST6 := Lib.hid hst6
      obtain ⟨hv1, hv2, hv3, hv4⟩ := most_right (D := D6) (q := q) (k := 1) (by decide) (fun i hi hne => (HH6.out i hi hne).copyC)
      have CO := Lib.hid (trio_Open X b L6 D6 q w6 hd6 HS6.out HXG.out HX6.out hv1 hv2 (fault_good HT5.out.good))
      obtain ⟨nn, hnn⟩ : ∃ nn, nn = (wrongs (trioC D6) q).length := ⟨_, rfl⟩
      rw [← hnn] at CO hv3
      have HNN := Lib.hid hnn
      have HDX6 : Hid (w6.heap[w2.heap.size]? = some (.cells #[.pointer (some ⟨b 0, 0, none⟩), .pointer (some ⟨b 1, 0, none⟩), .pointer (some ⟨b 2, 0, none⟩)] 25 (0, 0))) := Lib.hid ((hst6.keep (Array.getElem?_eq_some_iff.1 HDX5.out).1 (fun hx => by have := HTL.out _ (df_tf (tb := tb) (lb := lb) (sb := sb) hx); omega)).1.trans HDX5.out)
      obtain ⟨y0, y1, y2, yf⟩ := arr3_cells HDX6.out
      have hv3' : (nn : Int) ≤ 1 := by omega
      have HV4 := Lib.hid hv4
      have HD6 := Lib.hid hD6
      clear hd6 ho6 hg6 hb6 hst6 hL6 hD6 hv1 hv2 hv4 hnn ht6
      go_wp2_with fail
      refine CO.out.mono ?_
      rintro e wz ⟨tb7, L7, D7, lb7, sb7, rv7, sp7, v7, rfl, ho7, _, hs7⟩
      have hst7 := HST6.out.trans hs7
      have hnd : ∀ y, w2.heap.size ≤ y → ¬ DF L y := fun y hy hx => by have := HTL.out _ (df_tf (tb := tb) (lb := lb) (sb := sb) hx); omega
      have hz3 := HZ3.out
      have hz4 := HZ4.out.1
      have HNB := Lib.hid ((hst7.keep (Array.getElem?_eq_some_iff.1 HQX.out).1 (hnd _ (by omega))).1.trans HQX.out)
      have HDB := Lib.hid ((hst7.keep (Array.getElem?_eq_some_iff.1 HDX5.out).1 (hnd _ (Nat.le_refl _))).1.trans HDX5.out)
      have HFZ : Hid (Files wz (.slice ao4 q.files.length ac4) q.files) := Lib.hid (RdF.off (F := DF L) ⟨HF5.out.1, fresh_far HF5.out.2 (fun x hx => by have := HTL.out _ (df_tf (tb := tb) (lb := lb) (sb := sb) hx); omega)⟩ hst7.off).rd
      have HXZ := Lib.hid ho7.low
      have HBZ : Hid (Below w.heap.size w wz) := Lib.hid (two HX0.out ho7.low)
      have HC7 : Hid (∀ i, i < 3 → copyC (D7 i) = ⟨true, q⟩ ∧ Sound (D7 i)) := Lib.hid (fun i hi => by
        by_cases e : copyC (D6 i) = ⟨true, q⟩
        · rw [ho7.right i hi e]; exact ⟨e, HS6.out i hi⟩
        · obtain ⟨S', h1, _⟩ := ho7.laid i hi e
          exact ⟨h1.copyC, h1.sound⟩)
      have HPZ := Lib.hid ho7.pre
      have CQZ : Hid (∀ W, Below wz.heap.size wz W → Calls Tryz.prog 11 #[.pointer (some ⟨tb7, 0, none⟩)] W fun e w' => ∃ qv, e = .returned qv ∧ QuiltsF W.heap.size w' qv q ∧ Below W.heap.size W w') := Lib.hid (fun W hW => trio_Quilt (HPZ.out.below hW) HT5.out.few)
      have CSZ : Hid (∀ W v8, Below wz.heap.size wz W → Files W v8 q.files → Calls Tryz.prog 14 #[.agg #[v8, .int .i64 q.turn], .agg #[.slice ao4 q.files.length ac4, .int .i64 q.turn]] W fun e w' => e = .returned (.bool true) ∧ Below W.heap.size W w') := Lib.hid (fun W v8 hW h8 => by
        have := ref_SameQuilt _ _ q q W ⟨_, rfl, h8⟩ ⟨_, rfl, HFZ.out.below hW⟩
        rw [decide_eq_true rfl] at this
        exact this)
      have CAZ : Hid (∀ W, Below wz.heap.size wz W → Calls Tryz.prog 12 #[.agg #[.pointer (some ⟨b 0, 0, none⟩), .pointer (some ⟨b 1, 0, none⟩), .pointer (some ⟨b 2, 0, none⟩)], .agg #[.slice ao4 q.files.length ac4, .int .i64 q.turn]] W fun e w' => e = .returned (.bool true) ∧ Below W.heap.size W w') := Lib.hid (fun W hW => top_all b L7 D7 _ q W (looks_of (HPZ.out.below hW).ds (fun k hk => (HC7.out k hk).2) (HXG.out.below (two HXZ.out hW))) (fun k hk => (HC7.out k hk).1) ⟨_, rfl, HFZ.out.below hW⟩)
      have HKZ : Hid (∀ W, Below wz.heap.size wz W → (W.cell? ⟨w4.heap.size, 0, none⟩ = some (.slice ao4 q.files.length ac4) ∧ W.cell? ⟨w4.heap.size, 1, none⟩ = some (.int .i64 q.turn)) ∧ W.cell? ⟨w2.heap.size, 0, none⟩ = some (.pointer (some ⟨b 0, 0, none⟩)) ∧ W.cell? ⟨w2.heap.size, 1, none⟩ = some (.pointer (some ⟨b 1, 0, none⟩)) ∧ W.cell? ⟨w2.heap.size, 2, none⟩ = some (.pointer (some ⟨b 2, 0, none⟩))) := Lib.hid (fun W hW => ⟨⟨cell_on' hW (by simp [World.cell?, HNB.out]), cell_on' hW (by simp [World.cell?, HNB.out])⟩, cell_on' hW (by simp [World.cell?, HDB.out]), cell_on' hW (by simp [World.cell?, HDB.out]), cell_on' hW (by simp [World.cell?, HDB.out])⟩)
      clear ho7 hs7 hst7 hnd hz3 hz4 y0 y1 y2 yf
      go_wp2_with fail
      go_region_held3 (fun W => (W.cell? ⟨w4.heap.size, 0, none⟩ = some (.slice ao4 q.files.length ac4) ∧ W.cell? ⟨w4.heap.size, 1, none⟩ = some (.int .i64 (q).turn)) ∧ W.cell? ⟨w2.heap.size, 0, none⟩ = some (.pointer (some ⟨b 0, 0, none⟩)) ∧ W.cell? ⟨w2.heap.size, 1, none⟩ = some (.pointer (some ⟨b 1, 0, none⟩)) ∧ W.cell? ⟨w2.heap.size, 2, none⟩ = some (.pointer (some ⟨b 2, 0, none⟩)))
        (first
          | exact HKZ.out _ (Below.refl _ _).drew
          | exact HKZ.out _ (HBY3 : Hid _).out
          | exact HKZ.out _ (HBY2 : Hid _).out
          | exact HKZ.out _ (HBY1 : Hid _).out)
        (first
          | (go_at_call 11; refine (CQZ.out _ (Below.refl _ _).drew).mono ?_; rintro e y1 ⟨q8, rfl, ⟨v8, rfl, hf8, _⟩, hb8⟩; obtain ⟨ao8, ac8, rfl, _, _⟩ := hf8.parts; have HBY1 : Hid (Below wz.heap.size wz y1) := Lib.hid (two (Below.refl _ _).drew hb8); have HF8 := Lib.hid hf8; clear hf8 hb8)
          | (go_at_call 14; refine (CSZ.out _ _ (HBY1 : Hid _).out (HF8 : Hid _).out).mono ?_; rintro e y2 ⟨rfl, hb9⟩; have HBY2 : Hid (Below wz.heap.size wz y2) := Lib.hid (two (HBY1 : Hid _).out hb9); clear hb9)
          | (go_at_call 12; refine (CAZ.out _ (HBY2 : Hid _).out).mono ?_; rintro e y3 ⟨rfl, hb9⟩; have HBY3 : Hid (Below wz.heap.size wz y3) := Lib.hid (two (HBY2 : Hid _).out hb9); clear hb9))
      all_goals
        go_wp2_with fail
        go_ret
        exact ⟨rfl, two HBZ.out (HBY3 : Hid _).out⟩
    · have hk3 : (m1 : Int) % 3 = 2 := hk2
      have CSP := top_spoil (L 2) (D 2) ((m2 : Nat) : Int) (.slice to_ lt.length tc) lt W5 (HT5.out.pre.ds.d 2 (by decide)) (HT5.out.has 2 (by decide)).sound (by omega) (HFAR.out 2 (by decide)) HFT.out.1 HFT.out.2
      rw [HT5.out.pre.ds.eq 2 (by decide)] at CSP
      have HCSP := Lib.hid CSP
      obtain ⟨_, hsn, _⟩ := spoil_flush (HT5.out.has 2 (by decide)).sound ((m2 : Nat) : Int) lt HFT.out.2
      have HSN := Lib.hid hsn
      clear CSP hsn
      clear hk2
      go_wp2_with fail
      rw [← HW5.out]
      refine HCSP.out.mono ?_
      rintro e w6 ⟨rfl, ht6⟩
      clear y0 y1 y2 s0 s1 yf
      obtain ⟨L', hd6, ho6, hg6, hb6⟩ := HT5.out.pre.ds.turn (k := 2) (by decide) HX5.out.size ht6
      have hst6 := steps_disk (L := L) (k := 2) (by decide) ho6 hg6
      obtain ⟨L6, hL6⟩ : ∃ L6, L6 = upd L 2 L' := ⟨_, rfl⟩
      obtain ⟨D6, hD6⟩ : ∃ D6, D6 = upd D 2 (spoilD ((m2 : Nat) : Int) lt (D 2)) := ⟨_, rfl⟩
      rw [← hL6] at hst6 hd6
      rw [← hD6] at hd6
      have HH6 : Hid (∀ i, i < 3 → i ≠ 2 → HasQ (D6 i) (S i) q) := Lib.hid (fun i hi hne => by rw [hD6, upd_ne _ _ hne]; exact HT5.out.has i hi)
      have HS6 : Hid (∀ i, i < 3 → Sound (D6 i)) := Lib.hid (fun i hi => by
        by_cases e : i = 2
        · rw [e, hD6, upd_same]; exact HSN.out
        · exact (HH6.out i hi e).sound)
      have HX6 := Lib.hid (HX5.out.trans hb6)
      have HST6 := Lib.hid hst6
      obtain ⟨hv1, hv2, hv3, hv4⟩ := most_right (D := D6) (q := q) (k := 2) (by decide) (fun i hi hne => (HH6.out i hi hne).copyC)
      have CO := Lib.hid (trio_Open X b L6 D6 q w6 hd6 HS6.out HXG.out HX6.out hv1 hv2 (fault_good HT5.out.good))
      obtain ⟨nn, hnn⟩ : ∃ nn, nn = (wrongs (trioC D6) q).length := ⟨_, rfl⟩
      rw [← hnn] at CO hv3
      have HNN := Lib.hid hnn
      have HDX6 : Hid (w6.heap[w2.heap.size]? = some (.cells #[.pointer (some ⟨b 0, 0, none⟩), .pointer (some ⟨b 1, 0, none⟩), .pointer (some ⟨b 2, 0, none⟩)] 25 (0, 0))) := Lib.hid ((hst6.keep (Array.getElem?_eq_some_iff.1 HDX5.out).1 (fun hx => by have := HTL.out _ (df_tf (tb := tb) (lb := lb) (sb := sb) hx); omega)).1.trans HDX5.out)
      obtain ⟨y0, y1, y2, yf⟩ := arr3_cells HDX6.out
      have hv3' : (nn : Int) ≤ 1 := by omega
      have HV4 := Lib.hid hv4
      have HD6 := Lib.hid hD6
      clear hd6 ho6 hg6 hb6 hst6 hL6 hD6 hv1 hv2 hv4 hnn ht6
      go_wp2_with fail
      refine CO.out.mono ?_
      rintro e wz ⟨tb7, L7, D7, lb7, sb7, rv7, sp7, v7, rfl, ho7, _, hs7⟩
      have hst7 := HST6.out.trans hs7
      have hnd : ∀ y, w2.heap.size ≤ y → ¬ DF L y := fun y hy hx => by have := HTL.out _ (df_tf (tb := tb) (lb := lb) (sb := sb) hx); omega
      have hz3 := HZ3.out
      have hz4 := HZ4.out.1
      have HNB := Lib.hid ((hst7.keep (Array.getElem?_eq_some_iff.1 HQX.out).1 (hnd _ (by omega))).1.trans HQX.out)
      have HDB := Lib.hid ((hst7.keep (Array.getElem?_eq_some_iff.1 HDX5.out).1 (hnd _ (Nat.le_refl _))).1.trans HDX5.out)
      have HFZ : Hid (Files wz (.slice ao4 q.files.length ac4) q.files) := Lib.hid (RdF.off (F := DF L) ⟨HF5.out.1, fresh_far HF5.out.2 (fun x hx => by have := HTL.out _ (df_tf (tb := tb) (lb := lb) (sb := sb) hx); omega)⟩ hst7.off).rd
      have HXZ := Lib.hid ho7.low
      have HBZ : Hid (Below w.heap.size w wz) := Lib.hid (two HX0.out ho7.low)
      have HC7 : Hid (∀ i, i < 3 → copyC (D7 i) = ⟨true, q⟩ ∧ Sound (D7 i)) := Lib.hid (fun i hi => by
        by_cases e : copyC (D6 i) = ⟨true, q⟩
        · rw [ho7.right i hi e]; exact ⟨e, HS6.out i hi⟩
        · obtain ⟨S', h1, _⟩ := ho7.laid i hi e
          exact ⟨h1.copyC, h1.sound⟩)
      have HPZ := Lib.hid ho7.pre
      have CQZ : Hid (∀ W, Below wz.heap.size wz W → Calls Tryz.prog 11 #[.pointer (some ⟨tb7, 0, none⟩)] W fun e w' => ∃ qv, e = .returned qv ∧ QuiltsF W.heap.size w' qv q ∧ Below W.heap.size W w') := Lib.hid (fun W hW => trio_Quilt (HPZ.out.below hW) HT5.out.few)
      have CSZ : Hid (∀ W v8, Below wz.heap.size wz W → Files W v8 q.files → Calls Tryz.prog 14 #[.agg #[v8, .int .i64 q.turn], .agg #[.slice ao4 q.files.length ac4, .int .i64 q.turn]] W fun e w' => e = .returned (.bool true) ∧ Below W.heap.size W w') := Lib.hid (fun W v8 hW h8 => by
        have := ref_SameQuilt _ _ q q W ⟨_, rfl, h8⟩ ⟨_, rfl, HFZ.out.below hW⟩
        rw [decide_eq_true rfl] at this
        exact this)
      have CAZ : Hid (∀ W, Below wz.heap.size wz W → Calls Tryz.prog 12 #[.agg #[.pointer (some ⟨b 0, 0, none⟩), .pointer (some ⟨b 1, 0, none⟩), .pointer (some ⟨b 2, 0, none⟩)], .agg #[.slice ao4 q.files.length ac4, .int .i64 q.turn]] W fun e w' => e = .returned (.bool true) ∧ Below W.heap.size W w') := Lib.hid (fun W hW => top_all b L7 D7 _ q W (looks_of (HPZ.out.below hW).ds (fun k hk => (HC7.out k hk).2) (HXG.out.below (two HXZ.out hW))) (fun k hk => (HC7.out k hk).1) ⟨_, rfl, HFZ.out.below hW⟩)
      have HKZ : Hid (∀ W, Below wz.heap.size wz W → (W.cell? ⟨w4.heap.size, 0, none⟩ = some (.slice ao4 q.files.length ac4) ∧ W.cell? ⟨w4.heap.size, 1, none⟩ = some (.int .i64 q.turn)) ∧ W.cell? ⟨w2.heap.size, 0, none⟩ = some (.pointer (some ⟨b 0, 0, none⟩)) ∧ W.cell? ⟨w2.heap.size, 1, none⟩ = some (.pointer (some ⟨b 1, 0, none⟩)) ∧ W.cell? ⟨w2.heap.size, 2, none⟩ = some (.pointer (some ⟨b 2, 0, none⟩))) := Lib.hid (fun W hW => ⟨⟨cell_on' hW (by simp [World.cell?, HNB.out]), cell_on' hW (by simp [World.cell?, HNB.out])⟩, cell_on' hW (by simp [World.cell?, HDB.out]), cell_on' hW (by simp [World.cell?, HDB.out]), cell_on' hW (by simp [World.cell?, HDB.out])⟩)
      clear ho7 hs7 hst7 hnd hz3 hz4 y0 y1 y2 yf
      go_wp2_with fail
      go_region_held3 (fun W => (W.cell? ⟨w4.heap.size, 0, none⟩ = some (.slice ao4 q.files.length ac4) ∧ W.cell? ⟨w4.heap.size, 1, none⟩ = some (.int .i64 (q).turn)) ∧ W.cell? ⟨w2.heap.size, 0, none⟩ = some (.pointer (some ⟨b 0, 0, none⟩)) ∧ W.cell? ⟨w2.heap.size, 1, none⟩ = some (.pointer (some ⟨b 1, 0, none⟩)) ∧ W.cell? ⟨w2.heap.size, 2, none⟩ = some (.pointer (some ⟨b 2, 0, none⟩)))
        (first
          | exact HKZ.out _ (Below.refl _ _).drew
          | exact HKZ.out _ (HBY3 : Hid _).out
          | exact HKZ.out _ (HBY2 : Hid _).out
          | exact HKZ.out _ (HBY1 : Hid _).out)
        (first
          | (go_at_call 11; refine (CQZ.out _ (Below.refl _ _).drew).mono ?_; rintro e y1 ⟨q8, rfl, ⟨v8, rfl, hf8, _⟩, hb8⟩; obtain ⟨ao8, ac8, rfl, _, _⟩ := hf8.parts; have HBY1 : Hid (Below wz.heap.size wz y1) := Lib.hid (two (Below.refl _ _).drew hb8); have HF8 := Lib.hid hf8; clear hf8 hb8)
          | (go_at_call 14; refine (CSZ.out _ _ (HBY1 : Hid _).out (HF8 : Hid _).out).mono ?_; rintro e y2 ⟨rfl, hb9⟩; have HBY2 : Hid (Below wz.heap.size wz y2) := Lib.hid (two (HBY1 : Hid _).out hb9); clear hb9)
          | (go_at_call 12; refine (CAZ.out _ (HBY2 : Hid _).out).mono ?_; rintro e y3 ⟨rfl, hb9⟩; have HBY3 : Hid (Below wz.heap.size wz y3) := Lib.hid (two (HBY2 : Hid _).out hb9); clear hb9))
      all_goals
        go_wp2_with fail
        go_ret
        exact ⟨rfl, two HBZ.out (HBY3 : Hid _).out⟩
end Go.Proofs.YtggpodlecljcbacGreatDoor
