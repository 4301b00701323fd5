/- The walk of the statement TopCopies. Printed by wip/mk_ttr.py. -/
import Derived.Deep.RegionLaw
import Derived.Deep.CutRange
import Derived.Test.YtggpodlecljcbacGreatDoorMTr4
namespace Go.Proofs.YtggpodlecljcbacGreatDoor
set_option linter.unusedSimpArgs false
set_option linter.unusedVariables false
open Go.RowKit Go.Sort
theorem rem3T (m : Nat) : ∃ k : Nat, k < 3 ∧ ((m : Int) % 3) = (k : Int) := ⟨m % 3, Nat.mod_lt _ (by decide), by omega⟩
set_option maxRecDepth 100000 in
set_option maxHeartbeats 16000000 in
theorem law_TopCopies (va : Value) (avs : List ActV) (al : List Act) (which at_ : Int) (vt : Value) (lt : List ByteArray) (w : World) (hav : ActVs w va avs) (haa : IsActs w avs al) (hvt : Texts w vt lt) (hak : ∀ a ∈ al, a.ok) (_ : (Lit.int .i64 which).wf = true) (_ : (Lit.int .i64 at_).wf = true) (hot : ∀ s ∈ lt, s.size ≤ maxLen) (hg : GlobI w) :
    Calls Tryz.prog 7 #[va, .int .i64 which, .int .i64 at_, vt] w fun e w' => e = .returned (.bool true) ∧ Below w.heap.size w w' := by
  have HVT := Lib.hid hvt
  have HOT := Lib.hid hot
  obtain ⟨to_, tc, rfl, htc, htm⟩ := hvt.parts
  clear hvt hot
  have CW := Lib.hid (top_works w hg)
  obtain ⟨vo, vc, rfl, hvc, hvm⟩ := hav.parts
  have CP := Lib.hid fun W hb => top_played (.slice vo avs.length vc) avs al W (hg.below hb) (hav.below hb) (haa.below hb) hak
  have HG := Lib.hid hg
  clear hg hav haa hak
  go_enter Tryz.func7, Tryz.ntmps7
  go_wp2_with fail
  refine CW.out.mono ?_
  rintro e w1 ⟨rfl, hb1⟩
  have HB1 := Lib.hid hb1
  have CP1 := Lib.hid (CP.out w1 hb1)
  clear hb1
  go_wp2_with fail
  refine CP1.out.mono ?_
  rintro e w2 (⟨hl, ⟨p0, p1, p2, rfl⟩, hb2⟩ | ⟨hl, B, b, tb, L, D, S, lb, sb, rv, v, rfl, htr, hB, hb2⟩)
  · have HB2 := Lib.hid (two HB1.out (two hb2 (below_alloc w2 (.cells #[.pointer p0, .pointer p1, .pointer p2] 25))))
    clear hb2
    go_wp2_with fail
    go_ret
    exact ⟨rfl, HB2.out⟩
  · have HB2 := Lib.hid (two HB1.out hb2)
    obtain ⟨W3, hW3⟩ : ∃ W3, W3 = w2.alloc (.cells #[.pointer (some ⟨b 0, 0, none⟩), .pointer (some ⟨b 1, 0, none⟩), .pointer (some ⟨b 2, 0, none⟩)] 25) := ⟨_, rfl⟩
    have hb23 : Below w2.heap.size w2 W3 := by rw [hW3]; exact below_alloc _ _
    have HW3 := Lib.hid hW3
    have HB23 := Lib.hid hb23
    have hbx : W3.heap[w2.heap.size]? = some (.cells #[.pointer (some ⟨b 0, 0, none⟩), .pointer (some ⟨b 1, 0, none⟩), .pointer (some ⟨b 2, 0, none⟩)] 25 (0, 0)) := by rw [hW3]; show (w2.heap.push _)[w2.heap.size]? = _; simp
    have HBX := Lib.hid hbx
    have HZ3 : Hid (W3.heap.size = w2.heap.size + 1) := Lib.hid (by rw [hW3]; simp)
    have hbw3 := two HB1.out (two hb2 hb23)
    have hz1 := HB1.out.size
    obtain ⟨X, hXs, hXg, hXw, hX0⟩ := cut_base hbw3 (B := B) (by omega) (htr.below hb23).lo HG.out
    obtain ⟨q, hq⟩ : ∃ q, q = grownQ al := ⟨_, rfl⟩
    rw [← hq] at htr
    have HTR : Hid (TrioQ 60 X.heap.size b W3 tb q L D S lb sb rv v) := Lib.hid (by rw [hXs]; exact htr.below hb23)
    have HTL : Hid (∀ x, TF tb L lb sb x → x < w2.heap.size) := Lib.hid (fun x hx => (htr.lt hx).1)
    have HXG := Lib.hid hXg
    have HX3 := Lib.hid hXw
    have HX0 := Lib.hid hX0
    have CQ := Lib.hid (trio_Quilt HTR.out.pre HTR.out.few)
    obtain ⟨y0, y1, y2, yf⟩ := arr3_cells hbx
    clear hW3 hb23 hbx hbw3 hz1 hXs hXg hXw hX0 htr hB hq
    have HVT3 := Lib.hid (HVT.out.below (two HB2.out HB23.out))
    have CFW := Lib.hid (top_fewTexts (.slice to_ lt.length tc) lt W3 HVT3.out HOT.out)
    go_wp2_with fail
    rw [← HW3.out]
    refine CFW.out.mono ?_
    rintro e w3 ⟨rfl, hw3⟩
    rw [hw3]
    clear hw3
    by_cases hfw : fewT lt = true
    rotate_left
    · rw [Bool.not_eq_true] at hfw
      rw [hfw]
      clear hfw
      go_wp2_with fail
      go_ret
      exact ⟨rfl, two HB2.out HB23.out⟩
    rw [hfw]
    obtain ⟨hft1, hft2⟩ := fewT_yes hfw
    have HFT := Lib.hid (And.intro hft1 hft2)
    clear hfw hft1 hft2
    go_wp2_with fail
    refine CQ.out.mono ?_
    rintro e w4 ⟨qv, rfl, ⟨v4, rfl, hf4, hfr4⟩, hb4⟩
    obtain ⟨ao4, ac4, rfl, hac4, hac4'⟩ := hf4.parts
    obtain ⟨W5, hW5⟩ : ∃ W5, W5 = w4.alloc (.cells #[.slice ao4 q.files.length ac4, .int .i64 q.turn] 31) := ⟨_, rfl⟩
    have hb45 : Below w4.heap.size w4 W5 := by rw [hW5]; exact below_alloc _ _
    have HW5 := Lib.hid hW5
    have HF5 : Hid (Files W5 (.slice ao4 q.files.length ac4) q.files ∧ Fresh W3.heap.size (.slice ao4 q.files.length ac4)) := Lib.hid ⟨hf4.below hb45, hfr4⟩
    have HQX : Hid (W5.heap[w4.heap.size]? = some (.cells #[.slice ao4 q.files.length ac4, .int .i64 q.turn] 31 (0, 0))) := Lib.hid (by rw [hW5]; show (w4.heap.push _)[w4.heap.size]? = _; simp)
    have HB35 := Lib.hid (two hb4 hb45)
    have HZ4 : Hid (W3.heap.size ≤ w4.heap.size ∧ W5.heap.size = w4.heap.size + 1) := Lib.hid ⟨hb4.size, by rw [hW5]; simp⟩
    have HT5 := Lib.hid (HTR.out.below (two hb4 hb45))
    have HX5 := Lib.hid (two HX3.out (two hb4 hb45))
    have HDX5 : Hid (W5.heap[w2.heap.size]? = some (.cells #[.pointer (some ⟨b 0, 0, none⟩), .pointer (some ⟨b 1, 0, none⟩), .pointer (some ⟨b 2, 0, none⟩)] 25 (0, 0))) := Lib.hid (by rw [(two hb4 hb45).block _ (by rw [HZ3.out]; omega)]; exact HBX.out)
    obtain ⟨y0, y1, y2, yf⟩ := arr3_cells HDX5.out
    have s0 : W5.cell? ⟨w4.heap.size, 0, none⟩ = some (.slice ao4 q.files.length ac4) := by simp [World.cell?, HQX.out]
    have s1 : W5.cell? ⟨w4.heap.size, 1, none⟩ = some (.int .i64 q.turn) := by simp [World.cell?, HQX.out]
    clear hf4 hfr4 hb4 hb45
    have HFAR : Hid (∀ k, k < 3 → RdF (L k).foot 1 strCells W5 (.slice to_ lt.length tc) lt) := Lib.hid (fun k hk => ⟨HVT3.out.below HB35.out, fun a n c e hn hx => by
      have h1 := HT5.out.pre.ds.low k hk _ hx
      have h2 := HX0.out.size
      exact rd_lt HVT.out (by decide) a n c e hn (by omega)⟩)
    obtain ⟨m1, hm1, _⟩ := and1023T which
    obtain ⟨k, hk, hk2⟩ := rem3T m1
    obtain ⟨m2, hm2, hm2'⟩ := and1023T at_
    rw [hW5] at y0 y1 y2 s0 s1
    clear hW5
    obtain rfl | rfl | rfl : k = 0 ∨ k = 1 ∨ k = 2 := by omega
    · have hk3 : (m1 : Int) % 3 = 0 := hk2
      have CSP := top_spoil (L 0) (D 0) ((m2 : Nat) : Int) (.slice to_ lt.length tc) lt W5 (HT5.out.pre.ds.d 0 (by decide)) (HT5.out.has 0 (by decide)).sound (by omega) (HFAR.out 0 (by decide)) HFT.out.1 HFT.out.2
      rw [HT5.out.pre.ds.eq 0 (by decide)] at CSP
      have HCSP := Lib.hid CSP
      obtain ⟨_, hsn, _⟩ := spoil_flush (HT5.out.has 0 (by decide)).sound ((m2 : Nat) : Int) lt HFT.out.2
      have HSN := Lib.hid hsn
      clear CSP hsn
      clear hk2
      go_wp2_with fail
      rw [← HW5.out]
      refine HCSP.out.mono ?_
      rintro e w6 ⟨rfl, ht6⟩
      clear y0 y1 y2 s0 s1 yf
      obtain ⟨L', hd6, ho6, hg6, hb6⟩ := HT5.out.pre.ds.turn (k := 0) (by decide) HX5.out.size ht6
      have hst6 := steps_disk (L := L) (k := 0) (by decide) ho6 hg6
      obtain ⟨L6, hL6⟩ : ∃ L6, L6 = upd L 0 L' := ⟨_, rfl⟩
      obtain ⟨D6, hD6⟩ : ∃ D6, D6 = upd D 0 (spoilD ((m2 : Nat) : Int) lt (D 0)) := ⟨_, rfl⟩
      rw [← hL6] at hst6 hd6
      rw [← hD6] at hd6
      have HH6 : Hid (∀ i, i < 3 → i ≠ 0 → HasQ (D6 i) (S i) q) := Lib.hid (fun i hi hne => by rw [hD6, upd_ne _ _ hne]; exact HT5.out.has i hi)
      have HS6 : Hid (∀ i, i < 3 → Sound (D6 i)) := Lib.hid (fun i hi => by
        by_cases e : i = 0
        · rw [e, hD6, upd_same]; exact HSN.out
        · exact (HH6.out i hi e).sound)
      have HX6 := Lib.hid (HX5.out.trans hb6)
      have HST6 := Lib.hid hst6
      have HD6S := Lib.hid hd6
      have HDX6 : Hid (w6.heap[w2.heap.size]? = some (.cells #[.pointer (some ⟨b 0, 0, none⟩), .pointer (some ⟨b 1, 0, none⟩), .pointer (some ⟨b 2, 0, none⟩)] 25 (0, 0))) := Lib.hid ((hst6.keep (Array.getElem?_eq_some_iff.1 HDX5.out).1 (fun hx => by have := HTL.out _ (df_tf (tb := tb) (lb := lb) (sb := sb) hx); omega)).1.trans HDX5.out)
      obtain ⟨y0, y1, y2, yf⟩ := arr3_cells HDX6.out
      clear hd6 ho6 hg6 hb6 hst6 hL6 hD6 ht6
      have HQX6 : Hid (w6.heap[w4.heap.size]? = some (.cells #[.slice ao4 q.files.length ac4, .int .i64 q.turn] 31 (0, 0))) := Lib.hid ((HST6.out.keep (Array.getElem?_eq_some_iff.1 HQX.out).1 (fun hx => by have := HTL.out _ (df_tf (tb := tb) (lb := lb) (sb := sb) hx); have := HZ3.out; have := HZ4.out.1; omega)).1.trans HQX.out)
      have HF6 : Hid (Files w6 (.slice ao4 q.files.length ac4) q.files) := Lib.hid (RdF.off (F := DF L) ⟨HF5.out.1, fresh_far HF5.out.2 (fun x hx => by have := HTL.out _ (df_tf (tb := tb) (lb := lb) (sb := sb) hx); have := HZ3.out; omega)⟩ HST6.out.off).rd
      have HLK : Hid (Looks b L6 D6 w6) := Lib.hid (looks_of HD6S.out HS6.out (HXG.out.below HX6.out))
      have CA := Lib.hid (trio_Copies b L6 D6 w6 HLK.out)
      go_wp2_with fail
      refine CA.out.mono ?_
      rintro e w7 ⟨⟨⟨aa0, aav, aa2⟩, ⟨ab0, abv, ab2⟩, ⟨ad0, adv, ad2⟩⟩, rfl, ⟨hA, hB', hC⟩, _, hb7⟩
      obtain ⟨aa3, aa5, e, _, _⟩ := hA.2.2.parts
      dsimp only at e
      subst e
      obtain ⟨aa4, haa4⟩ : ∃ n, n = (trioC D6).a.quilt.files.length := ⟨_, rfl⟩
      rw [← haa4] at hA ⊢
      have Haa := Lib.hid hA
      clear haa4
      obtain ⟨ab3, ab5, e, _, _⟩ := hB'.2.2.parts
      dsimp only at e
      subst e
      have e1 : (trioC D6).b = ⟨true, q⟩ := (HH6.out 1 (by decide) (by decide)).copyC
      rw [e1] at hB'
      obtain ⟨i1, i2, i3⟩ := hB'
      dsimp only at i1 i2 i3
      subst i1 i2
      rw [e1]
      dsimp only
      have Hab := Lib.hid i3
      clear i3 e1
      obtain ⟨ad3, ad5, e, _, _⟩ := hC.2.2.parts
      dsimp only at e
      subst e
      have e2 : (trioC D6).c = ⟨true, q⟩ := (HH6.out 2 (by decide) (by decide)).copyC
      rw [e2] at hC
      obtain ⟨i1, i2, i3⟩ := hC
      dsimp only at i1 i2 i3
      subst i1 i2
      rw [e2]
      dsimp only
      have Had := Lib.hid i3
      clear i3 e2
      simp only [TrioV.val, TrioV.arr]
      obtain ⟨W8, hW8⟩ : ∃ W8, W8 = w7.alloc (.cells #[.bool aa0, .slice aa3 aa4 aa5, .int .i64 aa2, .bool true, .slice ab3 q.files.length ab5, .int .i64 q.turn, .bool true, .slice ad3 q.files.length ad5, .int .i64 q.turn] 58) := ⟨_, rfl⟩
      have hb78 : Below w7.heap.size w7 W8 := by rw [hW8]; exact below_alloc _ _
      have HB68 := Lib.hid (two hb7 hb78)
      have HB78 := Lib.hid hb78
      have HW8 := Lib.hid hW8
      have HAX : Hid (W8.heap[w7.heap.size]? = some (.cells #[.bool aa0, .slice aa3 aa4 aa5, .int .i64 aa2, .bool true, .slice ab3 q.files.length ab5, .int .i64 q.turn, .bool true, .slice ad3 q.files.length ad5, .int .i64 q.turn] 58 (0, 0))) := Lib.hid (by rw [hW8]; show (w7.heap.push _)[w7.heap.size]? = _; simp)
      obtain ⟨y0, y1, y2, yf⟩ := arr3_cells (show W8.heap[w2.heap.size]? = _ from (HB68.out.block _ (Array.getElem?_eq_some_iff.1 HDX6.out).1).trans HDX6.out)
      rw [hW8] at y0 y1 y2
      have CB := Lib.hid (trio_Copies b L6 D6 W8 (HLK.out.below HB68.out))
      clear hb7 hb78 hW8
      go_wp2_with fail
      rw [← HW8.out]
      refine CB.out.mono ?_
      rintro e w9 ⟨⟨⟨ba0, bav, ba2⟩, ⟨bb0, bbv, bb2⟩, ⟨bd0, bdv, bd2⟩⟩, rfl, ⟨gA, gB, gC⟩, _, hb9⟩
      obtain ⟨ba3, ba5, e, _, _⟩ := gA.2.2.parts
      dsimp only at e
      subst e
      obtain ⟨ba4, hba4⟩ : ∃ n, n = (trioC D6).a.quilt.files.length := ⟨_, rfl⟩
      rw [← hba4] at gA ⊢
      have Hba := Lib.hid gA
      clear hba4
      obtain ⟨bb3, bb5, e, _, _⟩ := gB.2.2.parts
      dsimp only at e
      subst e
      have e1 : (trioC D6).b = ⟨true, q⟩ := (HH6.out 1 (by decide) (by decide)).copyC
      rw [e1] at gB
      obtain ⟨i1, i2, i3⟩ := gB
      dsimp only at i1 i2 i3
      subst i1 i2
      rw [e1]
      dsimp only
      have Hbb := Lib.hid i3
      clear i3 e1
      obtain ⟨bd3, bd5, e, _, _⟩ := gC.2.2.parts
      dsimp only at e
      subst e
      have e2 : (trioC D6).c = ⟨true, q⟩ := (HH6.out 2 (by decide) (by decide)).copyC
      rw [e2] at gC
      obtain ⟨i1, i2, i3⟩ := gC
      dsimp only at i1 i2 i3
      subst i1 i2
      rw [e2]
      dsimp only
      have Hbd := Lib.hid i3
      clear i3 e2
      simp only [TrioV.val, TrioV.arr]
      clear y0 y1 y2 yf
      obtain ⟨W10, hW10⟩ : ∃ W10, W10 = w9.alloc (.cells #[.bool ba0, .slice ba3 ba4 ba5, .int .i64 ba2, .bool true, .slice bb3 q.files.length bb5, .int .i64 q.turn, .bool true, .slice bd3 q.files.length bd5, .int .i64 q.turn] 58) := ⟨_, rfl⟩
      have hb910 : Below w9.heap.size w9 W10 := by rw [hW10]; exact below_alloc _ _
      have HB810 := Lib.hid (two hb9 hb910)
      have HB910 := Lib.hid hb910
      have HB610 := Lib.hid (two HB68.out (two hb9 hb910))
      have HW10 := Lib.hid hW10
      have HBX2 : Hid (W10.heap[w9.heap.size]? = some (.cells #[.bool ba0, .slice ba3 ba4 ba5, .int .i64 ba2, .bool true, .slice bb3 q.files.length bb5, .int .i64 q.turn, .bool true, .slice bd3 q.files.length bd5, .int .i64 q.turn] 58 (0, 0))) := Lib.hid (by rw [hW10]; show (w9.heap.push _)[w9.heap.size]? = _; simp)
      have HAX2 : Hid (W10.heap[w7.heap.size]? = some (.cells #[.bool aa0, .slice aa3 aa4 aa5, .int .i64 aa2, .bool true, .slice ab3 q.files.length ab5, .int .i64 q.turn, .bool true, .slice ad3 q.files.length ad5, .int .i64 q.turn] 58 (0, 0))) := Lib.hid (by rw [HB810.out.block _ (Array.getElem?_eq_some_iff.1 HAX.out).1]; exact HAX.out)
      have HQX10 : Hid (W10.heap[w4.heap.size]? = some (.cells #[.slice ao4 q.files.length ac4, .int .i64 q.turn] 31 (0, 0))) := Lib.hid (by rw [HB610.out.block _ (Array.getElem?_eq_some_iff.1 HQX6.out).1]; exact HQX6.out)
      clear hb9 hb910 hW10
      have CC0 : Hid (∀ W, Below W10.heap.size W10 W → Calls Tryz.prog 22 #[.agg #[.bool aa0, .slice aa3 aa4 aa5, .int .i64 aa2], .agg #[.bool ba0, .slice ba3 ba4 ba5, .int .i64 ba2]] W fun e w' => e = .returned (.bool true) ∧ Below W.heap.size W w') := Lib.hid (fun W hW => by
        have := ref_SameCopy _ _ ((trioC D6).a) ((trioC D6).a) W (IsCopy.copies (Haa.out.below (two HB78.out (two HB810.out hW)))) (IsCopy.copies (Hba.out.below (two HB910.out hW)))
        rw [sameR] at this
        exact this)
      have CC1 : Hid (∀ W, Below W10.heap.size W10 W → Calls Tryz.prog 22 #[.agg #[.bool true, .slice ab3 q.files.length ab5, .int .i64 q.turn], .agg #[.bool true, .slice bb3 q.files.length bb5, .int .i64 q.turn]] W fun e w' => e = .returned (.bool true) ∧ Below W.heap.size W w') := Lib.hid (fun W hW => by
        have := ref_SameCopy _ _ ⟨true, q⟩ ⟨true, q⟩ W (IsCopy.copies (show IsCopy W ⟨true, .slice ab3 q.files.length ab5, q.turn⟩ ⟨true, q⟩ from ⟨rfl, rfl, Hab.out.below (two HB78.out (two HB810.out hW))⟩)) (IsCopy.copies (show IsCopy W ⟨true, .slice bb3 q.files.length bb5, q.turn⟩ ⟨true, q⟩ from ⟨rfl, rfl, Hbb.out.below (two HB910.out hW)⟩))
        rw [sameR] at this
        exact this)
      have CS1 : Hid (∀ W, Below W10.heap.size W10 W → Calls Tryz.prog 14 #[.agg #[.slice ab3 q.files.length ab5, .int .i64 q.turn], .agg #[.slice ao4 q.files.length ac4, .int .i64 q.turn]] W fun e w' => e = .returned (.bool true) ∧ Below W.heap.size W w') := Lib.hid (fun W hW => by
        have := ref_SameQuilt _ _ q q W ⟨_, rfl, Hab.out.below (two HB78.out (two HB810.out hW))⟩ ⟨_, rfl, (HF6.out.below HB610.out).below hW⟩
        rw [decide_eq_true rfl] at this
        exact this)
      have CC2 : Hid (∀ W, Below W10.heap.size W10 W → Calls Tryz.prog 22 #[.agg #[.bool true, .slice ad3 q.files.length ad5, .int .i64 q.turn], .agg #[.bool true, .slice bd3 q.files.length bd5, .int .i64 q.turn]] W fun e w' => e = .returned (.bool true) ∧ Below W.heap.size W w') := Lib.hid (fun W hW => by
        have := ref_SameCopy _ _ ⟨true, q⟩ ⟨true, q⟩ W (IsCopy.copies (show IsCopy W ⟨true, .slice ad3 q.files.length ad5, q.turn⟩ ⟨true, q⟩ from ⟨rfl, rfl, Had.out.below (two HB78.out (two HB810.out hW))⟩)) (IsCopy.copies (show IsCopy W ⟨true, .slice bd3 q.files.length bd5, q.turn⟩ ⟨true, q⟩ from ⟨rfl, rfl, Hbd.out.below (two HB910.out hW)⟩))
        rw [sameR] at this
        exact this)
      have CS2 : Hid (∀ W, Below W10.heap.size W10 W → Calls Tryz.prog 14 #[.agg #[.slice ad3 q.files.length ad5, .int .i64 q.turn], .agg #[.slice ao4 q.files.length ac4, .int .i64 q.turn]] W fun e w' => e = .returned (.bool true) ∧ Below W.heap.size W w') := Lib.hid (fun W hW => by
        have := ref_SameQuilt _ _ q q W ⟨_, rfl, Had.out.below (two HB78.out (two HB810.out hW))⟩ ⟨_, rfl, (HF6.out.below HB610.out).below hW⟩
        rw [decide_eq_true rfl] at this
        exact this)
      go_wp2_with fail
      rw [← HW10.out]
      go_loopw [16] (fun iv wr => ∃ k : Nat, k ≤ 3 ∧ iv = .int .i64 k ∧ Below W10.heap.size W10 wr) (fun iv _ => 3 - (intOf iv).toNat)
      case atStart => exact ⟨0, by omega, rfl, Below.refl _ _⟩
      case round =>
        obtain ⟨j, hj, rfl, hbw⟩ := hrel
        have HBW := Lib.hid hbw
        obtain ⟨x0, x1, x2, x3, x4, x5, x6, x7, x8, xf⟩ := arr_cells (show wr.heap[w7.heap.size]? = _ from (hbw.block _ (Array.getElem?_eq_some_iff.1 HAX2.out).1).trans HAX2.out)
        obtain ⟨z0, z1, z2, z3, z4, z5, z6, z7, z8, zf⟩ := arr_cells (show wr.heap[w9.heap.size]? = _ from (hbw.block _ (Array.getElem?_eq_some_iff.1 HBX2.out).1).trans HBX2.out)
        have hqw : wr.heap[w4.heap.size]? = some (.cells #[.slice ao4 q.files.length ac4, .int .i64 q.turn] 31 (0, 0)) := (hbw.block _ (Array.getElem?_eq_some_iff.1 HQX10.out).1).trans HQX10.out
        have q0 : wr.cell? ⟨w4.heap.size, 0, none⟩ = some (.slice ao4 q.files.length ac4) := by simp [World.cell?, hqw]
        have q1 : wr.cell? ⟨w4.heap.size, 1, none⟩ = some (.int .i64 q.turn) := by simp [World.cell?, hqw]
        clear hbw hqw
        obtain rfl | rfl | rfl | rfl : j = 0 ∨ j = 1 ∨ j = 2 ∨ j = 3 := by omega
        · rw [show ((0 : Nat) : Int) = 0 from rfl]
          go_wp2_with fail
          go_cut [82] from 54 to 82 (fun s82 wx => s82 = .bool false ∧ Below W10.heap.size W10 wx)
          case first =>
            replace x0 := regrown_cell x0
            replace x1 := regrown_cell x1
            replace x2 := regrown_cell x2
            replace z0 := regrown_cell z0
            replace z1 := regrown_cell z1
            replace z2 := regrown_cell z2
            replace q0 := regrown_cell q0
            replace q1 := regrown_cell q1
            refine wp_region_q (by kernel_rfl) (by kernel_rfl) ?_
            repeat (go_big_quiet_step (first | (go_at_call 22; exact Calls.regrown_of (CC0.out _ (two HBW.out (below_regrown _ _ _))))))
            refine wpQuiet_nil ?_
            intro wx hbx
            have HBX3 := Lib.hid (two HBW.out hbx)
            clear hbx
            go_wp2_with fail
            go_meet
            exact ⟨rfl, HBX3.out⟩
          case rest =>
          obtain ⟨rfl, hbx⟩ := hcut
          have HBC := Lib.hid hbx
          clear hbx x0 x1 x2 x3 x4 x5 x6 x7 x8 xf z0 z1 z2 z3 z4 z5 z6 z7 z8 zf q0 q1
          go_wp2_with fail
          go_roundw
          case rel => exact ⟨1, by omega, rfl, HBC.out⟩
          case measure => simp [intOf]
        · rw [show ((1 : Nat) : Int) = 1 from rfl]
          go_wp2_with fail
          go_cut [82] from 54 to 82 (fun s82 wx => s82 = .bool false ∧ Below W10.heap.size W10 wx)
          case first =>
            replace x3 := regrown_cell x3
            replace x4 := regrown_cell x4
            replace x5 := regrown_cell x5
            replace z3 := regrown_cell z3
            replace z4 := regrown_cell z4
            replace z5 := regrown_cell z5
            replace q0 := regrown_cell q0
            replace q1 := regrown_cell q1
            refine wp_region_q (by kernel_rfl) (by kernel_rfl) ?_
            repeat (go_big_quiet_step (first | (go_at_call 22; exact Calls.regrown_of (CC1.out _ (two HBW.out (below_regrown _ _ _)))) | (go_at_call 14; exact Calls.regrown_of (CS1.out _ (two HBW.out (below_regrown _ _ _))))))
            refine wpQuiet_nil ?_
            intro wx hbx
            have HBX3 := Lib.hid (two HBW.out hbx)
            clear hbx
            go_wp2_with fail
            go_meet
            exact ⟨rfl, HBX3.out⟩
          case rest =>
          obtain ⟨rfl, hbx⟩ := hcut
          have HBC := Lib.hid hbx
          clear hbx x0 x1 x2 x3 x4 x5 x6 x7 x8 xf z0 z1 z2 z3 z4 z5 z6 z7 z8 zf q0 q1
          go_wp2_with fail
          go_roundw
          case rel => exact ⟨2, by omega, rfl, HBC.out⟩
          case measure => simp [intOf]
        · rw [show ((2 : Nat) : Int) = 2 from rfl]
          go_wp2_with fail
          go_cut [82] from 54 to 82 (fun s82 wx => s82 = .bool false ∧ Below W10.heap.size W10 wx)
          case first =>
            replace x6 := regrown_cell x6
            replace x7 := regrown_cell x7
            replace x8 := regrown_cell x8
            replace z6 := regrown_cell z6
            replace z7 := regrown_cell z7
            replace z8 := regrown_cell z8
            replace q0 := regrown_cell q0
            replace q1 := regrown_cell q1
            refine wp_region_q (by kernel_rfl) (by kernel_rfl) ?_
            repeat (go_big_quiet_step (first | (go_at_call 22; exact Calls.regrown_of (CC2.out _ (two HBW.out (below_regrown _ _ _)))) | (go_at_call 14; exact Calls.regrown_of (CS2.out _ (two HBW.out (below_regrown _ _ _))))))
            refine wpQuiet_nil ?_
            intro wx hbx
            have HBX3 := Lib.hid (two HBW.out hbx)
            clear hbx
            go_wp2_with fail
            go_meet
            exact ⟨rfl, HBX3.out⟩
          case rest =>
          obtain ⟨rfl, hbx⟩ := hcut
          have HBC := Lib.hid hbx
          clear hbx x0 x1 x2 x3 x4 x5 x6 x7 x8 xf z0 z1 z2 z3 z4 z5 z6 z7 z8 zf q0 q1
          go_wp2_with fail
          go_roundw
          case rel => exact ⟨3, by omega, rfl, HBC.out⟩
          case measure => simp [intOf]
        · rw [show ((3 : Nat) : Int) = 3 from rfl]
          go_wp2_with fail
          go_ret
          exact ⟨rfl, two (two HX0.out HX6.out) (two HB610.out HBW.out)⟩
    · have hk3 : (m1 : Int) % 3 = 1 := hk2
      have CSP := top_spoil (L 1) (D 1) ((m2 : Nat) : Int) (.slice to_ lt.length tc) lt W5 (HT5.out.pre.ds.d 1 (by decide)) (HT5.out.has 1 (by decide)).sound (by omega) (HFAR.out 1 (by decide)) HFT.out.1 HFT.out.2
      rw [HT5.out.pre.ds.eq 1 (by decide)] at CSP
      have HCSP := Lib.hid CSP
      obtain ⟨_, hsn, _⟩ := spoil_flush (HT5.out.has 1 (by decide)).sound ((m2 : Nat) : Int) lt HFT.out.2
      have HSN := Lib.hid hsn
      clear CSP hsn
      clear hk2
      go_wp2_with fail
      rw [← HW5.out]
      refine HCSP.out.mono ?_
      rintro e w6 ⟨rfl, ht6⟩
      clear y0 y1 y2 s0 s1 yf
      obtain ⟨L', hd6, ho6, hg6, hb6⟩ := HT5.out.pre.ds.turn (k := 1) (by decide) HX5.out.size ht6
      have hst6 := steps_disk (L := L) (k := 1) (by decide) ho6 hg6
      obtain ⟨L6, hL6⟩ : ∃ L6, L6 = upd L 1 L' := ⟨_, rfl⟩
      obtain ⟨D6, hD6⟩ : ∃ D6, D6 = upd D 1 (spoilD ((m2 : Nat) : Int) lt (D 1)) := ⟨_, rfl⟩
      rw [← hL6] at hst6 hd6
      rw [← hD6] at hd6
      have HH6 : Hid (∀ i, i < 3 → i ≠ 1 → HasQ (D6 i) (S i) q) := Lib.hid (fun i hi hne => by rw [hD6, upd_ne _ _ hne]; exact HT5.out.has i hi)
      have HS6 : Hid (∀ i, i < 3 → Sound (D6 i)) := Lib.hid (fun i hi => by
        by_cases e : i = 1
        · rw [e, hD6, upd_same]; exact HSN.out
        · exact (HH6.out i hi e).sound)
      have HX6 := Lib.hid (HX5.out.trans hb6)
      have HST6 := Lib.hid hst6
      have HD6S := Lib.hid hd6
      have HDX6 : Hid (w6.heap[w2.heap.size]? = some (.cells #[.pointer (some ⟨b 0, 0, none⟩), .pointer (some ⟨b 1, 0, none⟩), .pointer (some ⟨b 2, 0, none⟩)] 25 (0, 0))) := Lib.hid ((hst6.keep (Array.getElem?_eq_some_iff.1 HDX5.out).1 (fun hx => by have := HTL.out _ (df_tf (tb := tb) (lb := lb) (sb := sb) hx); omega)).1.trans HDX5.out)
      obtain ⟨y0, y1, y2, yf⟩ := arr3_cells HDX6.out
      clear hd6 ho6 hg6 hb6 hst6 hL6 hD6 ht6
      have HQX6 : Hid (w6.heap[w4.heap.size]? = some (.cells #[.slice ao4 q.files.length ac4, .int .i64 q.turn] 31 (0, 0))) := Lib.hid ((HST6.out.keep (Array.getElem?_eq_some_iff.1 HQX.out).1 (fun hx => by have := HTL.out _ (df_tf (tb := tb) (lb := lb) (sb := sb) hx); have := HZ3.out; have := HZ4.out.1; omega)).1.trans HQX.out)
      have HF6 : Hid (Files w6 (.slice ao4 q.files.length ac4) q.files) := Lib.hid (RdF.off (F := DF L) ⟨HF5.out.1, fresh_far HF5.out.2 (fun x hx => by have := HTL.out _ (df_tf (tb := tb) (lb := lb) (sb := sb) hx); have := HZ3.out; omega)⟩ HST6.out.off).rd
      have HLK : Hid (Looks b L6 D6 w6) := Lib.hid (looks_of HD6S.out HS6.out (HXG.out.below HX6.out))
      have CA := Lib.hid (trio_Copies b L6 D6 w6 HLK.out)
      go_wp2_with fail
      refine CA.out.mono ?_
      rintro e w7 ⟨⟨⟨aa0, aav, aa2⟩, ⟨ab0, abv, ab2⟩, ⟨ad0, adv, ad2⟩⟩, rfl, ⟨hA, hB', hC⟩, _, hb7⟩
      obtain ⟨aa3, aa5, e, _, _⟩ := hA.2.2.parts
      dsimp only at e
      subst e
      have e0 : (trioC D6).a = ⟨true, q⟩ := (HH6.out 0 (by decide) (by decide)).copyC
      rw [e0] at hA
      obtain ⟨i1, i2, i3⟩ := hA
      dsimp only at i1 i2 i3
      subst i1 i2
      rw [e0]
      dsimp only
      have Haa := Lib.hid i3
      clear i3 e0
      obtain ⟨ab3, ab5, e, _, _⟩ := hB'.2.2.parts
      dsimp only at e
      subst e
      obtain ⟨ab4, hab4⟩ : ∃ n, n = (trioC D6).b.quilt.files.length := ⟨_, rfl⟩
      rw [← hab4] at hB' ⊢
      have Hab := Lib.hid hB'
      clear hab4
      obtain ⟨ad3, ad5, e, _, _⟩ := hC.2.2.parts
      dsimp only at e
      subst e
      have e2 : (trioC D6).c = ⟨true, q⟩ := (HH6.out 2 (by decide) (by decide)).copyC
      rw [e2] at hC
      obtain ⟨i1, i2, i3⟩ := hC
      dsimp only at i1 i2 i3
      subst i1 i2
      rw [e2]
      dsimp only
      have Had := Lib.hid i3
      clear i3 e2
      simp only [TrioV.val, TrioV.arr]
      obtain ⟨W8, hW8⟩ : ∃ W8, W8 = w7.alloc (.cells #[.bool true, .slice aa3 q.files.length aa5, .int .i64 q.turn, .bool ab0, .slice ab3 ab4 ab5, .int .i64 ab2, .bool true, .slice ad3 q.files.length ad5, .int .i64 q.turn] 58) := ⟨_, rfl⟩
      have hb78 : Below w7.heap.size w7 W8 := by rw [hW8]; exact below_alloc _ _
      have HB68 := Lib.hid (two hb7 hb78)
      have HB78 := Lib.hid hb78
      have HW8 := Lib.hid hW8
      have HAX : Hid (W8.heap[w7.heap.size]? = some (.cells #[.bool true, .slice aa3 q.files.length aa5, .int .i64 q.turn, .bool ab0, .slice ab3 ab4 ab5, .int .i64 ab2, .bool true, .slice ad3 q.files.length ad5, .int .i64 q.turn] 58 (0, 0))) := Lib.hid (by rw [hW8]; show (w7.heap.push _)[w7.heap.size]? = _; simp)
      obtain ⟨y0, y1, y2, yf⟩ := arr3_cells (show W8.heap[w2.heap.size]? = _ from (HB68.out.block _ (Array.getElem?_eq_some_iff.1 HDX6.out).1).trans HDX6.out)
      rw [hW8] at y0 y1 y2
      have CB := Lib.hid (trio_Copies b L6 D6 W8 (HLK.out.below HB68.out))
      clear hb7 hb78 hW8
      go_wp2_with fail
      rw [← HW8.out]
      refine CB.out.mono ?_
      rintro e w9 ⟨⟨⟨ba0, bav, ba2⟩, ⟨bb0, bbv, bb2⟩, ⟨bd0, bdv, bd2⟩⟩, rfl, ⟨gA, gB, gC⟩, _, hb9⟩
      obtain ⟨ba3, ba5, e, _, _⟩ := gA.2.2.parts
      dsimp only at e
      subst e
      have e0 : (trioC D6).a = ⟨true, q⟩ := (HH6.out 0 (by decide) (by decide)).copyC
      rw [e0] at gA
      obtain ⟨i1, i2, i3⟩ := gA
      dsimp only at i1 i2 i3
      subst i1 i2
      rw [e0]
      dsimp only
      have Hba := Lib.hid i3
      clear i3 e0
      obtain ⟨bb3, bb5, e, _, _⟩ := gB.2.2.parts
      dsimp only at e
      subst e
      obtain ⟨bb4, hbb4⟩ : ∃ n, n = (trioC D6).b.quilt.files.length := ⟨_, rfl⟩
      rw [← hbb4] at gB ⊢
      have Hbb := Lib.hid gB
      clear hbb4
      obtain ⟨bd3, bd5, e, _, _⟩ := gC.2.2.parts
      dsimp only at e
      subst e
      have e2 : (trioC D6).c = ⟨true, q⟩ := (HH6.out 2 (by decide) (by decide)).copyC
      rw [e2] at gC
      obtain ⟨i1, i2, i3⟩ := gC
      dsimp only at i1 i2 i3
      subst i1 i2
      rw [e2]
      dsimp only
      have Hbd := Lib.hid i3
      clear i3 e2
      simp only [TrioV.val, TrioV.arr]
      clear y0 y1 y2 yf
      obtain ⟨W10, hW10⟩ : ∃ W10, W10 = w9.alloc (.cells #[.bool true, .slice ba3 q.files.length ba5, .int .i64 q.turn, .bool bb0, .slice bb3 bb4 bb5, .int .i64 bb2, .bool true, .slice bd3 q.files.length bd5, .int .i64 q.turn] 58) := ⟨_, rfl⟩
      have hb910 : Below w9.heap.size w9 W10 := by rw [hW10]; exact below_alloc _ _
      have HB810 := Lib.hid (two hb9 hb910)
      have HB910 := Lib.hid hb910
      have HB610 := Lib.hid (two HB68.out (two hb9 hb910))
      have HW10 := Lib.hid hW10
      have HBX2 : Hid (W10.heap[w9.heap.size]? = some (.cells #[.bool true, .slice ba3 q.files.length ba5, .int .i64 q.turn, .bool bb0, .slice bb3 bb4 bb5, .int .i64 bb2, .bool true, .slice bd3 q.files.length bd5, .int .i64 q.turn] 58 (0, 0))) := Lib.hid (by rw [hW10]; show (w9.heap.push _)[w9.heap.size]? = _; simp)
      have HAX2 : Hid (W10.heap[w7.heap.size]? = some (.cells #[.bool true, .slice aa3 q.files.length aa5, .int .i64 q.turn, .bool ab0, .slice ab3 ab4 ab5, .int .i64 ab2, .bool true, .slice ad3 q.files.length ad5, .int .i64 q.turn] 58 (0, 0))) := Lib.hid (by rw [HB810.out.block _ (Array.getElem?_eq_some_iff.1 HAX.out).1]; exact HAX.out)
      have HQX10 : Hid (W10.heap[w4.heap.size]? = some (.cells #[.slice ao4 q.files.length ac4, .int .i64 q.turn] 31 (0, 0))) := Lib.hid (by rw [HB610.out.block _ (Array.getElem?_eq_some_iff.1 HQX6.out).1]; exact HQX6.out)
      clear hb9 hb910 hW10
      have CC0 : Hid (∀ W, Below W10.heap.size W10 W → Calls Tryz.prog 22 #[.agg #[.bool true, .slice aa3 q.files.length aa5, .int .i64 q.turn], .agg #[.bool true, .slice ba3 q.files.length ba5, .int .i64 q.turn]] W fun e w' => e = .returned (.bool true) ∧ Below W.heap.size W w') := Lib.hid (fun W hW => by
        have := ref_SameCopy _ _ ⟨true, q⟩ ⟨true, q⟩ W (IsCopy.copies (show IsCopy W ⟨true, .slice aa3 q.files.length aa5, q.turn⟩ ⟨true, q⟩ from ⟨rfl, rfl, Haa.out.below (two HB78.out (two HB810.out hW))⟩)) (IsCopy.copies (show IsCopy W ⟨true, .slice ba3 q.files.length ba5, q.turn⟩ ⟨true, q⟩ from ⟨rfl, rfl, Hba.out.below (two HB910.out hW)⟩))
        rw [sameR] at this
        exact this)
      have CS0 : Hid (∀ W, Below W10.heap.size W10 W → Calls Tryz.prog 14 #[.agg #[.slice aa3 q.files.length aa5, .int .i64 q.turn], .agg #[.slice ao4 q.files.length ac4, .int .i64 q.turn]] W fun e w' => e = .returned (.bool true) ∧ Below W.heap.size W w') := Lib.hid (fun W hW => by
        have := ref_SameQuilt _ _ q q W ⟨_, rfl, Haa.out.below (two HB78.out (two HB810.out hW))⟩ ⟨_, rfl, (HF6.out.below HB610.out).below hW⟩
        rw [decide_eq_true rfl] at this
        exact this)
      have CC1 : Hid (∀ W, Below W10.heap.size W10 W → Calls Tryz.prog 22 #[.agg #[.bool ab0, .slice ab3 ab4 ab5, .int .i64 ab2], .agg #[.bool bb0, .slice bb3 bb4 bb5, .int .i64 bb2]] W fun e w' => e = .returned (.bool true) ∧ Below W.heap.size W w') := Lib.hid (fun W hW => by
        have := ref_SameCopy _ _ ((trioC D6).b) ((trioC D6).b) W (IsCopy.copies (Hab.out.below (two HB78.out (two HB810.out hW)))) (IsCopy.copies (Hbb.out.below (two HB910.out hW)))
        rw [sameR] at this
        exact this)
      have CC2 : Hid (∀ W, Below W10.heap.size W10 W → Calls Tryz.prog 22 #[.agg #[.bool true, .slice ad3 q.files.length ad5, .int .i64 q.turn], .agg #[.bool true, .slice bd3 q.files.length bd5, .int .i64 q.turn]] W fun e w' => e = .returned (.bool true) ∧ Below W.heap.size W w') := Lib.hid (fun W hW => by
        have := ref_SameCopy _ _ ⟨true, q⟩ ⟨true, q⟩ W (IsCopy.copies (show IsCopy W ⟨true, .slice ad3 q.files.length ad5, q.turn⟩ ⟨true, q⟩ from ⟨rfl, rfl, Had.out.below (two HB78.out (two HB810.out hW))⟩)) (IsCopy.copies (show IsCopy W ⟨true, .slice bd3 q.files.length bd5, q.turn⟩ ⟨true, q⟩ from ⟨rfl, rfl, Hbd.out.below (two HB910.out hW)⟩))
        rw [sameR] at this
        exact this)
      have CS2 : Hid (∀ W, Below W10.heap.size W10 W → Calls Tryz.prog 14 #[.agg #[.slice ad3 q.files.length ad5, .int .i64 q.turn], .agg #[.slice ao4 q.files.length ac4, .int .i64 q.turn]] W fun e w' => e = .returned (.bool true) ∧ Below W.heap.size W w') := Lib.hid (fun W hW => by
        have := ref_SameQuilt _ _ q q W ⟨_, rfl, Had.out.below (two HB78.out (two HB810.out hW))⟩ ⟨_, rfl, (HF6.out.below HB610.out).below hW⟩
        rw [decide_eq_true rfl] at this
        exact this)
      go_wp2_with fail
      rw [← HW10.out]
      go_loopw [16] (fun iv wr => ∃ k : Nat, k ≤ 3 ∧ iv = .int .i64 k ∧ Below W10.heap.size W10 wr) (fun iv _ => 3 - (intOf iv).toNat)
      case atStart => exact ⟨0, by omega, rfl, Below.refl _ _⟩
      case round =>
        obtain ⟨j, hj, rfl, hbw⟩ := hrel
        have HBW := Lib.hid hbw
        obtain ⟨x0, x1, x2, x3, x4, x5, x6, x7, x8, xf⟩ := arr_cells (show wr.heap[w7.heap.size]? = _ from (hbw.block _ (Array.getElem?_eq_some_iff.1 HAX2.out).1).trans HAX2.out)
        obtain ⟨z0, z1, z2, z3, z4, z5, z6, z7, z8, zf⟩ := arr_cells (show wr.heap[w9.heap.size]? = _ from (hbw.block _ (Array.getElem?_eq_some_iff.1 HBX2.out).1).trans HBX2.out)
        have hqw : wr.heap[w4.heap.size]? = some (.cells #[.slice ao4 q.files.length ac4, .int .i64 q.turn] 31 (0, 0)) := (hbw.block _ (Array.getElem?_eq_some_iff.1 HQX10.out).1).trans HQX10.out
        have q0 : wr.cell? ⟨w4.heap.size, 0, none⟩ = some (.slice ao4 q.files.length ac4) := by simp [World.cell?, hqw]
        have q1 : wr.cell? ⟨w4.heap.size, 1, none⟩ = some (.int .i64 q.turn) := by simp [World.cell?, hqw]
        clear hbw hqw
        obtain rfl | rfl | rfl | rfl : j = 0 ∨ j = 1 ∨ j = 2 ∨ j = 3 := by omega
        · rw [show ((0 : Nat) : Int) = 0 from rfl]
          go_wp2_with fail
          go_cut [82] from 54 to 82 (fun s82 wx => s82 = .bool false ∧ Below W10.heap.size W10 wx)
          case first =>
            replace x0 := regrown_cell x0
            replace x1 := regrown_cell x1
            replace x2 := regrown_cell x2
            replace z0 := regrown_cell z0
            replace z1 := regrown_cell z1
            replace z2 := regrown_cell z2
            replace q0 := regrown_cell q0
            replace q1 := regrown_cell q1
            refine wp_region_q (by kernel_rfl) (by kernel_rfl) ?_
            repeat (go_big_quiet_step (first | (go_at_call 22; exact Calls.regrown_of (CC0.out _ (two HBW.out (below_regrown _ _ _)))) | (go_at_call 14; exact Calls.regrown_of (CS0.out _ (two HBW.out (below_regrown _ _ _))))))
            refine wpQuiet_nil ?_
            intro wx hbx
            have HBX3 := Lib.hid (two HBW.out hbx)
            clear hbx
            go_wp2_with fail
            go_meet
            exact ⟨rfl, HBX3.out⟩
          case rest =>
          obtain ⟨rfl, hbx⟩ := hcut
          have HBC := Lib.hid hbx
          clear hbx x0 x1 x2 x3 x4 x5 x6 x7 x8 xf z0 z1 z2 z3 z4 z5 z6 z7 z8 zf q0 q1
          go_wp2_with fail
          go_roundw
          case rel => exact ⟨1, by omega, rfl, HBC.out⟩
          case measure => simp [intOf]
        · rw [show ((1 : Nat) : Int) = 1 from rfl]
          go_wp2_with fail
          go_cut [82] from 54 to 82 (fun s82 wx => s82 = .bool false ∧ Below W10.heap.size W10 wx)
          case first =>
            replace x3 := regrown_cell x3
            replace x4 := regrown_cell x4
            replace x5 := regrown_cell x5
            replace z3 := regrown_cell z3
            replace z4 := regrown_cell z4
            replace z5 := regrown_cell z5
            replace q0 := regrown_cell q0
            replace q1 := regrown_cell q1
            refine wp_region_q (by kernel_rfl) (by kernel_rfl) ?_
            repeat (go_big_quiet_step (first | (go_at_call 22; exact Calls.regrown_of (CC1.out _ (two HBW.out (below_regrown _ _ _))))))
            refine wpQuiet_nil ?_
            intro wx hbx
            have HBX3 := Lib.hid (two HBW.out hbx)
            clear hbx
            go_wp2_with fail
            go_meet
            exact ⟨rfl, HBX3.out⟩
          case rest =>
          obtain ⟨rfl, hbx⟩ := hcut
          have HBC := Lib.hid hbx
          clear hbx x0 x1 x2 x3 x4 x5 x6 x7 x8 xf z0 z1 z2 z3 z4 z5 z6 z7 z8 zf q0 q1
          go_wp2_with fail
          go_roundw
          case rel => exact ⟨2, by omega, rfl, HBC.out⟩
          case measure => simp [intOf]
        · rw [show ((2 : Nat) : Int) = 2 from rfl]
          go_wp2_with fail
          go_cut [82] from 54 to 82 (fun s82 wx => s82 = .bool false ∧ Below W10.heap.size W10 wx)
          case first =>
            replace x6 := regrown_cell x6
            replace x7 := regrown_cell x7
            replace x8 := regrown_cell x8
            replace z6 := regrown_cell z6
            replace z7 := regrown_cell z7
            replace z8 := regrown_cell z8
            replace q0 := regrown_cell q0
            replace q1 := regrown_cell q1
            refine wp_region_q (by kernel_rfl) (by kernel_rfl) ?_
            repeat (go_big_quiet_step (first | (go_at_call 22; exact Calls.regrown_of (CC2.out _ (two HBW.out (below_regrown _ _ _)))) | (go_at_call 14; exact Calls.regrown_of (CS2.out _ (two HBW.out (below_regrown _ _ _))))))
            refine wpQuiet_nil ?_
            intro wx hbx
            have HBX3 := Lib.hid (two HBW.out hbx)
            clear hbx
            go_wp2_with fail
            go_meet
            exact ⟨rfl, HBX3.out⟩
          case rest =>
          obtain ⟨rfl, hbx⟩ := hcut
          have HBC := Lib.hid hbx
          clear hbx x0 x1 x2 x3 x4 x5 x6 x7 x8 xf z0 z1 z2 z3 z4 z5 z6 z7 z8 zf q0 q1
          go_wp2_with fail
          go_roundw
          case rel => exact ⟨3, by omega, rfl, HBC.out⟩
          case measure => simp [intOf]
        · rw [show ((3 : Nat) : Int) = 3 from rfl]
          go_wp2_with fail
          go_ret
          exact ⟨rfl, two (two HX0.out HX6.out) (two HB610.out HBW.out)⟩
    · have hk3 : (m1 : Int) % 3 = 2 := hk2
      have CSP := top_spoil (L 2) (D 2) ((m2 : Nat) : Int) (.slice to_ lt.length tc) lt W5 (HT5.out.pre.ds.d 2 (by decide)) (HT5.out.has 2 (by decide)).sound (by omega) (HFAR.out 2 (by decide)) HFT.out.1 HFT.out.2
      rw [HT5.out.pre.ds.eq 2 (by decide)] at CSP
      have HCSP := Lib.hid CSP
      obtain ⟨_, hsn, _⟩ := spoil_flush (HT5.out.has 2 (by decide)).sound ((m2 : Nat) : Int) lt HFT.out.2
      have HSN := Lib.hid hsn
      clear CSP hsn
      clear hk2
      go_wp2_with fail
      rw [← HW5.out]
      refine HCSP.out.mono ?_
      rintro e w6 ⟨rfl, ht6⟩
      clear y0 y1 y2 s0 s1 yf
      obtain ⟨L', hd6, ho6, hg6, hb6⟩ := HT5.out.pre.ds.turn (k := 2) (by decide) HX5.out.size ht6
      have hst6 := steps_disk (L := L) (k := 2) (by decide) ho6 hg6
      obtain ⟨L6, hL6⟩ : ∃ L6, L6 = upd L 2 L' := ⟨_, rfl⟩
      obtain ⟨D6, hD6⟩ : ∃ D6, D6 = upd D 2 (spoilD ((m2 : Nat) : Int) lt (D 2)) := ⟨_, rfl⟩
      rw [← hL6] at hst6 hd6
      rw [← hD6] at hd6
      have HH6 : Hid (∀ i, i < 3 → i ≠ 2 → HasQ (D6 i) (S i) q) := Lib.hid (fun i hi hne => by rw [hD6, upd_ne _ _ hne]; exact HT5.out.has i hi)
      have HS6 : Hid (∀ i, i < 3 → Sound (D6 i)) := Lib.hid (fun i hi => by
        by_cases e : i = 2
        · rw [e, hD6, upd_same]; exact HSN.out
        · exact (HH6.out i hi e).sound)
      have HX6 := Lib.hid (HX5.out.trans hb6)
      have HST6 := Lib.hid hst6
      have HD6S := Lib.hid hd6
      have HDX6 : Hid (w6.heap[w2.heap.size]? = some (.cells #[.pointer (some ⟨b 0, 0, none⟩), .pointer (some ⟨b 1, 0, none⟩), .pointer (some ⟨b 2, 0, none⟩)] 25 (0, 0))) := Lib.hid ((hst6.keep (Array.getElem?_eq_some_iff.1 HDX5.out).1 (fun hx => by have := HTL.out _ (df_tf (tb := tb) (lb := lb) (sb := sb) hx); omega)).1.trans HDX5.out)
      obtain ⟨y0, y1, y2, yf⟩ := arr3_cells HDX6.out
      clear hd6 ho6 hg6 hb6 hst6 hL6 hD6 ht6
      have HQX6 : Hid (w6.heap[w4.heap.size]? = some (.cells #[.slice ao4 q.files.length ac4, .int .i64 q.turn] 31 (0, 0))) := Lib.hid ((HST6.out.keep (Array.getElem?_eq_some_iff.1 HQX.out).1 (fun hx => by have := HTL.out _ (df_tf (tb := tb) (lb := lb) (sb := sb) hx); have := HZ3.out; have := HZ4.out.1; omega)).1.trans HQX.out)
      have HF6 : Hid (Files w6 (.slice ao4 q.files.length ac4) q.files) := Lib.hid (RdF.off (F := DF L) ⟨HF5.out.1, fresh_far HF5.out.2 (fun x hx => by have := HTL.out _ (df_tf (tb := tb) (lb := lb) (sb := sb) hx); have := HZ3.out; omega)⟩ HST6.out.off).rd
      have HLK : Hid (Looks b L6 D6 w6) := Lib.hid (looks_of HD6S.out HS6.out (HXG.out.below HX6.out))
      have CA := Lib.hid (trio_Copies b L6 D6 w6 HLK.out)
      go_wp2_with fail
      refine CA.out.mono ?_
      rintro e w7 ⟨⟨⟨aa0, aav, aa2⟩, ⟨ab0, abv, ab2⟩, ⟨ad0, adv, ad2⟩⟩, rfl, ⟨hA, hB', hC⟩, _, hb7⟩
      obtain ⟨aa3, aa5, e, _, _⟩ := hA.2.2.parts
      dsimp only at e
      subst e
      have e0 : (trioC D6).a = ⟨true, q⟩ := (HH6.out 0 (by decide) (by decide)).copyC
      rw [e0] at hA
      obtain ⟨i1, i2, i3⟩ := hA
      dsimp only at i1 i2 i3
      subst i1 i2
      rw [e0]
      dsimp only
      have Haa := Lib.hid i3
      clear i3 e0
      obtain ⟨ab3, ab5, e, _, _⟩ := hB'.2.2.parts
      dsimp only at e
      subst e
      have e1 : (trioC D6).b = ⟨true, q⟩ := (HH6.out 1 (by decide) (by decide)).copyC
      rw [e1] at hB'
      obtain ⟨i1, i2, i3⟩ := hB'
      dsimp only at i1 i2 i3
      subst i1 i2
      rw [e1]
      dsimp only
      have Hab := Lib.hid i3
      clear i3 e1
      obtain ⟨ad3, ad5, e, _, _⟩ := hC.2.2.parts
      dsimp only at e
      subst e
      obtain ⟨ad4, had4⟩ : ∃ n, n = (trioC D6).c.quilt.files.length := ⟨_, rfl⟩
      rw [← had4] at hC ⊢
      have Had := Lib.hid hC
      clear had4
      simp only [TrioV.val, TrioV.arr]
      obtain ⟨W8, hW8⟩ : ∃ W8, W8 = w7.alloc (.cells #[.bool true, .slice aa3 q.files.length aa5, .int .i64 q.turn, .bool true, .slice ab3 q.files.length ab5, .int .i64 q.turn, .bool ad0, .slice ad3 ad4 ad5, .int .i64 ad2] 58) := ⟨_, rfl⟩
      have hb78 : Below w7.heap.size w7 W8 := by rw [hW8]; exact below_alloc _ _
      have HB68 := Lib.hid (two hb7 hb78)
      have HB78 := Lib.hid hb78
      have HW8 := Lib.hid hW8
      have HAX : Hid (W8.heap[w7.heap.size]? = some (.cells #[.bool true, .slice aa3 q.files.length aa5, .int .i64 q.turn, .bool true, .slice ab3 q.files.length ab5, .int .i64 q.turn, .bool ad0, .slice ad3 ad4 ad5, .int .i64 ad2] 58 (0, 0))) := Lib.hid (by rw [hW8]; show (w7.heap.push _)[w7.heap.size]? = _; simp)
      obtain ⟨y0, y1, y2, yf⟩ := arr3_cells (show W8.heap[w2.heap.size]? = _ from (HB68.out.block _ (Array.getElem?_eq_some_iff.1 HDX6.out).1).trans HDX6.out)
      rw [hW8] at y0 y1 y2
      have CB := Lib.hid (trio_Copies b L6 D6 W8 (HLK.out.below HB68.out))
      clear hb7 hb78 hW8
      go_wp2_with fail
      rw [← HW8.out]
      refine CB.out.mono ?_
      rintro e w9 ⟨⟨⟨ba0, bav, ba2⟩, ⟨bb0, bbv, bb2⟩, ⟨bd0, bdv, bd2⟩⟩, rfl, ⟨gA, gB, gC⟩, _, hb9⟩
      obtain ⟨ba3, ba5, e, _, _⟩ := gA.2.2.parts
      dsimp only at e
      subst e
      have e0 : (trioC D6).a = ⟨true, q⟩ := (HH6.out 0 (by decide) (by decide)).copyC
      rw [e0] at gA
      obtain ⟨i1, i2, i3⟩ := gA
      dsimp only at i1 i2 i3
      subst i1 i2
      rw [e0]
      dsimp only
      have Hba := Lib.hid i3
      clear i3 e0
      obtain ⟨bb3, bb5, e, _, _⟩ := gB.2.2.parts
      dsimp only at e
      subst e
      have e1 : (trioC D6).b = ⟨true, q⟩ := (HH6.out 1 (by decide) (by decide)).copyC
      rw [e1] at gB
      obtain ⟨i1, i2, i3⟩ := gB
      dsimp only at i1 i2 i3
      subst i1 i2
      rw [e1]
      dsimp only
      have Hbb := Lib.hid i3
      clear i3 e1
      obtain ⟨bd3, bd5, e, _, _⟩ := gC.2.2.parts
      dsimp only at e
      subst e
      obtain ⟨bd4, hbd4⟩ : ∃ n, n = (trioC D6).c.quilt.files.length := ⟨_, rfl⟩
      rw [← hbd4] at gC ⊢
      have Hbd := Lib.hid gC
      clear hbd4
      simp only [TrioV.val, TrioV.arr]
      clear y0 y1 y2 yf
      obtain ⟨W10, hW10⟩ : ∃ W10, W10 = w9.alloc (.cells #[.bool true, .slice ba3 q.files.length ba5, .int .i64 q.turn, .bool true, .slice bb3 q.files.length bb5, .int .i64 q.turn, .bool bd0, .slice bd3 bd4 bd5, .int .i64 bd2] 58) := ⟨_, rfl⟩
      have hb910 : Below w9.heap.size w9 W10 := by rw [hW10]; exact below_alloc _ _
      have HB810 := Lib.hid (two hb9 hb910)
      have HB910 := Lib.hid hb910
      have HB610 := Lib.hid (two HB68.out (two hb9 hb910))
      have HW10 := Lib.hid hW10
      have HBX2 : Hid (W10.heap[w9.heap.size]? = some (.cells #[.bool true, .slice ba3 q.files.length ba5, .int .i64 q.turn, .bool true, .slice bb3 q.files.length bb5, .int .i64 q.turn, .bool bd0, .slice bd3 bd4 bd5, .int .i64 bd2] 58 (0, 0))) := Lib.hid (by rw [hW10]; show (w9.heap.push _)[w9.heap.size]? = _; simp)
      have HAX2 : Hid (W10.heap[w7.heap.size]? = some (.cells #[.bool true, .slice aa3 q.files.length aa5, .int .i64 q.turn, .bool true, .slice ab3 q.files.length ab5, .int .i64 q.turn, .bool ad0, .slice ad3 ad4 ad5, .int .i64 ad2] 58 (0, 0))) := Lib.hid (by rw [HB810.out.block _ (Array.getElem?_eq_some_iff.1 HAX.out).1]; exact HAX.out)
      have HQX10 : Hid (W10.heap[w4.heap.size]? = some (.cells #[.slice ao4 q.files.length ac4, .int .i64 q.turn] 31 (0, 0))) := Lib.hid (by rw [HB610.out.block _ (Array.getElem?_eq_some_iff.1 HQX6.out).1]; exact HQX6.out)
      clear hb9 hb910 hW10
      have CC0 : Hid (∀ W, Below W10.heap.size W10 W → Calls Tryz.prog 22 #[.agg #[.bool true, .slice aa3 q.files.length aa5, .int .i64 q.turn], .agg #[.bool true, .slice ba3 q.files.length ba5, .int .i64 q.turn]] W fun e w' => e = .returned (.bool true) ∧ Below W.heap.size W w') := Lib.hid (fun W hW => by
        have := ref_SameCopy _ _ ⟨true, q⟩ ⟨true, q⟩ W (IsCopy.copies (show IsCopy W ⟨true, .slice aa3 q.files.length aa5, q.turn⟩ ⟨true, q⟩ from ⟨rfl, rfl, Haa.out.below (two HB78.out (two HB810.out hW))⟩)) (IsCopy.copies (show IsCopy W ⟨true, .slice ba3 q.files.length ba5, q.turn⟩ ⟨true, q⟩ from ⟨rfl, rfl, Hba.out.below (two HB910.out hW)⟩))
        rw [sameR] at this
        exact this)
      have CS0 : Hid (∀ W, Below W10.heap.size W10 W → Calls Tryz.prog 14 #[.agg #[.slice aa3 q.files.length aa5, .int .i64 q.turn], .agg #[.slice ao4 q.files.length ac4, .int .i64 q.turn]] W fun e w' => e = .returned (.bool true) ∧ Below W.heap.size W w') := Lib.hid (fun W hW => by
        have := ref_SameQuilt _ _ q q W ⟨_, rfl, Haa.out.below (two HB78.out (two HB810.out hW))⟩ ⟨_, rfl, (HF6.out.below HB610.out).below hW⟩
        rw [decide_eq_true rfl] at this
        exact this)
      have CC1 : Hid (∀ W, Below W10.heap.size W10 W → Calls Tryz.prog 22 #[.agg #[.bool true, .slice ab3 q.files.length ab5, .int .i64 q.turn], .agg #[.bool true, .slice bb3 q.files.length bb5, .int .i64 q.turn]] W fun e w' => e = .returned (.bool true) ∧ Below W.heap.size W w') := Lib.hid (fun W hW => by
        have := ref_SameCopy _ _ ⟨true, q⟩ ⟨true, q⟩ W (IsCopy.copies (show IsCopy W ⟨true, .slice ab3 q.files.length ab5, q.turn⟩ ⟨true, q⟩ from ⟨rfl, rfl, Hab.out.below (two HB78.out (two HB810.out hW))⟩)) (IsCopy.copies (show IsCopy W ⟨true, .slice bb3 q.files.length bb5, q.turn⟩ ⟨true, q⟩ from ⟨rfl, rfl, Hbb.out.below (two HB910.out hW)⟩))
        rw [sameR] at this
        exact this)
      have CS1 : Hid (∀ W, Below W10.heap.size W10 W → Calls Tryz.prog 14 #[.agg #[.slice ab3 q.files.length ab5, .int .i64 q.turn], .agg #[.slice ao4 q.files.length ac4, .int .i64 q.turn]] W fun e w' => e = .returned (.bool true) ∧ Below W.heap.size W w') := Lib.hid (fun W hW => by
        have := ref_SameQuilt _ _ q q W ⟨_, rfl, Hab.out.below (two HB78.out (two HB810.out hW))⟩ ⟨_, rfl, (HF6.out.below HB610.out).below hW⟩
        rw [decide_eq_true rfl] at this
        exact this)
      have CC2 : Hid (∀ W, Below W10.heap.size W10 W → Calls Tryz.prog 22 #[.agg #[.bool ad0, .slice ad3 ad4 ad5, .int .i64 ad2], .agg #[.bool bd0, .slice bd3 bd4 bd5, .int .i64 bd2]] W fun e w' => e = .returned (.bool true) ∧ Below W.heap.size W w') := Lib.hid (fun W hW => by
        have := ref_SameCopy _ _ ((trioC D6).c) ((trioC D6).c) W (IsCopy.copies (Had.out.below (two HB78.out (two HB810.out hW)))) (IsCopy.copies (Hbd.out.below (two HB910.out hW)))
        rw [sameR] at this
        exact this)
      go_wp2_with fail
      rw [← HW10.out]
      go_loopw [16] (fun iv wr => ∃ k : Nat, k ≤ 3 ∧ iv = .int .i64 k ∧ Below W10.heap.size W10 wr) (fun iv _ => 3 - (intOf iv).toNat)
      case atStart => exact ⟨0, by omega, rfl, Below.refl _ _⟩
      case round =>
        obtain ⟨j, hj, rfl, hbw⟩ := hrel
        have HBW := Lib.hid hbw
        obtain ⟨x0, x1, x2, x3, x4, x5, x6, x7, x8, xf⟩ := arr_cells (show wr.heap[w7.heap.size]? = _ from (hbw.block _ (Array.getElem?_eq_some_iff.1 HAX2.out).1).trans HAX2.out)
        obtain ⟨z0, z1, z2, z3, z4, z5, z6, z7, z8, zf⟩ := arr_cells (show wr.heap[w9.heap.size]? = _ from (hbw.block _ (Array.getElem?_eq_some_iff.1 HBX2.out).1).trans HBX2.out)
        have hqw : wr.heap[w4.heap.size]? = some (.cells #[.slice ao4 q.files.length ac4, .int .i64 q.turn] 31 (0, 0)) := (hbw.block _ (Array.getElem?_eq_some_iff.1 HQX10.out).1).trans HQX10.out
        have q0 : wr.cell? ⟨w4.heap.size, 0, none⟩ = some (.slice ao4 q.files.length ac4) := by simp [World.cell?, hqw]
        have q1 : wr.cell? ⟨w4.heap.size, 1, none⟩ = some (.int .i64 q.turn) := by simp [World.cell?, hqw]
        clear hbw hqw
        obtain rfl | rfl | rfl | rfl : j = 0 ∨ j = 1 ∨ j = 2 ∨ j = 3 := by omega
        · rw [show ((0 : Nat) : Int) = 0 from rfl]
          go_wp2_with fail
          go_cut [82] from 54 to 82 (fun s82 wx => s82 = .bool false ∧ Below W10.heap.size W10 wx)
          case first =>
            replace x0 := regrown_cell x0
            replace x1 := regrown_cell x1
            replace x2 := regrown_cell x2
            replace z0 := regrown_cell z0
            replace z1 := regrown_cell z1
            replace z2 := regrown_cell z2
            replace q0 := regrown_cell q0
            replace q1 := regrown_cell q1
            refine wp_region_q (by kernel_rfl) (by kernel_rfl) ?_
            repeat (go_big_quiet_step (first | (go_at_call 22; exact Calls.regrown_of (CC0.out _ (two HBW.out (below_regrown _ _ _)))) | (go_at_call 14; exact Calls.regrown_of (CS0.out _ (two HBW.out (below_regrown _ _ _))))))
            refine wpQuiet_nil ?_
            intro wx hbx
            have HBX3 := Lib.hid (two HBW.out hbx)
            clear hbx
            go_wp2_with fail
            go_meet
            exact ⟨rfl, HBX3.out⟩
          case rest =>
          obtain ⟨rfl, hbx⟩ := hcut
          have HBC := Lib.hid hbx
          clear hbx x0 x1 x2 x3 x4 x5 x6 x7 x8 xf z0 z1 z2 z3 z4 z5 z6 z7 z8 zf q0 q1
          go_wp2_with fail
          go_roundw
          case rel => exact ⟨1, by omega, rfl, HBC.out⟩
          case measure => simp [intOf]
        · rw [show ((1 : Nat) : Int) = 1 from rfl]
          go_wp2_with fail
          go_cut [82] from 54 to 82 (fun s82 wx => s82 = .bool false ∧ Below W10.heap.size W10 wx)
          case first =>
            replace x3 := regrown_cell x3
            replace x4 := regrown_cell x4
            replace x5 := regrown_cell x5
            replace z3 := regrown_cell z3
            replace z4 := regrown_cell z4
            replace z5 := regrown_cell z5
            replace q0 := regrown_cell q0
            replace q1 := regrown_cell q1
            refine wp_region_q (by kernel_rfl) (by kernel_rfl) ?_
            repeat (go_big_quiet_step (first | (go_at_call 22; exact Calls.regrown_of (CC1.out _ (two HBW.out (below_regrown _ _ _)))) | (go_at_call 14; exact Calls.regrown_of (CS1.out _ (two HBW.out (below_regrown _ _ _))))))
            refine wpQuiet_nil ?_
            intro wx hbx
            have HBX3 := Lib.hid (two HBW.out hbx)
            clear hbx
            go_wp2_with fail
            go_meet
            exact ⟨rfl, HBX3.out⟩
          case rest =>
          obtain ⟨rfl, hbx⟩ := hcut
          have HBC := Lib.hid hbx
          clear hbx x0 x1 x2 x3 x4 x5 x6 x7 x8 xf z0 z1 z2 z3 z4 z5 z6 z7 z8 zf q0 q1
          go_wp2_with fail
          go_roundw
          case rel => exact ⟨2, by omega, rfl, HBC.out⟩
          case measure => simp [intOf]
        · rw [show ((2 : Nat) : Int) = 2 from rfl]
          go_wp2_with fail
          go_cut [82] from 54 to 82 (fun s82 wx => s82 = .bool false ∧ Below W10.heap.size W10 wx)
          case first =>
            replace x6 := regrown_cell x6
            replace x7 := regrown_cell x7
            replace x8 := regrown_cell x8
            replace z6 := regrown_cell z6
            replace z7 := regrown_cell z7
            replace z8 := regrown_cell z8
            replace q0 := regrown_cell q0
            replace q1 := regrown_cell q1
            refine wp_region_q (by kernel_rfl) (by kernel_rfl) ?_
            repeat (go_big_quiet_step (first | (go_at_call 22; exact Calls.regrown_of (CC2.out _ (two HBW.out (below_regrown _ _ _))))))
            refine wpQuiet_nil ?_
            intro wx hbx
            have HBX3 := Lib.hid (two HBW.out hbx)
            clear hbx
            go_wp2_with fail
            go_meet
            exact ⟨rfl, HBX3.out⟩
          case rest =>
          obtain ⟨rfl, hbx⟩ := hcut
          have HBC := Lib.hid hbx
          clear hbx x0 x1 x2 x3 x4 x5 x6 x7 x8 xf z0 z1 z2 z3 z4 z5 z6 z7 z8 zf q0 q1
          go_wp2_with fail
          go_roundw
          case rel => exact ⟨3, by omega, rfl, HBC.out⟩
          case measure => simp [intOf]
        · rw [show ((3 : Nat) : Int) = 3 from rfl]
          go_wp2_with fail
          go_ret
          exact ⟨rfl, two (two HX0.out HX6.out) (two HB610.out HBW.out)⟩
end Go.Proofs.YtggpodlecljcbacGreatDoor
