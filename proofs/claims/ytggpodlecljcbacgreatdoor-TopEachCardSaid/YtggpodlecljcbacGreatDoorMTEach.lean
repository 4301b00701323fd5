/- The walk of the statement TopEach. Printed by wip/mk_ttr.py. -/
import Derived.Deep.RegionLaw
import Derived.Deep.CutRange
import Derived.Test.YtggpodlecljcbacGreatDoorMTr4
namespace Go.Proofs.YtggpodlecljcbacGreatDoor
set_option linter.unusedSimpArgs false
set_option linter.unusedVariables false
open Go.RowKit Go.Sort
theorem rem3T (m : Nat) : ∃ k : Nat, k < 3 ∧ ((m : Int) % 3) = (k : Int) := ⟨m % 3, Nat.mod_lt _ (by decide), by omega⟩
set_option maxRecDepth 100000 in
set_option maxHeartbeats 16000000 in
theorem law_TopEach (va : Value) (avs : List ActV) (al : List Act) (vn : Value) (li : List Int) (w : World) (hav : ActVs w va avs) (haa : IsActs w avs al) (hvn : Nums w vn li) (hak : ∀ a ∈ al, a.ok) (_ : ∀ i ∈ li, (Lit.int .i64 i).wf = true) (hg : GlobI w) :
    Calls Tryz.prog 6 #[va, vn] w fun e w' => e = .returned (.bool true) ∧ Below w.heap.size w w' := by
  have HVN := Lib.hid hvn
  obtain ⟨no, nc, rfl, hnc, hnm⟩ := hvn.parts
  clear hvn
  have CW := Lib.hid (top_works w hg)
  obtain ⟨vo, vc, rfl, hvc, hvm⟩ := hav.parts
  have CP := Lib.hid fun W hb => top_played (.slice vo avs.length vc) avs al W (hg.below hb) (hav.below hb) (haa.below hb) hak
  have HG := Lib.hid hg
  clear hg hav haa hak
  go_enter Tryz.func6, Tryz.ntmps6
  go_wp2_with fail
  refine CW.out.mono ?_
  rintro e w1 ⟨rfl, hb1⟩
  have HB1 := Lib.hid hb1
  have CP1 := Lib.hid (CP.out w1 hb1)
  clear hb1
  go_wp2_with fail
  refine CP1.out.mono ?_
  rintro e w2 (⟨hl, ⟨p0, p1, p2, rfl⟩, hb2⟩ | ⟨hl, B, b, tb, L, D, S, lb, sb, rv, v, rfl, htr, hB, hb2⟩)
  · have HB2 := Lib.hid (two HB1.out (two hb2 (below_alloc w2 (.cells #[.pointer p0, .pointer p1, .pointer p2] 25))))
    clear hb2
    go_wp2_with fail
    go_ret
    exact ⟨rfl, HB2.out⟩
  · have HB2 := Lib.hid (two HB1.out hb2)
    obtain ⟨W3, hW3⟩ : ∃ W3, W3 = w2.alloc (.cells #[.pointer (some ⟨b 0, 0, none⟩), .pointer (some ⟨b 1, 0, none⟩), .pointer (some ⟨b 2, 0, none⟩)] 25) := ⟨_, rfl⟩
    have hb23 : Below w2.heap.size w2 W3 := by rw [hW3]; exact below_alloc _ _
    have HW3 := Lib.hid hW3
    have HB23 := Lib.hid hb23
    have hbx : W3.heap[w2.heap.size]? = some (.cells #[.pointer (some ⟨b 0, 0, none⟩), .pointer (some ⟨b 1, 0, none⟩), .pointer (some ⟨b 2, 0, none⟩)] 25 (0, 0)) := by rw [hW3]; show (w2.heap.push _)[w2.heap.size]? = _; simp
    have HBX := Lib.hid hbx
    have HZ3 : Hid (W3.heap.size = w2.heap.size + 1) := Lib.hid (by rw [hW3]; simp)
    have hbw3 := two HB1.out (two hb2 hb23)
    have hz1 := HB1.out.size
    obtain ⟨X, hXs, hXg, hXw, hX0⟩ := cut_base hbw3 (B := B) (by omega) (htr.below hb23).lo HG.out
    obtain ⟨q, hq⟩ : ∃ q, q = grownQ al := ⟨_, rfl⟩
    rw [← hq] at htr
    have HTR : Hid (TrioQ 60 X.heap.size b W3 tb q L D S lb sb rv v) := Lib.hid (by rw [hXs]; exact htr.below hb23)
    have HTL : Hid (∀ x, TF tb L lb sb x → x < w2.heap.size) := Lib.hid (fun x hx => (htr.lt hx).1)
    have HXG := Lib.hid hXg
    have HX3 := Lib.hid hXw
    have HX0 := Lib.hid hX0
    have CQ := Lib.hid (trio_Quilt HTR.out.pre HTR.out.few)
    obtain ⟨y0, y1, y2, yf⟩ := arr3_cells hbx
    clear hW3 hb23 hbx hbw3 hz1 hXs hXg hXw hX0 htr hB hq
    by_cases hn6 : 6 < li.length
    · have hn6' : (6 : Int) < (li.length : Int) := by omega
      have HB3 := Lib.hid (two HB2.out HB23.out)
      go_wp2_with fail
      rw [← HW3.out]
      go_ret
      exact ⟨rfl, HB3.out⟩
    have hn6' : ¬ (6 : Int) < (li.length : Int) := by omega
    go_wp2_with fail
    rw [← HW3.out]
    refine CQ.out.mono ?_
    rintro e w4 ⟨qv, rfl, ⟨v4, rfl, hf4, hfr4⟩, hb4⟩
    obtain ⟨ao4, ac4, rfl, hac4, hac4'⟩ := hf4.parts
    obtain ⟨W5, hW5⟩ : ∃ W5, W5 = w4.alloc (.cells #[.slice ao4 q.files.length ac4, .int .i64 q.turn] 31) := ⟨_, rfl⟩
    have hb45 : Below w4.heap.size w4 W5 := by rw [hW5]; exact below_alloc _ _
    have HW5 := Lib.hid hW5
    have HF5 : Hid (Files W5 (.slice ao4 q.files.length ac4) q.files ∧ Fresh W3.heap.size (.slice ao4 q.files.length ac4)) := Lib.hid ⟨hf4.below hb45, hfr4⟩
    have HQX : Hid (W5.heap[w4.heap.size]? = some (.cells #[.slice ao4 q.files.length ac4, .int .i64 q.turn] 31 (0, 0))) := Lib.hid (by rw [hW5]; show (w4.heap.push _)[w4.heap.size]? = _; simp)
    have HB35 := Lib.hid (two hb4 hb45)
    have HZ4 : Hid (W3.heap.size ≤ w4.heap.size ∧ W5.heap.size = w4.heap.size + 1) := Lib.hid ⟨hb4.size, by rw [hW5]; simp⟩
    have HT5 := Lib.hid (HTR.out.below (two hb4 hb45))
    have HX5 := Lib.hid (two HX3.out (two hb4 hb45))
    have HDX5 : Hid (W5.heap[w2.heap.size]? = some (.cells #[.pointer (some ⟨b 0, 0, none⟩), .pointer (some ⟨b 1, 0, none⟩), .pointer (some ⟨b 2, 0, none⟩)] 25 (0, 0))) := Lib.hid (by rw [(two hb4 hb45).block _ (by rw [HZ3.out]; omega)]; exact HBX.out)
    obtain ⟨y0, y1, y2, yf⟩ := arr3_cells HDX5.out
    have s0 : W5.cell? ⟨w4.heap.size, 0, none⟩ = some (.slice ao4 q.files.length ac4) := by simp [World.cell?, HQX.out]
    have s1 : W5.cell? ⟨w4.heap.size, 1, none⟩ = some (.int .i64 q.turn) := by simp [World.cell?, HQX.out]
    clear hf4 hfr4 hb4 hb45
    clear hW5 y0 y1 y2 yf s0 s1
    go_wp2_with fail
    rw [← HW5.out]
    go_loopw [9, 10] (fun bv iv wr => ∃ k : Nat, k ≤ 50 ∧ iv = .int .i64 k ∧ wr.ownsRow W5.heap.size 9 1 bv k (List.replicate k (.string ⟨#[]⟩)) ∧ Below W5.heap.size W5 wr) (fun _ iv _ => 50 - (intOf iv).toNat)
    case atStart => exact ⟨0, by omega, rfl, World.ownsRow_nil _ _ _ _, Below.refl _ _⟩
    case round =>
      obtain ⟨k, hk, rfl, ho, hbw⟩ := hrel
      obtain ⟨lo, lc, rfl, hlc, hlc'⟩ := own_sliceI ho
      have HO := Lib.hid ho
      have HBW := Lib.hid hbw
      clear ho hbw
      by_cases hlt : k < 50
      · have hlt' : (k : Int) < 50 := by omega
        have hzz := HBW.out.size
        go_wp2_with (at_builtin; refine wpList_app I_texts' rfl _ _ rfl W5.heap.size _ _ _ rfl (HO.out.alloc _) ⟨wr.heap.size, 0, none⟩ 1 1 [.string ⟨#[]⟩] rfl rfl ?c1 ?c2 ?c3 ?c4 ?_)
        case c1 => exact one_new
        case c2 => intro u hu; simp at hu; subst hu; rfl
        case c3 => omega
        case c4 => simp; omega
        intro v2 w3 ho3 hg3
        have HB3 := Lib.hid (grown_below (HBW.out.trans ((below_alloc wr (.cells #[.string ⟨#[]⟩] 9)).mono hzz)) (HO.out.alloc _) hg3 (Nat.le_refl _))
        have HO3 : Hid (w3.ownsRow W5.heap.size 9 1 v2 (k + 1) (List.replicate (k + 1) (.string ⟨#[]⟩))) := Lib.hid (by rw [List.replicate_succ']; exact ho3)
        clear ho3 hg3
        go_wp2_with fail
        go_roundw
        case rel => exact ⟨k + 1, by omega, by go_num, HO3.out, HB3.out⟩
        case measure => simp [intOf]; omega
      obtain rfl : k = 50 := by omega
      have hlt' : ¬ ((50 : Nat) : Int) < 50 := by decide
      obtain ⟨wb, hwb⟩ : ∃ wb : World, wb = wr := ⟨_, rfl⟩
      subst hwb
      have HBLT : Hid (Texts wb (.slice lo (List.replicate 50 (⟨#[]⟩ : ByteArray)).length lc) (List.replicate 50 (⟨#[]⟩ : ByteArray))) := Lib.hid (SL.of_own (xs := List.replicate 50 (.string ⟨#[]⟩)) HO.out)
      have HBLF : Hid (Fresh W5.heap.size (.slice lo 50 lc)) := Lib.hid (fresh_own HO.out)
      have HBB := Lib.hid HBW.out
      have HT6 := Lib.hid (HT5.out.below HBB.out)
      have HX6 := Lib.hid (two HX5.out HBB.out)
      have HDX6 : Hid (wb.heap[w2.heap.size]? = some (.cells #[.pointer (some ⟨b 0, 0, none⟩), .pointer (some ⟨b 1, 0, none⟩), .pointer (some ⟨b 2, 0, none⟩)] 25 (0, 0))) := Lib.hid ((HBB.out.block _ (Array.getElem?_eq_some_iff.1 HDX5.out).1).trans HDX5.out)
      have HQX6 : Hid (wb.heap[w4.heap.size]? = some (.cells #[.slice ao4 q.files.length ac4, .int .i64 q.turn] 31 (0, 0))) := Lib.hid ((HBB.out.block _ (Array.getElem?_eq_some_iff.1 HQX.out).1).trans HQX.out)
      have HLT0 : Hid (∀ x, DF L x → x < w2.heap.size) := Lib.hid (fun x hx => HTL.out _ (df_tf (tb := tb) (lb := lb) (sb := sb) hx))
      have hz3 := HZ3.out
      have hz4 := HZ4.out
      have HFL0 : Hid (FilesF (DF L) wb (.slice ao4 q.files.length ac4) q.files) := Lib.hid ⟨HF5.out.1.below HBB.out, fresh_far HF5.out.2 (fun x hx => by have := HLT0.out _ hx; omega)⟩
      have HBL0 : Hid (RdF (DF L) 1 strCells wb (.slice lo (List.replicate 50 (⟨#[]⟩ : ByteArray)).length lc) (List.replicate 50 (⟨#[]⟩ : ByteArray))) := Lib.hid ⟨HBLT.out, fresh_far HBLF.out (fun x hx => by have := HLT0.out _ hx; omega)⟩
      have HND0 : Hid (¬ DF L w2.heap.size ∧ ¬ DF L w4.heap.size) := Lib.hid ⟨fun hx => by have := HLT0.out _ hx; omega, fun hx => by have := HLT0.out _ hx; omega⟩
      have HGQ : Hid (Good q) := Lib.hid HT5.out.good
      have HFEW : Hid (q.files.length ≤ 1000) := Lib.hid HT5.out.few
      clear hz3 hz4
      go_wp2_with fail
      go_loopw [11] (fun iv wr => ∃ (j : Nat) (L : Nat → Dk) (D : Nat → DiskS) (S : Nat → StS), j ≤ li.length ∧ iv = .int .i64 j ∧ Disks3 X.heap.size b wr L D ∧ (∀ i, i < 3 → HasQ (D i) (S i) q ∧ (S i).h.epoch ≤ 60) ∧ (wr.heap[w2.heap.size]? = some (.cells #[.pointer (some ⟨b 0, 0, none⟩), .pointer (some ⟨b 1, 0, none⟩), .pointer (some ⟨b 2, 0, none⟩)] 25 (0, 0)) ∧ wr.heap[w4.heap.size]? = some (.cells #[.slice ao4 q.files.length ac4, .int .i64 q.turn] 31 (0, 0)) ∧ ¬ DF L w2.heap.size ∧ ¬ DF L w4.heap.size) ∧ FilesF (DF L) wr (.slice ao4 q.files.length ac4) q.files ∧ RdF (DF L) 1 strCells wr (.slice lo (List.replicate 50 (⟨#[]⟩ : ByteArray)).length lc) (List.replicate 50 (⟨#[]⟩ : ByteArray)) ∧ Below X.heap.size X wr) (fun iv _ => li.length - (intOf iv).toNat)
      case atStart => exact ⟨0, L, D, S, Nat.zero_le _, rfl, HT6.out.pre.ds, fun i hi => ⟨HT6.out.has i hi, HT6.out.ep i hi⟩, ⟨HDX6.out, HQX6.out, HND0.out⟩, HFL0.out, HBL0.out, HX6.out⟩
      case round =>
        obtain ⟨j, L, D, S, hj, rfl, hds, hhs, hbx, hfl, hbl, hxw⟩ := hrel
        have HDS := Lib.hid hds
        have HHS := Lib.hid hhs
        have HBX9 := Lib.hid hbx
        have HFL := Lib.hid hfl
        have HBL := Lib.hid hbl
        have HXW := Lib.hid hxw
        clear hds hhs hbx hfl hbl hxw
        by_cases hlt : j < li.length
        · obtain ⟨nb, nf, rfl, hnb, x0⟩ := ints_cell (HVN.out.below (two HX0.out HXW.out)) j hlt
          obtain ⟨m1, hm1, _⟩ := and1023T li[j]
          obtain ⟨k, hk, hk2⟩ := rem3T m1
          obtain ⟨y0, y1, y2, yf⟩ := arr3_cells HBX9.out.1
          clear hnb
          obtain rfl | rfl | rfl : k = 0 ∨ k = 1 ∨ k = 2 := by omega
          · have hk3 : (m1 : Int) % 3 = 0 := hk2
            have CSP := top_spoil (L 0) (D 0) 0 (.slice lo (List.replicate 50 (⟨#[]⟩ : ByteArray)).length lc) (List.replicate 50 (⟨#[]⟩ : ByteArray)) wr (HDS.out.d 0 (by decide)) (HHS.out 0 (by decide)).1.sound (by omega) ⟨HBL.out.rd, fun a n c e hn hx => HBL.out.far a n c e hn ⟨0, by decide, hx⟩⟩ (by decide) (fun s hs => by rw [List.eq_of_mem_replicate hs]; decide)
            rw [HDS.out.eq 0 (by decide)] at CSP
            have HCSP := Lib.hid CSP
            have HBC := Lib.hid (spoil_blank (HHS.out 0 (by decide)).1.sound (List.replicate 50 (⟨#[]⟩ : ByteArray)) (fun s hs => List.eq_of_mem_replicate hs) (by decide))
            have HSN := Lib.hid (spoil_flush (HHS.out 0 (by decide)).1.sound 0 (List.replicate 50 (⟨#[]⟩ : ByteArray)) (fun s hs => by rw [List.eq_of_mem_replicate hs]; decide)).2.1
            clear CSP hk2
            go_wp2_with fail
            refine HCSP.out.mono ?_
            rintro e w6 ⟨rfl, ht6⟩
            clear y0 y1 y2 yf x0
            obtain ⟨L', hd6, ho6, hg6, hb6⟩ := HDS.out.turn (k := 0) (by decide) HXW.out.size ht6
            have hst6 := steps_disk (L := L) (k := 0) (by decide) ho6 hg6
            obtain ⟨L6, hL6⟩ : ∃ L6, L6 = upd L 0 L' := ⟨_, rfl⟩
            obtain ⟨D6, hD6⟩ : ∃ D6, D6 = upd D 0 (spoilD 0 (List.replicate 50 (⟨#[]⟩ : ByteArray)) (D 0)) := ⟨_, rfl⟩
            rw [← hL6] at hst6 hd6
            rw [← hD6] at hd6
            have HH6 : Hid (∀ i, i < 3 → i ≠ 0 → D6 i = D i) := Lib.hid (fun i hi hne => by rw [hD6, upd_ne _ _ hne])
            have HC6 : Hid (copyC (D6 0) ≠ ⟨true, q⟩) := Lib.hid (by rw [hD6, upd_same, HBC.out]; intro h; cases h)
            have HS6 : Hid (∀ i, i < 3 → Sound (D6 i)) := Lib.hid (fun i hi => by
              by_cases e : i = 0
              · rw [e, hD6, upd_same]; exact HSN.out
              · rw [HH6.out i hi e]; exact (HHS.out i hi).1.sound)
            have HX6b := Lib.hid (HXW.out.trans hb6)
            have HST6 := Lib.hid hst6
            obtain ⟨hv1, hv2, _, hv4⟩ := most_right (D := D6) (q := q) (k := 0) (by decide) (fun i hi hne => by rw [HH6.out i hi hne]; exact (HHS.out i hi).1.copyC)
            have CO := trio_Open X b L6 D6 q w6 hd6 HS6.out HXG.out HX6b.out hv1 hv2 (fault_good HGQ.out)
            rw [hv4 HC6.out] at CO
            have HCO := Lib.hid CO
            obtain ⟨y0, y1, y2, yf⟩ := arr3_cells ((hst6.keep (Array.getElem?_eq_some_iff.1 HBX9.out.1).1 HBX9.out.2.2.1).1.trans HBX9.out.1)
            clear hd6 ho6 hg6 hb6 hst6 hL6 hD6 hv1 hv2 hv4 ht6 CO
            go_wp2_with fail
            refine HCO.out.mono ?_
            rintro e wz ⟨tb7, L7, D7, lb7, sb7, rv7, sp7, v7, rfl, ho7, _, hs7⟩
            have hst7 : Steps (DF L) wr wz (DF L7) := (HST6.out.trans hs7).mono (fun _ h => h) (fun x hx => df_tf hx)
            have hkd := hst7.keep (Array.getElem?_eq_some_iff.1 HBX9.out.1).1 HBX9.out.2.2.1
            have hkq := hst7.keep (Array.getElem?_eq_some_iff.1 HBX9.out.2.1).1 HBX9.out.2.2.2
            have HDB := Lib.hid (hkd.1.trans HBX9.out.1)
            have HNB := Lib.hid (hkq.1.trans HBX9.out.2.1)
            have HND := Lib.hid (And.intro hkd.2.1 hkq.2.1)
            have HFZF : Hid (FilesF (DF L7) wz (.slice ao4 q.files.length ac4) q.files) := Lib.hid (HFL.out.turned (by decide) hst7.off hst7.grow)
            have HBZL : Hid (RdF (DF L7) 1 strCells wz (.slice lo (List.replicate 50 (⟨#[]⟩ : ByteArray)).length lc) (List.replicate 50 (⟨#[]⟩ : ByteArray))) := Lib.hid (HBL.out.turned (by decide) hst7.off hst7.grow)
            have HFZ : Hid (Files wz (.slice ao4 q.files.length ac4) q.files) := Lib.hid HFZF.out.rd
            have HXZ := Lib.hid ho7.low
            have hall : ∀ i, i < 3 → ∃ S', HasQ (D7 i) S' q ∧ S'.h.epoch ≤ 60 := fun i hi => by
              by_cases e : i = 0
              · obtain ⟨S', h1, h2⟩ := ho7.laid i hi (by rw [e]; exact HC6.out)
                exact ⟨S', h1, by omega⟩
              · have e6 := HH6.out i hi e
                rw [ho7.right i hi (by rw [e6]; exact (HHS.out i hi).1.copyC), e6]
                exact ⟨S i, HHS.out i hi⟩
            obtain ⟨S7, hS7⟩ := pick3 hall
            have HS7 := Lib.hid hS7
            have HPZ := Lib.hid ho7.pre
            have CQZ : Hid (∀ W, Below wz.heap.size wz W → Calls Tryz.prog 11 #[.pointer (some ⟨tb7, 0, none⟩)] W fun e w' => ∃ qv, e = .returned qv ∧ QuiltsF W.heap.size w' qv q ∧ Below W.heap.size W w') := Lib.hid (fun W hW => trio_Quilt (HPZ.out.below hW) HFEW.out)
            have CSZ : Hid (∀ W v8, Below wz.heap.size wz W → Files W v8 q.files → Calls Tryz.prog 14 #[.agg #[v8, .int .i64 q.turn], .agg #[.slice ao4 q.files.length ac4, .int .i64 q.turn]] W fun e w' => e = .returned (.bool true) ∧ Below W.heap.size W w') := Lib.hid (fun W v8 hW h8 => by
              have := ref_SameQuilt _ _ q q W ⟨_, rfl, h8⟩ ⟨_, rfl, HFZ.out.below hW⟩
              rw [decide_eq_true rfl] at this
              exact this)
            have CAZ : Hid (∀ W, Below wz.heap.size wz W → Calls Tryz.prog 12 #[.agg #[.pointer (some ⟨b 0, 0, none⟩), .pointer (some ⟨b 1, 0, none⟩), .pointer (some ⟨b 2, 0, none⟩)], .agg #[.slice ao4 q.files.length ac4, .int .i64 q.turn]] W fun e w' => e = .returned (.bool true) ∧ Below W.heap.size W w') := Lib.hid (fun W hW => top_all b L7 D7 _ q W (looks_of (HPZ.out.below hW).ds (fun k hk => (HS7.out k hk).1.sound) (HXG.out.below (two HXZ.out hW))) (fun k hk => (HS7.out k hk).1.copyC) ⟨_, rfl, HFZ.out.below hW⟩)
            have HKZ : Hid (∀ W, Below wz.heap.size wz W → (W.cell? ⟨w4.heap.size, 0, none⟩ = some (.slice ao4 q.files.length ac4) ∧ W.cell? ⟨w4.heap.size, 1, none⟩ = some (.int .i64 q.turn)) ∧ W.cell? ⟨w2.heap.size, 0, none⟩ = some (.pointer (some ⟨b 0, 0, none⟩)) ∧ W.cell? ⟨w2.heap.size, 1, none⟩ = some (.pointer (some ⟨b 1, 0, none⟩)) ∧ W.cell? ⟨w2.heap.size, 2, none⟩ = some (.pointer (some ⟨b 2, 0, none⟩))) := Lib.hid (fun W hW => ⟨⟨cell_on' hW (by simp [World.cell?, HNB.out]), cell_on' hW (by simp [World.cell?, HNB.out])⟩, cell_on' hW (by simp [World.cell?, HDB.out]), cell_on' hW (by simp [World.cell?, HDB.out]), cell_on' hW (by simp [World.cell?, HDB.out])⟩)
            clear ho7 hs7 hst7 hkd hkq hall hS7 y0 y1 y2 yf
            go_wp2_with fail
            go_cut [81] from 63 to 81 (fun s81 wx => s81 = .bool false ∧ Below wz.heap.size wz wx)
            case first =>
              go_region_held3 (fun W => (W.cell? ⟨w4.heap.size, 0, none⟩ = some (.slice ao4 q.files.length ac4) ∧ W.cell? ⟨w4.heap.size, 1, none⟩ = some (.int .i64 (q).turn)) ∧ W.cell? ⟨w2.heap.size, 0, none⟩ = some (.pointer (some ⟨b 0, 0, none⟩)) ∧ W.cell? ⟨w2.heap.size, 1, none⟩ = some (.pointer (some ⟨b 1, 0, none⟩)) ∧ W.cell? ⟨w2.heap.size, 2, none⟩ = some (.pointer (some ⟨b 2, 0, none⟩)))
                (first
                  | exact HKZ.out _ (Below.refl _ _).drew
                  | exact HKZ.out _ (HBY3 : Hid _).out
                  | exact HKZ.out _ (HBY2 : Hid _).out
                  | exact HKZ.out _ (HBY1 : Hid _).out)
                (first
                  | (go_at_call 11; refine (CQZ.out _ (Below.refl _ _).drew).mono ?_; rintro e y1 ⟨q8, rfl, ⟨v8, rfl, hf8, _⟩, hb8⟩; obtain ⟨ao8, ac8, rfl, _, _⟩ := hf8.parts; have HBY1 : Hid (Below wz.heap.size wz y1) := Lib.hid (two (Below.refl _ _).drew hb8); have HF8 := Lib.hid hf8; clear hf8 hb8)
                  | (go_at_call 14; refine (CSZ.out _ _ (HBY1 : Hid _).out (HF8 : Hid _).out).mono ?_; rintro e y2 ⟨rfl, hb9⟩; have HBY2 : Hid (Below wz.heap.size wz y2) := Lib.hid (two (HBY1 : Hid _).out hb9); clear hb9)
                  | (go_at_call 12; refine (CAZ.out _ (HBY2 : Hid _).out).mono ?_; rintro e y3 ⟨rfl, hb9⟩; have HBY3 : Hid (Below wz.heap.size wz y3) := Lib.hid (two (HBY2 : Hid _).out hb9); clear hb9))
              all_goals
                go_wp2_with fail
                go_meet
                exact ⟨rfl, (HBY3 : Hid _).out⟩
            case rest =>
            obtain ⟨rfl, hbx⟩ := hcut
            have HBC3 := Lib.hid hbx
            clear hbx
            go_wp2_with fail
            go_roundw
            case rel => exact ⟨j + 1, L7, D7, S7, by omega, by go_num, HPZ.out.ds.below HBC3.out, HS7.out, ⟨(HBC3.out.block _ (Array.getElem?_eq_some_iff.1 HDB.out).1).trans HDB.out, (HBC3.out.block _ (Array.getElem?_eq_some_iff.1 HNB.out).1).trans HNB.out, HND.out⟩, HFZF.out.below HBC3.out, HBZL.out.below HBC3.out, two HXZ.out HBC3.out⟩
            case measure => simp [intOf]; omega
          · have hk3 : (m1 : Int) % 3 = 1 := hk2
            have CSP := top_spoil (L 1) (D 1) 0 (.slice lo (List.replicate 50 (⟨#[]⟩ : ByteArray)).length lc) (List.replicate 50 (⟨#[]⟩ : ByteArray)) wr (HDS.out.d 1 (by decide)) (HHS.out 1 (by decide)).1.sound (by omega) ⟨HBL.out.rd, fun a n c e hn hx => HBL.out.far a n c e hn ⟨1, by decide, hx⟩⟩ (by decide) (fun s hs => by rw [List.eq_of_mem_replicate hs]; decide)
            rw [HDS.out.eq 1 (by decide)] at CSP
            have HCSP := Lib.hid CSP
            have HBC := Lib.hid (spoil_blank (HHS.out 1 (by decide)).1.sound (List.replicate 50 (⟨#[]⟩ : ByteArray)) (fun s hs => List.eq_of_mem_replicate hs) (by decide))
            have HSN := Lib.hid (spoil_flush (HHS.out 1 (by decide)).1.sound 0 (List.replicate 50 (⟨#[]⟩ : ByteArray)) (fun s hs => by rw [List.eq_of_mem_replicate hs]; decide)).2.1
            clear CSP hk2
            go_wp2_with fail
            refine HCSP.out.mono ?_
            rintro e w6 ⟨rfl, ht6⟩
            clear y0 y1 y2 yf x0
            obtain ⟨L', hd6, ho6, hg6, hb6⟩ := HDS.out.turn (k := 1) (by decide) HXW.out.size ht6
            have hst6 := steps_disk (L := L) (k := 1) (by decide) ho6 hg6
            obtain ⟨L6, hL6⟩ : ∃ L6, L6 = upd L 1 L' := ⟨_, rfl⟩
            obtain ⟨D6, hD6⟩ : ∃ D6, D6 = upd D 1 (spoilD 0 (List.replicate 50 (⟨#[]⟩ : ByteArray)) (D 1)) := ⟨_, rfl⟩
            rw [← hL6] at hst6 hd6
            rw [← hD6] at hd6
            have HH6 : Hid (∀ i, i < 3 → i ≠ 1 → D6 i = D i) := Lib.hid (fun i hi hne => by rw [hD6, upd_ne _ _ hne])
            have HC6 : Hid (copyC (D6 1) ≠ ⟨true, q⟩) := Lib.hid (by rw [hD6, upd_same, HBC.out]; intro h; cases h)
            have HS6 : Hid (∀ i, i < 3 → Sound (D6 i)) := Lib.hid (fun i hi => by
              by_cases e : i = 1
              · rw [e, hD6, upd_same]; exact HSN.out
              · rw [HH6.out i hi e]; exact (HHS.out i hi).1.sound)
            have HX6b := Lib.hid (HXW.out.trans hb6)
            have HST6 := Lib.hid hst6
            obtain ⟨hv1, hv2, _, hv4⟩ := most_right (D := D6) (q := q) (k := 1) (by decide) (fun i hi hne => by rw [HH6.out i hi hne]; exact (HHS.out i hi).1.copyC)
            have CO := trio_Open X b L6 D6 q w6 hd6 HS6.out HXG.out HX6b.out hv1 hv2 (fault_good HGQ.out)
            rw [hv4 HC6.out] at CO
            have HCO := Lib.hid CO
            obtain ⟨y0, y1, y2, yf⟩ := arr3_cells ((hst6.keep (Array.getElem?_eq_some_iff.1 HBX9.out.1).1 HBX9.out.2.2.1).1.trans HBX9.out.1)
            clear hd6 ho6 hg6 hb6 hst6 hL6 hD6 hv1 hv2 hv4 ht6 CO
            go_wp2_with fail
            refine HCO.out.mono ?_
            rintro e wz ⟨tb7, L7, D7, lb7, sb7, rv7, sp7, v7, rfl, ho7, _, hs7⟩
            have hst7 : Steps (DF L) wr wz (DF L7) := (HST6.out.trans hs7).mono (fun _ h => h) (fun x hx => df_tf hx)
            have hkd := hst7.keep (Array.getElem?_eq_some_iff.1 HBX9.out.1).1 HBX9.out.2.2.1
            have hkq := hst7.keep (Array.getElem?_eq_some_iff.1 HBX9.out.2.1).1 HBX9.out.2.2.2
            have HDB := Lib.hid (hkd.1.trans HBX9.out.1)
            have HNB := Lib.hid (hkq.1.trans HBX9.out.2.1)
            have HND := Lib.hid (And.intro hkd.2.1 hkq.2.1)
            have HFZF : Hid (FilesF (DF L7) wz (.slice ao4 q.files.length ac4) q.files) := Lib.hid (HFL.out.turned (by decide) hst7.off hst7.grow)
            have HBZL : Hid (RdF (DF L7) 1 strCells wz (.slice lo (List.replicate 50 (⟨#[]⟩ : ByteArray)).length lc) (List.replicate 50 (⟨#[]⟩ : ByteArray))) := Lib.hid (HBL.out.turned (by decide) hst7.off hst7.grow)
            have HFZ : Hid (Files wz (.slice ao4 q.files.length ac4) q.files) := Lib.hid HFZF.out.rd
            have HXZ := Lib.hid ho7.low
            have hall : ∀ i, i < 3 → ∃ S', HasQ (D7 i) S' q ∧ S'.h.epoch ≤ 60 := fun i hi => by
              by_cases e : i = 1
              · obtain ⟨S', h1, h2⟩ := ho7.laid i hi (by rw [e]; exact HC6.out)
                exact ⟨S', h1, by omega⟩
              · have e6 := HH6.out i hi e
                rw [ho7.right i hi (by rw [e6]; exact (HHS.out i hi).1.copyC), e6]
                exact ⟨S i, HHS.out i hi⟩
            obtain ⟨S7, hS7⟩ := pick3 hall
            have HS7 := Lib.hid hS7
            have HPZ := Lib.hid ho7.pre
            have CQZ : Hid (∀ W, Below wz.heap.size wz W → Calls Tryz.prog 11 #[.pointer (some ⟨tb7, 0, none⟩)] W fun e w' => ∃ qv, e = .returned qv ∧ QuiltsF W.heap.size w' qv q ∧ Below W.heap.size W w') := Lib.hid (fun W hW => trio_Quilt (HPZ.out.below hW) HFEW.out)
            have CSZ : Hid (∀ W v8, Below wz.heap.size wz W → Files W v8 q.files → Calls Tryz.prog 14 #[.agg #[v8, .int .i64 q.turn], .agg #[.slice ao4 q.files.length ac4, .int .i64 q.turn]] W fun e w' => e = .returned (.bool true) ∧ Below W.heap.size W w') := Lib.hid (fun W v8 hW h8 => by
              have := ref_SameQuilt _ _ q q W ⟨_, rfl, h8⟩ ⟨_, rfl, HFZ.out.below hW⟩
              rw [decide_eq_true rfl] at this
              exact this)
            have CAZ : Hid (∀ W, Below wz.heap.size wz W → Calls Tryz.prog 12 #[.agg #[.pointer (some ⟨b 0, 0, none⟩), .pointer (some ⟨b 1, 0, none⟩), .pointer (some ⟨b 2, 0, none⟩)], .agg #[.slice ao4 q.files.length ac4, .int .i64 q.turn]] W fun e w' => e = .returned (.bool true) ∧ Below W.heap.size W w') := Lib.hid (fun W hW => top_all b L7 D7 _ q W (looks_of (HPZ.out.below hW).ds (fun k hk => (HS7.out k hk).1.sound) (HXG.out.below (two HXZ.out hW))) (fun k hk => (HS7.out k hk).1.copyC) ⟨_, rfl, HFZ.out.below hW⟩)
            have HKZ : Hid (∀ W, Below wz.heap.size wz W → (W.cell? ⟨w4.heap.size, 0, none⟩ = some (.slice ao4 q.files.length ac4) ∧ W.cell? ⟨w4.heap.size, 1, none⟩ = some (.int .i64 q.turn)) ∧ W.cell? ⟨w2.heap.size, 0, none⟩ = some (.pointer (some ⟨b 0, 0, none⟩)) ∧ W.cell? ⟨w2.heap.size, 1, none⟩ = some (.pointer (some ⟨b 1, 0, none⟩)) ∧ W.cell? ⟨w2.heap.size, 2, none⟩ = some (.pointer (some ⟨b 2, 0, none⟩))) := Lib.hid (fun W hW => ⟨⟨cell_on' hW (by simp [World.cell?, HNB.out]), cell_on' hW (by simp [World.cell?, HNB.out])⟩, cell_on' hW (by simp [World.cell?, HDB.out]), cell_on' hW (by simp [World.cell?, HDB.out]), cell_on' hW (by simp [World.cell?, HDB.out])⟩)
            clear ho7 hs7 hst7 hkd hkq hall hS7 y0 y1 y2 yf
            go_wp2_with fail
            go_cut [81] from 63 to 81 (fun s81 wx => s81 = .bool false ∧ Below wz.heap.size wz wx)
            case first =>
              go_region_held3 (fun W => (W.cell? ⟨w4.heap.size, 0, none⟩ = some (.slice ao4 q.files.length ac4) ∧ W.cell? ⟨w4.heap.size, 1, none⟩ = some (.int .i64 (q).turn)) ∧ W.cell? ⟨w2.heap.size, 0, none⟩ = some (.pointer (some ⟨b 0, 0, none⟩)) ∧ W.cell? ⟨w2.heap.size, 1, none⟩ = some (.pointer (some ⟨b 1, 0, none⟩)) ∧ W.cell? ⟨w2.heap.size, 2, none⟩ = some (.pointer (some ⟨b 2, 0, none⟩)))
                (first
                  | exact HKZ.out _ (Below.refl _ _).drew
                  | exact HKZ.out _ (HBY3 : Hid _).out
                  | exact HKZ.out _ (HBY2 : Hid _).out
                  | exact HKZ.out _ (HBY1 : Hid _).out)
                (first
                  | (go_at_call 11; refine (CQZ.out _ (Below.refl _ _).drew).mono ?_; rintro e y1 ⟨q8, rfl, ⟨v8, rfl, hf8, _⟩, hb8⟩; obtain ⟨ao8, ac8, rfl, _, _⟩ := hf8.parts; have HBY1 : Hid (Below wz.heap.size wz y1) := Lib.hid (two (Below.refl _ _).drew hb8); have HF8 := Lib.hid hf8; clear hf8 hb8)
                  | (go_at_call 14; refine (CSZ.out _ _ (HBY1 : Hid _).out (HF8 : Hid _).out).mono ?_; rintro e y2 ⟨rfl, hb9⟩; have HBY2 : Hid (Below wz.heap.size wz y2) := Lib.hid (two (HBY1 : Hid _).out hb9); clear hb9)
                  | (go_at_call 12; refine (CAZ.out _ (HBY2 : Hid _).out).mono ?_; rintro e y3 ⟨rfl, hb9⟩; have HBY3 : Hid (Below wz.heap.size wz y3) := Lib.hid (two (HBY2 : Hid _).out hb9); clear hb9))
              all_goals
                go_wp2_with fail
                go_meet
                exact ⟨rfl, (HBY3 : Hid _).out⟩
            case rest =>
            obtain ⟨rfl, hbx⟩ := hcut
            have HBC3 := Lib.hid hbx
            clear hbx
            go_wp2_with fail
            go_roundw
            case rel => exact ⟨j + 1, L7, D7, S7, by omega, by go_num, HPZ.out.ds.below HBC3.out, HS7.out, ⟨(HBC3.out.block _ (Array.getElem?_eq_some_iff.1 HDB.out).1).trans HDB.out, (HBC3.out.block _ (Array.getElem?_eq_some_iff.1 HNB.out).1).trans HNB.out, HND.out⟩, HFZF.out.below HBC3.out, HBZL.out.below HBC3.out, two HXZ.out HBC3.out⟩
            case measure => simp [intOf]; omega
          · have hk3 : (m1 : Int) % 3 = 2 := hk2
            have CSP := top_spoil (L 2) (D 2) 0 (.slice lo (List.replicate 50 (⟨#[]⟩ : ByteArray)).length lc) (List.replicate 50 (⟨#[]⟩ : ByteArray)) wr (HDS.out.d 2 (by decide)) (HHS.out 2 (by decide)).1.sound (by omega) ⟨HBL.out.rd, fun a n c e hn hx => HBL.out.far a n c e hn ⟨2, by decide, hx⟩⟩ (by decide) (fun s hs => by rw [List.eq_of_mem_replicate hs]; decide)
            rw [HDS.out.eq 2 (by decide)] at CSP
            have HCSP := Lib.hid CSP
            have HBC := Lib.hid (spoil_blank (HHS.out 2 (by decide)).1.sound (List.replicate 50 (⟨#[]⟩ : ByteArray)) (fun s hs => List.eq_of_mem_replicate hs) (by decide))
            have HSN := Lib.hid (spoil_flush (HHS.out 2 (by decide)).1.sound 0 (List.replicate 50 (⟨#[]⟩ : ByteArray)) (fun s hs => by rw [List.eq_of_mem_replicate hs]; decide)).2.1
            clear CSP hk2
            go_wp2_with fail
            refine HCSP.out.mono ?_
            rintro e w6 ⟨rfl, ht6⟩
            clear y0 y1 y2 yf x0
            obtain ⟨L', hd6, ho6, hg6, hb6⟩ := HDS.out.turn (k := 2) (by decide) HXW.out.size ht6
            have hst6 := steps_disk (L := L) (k := 2) (by decide) ho6 hg6
            obtain ⟨L6, hL6⟩ : ∃ L6, L6 = upd L 2 L' := ⟨_, rfl⟩
            obtain ⟨D6, hD6⟩ : ∃ D6, D6 = upd D 2 (spoilD 0 (List.replicate 50 (⟨#[]⟩ : ByteArray)) (D 2)) := ⟨_, rfl⟩
            rw [← hL6] at hst6 hd6
            rw [← hD6] at hd6
            have HH6 : Hid (∀ i, i < 3 → i ≠ 2 → D6 i = D i) := Lib.hid (fun i hi hne => by rw [hD6, upd_ne _ _ hne])
            have HC6 : Hid (copyC (D6 2) ≠ ⟨true, q⟩) := Lib.hid (by rw [hD6, upd_same, HBC.out]; intro h; cases h)
            have HS6 : Hid (∀ i, i < 3 → Sound (D6 i)) := Lib.hid (fun i hi => by
              by_cases e : i = 2
              · rw [e, hD6, upd_same]; exact HSN.out
              · rw [HH6.out i hi e]; exact (HHS.out i hi).1.sound)
            have HX6b := Lib.hid (HXW.out.trans hb6)
            have HST6 := Lib.hid hst6
            obtain ⟨hv1, hv2, _, hv4⟩ := most_right (D := D6) (q := q) (k := 2) (by decide) (fun i hi hne => by rw [HH6.out i hi hne]; exact (HHS.out i hi).1.copyC)
            have CO := trio_Open X b L6 D6 q w6 hd6 HS6.out HXG.out HX6b.out hv1 hv2 (fault_good HGQ.out)
            rw [hv4 HC6.out] at CO
            have HCO := Lib.hid CO
            obtain ⟨y0, y1, y2, yf⟩ := arr3_cells ((hst6.keep (Array.getElem?_eq_some_iff.1 HBX9.out.1).1 HBX9.out.2.2.1).1.trans HBX9.out.1)
            clear hd6 ho6 hg6 hb6 hst6 hL6 hD6 hv1 hv2 hv4 ht6 CO
            go_wp2_with fail
            refine HCO.out.mono ?_
            rintro e wz ⟨tb7, L7, D7, lb7, sb7, rv7, sp7, v7, rfl, ho7, _, hs7⟩
            have hst7 : Steps (DF L) wr wz (DF L7) := (HST6.out.trans hs7).mono (fun _ h => h) (fun x hx => df_tf hx)
            have hkd := hst7.keep (Array.getElem?_eq_some_iff.1 HBX9.out.1).1 HBX9.out.2.2.1
            have hkq := hst7.keep (Array.getElem?_eq_some_iff.1 HBX9.out.2.1).1 HBX9.out.2.2.2
            have HDB := Lib.hid (hkd.1.trans HBX9.out.1)
            have HNB := Lib.hid (hkq.1.trans HBX9.out.2.1)
            have HND := Lib.hid (And.intro hkd.2.1 hkq.2.1)
            have HFZF : Hid (FilesF (DF L7) wz (.slice ao4 q.files.length ac4) q.files) := Lib.hid (HFL.out.turned (by decide) hst7.off hst7.grow)
            have HBZL : Hid (RdF (DF L7) 1 strCells wz (.slice lo (List.replicate 50 (⟨#[]⟩ : ByteArray)).length lc) (List.replicate 50 (⟨#[]⟩ : ByteArray))) := Lib.hid (HBL.out.turned (by decide) hst7.off hst7.grow)
            have HFZ : Hid (Files wz (.slice ao4 q.files.length ac4) q.files) := Lib.hid HFZF.out.rd
            have HXZ := Lib.hid ho7.low
            have hall : ∀ i, i < 3 → ∃ S', HasQ (D7 i) S' q ∧ S'.h.epoch ≤ 60 := fun i hi => by
              by_cases e : i = 2
              · obtain ⟨S', h1, h2⟩ := ho7.laid i hi (by rw [e]; exact HC6.out)
                exact ⟨S', h1, by omega⟩
              · have e6 := HH6.out i hi e
                rw [ho7.right i hi (by rw [e6]; exact (HHS.out i hi).1.copyC), e6]
                exact ⟨S i, HHS.out i hi⟩
            obtain ⟨S7, hS7⟩ := pick3 hall
            have HS7 := Lib.hid hS7
            have HPZ := Lib.hid ho7.pre
            have CQZ : Hid (∀ W, Below wz.heap.size wz W → Calls Tryz.prog 11 #[.pointer (some ⟨tb7, 0, none⟩)] W fun e w' => ∃ qv, e = .returned qv ∧ QuiltsF W.heap.size w' qv q ∧ Below W.heap.size W w') := Lib.hid (fun W hW => trio_Quilt (HPZ.out.below hW) HFEW.out)
            have CSZ : Hid (∀ W v8, Below wz.heap.size wz W → Files W v8 q.files → Calls Tryz.prog 14 #[.agg #[v8, .int .i64 q.turn], .agg #[.slice ao4 q.files.length ac4, .int .i64 q.turn]] W fun e w' => e = .returned (.bool true) ∧ Below W.heap.size W w') := Lib.hid (fun W v8 hW h8 => by
              have := ref_SameQuilt _ _ q q W ⟨_, rfl, h8⟩ ⟨_, rfl, HFZ.out.below hW⟩
              rw [decide_eq_true rfl] at this
              exact this)
            have CAZ : Hid (∀ W, Below wz.heap.size wz W → Calls Tryz.prog 12 #[.agg #[.pointer (some ⟨b 0, 0, none⟩), .pointer (some ⟨b 1, 0, none⟩), .pointer (some ⟨b 2, 0, none⟩)], .agg #[.slice ao4 q.files.length ac4, .int .i64 q.turn]] W fun e w' => e = .returned (.bool true) ∧ Below W.heap.size W w') := Lib.hid (fun W hW => top_all b L7 D7 _ q W (looks_of (HPZ.out.below hW).ds (fun k hk => (HS7.out k hk).1.sound) (HXG.out.below (two HXZ.out hW))) (fun k hk => (HS7.out k hk).1.copyC) ⟨_, rfl, HFZ.out.below hW⟩)
            have HKZ : Hid (∀ W, Below wz.heap.size wz W → (W.cell? ⟨w4.heap.size, 0, none⟩ = some (.slice ao4 q.files.length ac4) ∧ W.cell? ⟨w4.heap.size, 1, none⟩ = some (.int .i64 q.turn)) ∧ W.cell? ⟨w2.heap.size, 0, none⟩ = some (.pointer (some ⟨b 0, 0, none⟩)) ∧ W.cell? ⟨w2.heap.size, 1, none⟩ = some (.pointer (some ⟨b 1, 0, none⟩)) ∧ W.cell? ⟨w2.heap.size, 2, none⟩ = some (.pointer (some ⟨b 2, 0, none⟩))) := Lib.hid (fun W hW => ⟨⟨cell_on' hW (by simp [World.cell?, HNB.out]), cell_on' hW (by simp [World.cell?, HNB.out])⟩, cell_on' hW (by simp [World.cell?, HDB.out]), cell_on' hW (by simp [World.cell?, HDB.out]), cell_on' hW (by simp [World.cell?, HDB.out])⟩)
            clear ho7 hs7 hst7 hkd hkq hall hS7 y0 y1 y2 yf
            go_wp2_with fail
            go_cut [81] from 63 to 81 (fun s81 wx => s81 = .bool false ∧ Below wz.heap.size wz wx)
            case first =>
              go_region_held3 (fun W => (W.cell? ⟨w4.heap.size, 0, none⟩ = some (.slice ao4 q.files.length ac4) ∧ W.cell? ⟨w4.heap.size, 1, none⟩ = some (.int .i64 (q).turn)) ∧ W.cell? ⟨w2.heap.size, 0, none⟩ = some (.pointer (some ⟨b 0, 0, none⟩)) ∧ W.cell? ⟨w2.heap.size, 1, none⟩ = some (.pointer (some ⟨b 1, 0, none⟩)) ∧ W.cell? ⟨w2.heap.size, 2, none⟩ = some (.pointer (some ⟨b 2, 0, none⟩)))
                (first
                  | exact HKZ.out _ (Below.refl _ _).drew
                  | exact HKZ.out _ (HBY3 : Hid _).out
                  | exact HKZ.out _ (HBY2 : Hid _).out
                  | exact HKZ.out _ (HBY1 : Hid _).out)
                (first
                  | (go_at_call 11; refine (CQZ.out _ (Below.refl _ _).drew).mono ?_; rintro e y1 ⟨q8, rfl, ⟨v8, rfl, hf8, _⟩, hb8⟩; obtain ⟨ao8, ac8, rfl, _, _⟩ := hf8.parts; have HBY1 : Hid (Below wz.heap.size wz y1) := Lib.hid (two (Below.refl _ _).drew hb8); have HF8 := Lib.hid hf8; clear hf8 hb8)
                  | (go_at_call 14; refine (CSZ.out _ _ (HBY1 : Hid _).out (HF8 : Hid _).out).mono ?_; rintro e y2 ⟨rfl, hb9⟩; have HBY2 : Hid (Below wz.heap.size wz y2) := Lib.hid (two (HBY1 : Hid _).out hb9); clear hb9)
                  | (go_at_call 12; refine (CAZ.out _ (HBY2 : Hid _).out).mono ?_; rintro e y3 ⟨rfl, hb9⟩; have HBY3 : Hid (Below wz.heap.size wz y3) := Lib.hid (two (HBY2 : Hid _).out hb9); clear hb9))
              all_goals
                go_wp2_with fail
                go_meet
                exact ⟨rfl, (HBY3 : Hid _).out⟩
            case rest =>
            obtain ⟨rfl, hbx⟩ := hcut
            have HBC3 := Lib.hid hbx
            clear hbx
            go_wp2_with fail
            go_roundw
            case rel => exact ⟨j + 1, L7, D7, S7, by omega, by go_num, HPZ.out.ds.below HBC3.out, HS7.out, ⟨(HBC3.out.block _ (Array.getElem?_eq_some_iff.1 HDB.out).1).trans HDB.out, (HBC3.out.block _ (Array.getElem?_eq_some_iff.1 HNB.out).1).trans HNB.out, HND.out⟩, HFZF.out.below HBC3.out, HBZL.out.below HBC3.out, two HXZ.out HBC3.out⟩
            case measure => simp [intOf]; omega
        · obtain rfl : j = li.length := by omega
          go_wp2_with fail
          go_ret
          exact ⟨rfl, two HX0.out HXW.out⟩
end Go.Proofs.YtggpodlecljcbacGreatDoor
