/- The walk of the statement TopMend. Printed by wip/mk_tm.py. -/
import Derived.Deep.RegionLaw
import Derived.Deep.CutRange
import Derived.Test.YtggpodlecljcbadGreatDoorMTMendA
import Derived.Test.YtggpodlecljcbadGreatDoorMTr4
namespace Go.Proofs.YtggpodlecljcbadGreatDoor
set_option linter.unusedSimpArgs false
set_option linter.unusedVariables false
open Go.RowKit Go.Sort
theorem wf_i64T {n : Int} (h : (Lit.int .i64 n).wf = true) : -9223372036854775808 ≤ n ∧ n ≤ 9223372036854775807 := by
  have h1 : (decide (IntKind.min .i64 ≤ n) && decide (n ≤ IntKind.max .i64)) = true := h
  simp only [Bool.and_eq_true, decide_eq_true_eq] at h1
  exact h1
theorem wf_u64T {n : Int} (h : (Lit.int .u64 n).wf = true) : 0 ≤ n ∧ n < 18446744073709551616 := by
  have h1 : (decide (IntKind.min .u64 ≤ n) && decide (n ≤ IntKind.max .u64)) = true := h
  simp only [Bool.and_eq_true, decide_eq_true_eq] at h1
  have h2 : 0 ≤ n ∧ n ≤ 18446744073709551615 := h1
  omega
theorem rem3T (m : Nat) : ∃ k : Nat, k < 3 ∧ ((m : Int) % 3) = (k : Int) := ⟨m % 3, Nat.mod_lt _ (by decide), by omega⟩
theorem copyC_armT (D : DiskS) (n : Int) : copyC (armD D n) = copyC D := rfl
theorem spoil_keptT {D : DiskS} (h : Sound D) (at_ : Int) (l : List ByteArray) (hl : ∀ s ∈ l, s.size ≤ 40) : (spoilD at_ l D).wait = [] ∧ (spoilD at_ l D).kept = (spoilD at_ l D).now := by
  have hw := wrote_sound h at_ l hl l.length (Nat.le_refl _)
  have hf := hw.calm.flush
  have e : spoilD at_ l D = { wroteD at_ l l.length D with kept := (wroteD at_ l l.length D).now, wait := [] } := by unfold spoilD; rw [hf]
  rw [e]; exact ⟨rfl, rfl⟩
theorem most_oneT {D : Nat → DiskS} {q : Quilt} {k : Nat} (hk : k < 3) (h : ∀ i, i < 3 → i ≠ k → copyC (D i) = ⟨true, q⟩) (hn : copyC (D k) ≠ ⟨true, q⟩) : wrongs (trioC D) q = [(k : Int)] := by
  obtain ⟨h1, h2, h3⟩ := two_right (t := trioC D) (q := q) hk (fun i hi hne => by rw [trioC_at D i hi]; exact h i hi hne)
  rw [trioC_at D k hk] at h3
  rw [h3, same_no hn]; rfl
theorem Disks3.armedT {B : Nat} {b : Nat → Nat} {w w' : World} {L : Nat → Dk} {D : Nat → DiskS} (h : Disks3 B b w L D) {k : Nat} (hk : k < 3) (hB : B ≤ w.heap.size) {n : Int} (hs : Stepped 68 72 w (L k) (armD (D k) n) w') : Disks3 B b w' L (upd D k (armD (D k) n)) ∧ Steps (DF L) w w' (DF L) ∧ Below B w w' := by
  have ho : Off (L k).foot w w' := hs.2.1.mono (fun x hx => Or.inl hx)
  have hput := h.turned hk hB (L' := L k) rfl hs.1 ho (fun x hx => Or.inl hx)
  rw [upd_self] at hput
  exact ⟨hput, ⟨ho.mono (fun x hx => ⟨k, hk, hx⟩), fun x hx => Or.inl hx⟩, ho.below B hB (h.low k hk)⟩
set_option maxRecDepth 100000 in
set_option maxHeartbeats 16000000 in
theorem law_TopMend (va : Value) (avs : List ActV) (al : List Act) (which fuse keep : Int) (w : World) (hav : ActVs w va avs) (haa : IsActs w avs al) (hak : ∀ a ∈ al, a.ok) (_ : (Lit.int .i64 which).wf = true) (hfw : (Lit.int .i64 fuse).wf = true) (hkw : (Lit.int .u64 keep).wf = true) (hg : GlobI w) :
    Calls Tryz.prog 5 #[va, .int .i64 which, .int .i64 fuse, .int .u64 keep] w fun e w' => e = .returned (.bool true) ∧ Below w.heap.size w w' := by
  obtain ⟨hf1, hf2⟩ := wf_i64T hfw
  obtain ⟨hk1, hk2⟩ := wf_u64T hkw
  have HKW := Lib.hid (And.intro hk1 hk2)
  obtain ⟨FZ, hFZ⟩ : ∃ z : Int, z = min (max fuse (-1)) 100 := ⟨_, rfl⟩
  have HFM : Hid (-9223372036854775808 ≤ FZ ∧ FZ ≤ 9223372036854775807) := Lib.hid (by omega)
  have HFZ := Lib.hid hFZ
  clear hFZ hk1 hk2
  have CW := Lib.hid (top_works w hg)
  obtain ⟨vo, vc, rfl, hvc, hvm⟩ := hav.parts
  have CP := Lib.hid fun W hb => top_played (.slice vo avs.length vc) avs al W (hg.below hb) (hav.below hb) (haa.below hb) hak
  have HG := Lib.hid hg
  clear hg hav haa hak
  go_enter Tryz.func5, Tryz.ntmps5
  go_wp2_with fail
  refine CW.out.mono ?_
  rintro e w1 ⟨rfl, hb1⟩
  have HB1 := Lib.hid hb1
  have CP1 := Lib.hid (CP.out w1 hb1)
  clear hb1
  go_wp2_with fail
  refine CP1.out.mono ?_
  rintro e w2 (⟨hl, ⟨p0, p1, p2, rfl⟩, hb2⟩ | ⟨hl, B, b, tb, L, D, S, lb, sb, rv, v, rfl, htr, hB, hb2⟩)
  · have HB2 := Lib.hid (two HB1.out (two hb2 (below_alloc w2 (.cells #[.pointer p0, .pointer p1, .pointer p2] 29))))
    clear hb2
    go_wp2_with fail
    go_ret
    exact ⟨rfl, HB2.out⟩
  · have HB2 := Lib.hid (two HB1.out hb2)
    obtain ⟨W3, hW3⟩ : ∃ W3, W3 = w2.alloc (.cells #[.pointer (some ⟨b 0, 0, none⟩), .pointer (some ⟨b 1, 0, none⟩), .pointer (some ⟨b 2, 0, none⟩)] 29) := ⟨_, rfl⟩
    have hb23 : Below w2.heap.size w2 W3 := by rw [hW3]; exact below_alloc _ _
    have HW3 := Lib.hid hW3
    have HB23 := Lib.hid hb23
    have hbx : W3.heap[w2.heap.size]? = some (.cells #[.pointer (some ⟨b 0, 0, none⟩), .pointer (some ⟨b 1, 0, none⟩), .pointer (some ⟨b 2, 0, none⟩)] 29 (0, 0)) := by rw [hW3]; show (w2.heap.push _)[w2.heap.size]? = _; simp
    have HBX := Lib.hid hbx
    have HZ3 : Hid (W3.heap.size = w2.heap.size + 1) := Lib.hid (by rw [hW3]; simp)
    have hbw3 := two HB1.out (two hb2 hb23)
    have hz1 := HB1.out.size
    obtain ⟨X, hXs, hXg, hXw, hX0⟩ := cut_base hbw3 (B := B) (by omega) (htr.below hb23).lo HG.out
    obtain ⟨q, hq⟩ : ∃ q, q = grownQ al := ⟨_, rfl⟩
    rw [← hq] at htr
    have HTR : Hid (TrioQ 60 X.heap.size b W3 tb q L D S lb sb rv v) := Lib.hid (by rw [hXs]; exact htr.below hb23)
    have HTL : Hid (∀ x, TF tb L lb sb x → x < w2.heap.size) := Lib.hid (fun x hx => (htr.lt hx).1)
    have HXG := Lib.hid hXg
    have HX3 := Lib.hid hXw
    have HX0 := Lib.hid hX0
    have CQ := Lib.hid (trio_Quilt HTR.out.pre HTR.out.few)
    obtain ⟨y0, y1, y2, yf⟩ := arr3_cells hbx
    clear hW3 hb23 hbx hbw3 hz1 hXs hXg hXw hX0 htr hB hq
    go_wp2_with fail
    rw [← HW3.out]
    refine CQ.out.mono ?_
    rintro e w4 ⟨qv, rfl, ⟨v4, rfl, hf4, hfr4⟩, hb4⟩
    obtain ⟨ao4, ac4, rfl, hac4, hac4'⟩ := hf4.parts
    obtain ⟨W5, hW5⟩ : ∃ W5, W5 = w4.alloc (.cells #[.slice ao4 q.files.length ac4, .int .i64 q.turn] 36) := ⟨_, rfl⟩
    have hb45 : Below w4.heap.size w4 W5 := by rw [hW5]; exact below_alloc _ _
    have HW5 := Lib.hid hW5
    have HF5 : Hid (Files W5 (.slice ao4 q.files.length ac4) q.files ∧ Fresh W3.heap.size (.slice ao4 q.files.length ac4)) := Lib.hid ⟨hf4.below hb45, hfr4⟩
    have HQX : Hid (W5.heap[w4.heap.size]? = some (.cells #[.slice ao4 q.files.length ac4, .int .i64 q.turn] 36 (0, 0))) := Lib.hid (by rw [hW5]; show (w4.heap.push _)[w4.heap.size]? = _; simp)
    have HB35 := Lib.hid (two hb4 hb45)
    have HZ4 : Hid (W3.heap.size ≤ w4.heap.size ∧ W5.heap.size = w4.heap.size + 1) := Lib.hid ⟨hb4.size, by rw [hW5]; simp⟩
    have HT5 := Lib.hid (HTR.out.below (two hb4 hb45))
    have HX5 := Lib.hid (two HX3.out (two hb4 hb45))
    have HDX5 : Hid (W5.heap[w2.heap.size]? = some (.cells #[.pointer (some ⟨b 0, 0, none⟩), .pointer (some ⟨b 1, 0, none⟩), .pointer (some ⟨b 2, 0, none⟩)] 29 (0, 0))) := Lib.hid (by rw [(two hb4 hb45).block _ (by rw [HZ3.out]; omega)]; exact HBX.out)
    obtain ⟨y0, y1, y2, yf⟩ := arr3_cells HDX5.out
    have s0 : W5.cell? ⟨w4.heap.size, 0, none⟩ = some (.slice ao4 q.files.length ac4) := by simp [World.cell?, HQX.out]
    have s1 : W5.cell? ⟨w4.heap.size, 1, none⟩ = some (.int .i64 q.turn) := by simp [World.cell?, HQX.out]
    clear hf4 hfr4 hb4 hb45
    clear hW5 y0 y1 y2 yf s0 s1
    obtain ⟨m1, hm1, _⟩ := and1023T which
    obtain ⟨k, hk, hkk⟩ := rem3T m1
    have hk3 : (m1 : Int) % 3 = (k : Int) := hkk
    clear hkk
    go_wp2_with fail
    rw [← HW5.out]
    have HKL : Hid (k < 3) := Lib.hid hk
    have HK3 := Lib.hid hk3
    clear hk3 hm1 hk
    go_loopw [14, 15] (fun bv iv wr => ∃ k : Nat, k ≤ 50 ∧ iv = .int .i64 k ∧ wr.ownsRow W5.heap.size 9 1 bv k (List.replicate k (.string ⟨#[]⟩)) ∧ Below W5.heap.size W5 wr) (fun _ iv _ => 50 - (intOf iv).toNat)
    case atStart => exact ⟨0, by omega, rfl, World.ownsRow_nil _ _ _ _, Below.refl _ _⟩
    case round =>
      obtain ⟨k, hk, rfl, ho, hbw⟩ := hrel
      obtain ⟨lo, lc, rfl, hlc, hlc'⟩ := own_sliceI ho
      have HO := Lib.hid ho
      have HBW := Lib.hid hbw
      clear ho hbw
      by_cases hlt : k < 50
      · have hlt' : (k : Int) < 50 := by omega
        have hzz := HBW.out.size
        go_wp2_with (at_builtin; refine wpList_app I_texts' rfl _ _ rfl W5.heap.size _ _ _ rfl (HO.out.alloc _) ⟨wr.heap.size, 0, none⟩ 1 1 [.string ⟨#[]⟩] rfl rfl ?c1 ?c2 ?c3 ?c4 ?_)
        case c1 => exact one_new
        case c2 => intro u hu; simp at hu; subst hu; rfl
        case c3 => omega
        case c4 => simp; omega
        intro v2 w3 ho3 hg3
        have HB3 := Lib.hid (grown_below (HBW.out.trans ((below_alloc wr (.cells #[.string ⟨#[]⟩] 9)).mono hzz)) (HO.out.alloc _) hg3 (Nat.le_refl _))
        have HO3 : Hid (w3.ownsRow W5.heap.size 9 1 v2 (k + 1) (List.replicate (k + 1) (.string ⟨#[]⟩))) := Lib.hid (by rw [List.replicate_succ']; exact ho3)
        clear ho3 hg3
        go_wp2_with fail
        go_roundw
        case rel => exact ⟨k + 1, by omega, by go_num, HO3.out, HB3.out⟩
        case measure => simp [intOf]; omega
      obtain rfl : k = 50 := by omega
      have hlt' : ¬ ((50 : Nat) : Int) < 50 := by decide
      obtain ⟨wb, hwb⟩ : ∃ wb : World, wb = wr := ⟨_, rfl⟩
      subst hwb
      have HBLT : Hid (Texts wb (.slice lo (List.replicate 50 (⟨#[]⟩ : ByteArray)).length lc) (List.replicate 50 (⟨#[]⟩ : ByteArray))) := Lib.hid (SL.of_own (xs := List.replicate 50 (.string ⟨#[]⟩)) HO.out)
      have HBLF : Hid (Fresh W5.heap.size (.slice lo 50 lc)) := Lib.hid (fresh_own HO.out)
      have HBB := Lib.hid HBW.out
      clear hk
      have hk : k < 3 := HKL.out
      have HT6 := Lib.hid (HT5.out.below HBB.out)
      have HX6 := Lib.hid (two HX5.out HBB.out)
      have HDX6 : Hid (wb.heap[w2.heap.size]? = some (.cells #[.pointer (some ⟨b 0, 0, none⟩), .pointer (some ⟨b 1, 0, none⟩), .pointer (some ⟨b 2, 0, none⟩)] 29 (0, 0))) := Lib.hid ((HBB.out.block _ (Array.getElem?_eq_some_iff.1 HDX5.out).1).trans HDX5.out)
      have HQX6 : Hid (wb.heap[w4.heap.size]? = some (.cells #[.slice ao4 q.files.length ac4, .int .i64 q.turn] 36 (0, 0))) := Lib.hid ((HBB.out.block _ (Array.getElem?_eq_some_iff.1 HQX.out).1).trans HQX.out)
      have HLT0 : Hid (∀ x, DF L x → x < w2.heap.size) := Lib.hid (fun x hx => HTL.out _ (df_tf (tb := tb) (lb := lb) (sb := sb) hx))
      have hz3 := HZ3.out
      have hz4 := HZ4.out
      have HFL0 : Hid (FilesF (DF L) wb (.slice ao4 q.files.length ac4) q.files) := Lib.hid ⟨HF5.out.1.below HBB.out, fresh_far HF5.out.2 (fun x hx => by have := HLT0.out _ hx; omega)⟩
      have HBL0 : Hid (RdF (DF L) 1 strCells wb (.slice lo (List.replicate 50 (⟨#[]⟩ : ByteArray)).length lc) (List.replicate 50 (⟨#[]⟩ : ByteArray))) := Lib.hid ⟨HBLT.out, fresh_far HBLF.out (fun x hx => by have := HLT0.out _ hx; omega)⟩
      have HND0 : Hid (¬ DF L w2.heap.size ∧ ¬ DF L w4.heap.size) := Lib.hid ⟨fun hx => by have := HLT0.out _ hx; omega, fun hx => by have := HLT0.out _ hx; omega⟩
      have HGQ : Hid (Good q) := Lib.hid HT5.out.good
      have HFEW : Hid (q.files.length ≤ 1000) := Lib.hid HT5.out.few
      have HQK : Hid (∀ i, i < 3 → HasQ (D i) (S i) q) := Lib.hid HT6.out.has
      have HYK : Hid (∀ W : World, W.heap[w2.heap.size]? = some (.cells #[.pointer (some ⟨b 0, 0, none⟩), .pointer (some ⟨b 1, 0, none⟩), .pointer (some ⟨b 2, 0, none⟩)] 29 (0, 0)) → W.cell? ⟨w2.heap.size, k, none⟩ = some (.pointer (some ⟨b k, 0, none⟩)) ∧ ∀ o, W.frozen? ⟨w2.heap.size, o, none⟩ = false) := Lib.hid (fun W hW => by
        obtain ⟨y0, y1, y2, yf⟩ := arr3_cells hW
        refine ⟨?_, yf⟩
        obtain rfl | rfl | rfl : k = 0 ∨ k = 1 ∨ k = 2 := by omega
        · exact y0
        · exact y1
        · exact y2)
      have CSP := top_spoil (L k) (D k) 0 (.slice lo (List.replicate 50 (⟨#[]⟩ : ByteArray)).length lc) (List.replicate 50 (⟨#[]⟩ : ByteArray)) wb (HT6.out.pre.ds.d k hk) (HQK.out k hk).sound (by omega) ⟨HBL0.out.rd, fun a n c e hn hx => HBL0.out.far a n c e hn ⟨k, hk, hx⟩⟩ (by decide) (fun s hs => by rw [List.eq_of_mem_replicate hs]; decide)
      rw [HT6.out.pre.ds.eq k hk] at CSP
      have HCSP := Lib.hid CSP
      have HBC := Lib.hid (spoil_blank (HQK.out k hk).sound (List.replicate 50 (⟨#[]⟩ : ByteArray)) (fun s hs => List.eq_of_mem_replicate hs) (by decide))
      have HSN := Lib.hid (spoil_flush (HQK.out k hk).sound 0 (List.replicate 50 (⟨#[]⟩ : ByteArray)) (fun s hs => by rw [List.eq_of_mem_replicate hs]; decide)).2.1
      have HSK := Lib.hid (spoil_keptT (HQK.out k hk).sound 0 (List.replicate 50 (⟨#[]⟩ : ByteArray)) (fun s hs => by rw [List.eq_of_mem_replicate hs]; decide))
      obtain ⟨yk, yf⟩ := HYK.out wb HDX6.out
      have hk3 := HK3.out
      clear hz3 hz4 CSP
      go_wp2_with fail
      refine HCSP.out.mono ?_
      rintro e w6 ⟨rfl, ht6⟩
      clear yk yf hk3
      obtain ⟨L', hd6, ho6, hg6, hb6⟩ := HT6.out.pre.ds.turn (k := k) hk HX6.out.size ht6
      have hst6 := steps_disk (L := L) (k := k) hk ho6 hg6
      obtain ⟨L6, hL6⟩ : ∃ L6, L6 = upd L k L' := ⟨_, rfl⟩
      obtain ⟨D6, hD6⟩ : ∃ D6, D6 = upd D k (spoilD 0 (List.replicate 50 (⟨#[]⟩ : ByteArray)) (D k)) := ⟨_, rfl⟩
      rw [← hL6] at hst6 hd6
      rw [← hD6] at hd6
      have HD6 := Lib.hid hd6
      have HX6b := Lib.hid (HX6.out.trans hb6)
      have HST6 := Lib.hid hst6
      have HDK := Lib.hid hD6
      have HBX6 := Lib.hid ((hst6.keep (Array.getElem?_eq_some_iff.1 HDX6.out).1 HND0.out.1).1.trans HDX6.out)
      have CA := disk_Arm (L6 k) (D6 k) FZ w6 (hd6.d k hk) HFM.out.2 HFM.out.1
      rw [hd6.eq k hk] at CA
      have HCA := Lib.hid CA
      obtain ⟨yk, yf⟩ := HYK.out w6 HBX6.out
      have hk3 := HK3.out
      clear hd6 ho6 hg6 hb6 hst6 hL6 hD6 ht6 CA
      go_wp2_with fail
      rw [← HFZ.out]
      refine HCA.out.mono ?_
      rintro e w8 ⟨rfl, hsp⟩
      clear yk yf hk3
      obtain ⟨hd8, hst8, hb8⟩ := HD6.out.armedT hk HX6b.out.size hsp
      obtain ⟨D8, hD8⟩ : ∃ D8, D8 = upd D6 k (armD (D6 k) FZ) := ⟨_, rfl⟩
      rw [← hD8] at hd8
      have hne8 : ∀ i, i < 3 → i ≠ k → D8 i = D i := fun i hi hne => by rw [hD8, upd_ne _ _ hne, HDK.out, upd_ne _ _ hne]
      have hk8 : D8 k = armD (spoilD 0 (List.replicate 50 (⟨#[]⟩ : ByteArray)) (D k)) FZ := by rw [hD8, upd_same, HDK.out, upd_same]
      have hfirm : Firm (D8 k) := by rw [hk8]; exact HSN.out.firm HSK.out.1 HSK.out.2 FZ HFM.out.2
      have hup : ∀ i, i < 3 → Upright (D8 i) := fun i hi => by
        by_cases e : i = k
        · rw [e]; exact hfirm.upright
        · rw [hne8 i hi e]; exact (HQK.out i hi).sound.upright
      have hcp : ∀ i, i < 3 → i ≠ k → copyC (D8 i) = ⟨true, q⟩ := fun i hi hne => by rw [hne8 i hi hne]; exact (HQK.out i hi).copyC
      have hcn : copyC (D8 k) ≠ ⟨true, q⟩ := by rw [hk8, copyC_armT, HBC.out]; intro h; cases h
      obtain ⟨hv1, hv2, _, _⟩ := most_right (D := D8) (q := q) (k := k) hk hcp
      have hx8 := HX6b.out.trans hb8
      have CO1 := Lib.hid (trio_Open_f k hk X b L6 D8 q w8 hd8 hup hfirm (most_oneT hk hcp hcn) HXG.out hx8 hv1 hv2 (fault_good HGQ.out))
      have HST8 : Hid (Steps (DF L) wb w8 (DF L6)) := Lib.hid (HST6.out.trans hst8)
      have HN8 := Lib.hid hne8
      have HBX8 := Lib.hid ((HST8.out.keep (Array.getElem?_eq_some_iff.1 HDX6.out).1 HND0.out.1).1.trans HDX6.out)
      obtain ⟨y0, y1, y2, yf⟩ := arr3_cells HBX8.out
      clear hd8 hst8 hb8 hD8 hne8 hk8 hfirm hup hcp hcn hv1 hv2 hx8 hsp
      go_wp2_with fail
      refine CO1.out.mono ?_
      rintro e w9 ⟨tp, n1, er1, rfl, ⟨L9, D9, hd9, hne9, hleft9, hst9⟩, hb9⟩
      clear y0 y1 y2 yf
      have HD9 := Lib.hid hd9
      have HN9 : Hid (∀ i, i < 3 → i ≠ k → D9 i = D i) := Lib.hid (fun i hi hne => (hne9 i hi hne).trans (HN8.out i hi hne))
      have HLF := Lib.hid hleft9
      have HX9 := Lib.hid hb9
      have HST9 : Hid (Steps (DF L) wb w9 (DF L9)) := Lib.hid (HST8.out.trans hst9)
      have HBX9 := Lib.hid ((HST9.out.keep (Array.getElem?_eq_some_iff.1 HDX6.out).1 HND0.out.1).1.trans HDX6.out)
      have CR := disk_Restart (L9 k) (D9 k) keep w9 (hd9.d k hk) hleft9.ok HKW.out.1 HKW.out.2 (by have := hleft9.wait; omega)
      rw [hd9.eq k hk] at CR
      have HCR := Lib.hid CR
      obtain ⟨yk, yf⟩ := HYK.out w9 HBX9.out
      have hk3 := HK3.out
      clear hd9 hne9 hleft9 hst9 hb9 CR
      go_wp2_with fail
      refine HCR.out.mono ?_
      rintro e w10 ⟨rfl, ht10⟩
      clear yk yf hk3
      obtain ⟨L', hd10, ho10, hg10, hb10⟩ := HD9.out.turn (k := k) hk HX9.out.size ht10
      have hst10 := steps_disk (L := L9) (k := k) hk ho10 hg10
      obtain ⟨LA, hLA⟩ : ∃ LA, LA = upd L9 k L' := ⟨_, rfl⟩
      obtain ⟨DA, hDA⟩ : ∃ DA, DA = upd D9 k (restartD (D9 k) keep) := ⟨_, rfl⟩
      rw [← hLA] at hst10 hd10
      rw [← hDA] at hd10
      have hneA : ∀ i, i < 3 → i ≠ k → DA i = D i := fun i hi hne => by rw [hDA, upd_ne _ _ hne]; exact HN9.out i hi hne
      have HSA : Hid (∀ i, i < 3 → Sound (DA i)) := Lib.hid (fun i hi => by
        by_cases e : i = k
        · rw [e, hDA, upd_same]; exact HLF.out.f40.back HLF.out.ok keep
        · rw [hneA i hi e]; exact (HQK.out i hi).sound)
      have HXA := Lib.hid (HX9.out.trans hb10)
      have HSTA : Hid (Steps (DF L) wb w10 (DF LA)) := Lib.hid (HST9.out.trans hst10)
      obtain ⟨hv1, hv2, hv3, _⟩ := most_right (D := DA) (q := q) (k := k) hk (fun i hi hne => by rw [hneA i hi hne]; exact (HQK.out i hi).copyC)
      have CO := Lib.hid (trio_Open X b LA DA q w10 hd10 HSA.out HXG.out HXA.out hv1 hv2 (fault_good HGQ.out))
      obtain ⟨nn, hnn⟩ : ∃ nn, nn = (wrongs (trioC DA) q).length := ⟨_, rfl⟩
      rw [← hnn] at CO hv3
      have HBXA := Lib.hid ((HSTA.out.keep (Array.getElem?_eq_some_iff.1 HDX6.out).1 HND0.out.1).1.trans HDX6.out)
      obtain ⟨y0, y1, y2, yf⟩ := arr3_cells HBXA.out
      have hv3' : (nn : Int) ≤ 1 := by omega
      clear hd10 ho10 hg10 hb10 hst10 hLA hDA hneA hv1 hv2 hnn ht10 hv3
      go_wp2_with fail
      refine CO.out.mono ?_
      rintro e wz ⟨tb7, L7, D7, lb7, sb7, rv7, sp7, v7, rfl, ho7, _, hs7⟩
      have hst7 : Steps (DF L) wb wz (DF L7) := (HSTA.out.trans hs7).mono (fun _ h => h) (fun x hx => df_tf hx)
      have HDB := Lib.hid ((hst7.keep (Array.getElem?_eq_some_iff.1 HDX6.out).1 HND0.out.1).1.trans HDX6.out)
      have HNB := Lib.hid ((hst7.keep (Array.getElem?_eq_some_iff.1 HQX6.out).1 HND0.out.2).1.trans HQX6.out)
      have HFZZ : Hid (Files wz (.slice ao4 q.files.length ac4) q.files) := Lib.hid (HFL0.out.turned (by decide) hst7.off hst7.grow).rd
      have HXZ := Lib.hid ho7.low
      have HBZ : Hid (Below w.heap.size w wz) := Lib.hid (two HX0.out ho7.low)
      have HC7 : Hid (∀ i, i < 3 → copyC (D7 i) = ⟨true, q⟩ ∧ Sound (D7 i)) := Lib.hid (fun i hi => by
        by_cases e : copyC (DA i) = ⟨true, q⟩
        · rw [ho7.right i hi e]; exact ⟨e, HSA.out i hi⟩
        · obtain ⟨S', h1, _⟩ := ho7.laid i hi e
          exact ⟨h1.copyC, h1.sound⟩)
      have HPZ := Lib.hid ho7.pre
      have CQZ : Hid (∀ W, Below wz.heap.size wz W → Calls Tryz.prog 10 #[.pointer (some ⟨tb7, 0, none⟩)] W fun e w' => ∃ qv, e = .returned qv ∧ QuiltsF W.heap.size w' qv q ∧ Below W.heap.size W w') := Lib.hid (fun W hW => trio_Quilt (HPZ.out.below hW) HFEW.out)
      have CSZ : Hid (∀ W v8, Below wz.heap.size wz W → Files W v8 q.files → Calls Tryz.prog 17 #[.agg #[v8, .int .i64 q.turn], .agg #[.slice ao4 q.files.length ac4, .int .i64 q.turn]] W fun e w' => e = .returned (.bool true) ∧ Below W.heap.size W w') := Lib.hid (fun W v8 hW h8 => by
        have := ref_SameQuilt _ _ q q W ⟨_, rfl, h8⟩ ⟨_, rfl, HFZZ.out.below hW⟩
        rw [decide_eq_true rfl] at this
        exact this)
      have CAZ : Hid (∀ W, Below wz.heap.size wz W → Calls Tryz.prog 16 #[.agg #[.pointer (some ⟨b 0, 0, none⟩), .pointer (some ⟨b 1, 0, none⟩), .pointer (some ⟨b 2, 0, none⟩)], .agg #[.slice ao4 q.files.length ac4, .int .i64 q.turn]] W fun e w' => e = .returned (.bool true) ∧ Below W.heap.size W w') := Lib.hid (fun W hW => top_all b L7 D7 _ q W (looks_of (HPZ.out.below hW).ds (fun k hk => (HC7.out k hk).2) (HXG.out.below (two HXZ.out hW))) (fun k hk => (HC7.out k hk).1) ⟨_, rfl, HFZZ.out.below hW⟩)
      have HKZ : Hid (∀ W, Below wz.heap.size wz W → (W.cell? ⟨w4.heap.size, 0, none⟩ = some (.slice ao4 q.files.length ac4) ∧ W.cell? ⟨w4.heap.size, 1, none⟩ = some (.int .i64 q.turn)) ∧ W.cell? ⟨w2.heap.size, 0, none⟩ = some (.pointer (some ⟨b 0, 0, none⟩)) ∧ W.cell? ⟨w2.heap.size, 1, none⟩ = some (.pointer (some ⟨b 1, 0, none⟩)) ∧ W.cell? ⟨w2.heap.size, 2, none⟩ = some (.pointer (some ⟨b 2, 0, none⟩))) := Lib.hid (fun W hW => ⟨⟨cell_on' hW (by simp [World.cell?, HNB.out]), cell_on' hW (by simp [World.cell?, HNB.out])⟩, cell_on' hW (by simp [World.cell?, HDB.out]), cell_on' hW (by simp [World.cell?, HDB.out]), cell_on' hW (by simp [World.cell?, HDB.out])⟩)
      clear ho7 hs7 hst7 y0 y1 y2 yf
      go_wp2_with fail
      go_region_held3 (fun W => (W.cell? ⟨w4.heap.size, 0, none⟩ = some (.slice ao4 q.files.length ac4) ∧ W.cell? ⟨w4.heap.size, 1, none⟩ = some (.int .i64 (q).turn)) ∧ W.cell? ⟨w2.heap.size, 0, none⟩ = some (.pointer (some ⟨b 0, 0, none⟩)) ∧ W.cell? ⟨w2.heap.size, 1, none⟩ = some (.pointer (some ⟨b 1, 0, none⟩)) ∧ W.cell? ⟨w2.heap.size, 2, none⟩ = some (.pointer (some ⟨b 2, 0, none⟩)))
        (first
          | exact HKZ.out _ (Below.refl _ _).drew
          | exact HKZ.out _ (HBY3 : Hid _).out
          | exact HKZ.out _ (HBY2 : Hid _).out
          | exact HKZ.out _ (HBY1 : Hid _).out)
        (first
          | (go_at_call 10; refine (CQZ.out _ (Below.refl _ _).drew).mono ?_; rintro e y1 ⟨q8, rfl, ⟨v8, rfl, hf8, _⟩, hb8⟩; obtain ⟨ao8, ac8, rfl, _, _⟩ := hf8.parts; have HBY1 : Hid (Below wz.heap.size wz y1) := Lib.hid (two (Below.refl _ _).drew hb8); have HF8 := Lib.hid hf8; clear hf8 hb8)
          | (go_at_call 17; refine (CSZ.out _ _ (HBY1 : Hid _).out (HF8 : Hid _).out).mono ?_; rintro e y2 ⟨rfl, hb9⟩; have HBY2 : Hid (Below wz.heap.size wz y2) := Lib.hid (two (HBY1 : Hid _).out hb9); clear hb9)
          | (go_at_call 16; refine (CAZ.out _ (HBY2 : Hid _).out).mono ?_; rintro e y3 ⟨rfl, hb9⟩; have HBY3 : Hid (Below wz.heap.size wz y3) := Lib.hid (two (HBY2 : Hid _).out hb9); clear hb9))
      all_goals
        go_wp2_with fail
        go_ret
        exact ⟨rfl, two HBZ.out (HBY3 : Hid _).out⟩
end Go.Proofs.YtggpodlecljcbadGreatDoor
