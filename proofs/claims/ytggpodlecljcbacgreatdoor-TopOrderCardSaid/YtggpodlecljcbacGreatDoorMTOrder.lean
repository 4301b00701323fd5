/- The walk of the statement TopOrder. Printed by wip/mk_ttr.py. -/
import Derived.Test.YtggpodlecljcbacGreatDoorMTr4
namespace Go.Proofs.YtggpodlecljcbacGreatDoor
set_option linter.unusedSimpArgs false
set_option linter.unusedVariables false
open Go.RowKit Go.Sort
theorem rem3T (m : Nat) : ∃ k : Nat, k < 3 ∧ ((m : Int) % 3) = (k : Int) := ⟨m % 3, Nat.mod_lt _ (by decide), by omega⟩
def px (k : Nat) : Nat := match k with | 0 => 2 | 1 => 0 | _ => 1
def pz (k : Nat) : Nat := match k with | 0 => 2 | 1 => 1 | _ => 0
theorem px_lt (k : Nat) : px k < 3 := by unfold px; split <;> decide
theorem pz_lt (k : Nat) : pz k < 3 := by unfold pz; split <;> decide
theorem px_inj : ∀ i, i < 3 → ∀ j, j < 3 → i ≠ j → px i ≠ px j := by decide
theorem pz_inj : ∀ i, i < 3 → ∀ j, j < 3 → i ≠ j → pz i ≠ pz j := by decide
theorem pz_pz : ∀ i, i < 3 → pz (pz i) = i := by decide
theorem Disks3.perm {B : Nat} {b : Nat → Nat} {w : World} {L : Nat → Dk} {D : Nat → DiskS} (h : Disks3 B b w L D) (p : Nat → Nat) (hp : ∀ k, p k < 3) (hi : ∀ i, i < 3 → ∀ j, j < 3 → i ≠ j → p i ≠ p j) : Disks3 B (fun k => b (p k)) w (fun k => L (p k)) (fun k => D (p k)) :=
  ⟨fun k _ => h.d _ (hp k), fun k _ => h.eq _ (hp k), fun k _ => h.low _ (hp k), fun i j hi' hj' hij => h.ap _ _ (hp i) (hp j) (hi i hi' j hj' hij)⟩
theorem Disks3.asb {B : Nat} {b b' : Nat → Nat} {w : World} {L : Nat → Dk} {D : Nat → DiskS} (h : Disks3 B b w L D) (e : ∀ k, k < 3 → b k = b' k) : Disks3 B b' w L D := ⟨h.d, fun k hk => (h.eq k hk).trans (e k hk), h.low, h.ap⟩
theorem df_perm {L : Nat → Dk} {p : Nat → Nat} (hp : ∀ k, p k < 3) {x : Nat} (h : DF (fun k => L (p k)) x) : DF L x := by
  obtain ⟨k, _, hx⟩ := h
  exact ⟨p k, hp k, hx⟩
/-- a trio's own quilt stays, whatever is done to its disks. -/
theorem PreT.left {P : Nat → Prop} {B : Nat} {b : Nat → Nat} {w wz : World} {tb : Nat} {L L2 : Nat → Dk} {D D2 : Nat → DiskS} {lb sb : Nat → Nat} {rv : Nat → Value} {sp : Nat → Option Addr} {v : Value} {q : Quilt} (h : PreT P B b w tb L D lb sb rv sp v q) (hs : Steps (DF L) w wz (DF L2)) (hd : Disks3 B b wz L2 D2) :
    PreT (fun _ => False) B b wz tb L2 D2 (fun k => (L2 k).b) (fun k => (L2 k).b) (fun _ => .slice none 0 0) sp v q := by
  have ef : ∀ k x, stF (L2 k) (L2 k).b (L2 k).b x → (L2 k).foot x := fun k x hx => by
    rcases hx with hx | hx | hx
    · exact hx
    · rw [hx]; exact Or.inl rfl
    · rw [hx]; exact Or.inl rfl
  have hnd : ¬ DF L tb := fun hx => by
    obtain ⟨k, hk, hx⟩ := hx
    exact h.nt k hk (Or.inl hx)
  have hv : far (DF L) v := fun a n c e hn hx => by
    obtain ⟨k, hk, hx⟩ := hx
    exact h.qf k hk a n c e hn (Or.inl hx)
  refine ⟨by rw [hs.off.block _ h.tlt hnd]; exact h.box, hd, fun k _ hp => hp.elim, fun k hk x hx => ⟨hd.lt hk (ef k x hx), hd.low k hk x (ef k x hx)⟩, fun i j hi hj hij x hx hx' => hd.ap i j hi hj hij x (ef i x hx) (ef j x hx'), fun i j _ _ _ a n c e => (by cases e), fun k _ a n c e => (by cases e), fun k hk hx => ?_, fun k _ a n c e => (by cases e), h.tB, (RdF.off (F := DF L) ⟨h.qv, hv⟩ hs.off).rd, fun k hk => ?_, h.qt, fun k _ a n c e => (by cases e), h.vB⟩
  · rcases hs.grow _ ⟨k, hk, ef k _ hx⟩ with h1 | h1
    · exact hnd h1
    · have := h.tlt; omega
  · exact far_grow hv (rd_lt h.qv (by decide)) (fun x hx => hs.grow x ⟨k, hk, ef k x hx⟩)
set_option maxRecDepth 100000 in
set_option maxHeartbeats 16000000 in
theorem law_TopOrder (va : Value) (avs : List ActV) (al : List Act) (which : Int) (vt : Value) (lt : List ByteArray) (w : World) (hav : ActVs w va avs) (haa : IsActs w avs al) (hvt : Texts w vt lt) (hak : ∀ a ∈ al, a.ok) (_ : (Lit.int .i64 which).wf = true) (hot : ∀ s ∈ lt, s.size ≤ maxLen) (hg : GlobI w) :
    Calls Tryz.prog 8 #[va, .int .i64 which, vt] w fun e w' => e = .returned (.bool true) ∧ Below w.heap.size w w' := by
  have HVT := Lib.hid hvt
  have HOT := Lib.hid hot
  obtain ⟨to_, tc, rfl, htc, htm⟩ := hvt.parts
  clear hvt hot
  have CW := Lib.hid (top_works w hg)
  obtain ⟨vo, vc, rfl, hvc, hvm⟩ := hav.parts
  have CP := Lib.hid fun W hb => top_played (.slice vo avs.length vc) avs al W (hg.below hb) (hav.below hb) (haa.below hb) hak
  have HG := Lib.hid hg
  clear hg hav haa hak
  go_enter Tryz.func8, Tryz.ntmps8
  go_wp2_with fail
  refine CW.out.mono ?_
  rintro e w1 ⟨rfl, hb1⟩
  have HB1 := Lib.hid hb1
  have CP1 := Lib.hid (CP.out w1 hb1)
  clear hb1
  go_wp2_with fail
  refine CP1.out.mono ?_
  rintro e w2 (⟨hl, ⟨p0, p1, p2, rfl⟩, hb2⟩ | ⟨hl, B, b, tb, L, D, S, lb, sb, rv, v, rfl, htr, hB, hb2⟩)
  · have HB2 := Lib.hid (two HB1.out (two hb2 (below_alloc w2 (.cells #[.pointer p0, .pointer p1, .pointer p2] 25))))
    clear hb2
    go_wp2_with fail
    go_ret
    exact ⟨rfl, HB2.out⟩
  · have HB2 := Lib.hid (two HB1.out hb2)
    obtain ⟨W3, hW3⟩ : ∃ W3, W3 = w2.alloc (.cells #[.pointer (some ⟨b 0, 0, none⟩), .pointer (some ⟨b 1, 0, none⟩), .pointer (some ⟨b 2, 0, none⟩)] 25) := ⟨_, rfl⟩
    have hb23 : Below w2.heap.size w2 W3 := by rw [hW3]; exact below_alloc _ _
    have HW3 := Lib.hid hW3
    have HB23 := Lib.hid hb23
    have hbx : W3.heap[w2.heap.size]? = some (.cells #[.pointer (some ⟨b 0, 0, none⟩), .pointer (some ⟨b 1, 0, none⟩), .pointer (some ⟨b 2, 0, none⟩)] 25 (0, 0)) := by rw [hW3]; show (w2.heap.push _)[w2.heap.size]? = _; simp
    have HBX := Lib.hid hbx
    have HZ3 : Hid (W3.heap.size = w2.heap.size + 1) := Lib.hid (by rw [hW3]; simp)
    have hbw3 := two HB1.out (two hb2 hb23)
    have hz1 := HB1.out.size
    obtain ⟨X, hXs, hXg, hXw, hX0⟩ := cut_base hbw3 (B := B) (by omega) (htr.below hb23).lo HG.out
    obtain ⟨q, hq⟩ : ∃ q, q = grownQ al := ⟨_, rfl⟩
    rw [← hq] at htr
    have HTR : Hid (TrioQ 60 X.heap.size b W3 tb q L D S lb sb rv v) := Lib.hid (by rw [hXs]; exact htr.below hb23)
    have HTL : Hid (∀ x, TF tb L lb sb x → x < w2.heap.size) := Lib.hid (fun x hx => (htr.lt hx).1)
    have HXG := Lib.hid hXg
    have HX3 := Lib.hid hXw
    have HX0 := Lib.hid hX0
    have CQ := Lib.hid (trio_Quilt HTR.out.pre HTR.out.few)
    obtain ⟨y0, y1, y2, yf⟩ := arr3_cells hbx
    clear hW3 hb23 hbx hbw3 hz1 hXs hXg hXw hX0 htr hB hq
    have HVT3 := Lib.hid (HVT.out.below (two HB2.out HB23.out))
    have CFW := Lib.hid (top_fewTexts (.slice to_ lt.length tc) lt W3 HVT3.out HOT.out)
    go_wp2_with fail
    rw [← HW3.out]
    refine CFW.out.mono ?_
    rintro e w3 ⟨rfl, hw3⟩
    rw [hw3]
    clear hw3
    by_cases hfw : fewT lt = true
    rotate_left
    · rw [Bool.not_eq_true] at hfw
      rw [hfw]
      clear hfw
      go_wp2_with fail
      go_ret
      exact ⟨rfl, two HB2.out HB23.out⟩
    rw [hfw]
    obtain ⟨hft1, hft2⟩ := fewT_yes hfw
    have HFT := Lib.hid (And.intro hft1 hft2)
    clear hfw hft1 hft2
    go_wp2_with fail
    refine CQ.out.mono ?_
    rintro e w4 ⟨qv, rfl, ⟨v4, rfl, hf4, hfr4⟩, hb4⟩
    obtain ⟨ao4, ac4, rfl, hac4, hac4'⟩ := hf4.parts
    obtain ⟨W5, hW5⟩ : ∃ W5, W5 = w4.alloc (.cells #[.slice ao4 q.files.length ac4, .int .i64 q.turn] 31) := ⟨_, rfl⟩
    have hb45 : Below w4.heap.size w4 W5 := by rw [hW5]; exact below_alloc _ _
    have HW5 := Lib.hid hW5
    have HF5 : Hid (Files W5 (.slice ao4 q.files.length ac4) q.files ∧ Fresh W3.heap.size (.slice ao4 q.files.length ac4)) := Lib.hid ⟨hf4.below hb45, hfr4⟩
    have HQX : Hid (W5.heap[w4.heap.size]? = some (.cells #[.slice ao4 q.files.length ac4, .int .i64 q.turn] 31 (0, 0))) := Lib.hid (by rw [hW5]; show (w4.heap.push _)[w4.heap.size]? = _; simp)
    have HB35 := Lib.hid (two hb4 hb45)
    have HZ4 : Hid (W3.heap.size ≤ w4.heap.size ∧ W5.heap.size = w4.heap.size + 1) := Lib.hid ⟨hb4.size, by rw [hW5]; simp⟩
    have HT5 := Lib.hid (HTR.out.below (two hb4 hb45))
    have HX5 := Lib.hid (two HX3.out (two hb4 hb45))
    have HDX5 : Hid (W5.heap[w2.heap.size]? = some (.cells #[.pointer (some ⟨b 0, 0, none⟩), .pointer (some ⟨b 1, 0, none⟩), .pointer (some ⟨b 2, 0, none⟩)] 25 (0, 0))) := Lib.hid (by rw [(two hb4 hb45).block _ (by rw [HZ3.out]; omega)]; exact HBX.out)
    obtain ⟨y0, y1, y2, yf⟩ := arr3_cells HDX5.out
    have s0 : W5.cell? ⟨w4.heap.size, 0, none⟩ = some (.slice ao4 q.files.length ac4) := by simp [World.cell?, HQX.out]
    have s1 : W5.cell? ⟨w4.heap.size, 1, none⟩ = some (.int .i64 q.turn) := by simp [World.cell?, HQX.out]
    clear hf4 hfr4 hb4 hb45
    have HFAR : Hid (∀ k, k < 3 → RdF (L k).foot 1 strCells W5 (.slice to_ lt.length tc) lt) := Lib.hid (fun k hk => ⟨HVT3.out.below HB35.out, fun a n c e hn hx => by
      have h1 := HT5.out.pre.ds.low k hk _ hx
      have h2 := HX0.out.size
      exact rd_lt HVT.out (by decide) a n c e hn (by omega)⟩)
    obtain ⟨m1, hm1, _⟩ := and1023T which
    obtain ⟨k, hk, hk2⟩ := rem3T m1
    rw [hW5] at y0 y1 y2 s0 s1
    clear hW5
    obtain rfl | rfl | rfl : k = 0 ∨ k = 1 ∨ k = 2 := by omega
    · have hk3 : (m1 : Int) % 3 = 0 := hk2
      have CSP := top_spoil (L 0) (D 0) 0 (.slice to_ lt.length tc) lt W5 (HT5.out.pre.ds.d 0 (by decide)) (HT5.out.has 0 (by decide)).sound (by omega) (HFAR.out 0 (by decide)) HFT.out.1 HFT.out.2
      rw [HT5.out.pre.ds.eq 0 (by decide)] at CSP
      have HCSP := Lib.hid CSP
      obtain ⟨_, hsn, _⟩ := spoil_flush (HT5.out.has 0 (by decide)).sound 0 lt HFT.out.2
      have HSN := Lib.hid hsn
      clear CSP hsn
      clear hk2
      go_wp2_with fail
      rw [← HW5.out]
      refine HCSP.out.mono ?_
      rintro e w6 ⟨rfl, ht6⟩
      clear y0 y1 y2 s0 s1 yf
      obtain ⟨L', hd6, ho6, hg6, hb6⟩ := HT5.out.pre.ds.turn (k := 0) (by decide) HX5.out.size ht6
      have hst6 := steps_disk (L := L) (k := 0) (by decide) ho6 hg6
      obtain ⟨L6, hL6⟩ : ∃ L6, L6 = upd L 0 L' := ⟨_, rfl⟩
      obtain ⟨D6, hD6⟩ : ∃ D6, D6 = upd D 0 (spoilD 0 lt (D 0)) := ⟨_, rfl⟩
      rw [← hL6] at hst6 hd6
      rw [← hD6] at hd6
      have HH6 : Hid (∀ i, i < 3 → i ≠ 0 → HasQ (D6 i) (S i) q) := Lib.hid (fun i hi hne => by rw [hD6, upd_ne _ _ hne]; exact HT5.out.has i hi)
      have HS6 : Hid (∀ i, i < 3 → Sound (D6 i)) := Lib.hid (fun i hi => by
        by_cases e : i = 0
        · rw [e, hD6, upd_same]; exact HSN.out
        · exact (HH6.out i hi e).sound)
      have HX6 := Lib.hid (HX5.out.trans hb6)
      have HST6 := Lib.hid hst6
      have HD6S := Lib.hid hd6
      have HDX6 : Hid (w6.heap[w2.heap.size]? = some (.cells #[.pointer (some ⟨b 0, 0, none⟩), .pointer (some ⟨b 1, 0, none⟩), .pointer (some ⟨b 2, 0, none⟩)] 25 (0, 0))) := Lib.hid ((hst6.keep (Array.getElem?_eq_some_iff.1 HDX5.out).1 (fun hx => by have := HTL.out _ (df_tf (tb := tb) (lb := lb) (sb := sb) hx); omega)).1.trans HDX5.out)
      obtain ⟨y0, y1, y2, yf⟩ := arr3_cells HDX6.out
      clear hd6 ho6 hg6 hb6 hst6 hL6 hD6 ht6
      have HNL : Hid (∀ y, w2.heap.size ≤ y → ¬ DF L y) := Lib.hid (fun y hy hx => by have := HTL.out _ (df_tf (tb := tb) (lb := lb) (sb := sb) hx); omega)
      have HND6 := Lib.hid (HST6.out.keep (Array.getElem?_eq_some_iff.1 HDX5.out).1 (HNL.out _ (Nat.le_refl _))).2.1
      have hpne : ∀ i, i < 3 → i ≠ 1 → px i ≠ 0 := by decide
      obtain ⟨hv1, hv2, hv3, _⟩ := most_right (D := fun k => D6 (px k)) (q := q) (k := 1) (by decide) (fun i hi hne => (HH6.out (px i) (px_lt i) (hpne i hi hne)).copyC)
      have CO := trio_Open X (fun k => b (px k)) (fun k => L6 (px k)) (fun k => D6 (px k)) q w6 (HD6S.out.perm px px_lt px_inj) (fun k _ => HS6.out _ (px_lt k)) HXG.out HX6.out hv1 hv2 (fault_good HT5.out.good)
      rw [show px 0 = 2 from rfl, show px 1 = 0 from rfl, show px 2 = 1 from rfl] at CO
      obtain ⟨nn, hnn⟩ : ∃ nn, nn = (wrongs (trioC (fun k => D6 (px k))) q).length := ⟨_, rfl⟩
      rw [← hnn] at CO hv3
      have hv3' : (nn : Int) ≤ 1 := by omega
      have HCO := Lib.hid CO
      obtain ⟨y0, y1, y2, yf⟩ := arr3_cells HDX6.out
      clear CO hv1 hv2 hpne hnn
      go_wp2_with fail
      refine HCO.out.mono ?_
      rintro e w7 ⟨tb7, L7, D7, lb7, sb7, rv7, sp7, v7, rfl, ho7, _, hs7⟩
      have HP7 := Lib.hid ho7.pre
      have HX7 := Lib.hid ho7.low
      have HC7 : Hid (∀ i, i < 3 → copyC (D7 i) = ⟨true, q⟩ ∧ Sound (D7 i)) := Lib.hid (fun i hi => by
        by_cases e : copyC (D6 (px i)) = ⟨true, q⟩
        · rw [ho7.right i hi e]; exact ⟨e, HS6.out _ (px_lt i)⟩
        · obtain ⟨S', h1, _⟩ := ho7.laid i hi e
          exact ⟨h1.copyC, h1.sound⟩)
      have HST7 : Hid (Steps (DF L) W5 w7 (DF L7)) := Lib.hid (HST6.out.trans (hs7.mono (fun x hx => df_perm px_lt hx) (fun x hx => df_tf hx)))
      have HDX7 : Hid (w7.heap[w2.heap.size]? = some (.cells #[.pointer (some ⟨b 0, 0, none⟩), .pointer (some ⟨b 1, 0, none⟩), .pointer (some ⟨b 2, 0, none⟩)] 25 (0, 0))) := Lib.hid ((HST7.out.keep (Array.getElem?_eq_some_iff.1 HDX5.out).1 (HNL.out _ (Nat.le_refl _))).1.trans HDX5.out)
      obtain ⟨ha1, ha2, ha3⟩ := all_right (D := fun k => D7 (pz k)) (q := q) (fun i hi => (HC7.out (pz i) (pz_lt i)).1)
      have CO2 := trio_Open X (fun k => b (px (pz k))) (fun k => L7 (pz k)) (fun k => D7 (pz k)) q w7 (HP7.out.ds.perm pz pz_lt pz_inj) (fun k _ => (HC7.out _ (pz_lt k)).2) HXG.out HX7.out ha1 ha2 (fault_good HT5.out.good)
      rw [show px (pz 0) = 1 from rfl, show px (pz 1) = 0 from rfl, show px (pz 2) = 2 from rfl, ha3] at CO2
      have HCO2 := Lib.hid CO2
      clear y0 y1 y2 yf
      obtain ⟨y0, y1, y2, yf⟩ := arr3_cells HDX7.out
      clear ho7 hs7 ha1 ha2 ha3 CO2
      go_wp2_with fail
      refine HCO2.out.mono ?_
      rintro e wz ⟨tb8, L8, D8, lb8, sb8, rv8, sp8, v8, rfl, ho8, _, hs8⟩
      have hst8 : Steps (DF L7) w7 wz (DF (fun k => L8 (pz k))) := hs8.mono (fun x hx => df_perm pz_lt hx) (fun x hx => df_tf (df_perm pz_lt hx))
      have hdz := (ho8.pre.ds.perm pz pz_lt pz_inj).asb (b' := fun k => b (px k)) (fun k hk => by show b (px (pz (pz k))) = _; rw [pz_pz k hk])
      have HPX := Lib.hid (HP7.out.left hst8 hdz)
      have HPY := Lib.hid ho8.pre
      have hstz := HST7.out.trans hst8
      have hz3 := HZ3.out
      have hz4 := HZ4.out.1
      have HNB := Lib.hid ((hstz.keep (Array.getElem?_eq_some_iff.1 HQX.out).1 (HNL.out _ (by omega))).1.trans HQX.out)
      have HFZ : Hid (Files wz (.slice ao4 q.files.length ac4) q.files) := Lib.hid (RdF.off (F := DF L) ⟨HF5.out.1, fresh_far HF5.out.2 (fun x hx => by have := HTL.out _ (df_tf (tb := tb) (lb := lb) (sb := sb) hx); omega)⟩ hstz.off).rd
      have HBZ : Hid (Below w.heap.size w wz) := Lib.hid (two HX0.out ho8.low)
      have CQX : Hid (∀ W, Below wz.heap.size wz W → Calls Tryz.prog 11 #[.pointer (some ⟨tb7, 0, none⟩)] W fun e w' => ∃ qv, e = .returned qv ∧ QuiltsF W.heap.size w' qv q ∧ Below W.heap.size W w') := Lib.hid (fun W hW => trio_Quilt (HPX.out.below hW) HT5.out.few)
      have CQY : Hid (∀ W, Below wz.heap.size wz W → Calls Tryz.prog 11 #[.pointer (some ⟨tb8, 0, none⟩)] W fun e w' => ∃ qv, e = .returned qv ∧ QuiltsF W.heap.size w' qv q ∧ Below W.heap.size W w') := Lib.hid (fun W hW => trio_Quilt (HPY.out.below hW) HT5.out.few)
      have CSZ : Hid (∀ W v8, Below wz.heap.size wz W → Files W v8 q.files → Calls Tryz.prog 14 #[.agg #[v8, .int .i64 q.turn], .agg #[.slice ao4 q.files.length ac4, .int .i64 q.turn]] W fun e w' => e = .returned (.bool true) ∧ Below W.heap.size W w') := Lib.hid (fun W v8 hW h8 => by
        have := ref_SameQuilt _ _ q q W ⟨_, rfl, h8⟩ ⟨_, rfl, HFZ.out.below hW⟩
        rw [decide_eq_true rfl] at this
        exact this)
      have HKZ : Hid (∀ W, Below wz.heap.size wz W → W.cell? ⟨w4.heap.size, 0, none⟩ = some (.slice ao4 q.files.length ac4) ∧ W.cell? ⟨w4.heap.size, 1, none⟩ = some (.int .i64 q.turn)) := Lib.hid (fun W hW => ⟨cell_on' hW (by simp [World.cell?, HNB.out]), cell_on' hW (by simp [World.cell?, HNB.out])⟩)
      clear ho8 hs8 hst8 hdz hstz hz3 hz4 y0 y1 y2 yf
      go_wp2_with fail
      go_region_held3 (fun W => W.cell? ⟨w4.heap.size, 0, none⟩ = some (.slice ao4 q.files.length ac4) ∧ W.cell? ⟨w4.heap.size, 1, none⟩ = some (.int .i64 q.turn))
        (first
          | exact HKZ.out _ (Below.refl _ _).drew
          | exact HKZ.out _ (HBY4 : Hid _).out
          | exact HKZ.out _ (HBY3 : Hid _).out
          | exact HKZ.out _ (HBY2 : Hid _).out
          | exact HKZ.out _ (HBY1 : Hid _).out)
        (first
          | (go_at_call 11; refine (CQY.out _ (HBY2 : Hid _).out).mono ?_; rintro e y3 ⟨q9, rfl, ⟨v9, rfl, hf9, _⟩, hb9⟩; obtain ⟨ao9, ac9, rfl, _, _⟩ := hf9.parts; have HBY3 : Hid (Below wz.heap.size wz y3) := Lib.hid (two (HBY2 : Hid _).out hb9); have HF9 := Lib.hid hf9; clear hf9 hb9)
          | (go_at_call 11; refine (CQX.out _ (Below.refl _ _).drew).mono ?_; rintro e y1 ⟨q8, rfl, ⟨v8, rfl, hf8, _⟩, hb8⟩; obtain ⟨ao8, ac8, rfl, _, _⟩ := hf8.parts; have HBY1 : Hid (Below wz.heap.size wz y1) := Lib.hid (two (Below.refl _ _).drew hb8); have HF8 := Lib.hid hf8; clear hf8 hb8)
          | (go_at_call 14; refine (CSZ.out _ _ (HBY3 : Hid _).out (HF9 : Hid _).out).mono ?_; rintro e y4 ⟨rfl, hb9⟩; have HBY4 : Hid (Below wz.heap.size wz y4) := Lib.hid (two (HBY3 : Hid _).out hb9); clear hb9)
          | (go_at_call 14; refine (CSZ.out _ _ (HBY1 : Hid _).out (HF8 : Hid _).out).mono ?_; rintro e y2 ⟨rfl, hb9⟩; have HBY2 : Hid (Below wz.heap.size wz y2) := Lib.hid (two (HBY1 : Hid _).out hb9); clear hb9))
      all_goals
        go_wp2_with fail
        go_ret
        exact ⟨rfl, two HBZ.out (HBY4 : Hid _).out⟩
    · have hk3 : (m1 : Int) % 3 = 1 := hk2
      have CSP := top_spoil (L 1) (D 1) 0 (.slice to_ lt.length tc) lt W5 (HT5.out.pre.ds.d 1 (by decide)) (HT5.out.has 1 (by decide)).sound (by omega) (HFAR.out 1 (by decide)) HFT.out.1 HFT.out.2
      rw [HT5.out.pre.ds.eq 1 (by decide)] at CSP
      have HCSP := Lib.hid CSP
      obtain ⟨_, hsn, _⟩ := spoil_flush (HT5.out.has 1 (by decide)).sound 0 lt HFT.out.2
      have HSN := Lib.hid hsn
      clear CSP hsn
      clear hk2
      go_wp2_with fail
      rw [← HW5.out]
      refine HCSP.out.mono ?_
      rintro e w6 ⟨rfl, ht6⟩
      clear y0 y1 y2 s0 s1 yf
      obtain ⟨L', hd6, ho6, hg6, hb6⟩ := HT5.out.pre.ds.turn (k := 1) (by decide) HX5.out.size ht6
      have hst6 := steps_disk (L := L) (k := 1) (by decide) ho6 hg6
      obtain ⟨L6, hL6⟩ : ∃ L6, L6 = upd L 1 L' := ⟨_, rfl⟩
      obtain ⟨D6, hD6⟩ : ∃ D6, D6 = upd D 1 (spoilD 0 lt (D 1)) := ⟨_, rfl⟩
      rw [← hL6] at hst6 hd6
      rw [← hD6] at hd6
      have HH6 : Hid (∀ i, i < 3 → i ≠ 1 → HasQ (D6 i) (S i) q) := Lib.hid (fun i hi hne => by rw [hD6, upd_ne _ _ hne]; exact HT5.out.has i hi)
      have HS6 : Hid (∀ i, i < 3 → Sound (D6 i)) := Lib.hid (fun i hi => by
        by_cases e : i = 1
        · rw [e, hD6, upd_same]; exact HSN.out
        · exact (HH6.out i hi e).sound)
      have HX6 := Lib.hid (HX5.out.trans hb6)
      have HST6 := Lib.hid hst6
      have HD6S := Lib.hid hd6
      have HDX6 : Hid (w6.heap[w2.heap.size]? = some (.cells #[.pointer (some ⟨b 0, 0, none⟩), .pointer (some ⟨b 1, 0, none⟩), .pointer (some ⟨b 2, 0, none⟩)] 25 (0, 0))) := Lib.hid ((hst6.keep (Array.getElem?_eq_some_iff.1 HDX5.out).1 (fun hx => by have := HTL.out _ (df_tf (tb := tb) (lb := lb) (sb := sb) hx); omega)).1.trans HDX5.out)
      obtain ⟨y0, y1, y2, yf⟩ := arr3_cells HDX6.out
      clear hd6 ho6 hg6 hb6 hst6 hL6 hD6 ht6
      have HNL : Hid (∀ y, w2.heap.size ≤ y → ¬ DF L y) := Lib.hid (fun y hy hx => by have := HTL.out _ (df_tf (tb := tb) (lb := lb) (sb := sb) hx); omega)
      have HND6 := Lib.hid (HST6.out.keep (Array.getElem?_eq_some_iff.1 HDX5.out).1 (HNL.out _ (Nat.le_refl _))).2.1
      have hpne : ∀ i, i < 3 → i ≠ 2 → px i ≠ 1 := by decide
      obtain ⟨hv1, hv2, hv3, _⟩ := most_right (D := fun k => D6 (px k)) (q := q) (k := 2) (by decide) (fun i hi hne => (HH6.out (px i) (px_lt i) (hpne i hi hne)).copyC)
      have CO := trio_Open X (fun k => b (px k)) (fun k => L6 (px k)) (fun k => D6 (px k)) q w6 (HD6S.out.perm px px_lt px_inj) (fun k _ => HS6.out _ (px_lt k)) HXG.out HX6.out hv1 hv2 (fault_good HT5.out.good)
      rw [show px 0 = 2 from rfl, show px 1 = 0 from rfl, show px 2 = 1 from rfl] at CO
      obtain ⟨nn, hnn⟩ : ∃ nn, nn = (wrongs (trioC (fun k => D6 (px k))) q).length := ⟨_, rfl⟩
      rw [← hnn] at CO hv3
      have hv3' : (nn : Int) ≤ 1 := by omega
      have HCO := Lib.hid CO
      obtain ⟨y0, y1, y2, yf⟩ := arr3_cells HDX6.out
      clear CO hv1 hv2 hpne hnn
      go_wp2_with fail
      refine HCO.out.mono ?_
      rintro e w7 ⟨tb7, L7, D7, lb7, sb7, rv7, sp7, v7, rfl, ho7, _, hs7⟩
      have HP7 := Lib.hid ho7.pre
      have HX7 := Lib.hid ho7.low
      have HC7 : Hid (∀ i, i < 3 → copyC (D7 i) = ⟨true, q⟩ ∧ Sound (D7 i)) := Lib.hid (fun i hi => by
        by_cases e : copyC (D6 (px i)) = ⟨true, q⟩
        · rw [ho7.right i hi e]; exact ⟨e, HS6.out _ (px_lt i)⟩
        · obtain ⟨S', h1, _⟩ := ho7.laid i hi e
          exact ⟨h1.copyC, h1.sound⟩)
      have HST7 : Hid (Steps (DF L) W5 w7 (DF L7)) := Lib.hid (HST6.out.trans (hs7.mono (fun x hx => df_perm px_lt hx) (fun x hx => df_tf hx)))
      have HDX7 : Hid (w7.heap[w2.heap.size]? = some (.cells #[.pointer (some ⟨b 0, 0, none⟩), .pointer (some ⟨b 1, 0, none⟩), .pointer (some ⟨b 2, 0, none⟩)] 25 (0, 0))) := Lib.hid ((HST7.out.keep (Array.getElem?_eq_some_iff.1 HDX5.out).1 (HNL.out _ (Nat.le_refl _))).1.trans HDX5.out)
      obtain ⟨ha1, ha2, ha3⟩ := all_right (D := fun k => D7 (pz k)) (q := q) (fun i hi => (HC7.out (pz i) (pz_lt i)).1)
      have CO2 := trio_Open X (fun k => b (px (pz k))) (fun k => L7 (pz k)) (fun k => D7 (pz k)) q w7 (HP7.out.ds.perm pz pz_lt pz_inj) (fun k _ => (HC7.out _ (pz_lt k)).2) HXG.out HX7.out ha1 ha2 (fault_good HT5.out.good)
      rw [show px (pz 0) = 1 from rfl, show px (pz 1) = 0 from rfl, show px (pz 2) = 2 from rfl, ha3] at CO2
      have HCO2 := Lib.hid CO2
      clear y0 y1 y2 yf
      obtain ⟨y0, y1, y2, yf⟩ := arr3_cells HDX7.out
      clear ho7 hs7 ha1 ha2 ha3 CO2
      go_wp2_with fail
      refine HCO2.out.mono ?_
      rintro e wz ⟨tb8, L8, D8, lb8, sb8, rv8, sp8, v8, rfl, ho8, _, hs8⟩
      have hst8 : Steps (DF L7) w7 wz (DF (fun k => L8 (pz k))) := hs8.mono (fun x hx => df_perm pz_lt hx) (fun x hx => df_tf (df_perm pz_lt hx))
      have hdz := (ho8.pre.ds.perm pz pz_lt pz_inj).asb (b' := fun k => b (px k)) (fun k hk => by show b (px (pz (pz k))) = _; rw [pz_pz k hk])
      have HPX := Lib.hid (HP7.out.left hst8 hdz)
      have HPY := Lib.hid ho8.pre
      have hstz := HST7.out.trans hst8
      have hz3 := HZ3.out
      have hz4 := HZ4.out.1
      have HNB := Lib.hid ((hstz.keep (Array.getElem?_eq_some_iff.1 HQX.out).1 (HNL.out _ (by omega))).1.trans HQX.out)
      have HFZ : Hid (Files wz (.slice ao4 q.files.length ac4) q.files) := Lib.hid (RdF.off (F := DF L) ⟨HF5.out.1, fresh_far HF5.out.2 (fun x hx => by have := HTL.out _ (df_tf (tb := tb) (lb := lb) (sb := sb) hx); omega)⟩ hstz.off).rd
      have HBZ : Hid (Below w.heap.size w wz) := Lib.hid (two HX0.out ho8.low)
      have CQX : Hid (∀ W, Below wz.heap.size wz W → Calls Tryz.prog 11 #[.pointer (some ⟨tb7, 0, none⟩)] W fun e w' => ∃ qv, e = .returned qv ∧ QuiltsF W.heap.size w' qv q ∧ Below W.heap.size W w') := Lib.hid (fun W hW => trio_Quilt (HPX.out.below hW) HT5.out.few)
      have CQY : Hid (∀ W, Below wz.heap.size wz W → Calls Tryz.prog 11 #[.pointer (some ⟨tb8, 0, none⟩)] W fun e w' => ∃ qv, e = .returned qv ∧ QuiltsF W.heap.size w' qv q ∧ Below W.heap.size W w') := Lib.hid (fun W hW => trio_Quilt (HPY.out.below hW) HT5.out.few)
      have CSZ : Hid (∀ W v8, Below wz.heap.size wz W → Files W v8 q.files → Calls Tryz.prog 14 #[.agg #[v8, .int .i64 q.turn], .agg #[.slice ao4 q.files.length ac4, .int .i64 q.turn]] W fun e w' => e = .returned (.bool true) ∧ Below W.heap.size W w') := Lib.hid (fun W v8 hW h8 => by
        have := ref_SameQuilt _ _ q q W ⟨_, rfl, h8⟩ ⟨_, rfl, HFZ.out.below hW⟩
        rw [decide_eq_true rfl] at this
        exact this)
      have HKZ : Hid (∀ W, Below wz.heap.size wz W → W.cell? ⟨w4.heap.size, 0, none⟩ = some (.slice ao4 q.files.length ac4) ∧ W.cell? ⟨w4.heap.size, 1, none⟩ = some (.int .i64 q.turn)) := Lib.hid (fun W hW => ⟨cell_on' hW (by simp [World.cell?, HNB.out]), cell_on' hW (by simp [World.cell?, HNB.out])⟩)
      clear ho8 hs8 hst8 hdz hstz hz3 hz4 y0 y1 y2 yf
      go_wp2_with fail
      go_region_held3 (fun W => W.cell? ⟨w4.heap.size, 0, none⟩ = some (.slice ao4 q.files.length ac4) ∧ W.cell? ⟨w4.heap.size, 1, none⟩ = some (.int .i64 q.turn))
        (first
          | exact HKZ.out _ (Below.refl _ _).drew
          | exact HKZ.out _ (HBY4 : Hid _).out
          | exact HKZ.out _ (HBY3 : Hid _).out
          | exact HKZ.out _ (HBY2 : Hid _).out
          | exact HKZ.out _ (HBY1 : Hid _).out)
        (first
          | (go_at_call 11; refine (CQY.out _ (HBY2 : Hid _).out).mono ?_; rintro e y3 ⟨q9, rfl, ⟨v9, rfl, hf9, _⟩, hb9⟩; obtain ⟨ao9, ac9, rfl, _, _⟩ := hf9.parts; have HBY3 : Hid (Below wz.heap.size wz y3) := Lib.hid (two (HBY2 : Hid _).out hb9); have HF9 := Lib.hid hf9; clear hf9 hb9)
          | (go_at_call 11; refine (CQX.out _ (Below.refl _ _).drew).mono ?_; rintro e y1 ⟨q8, rfl, ⟨v8, rfl, hf8, _⟩, hb8⟩; obtain ⟨ao8, ac8, rfl, _, _⟩ := hf8.parts; have HBY1 : Hid (Below wz.heap.size wz y1) := Lib.hid (two (Below.refl _ _).drew hb8); have HF8 := Lib.hid hf8; clear hf8 hb8)
          | (go_at_call 14; refine (CSZ.out _ _ (HBY3 : Hid _).out (HF9 : Hid _).out).mono ?_; rintro e y4 ⟨rfl, hb9⟩; have HBY4 : Hid (Below wz.heap.size wz y4) := Lib.hid (two (HBY3 : Hid _).out hb9); clear hb9)
          | (go_at_call 14; refine (CSZ.out _ _ (HBY1 : Hid _).out (HF8 : Hid _).out).mono ?_; rintro e y2 ⟨rfl, hb9⟩; have HBY2 : Hid (Below wz.heap.size wz y2) := Lib.hid (two (HBY1 : Hid _).out hb9); clear hb9))
      all_goals
        go_wp2_with fail
        go_ret
        exact ⟨rfl, two HBZ.out (HBY4 : Hid _).out⟩
    · have hk3 : (m1 : Int) % 3 = 2 := hk2
      have CSP := top_spoil (L 2) (D 2) 0 (.slice to_ lt.length tc) lt W5 (HT5.out.pre.ds.d 2 (by decide)) (HT5.out.has 2 (by decide)).sound (by omega) (HFAR.out 2 (by decide)) HFT.out.1 HFT.out.2
      rw [HT5.out.pre.ds.eq 2 (by decide)] at CSP
      have HCSP := Lib.hid CSP
      obtain ⟨_, hsn, _⟩ := spoil_flush (HT5.out.has 2 (by decide)).sound 0 lt HFT.out.2
      have HSN := Lib.hid hsn
      clear CSP hsn
      clear hk2
      go_wp2_with fail
      rw [← HW5.out]
      refine HCSP.out.mono ?_
      rintro e w6 ⟨rfl, ht6⟩
      clear y0 y1 y2 s0 s1 yf
      obtain ⟨L', hd6, ho6, hg6, hb6⟩ := HT5.out.pre.ds.turn (k := 2) (by decide) HX5.out.size ht6
      have hst6 := steps_disk (L := L) (k := 2) (by decide) ho6 hg6
      obtain ⟨L6, hL6⟩ : ∃ L6, L6 = upd L 2 L' := ⟨_, rfl⟩
      obtain ⟨D6, hD6⟩ : ∃ D6, D6 = upd D 2 (spoilD 0 lt (D 2)) := ⟨_, rfl⟩
      rw [← hL6] at hst6 hd6
      rw [← hD6] at hd6
      have HH6 : Hid (∀ i, i < 3 → i ≠ 2 → HasQ (D6 i) (S i) q) := Lib.hid (fun i hi hne => by rw [hD6, upd_ne _ _ hne]; exact HT5.out.has i hi)
      have HS6 : Hid (∀ i, i < 3 → Sound (D6 i)) := Lib.hid (fun i hi => by
        by_cases e : i = 2
        · rw [e, hD6, upd_same]; exact HSN.out
        · exact (HH6.out i hi e).sound)
      have HX6 := Lib.hid (HX5.out.trans hb6)
      have HST6 := Lib.hid hst6
      have HD6S := Lib.hid hd6
      have HDX6 : Hid (w6.heap[w2.heap.size]? = some (.cells #[.pointer (some ⟨b 0, 0, none⟩), .pointer (some ⟨b 1, 0, none⟩), .pointer (some ⟨b 2, 0, none⟩)] 25 (0, 0))) := Lib.hid ((hst6.keep (Array.getElem?_eq_some_iff.1 HDX5.out).1 (fun hx => by have := HTL.out _ (df_tf (tb := tb) (lb := lb) (sb := sb) hx); omega)).1.trans HDX5.out)
      obtain ⟨y0, y1, y2, yf⟩ := arr3_cells HDX6.out
      clear hd6 ho6 hg6 hb6 hst6 hL6 hD6 ht6
      have HNL : Hid (∀ y, w2.heap.size ≤ y → ¬ DF L y) := Lib.hid (fun y hy hx => by have := HTL.out _ (df_tf (tb := tb) (lb := lb) (sb := sb) hx); omega)
      have HND6 := Lib.hid (HST6.out.keep (Array.getElem?_eq_some_iff.1 HDX5.out).1 (HNL.out _ (Nat.le_refl _))).2.1
      have hpne : ∀ i, i < 3 → i ≠ 0 → px i ≠ 2 := by decide
      obtain ⟨hv1, hv2, hv3, _⟩ := most_right (D := fun k => D6 (px k)) (q := q) (k := 0) (by decide) (fun i hi hne => (HH6.out (px i) (px_lt i) (hpne i hi hne)).copyC)
      have CO := trio_Open X (fun k => b (px k)) (fun k => L6 (px k)) (fun k => D6 (px k)) q w6 (HD6S.out.perm px px_lt px_inj) (fun k _ => HS6.out _ (px_lt k)) HXG.out HX6.out hv1 hv2 (fault_good HT5.out.good)
      rw [show px 0 = 2 from rfl, show px 1 = 0 from rfl, show px 2 = 1 from rfl] at CO
      obtain ⟨nn, hnn⟩ : ∃ nn, nn = (wrongs (trioC (fun k => D6 (px k))) q).length := ⟨_, rfl⟩
      rw [← hnn] at CO hv3
      have hv3' : (nn : Int) ≤ 1 := by omega
      have HCO := Lib.hid CO
      obtain ⟨y0, y1, y2, yf⟩ := arr3_cells HDX6.out
      clear CO hv1 hv2 hpne hnn
      go_wp2_with fail
      refine HCO.out.mono ?_
      rintro e w7 ⟨tb7, L7, D7, lb7, sb7, rv7, sp7, v7, rfl, ho7, _, hs7⟩
      have HP7 := Lib.hid ho7.pre
      have HX7 := Lib.hid ho7.low
      have HC7 : Hid (∀ i, i < 3 → copyC (D7 i) = ⟨true, q⟩ ∧ Sound (D7 i)) := Lib.hid (fun i hi => by
        by_cases e : copyC (D6 (px i)) = ⟨true, q⟩
        · rw [ho7.right i hi e]; exact ⟨e, HS6.out _ (px_lt i)⟩
        · obtain ⟨S', h1, _⟩ := ho7.laid i hi e
          exact ⟨h1.copyC, h1.sound⟩)
      have HST7 : Hid (Steps (DF L) W5 w7 (DF L7)) := Lib.hid (HST6.out.trans (hs7.mono (fun x hx => df_perm px_lt hx) (fun x hx => df_tf hx)))
      have HDX7 : Hid (w7.heap[w2.heap.size]? = some (.cells #[.pointer (some ⟨b 0, 0, none⟩), .pointer (some ⟨b 1, 0, none⟩), .pointer (some ⟨b 2, 0, none⟩)] 25 (0, 0))) := Lib.hid ((HST7.out.keep (Array.getElem?_eq_some_iff.1 HDX5.out).1 (HNL.out _ (Nat.le_refl _))).1.trans HDX5.out)
      obtain ⟨ha1, ha2, ha3⟩ := all_right (D := fun k => D7 (pz k)) (q := q) (fun i hi => (HC7.out (pz i) (pz_lt i)).1)
      have CO2 := trio_Open X (fun k => b (px (pz k))) (fun k => L7 (pz k)) (fun k => D7 (pz k)) q w7 (HP7.out.ds.perm pz pz_lt pz_inj) (fun k _ => (HC7.out _ (pz_lt k)).2) HXG.out HX7.out ha1 ha2 (fault_good HT5.out.good)
      rw [show px (pz 0) = 1 from rfl, show px (pz 1) = 0 from rfl, show px (pz 2) = 2 from rfl, ha3] at CO2
      have HCO2 := Lib.hid CO2
      clear y0 y1 y2 yf
      obtain ⟨y0, y1, y2, yf⟩ := arr3_cells HDX7.out
      clear ho7 hs7 ha1 ha2 ha3 CO2
      go_wp2_with fail
      refine HCO2.out.mono ?_
      rintro e wz ⟨tb8, L8, D8, lb8, sb8, rv8, sp8, v8, rfl, ho8, _, hs8⟩
      have hst8 : Steps (DF L7) w7 wz (DF (fun k => L8 (pz k))) := hs8.mono (fun x hx => df_perm pz_lt hx) (fun x hx => df_tf (df_perm pz_lt hx))
      have hdz := (ho8.pre.ds.perm pz pz_lt pz_inj).asb (b' := fun k => b (px k)) (fun k hk => by show b (px (pz (pz k))) = _; rw [pz_pz k hk])
      have HPX := Lib.hid (HP7.out.left hst8 hdz)
      have HPY := Lib.hid ho8.pre
      have hstz := HST7.out.trans hst8
      have hz3 := HZ3.out
      have hz4 := HZ4.out.1
      have HNB := Lib.hid ((hstz.keep (Array.getElem?_eq_some_iff.1 HQX.out).1 (HNL.out _ (by omega))).1.trans HQX.out)
      have HFZ : Hid (Files wz (.slice ao4 q.files.length ac4) q.files) := Lib.hid (RdF.off (F := DF L) ⟨HF5.out.1, fresh_far HF5.out.2 (fun x hx => by have := HTL.out _ (df_tf (tb := tb) (lb := lb) (sb := sb) hx); omega)⟩ hstz.off).rd
      have HBZ : Hid (Below w.heap.size w wz) := Lib.hid (two HX0.out ho8.low)
      have CQX : Hid (∀ W, Below wz.heap.size wz W → Calls Tryz.prog 11 #[.pointer (some ⟨tb7, 0, none⟩)] W fun e w' => ∃ qv, e = .returned qv ∧ QuiltsF W.heap.size w' qv q ∧ Below W.heap.size W w') := Lib.hid (fun W hW => trio_Quilt (HPX.out.below hW) HT5.out.few)
      have CQY : Hid (∀ W, Below wz.heap.size wz W → Calls Tryz.prog 11 #[.pointer (some ⟨tb8, 0, none⟩)] W fun e w' => ∃ qv, e = .returned qv ∧ QuiltsF W.heap.size w' qv q ∧ Below W.heap.size W w') := Lib.hid (fun W hW => trio_Quilt (HPY.out.below hW) HT5.out.few)
      have CSZ : Hid (∀ W v8, Below wz.heap.size wz W → Files W v8 q.files → Calls Tryz.prog 14 #[.agg #[v8, .int .i64 q.turn], .agg #[.slice ao4 q.files.length ac4, .int .i64 q.turn]] W fun e w' => e = .returned (.bool true) ∧ Below W.heap.size W w') := Lib.hid (fun W v8 hW h8 => by
        have := ref_SameQuilt _ _ q q W ⟨_, rfl, h8⟩ ⟨_, rfl, HFZ.out.below hW⟩
        rw [decide_eq_true rfl] at this
        exact this)
      have HKZ : Hid (∀ W, Below wz.heap.size wz W → W.cell? ⟨w4.heap.size, 0, none⟩ = some (.slice ao4 q.files.length ac4) ∧ W.cell? ⟨w4.heap.size, 1, none⟩ = some (.int .i64 q.turn)) := Lib.hid (fun W hW => ⟨cell_on' hW (by simp [World.cell?, HNB.out]), cell_on' hW (by simp [World.cell?, HNB.out])⟩)
      clear ho8 hs8 hst8 hdz hstz hz3 hz4 y0 y1 y2 yf
      go_wp2_with fail
      go_region_held3 (fun W => W.cell? ⟨w4.heap.size, 0, none⟩ = some (.slice ao4 q.files.length ac4) ∧ W.cell? ⟨w4.heap.size, 1, none⟩ = some (.int .i64 q.turn))
        (first
          | exact HKZ.out _ (Below.refl _ _).drew
          | exact HKZ.out _ (HBY4 : Hid _).out
          | exact HKZ.out _ (HBY3 : Hid _).out
          | exact HKZ.out _ (HBY2 : Hid _).out
          | exact HKZ.out _ (HBY1 : Hid _).out)
        (first
          | (go_at_call 11; refine (CQY.out _ (HBY2 : Hid _).out).mono ?_; rintro e y3 ⟨q9, rfl, ⟨v9, rfl, hf9, _⟩, hb9⟩; obtain ⟨ao9, ac9, rfl, _, _⟩ := hf9.parts; have HBY3 : Hid (Below wz.heap.size wz y3) := Lib.hid (two (HBY2 : Hid _).out hb9); have HF9 := Lib.hid hf9; clear hf9 hb9)
          | (go_at_call 11; refine (CQX.out _ (Below.refl _ _).drew).mono ?_; rintro e y1 ⟨q8, rfl, ⟨v8, rfl, hf8, _⟩, hb8⟩; obtain ⟨ao8, ac8, rfl, _, _⟩ := hf8.parts; have HBY1 : Hid (Below wz.heap.size wz y1) := Lib.hid (two (Below.refl _ _).drew hb8); have HF8 := Lib.hid hf8; clear hf8 hb8)
          | (go_at_call 14; refine (CSZ.out _ _ (HBY3 : Hid _).out (HF9 : Hid _).out).mono ?_; rintro e y4 ⟨rfl, hb9⟩; have HBY4 : Hid (Below wz.heap.size wz y4) := Lib.hid (two (HBY3 : Hid _).out hb9); clear hb9)
          | (go_at_call 14; refine (CSZ.out _ _ (HBY1 : Hid _).out (HF8 : Hid _).out).mono ?_; rintro e y2 ⟨rfl, hb9⟩; have HBY2 : Hid (Below wz.heap.size wz y2) := Lib.hid (two (HBY1 : Hid _).out hb9); clear hb9))
      all_goals
        go_wp2_with fail
        go_ret
        exact ⟨rfl, two HBZ.out (HBY4 : Hid _).out⟩
end Go.Proofs.YtggpodlecljcbacGreatDoor
