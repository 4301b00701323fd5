/- The walk of the statement TopFalls. Printed by wip/mk_tf.py. -/
import Derived.Deep.RegionLaw
import Derived.Deep.CutRange
import Derived.Test.YtggpodlecljcbadGreatDoorMTr5
namespace Go.Proofs.YtggpodlecljcbadGreatDoor
set_option linter.unusedSimpArgs false
set_option linter.unusedVariables false
open Go.RowKit Go.Sort
theorem wf_i64T {n : Int} (h : (Lit.int .i64 n).wf = true) : -9223372036854775808 ≤ n ∧ n ≤ 9223372036854775807 := by
  have h1 : (decide (IntKind.min .i64 ≤ n) && decide (n ≤ IntKind.max .i64)) = true := h
  simp only [Bool.and_eq_true, decide_eq_true_eq] at h1
  exact h1
theorem wf_u64T {n : Int} (h : (Lit.int .u64 n).wf = true) : 0 ≤ n ∧ n < 18446744073709551616 := by
  have h1 : (decide (IntKind.min .u64 ≤ n) && decide (n ≤ IntKind.max .u64)) = true := h
  simp only [Bool.and_eq_true, decide_eq_true_eq] at h1
  have h2 : 0 ≤ n ∧ n ≤ 18446744073709551615 := h1
  omega
theorem rem3T (m : Nat) : ∃ k : Nat, k < 3 ∧ ((m : Int) % 3) = (k : Int) := ⟨m % 3, Nat.mod_lt _ (by decide), by omega⟩
theorem and31T (n : Int) : ∃ m : Nat, bits .and .i64 n 31 = (m : Int) ∧ m ≤ 31 := by
  refine ⟨(BitVec.ofInt 64 n &&& BitVec.ofInt 64 31).toNat, ?_, ?_⟩
  · show IntKind.i64.wrap ((BitVec.ofInt 64 n &&& BitVec.ofInt 64 31).toNat : Int) = _
    have h : (BitVec.ofInt 64 n &&& BitVec.ofInt 64 31).toNat ≤ 31 := by
      rw [BitVec.toNat_and]
      exact Nat.le_trans Nat.and_le_right (by decide)
    rw [IntKind.wrap_i64]
    omega
  · rw [BitVec.toNat_and]
    exact Nat.le_trans Nat.and_le_right (by decide)
theorem box_newT (w : World) (x y : Value) (t : TypeId) : (w.alloc (.cells #[x, y] t)).heap[w.heap.size]? = some (.cells #[x, y] t (0, 0)) := by
  show (w.heap.push _)[w.heap.size]? = _
  simp
set_option maxRecDepth 100000 in
set_option maxHeartbeats 16000000 in
theorem law_TopFalls (va : Value) (avs : List ActV) (al : List Act) (w : World) (hav : ActVs w va avs) (haa : IsActs w avs al) (hak : ∀ a ∈ al, a.ok ∧ (Lit.int .i64 a.n).wf = true ∧ (Lit.int .u64 a.k).wf = true) (hg : GlobI w) :
    Calls Tryz.prog 4 #[va] w fun e w' => e = .returned (.bool true) ∧ Below w.heap.size w w' := by
  obtain ⟨vo, vc, rfl, hvc, hvm⟩ := hav.parts
  have CW := Lib.hid (top_works w hg)
  have CL := Lib.hid fun W hb => law_LightActs (.slice vo avs.length vc) avs al 40 W (hav.below hb) (haa.below hb) (fun a h => (hak a h).1)
  have CT : Hid (∀ W, Below w.heap.size w W → _) := Lib.hid fun W hb => law_Three W (hg.below hb)
  have HG := Lib.hid hg
  have HAV := Lib.hid hav
  have HAA := Lib.hid haa
  have HAK := Lib.hid hak
  have HLE : Hid (avs.length = al.length) := Lib.hid haa.1
  clear hg hav haa hak
  go_enter Tryz.func4, Tryz.ntmps4
  go_wp2_with fail
  refine CW.out.mono ?_
  rintro e w1 ⟨rfl, hb1⟩
  have HB1 := Lib.hid hb1
  have CL1 := Lib.hid (CL.out w1 hb1)
  clear hb1
  go_wp2_with fail
  refine CL1.out.mono ?_
  rintro e w1' ⟨rfl, rfl⟩
  by_cases hla : lightActs al 40 = true
  rotate_left
  · rw [Bool.not_eq_true] at hla
    rw [hla]
    clear hla
    go_wp2_with fail
    go_ret
    exact ⟨rfl, HB1.out⟩
  have HL40 : Hid (avs.length ≤ 40) := Lib.hid (by
    unfold lightActs at hla
    simp only [Bool.and_eq_true, decide_eq_true_eq] at hla
    have := hla.1
    have := HLE.out
    omega)
  rw [hla]
  clear hla
  have CT1 := Lib.hid (CT.out w1 HB1.out)
  go_wp2_with fail
  refine CT1.out.mono ?_
  rintro e w2 ⟨B, b, tb, L, D, S, lb, sb, rv, v, rfl, htr, hB, hb2⟩
  have HB2 := Lib.hid (two HB1.out hb2)
  obtain ⟨W3, hW3⟩ : ∃ W3, W3 = w2.alloc (.cells #[.pointer (some ⟨b 0, 0, none⟩), .pointer (some ⟨b 1, 0, none⟩), .pointer (some ⟨b 2, 0, none⟩)] 29) := ⟨_, rfl⟩
  have hb23 : Below w2.heap.size w2 W3 := by rw [hW3]; exact below_alloc _ _
  have HW3 := Lib.hid hW3
  have HBX : Hid (W3.heap[w2.heap.size]? = some (.cells #[.pointer (some ⟨b 0, 0, none⟩), .pointer (some ⟨b 1, 0, none⟩), .pointer (some ⟨b 2, 0, none⟩)] 29 (0, 0))) := Lib.hid (by rw [hW3]; show (w2.heap.push _)[w2.heap.size]? = _; simp)
  have hbw3 := two HB1.out (two hb2 hb23)
  have hz1 := HB1.out.size
  obtain ⟨X, hXs, hXg, hXw, hX0⟩ := cut_base hbw3 (B := B) (by omega) (htr.below hb23).lo HG.out
  have HTR0 : Hid (TrioQ 2 X.heap.size b W3 tb ⟨[], 1⟩ L D S lb sb rv v) := Lib.hid (by rw [hXs]; exact htr.below hb23)
  have HTL : Hid (∀ x, TF tb L lb sb x → x < w2.heap.size) := Lib.hid (fun x hx => (htr.lt hx).1)
  have HXG := Lib.hid hXg
  have HX3 := Lib.hid hXw
  have HX0 := Lib.hid hX0
  clear hW3 hb23 hbw3 hz1 hXs hXg hXw hX0 htr hB hb2
  go_wp2_with fail
  rw [← HW3.out]
  go_loopw [5, 6] (fun tv iv wr => ∃ (j tb : Nat) (q : Quilt) (L : Nat → Dk) (D : Nat → DiskS) (S : Nat → StS) (lb sb : Nat → Nat) (rv : Nat → Value) (v : Value), j ≤ avs.length ∧ tv = .pointer (some ⟨tb, 0, none⟩) ∧ iv = .int .i64 j ∧ TrioQ (2 + j) X.heap.size b wr tb q L D S lb sb rv v ∧ (wr.heap[w2.heap.size]? = some (.cells #[.pointer (some ⟨b 0, 0, none⟩), .pointer (some ⟨b 1, 0, none⟩), .pointer (some ⟨b 2, 0, none⟩)] 29 (0, 0)) ∧ ¬ TF tb L lb sb w2.heap.size) ∧ Below X.heap.size X wr) (fun _ iv _ => avs.length - (intOf iv).toNat)
  case atStart => exact ⟨0, tb, ⟨[], 1⟩, L, D, S, lb, sb, rv, v, Nat.zero_le _, rfl, rfl, HTR0.out, ⟨HBX.out, fun hx => by have := HTL.out _ hx; omega⟩, HX3.out⟩
  case round =>
    clear HTR0 HTL HX3 HBX
    obtain ⟨wr0, h⟩ : ∃ wx : World, wx = wr := ⟨_, rfl⟩
    subst h
    obtain ⟨j, tb, q, L, D, S, lb, sb, rv, v, hj, rfl, rfl, htr, hdb, hxr⟩ := hrel
    have HTR := Lib.hid htr
    have HDB0 := Lib.hid hdb
    have HXW := Lib.hid hxr
    clear htr hdb hxr
    by_cases hlt : j < avs.length
    rotate_left
    · go_wp2_with fail
      go_ret
      exact ⟨rfl, two HX0.out HXW.out⟩
    obtain ⟨ba, oa, rfl, hlb, x0, x1, x2, x3, x4, x5⟩ := ActVs.cell HAV.out j hlt
    have hlt' : j < al.length := by rw [← HLE.out]; exact hlt
    have HXC : Hid (∀ W, Below X.heap.size X W → W.cell? ⟨ba, oa + j * 6, none⟩ = some (.string avs[j].kind) ∧ W.cell? ⟨ba, oa + j * 6 + 1, none⟩ = some (.string avs[j].s) ∧ W.cell? ⟨ba, oa + j * 6 + 2, none⟩ = some (.string avs[j].t) ∧ W.cell? ⟨ba, oa + j * 6 + 3, none⟩ = some (.int .i64 avs[j].n) ∧ W.cell? ⟨ba, oa + j * 6 + 4, none⟩ = some (.int .u64 avs[j].k) ∧ W.cell? ⟨ba, oa + j * 6 + 5, none⟩ = some (avs[j].cv)) := Lib.hid (fun W hb => by
      obtain ⟨kc, _⟩ := bcell (two HX0.out hb)
      exact ⟨(kc _ _ hlb).trans x0, (kc _ _ hlb).trans x1, (kc _ _ hlb).trans x2, (kc _ _ hlb).trans x3, (kc _ _ hlb).trans x4, (kc _ _ hlb).trans x5⟩)
    clear x0 x1 x2 x3 x4 x5
    have HIA : Hid (∀ W, Below X.heap.size X W → IsAct W avs[j] (al[j]'hlt')) := Lib.hid (fun W hb => (HAA.out.2 j hlt hlt').below (two HX0.out hb))
    have HAO := Lib.hid (HAK.out _ (List.getElem_mem hlt'))
    have hkn : 0 ≤ avs[j].k ∧ avs[j].k < 18446744073709551616 := by
      have h1 := (HAA.out.2 j hlt hlt').2.2.2.2.1
      rw [h1]
      exact wf_u64T HAO.out.2.2
    obtain ⟨hk1, hk2⟩ := hkn
    obtain ⟨p, hp⟩ : ∃ p, p = doAct q (al[j]'hlt') := ⟨_, rfl⟩
    have HP := Lib.hid hp
    have CQ := Lib.hid (trio_Quilt HTR.out.pre HTR.out.few)
    clear hp
    go_wp2_with fail
    refine CQ.out.mono ?_
    rintro e w4 ⟨qv, rfl, ⟨v4, rfl, hf4, hfr4⟩, hb4⟩
    obtain ⟨ao4, ac4, rfl, hac4, hac4'⟩ := hf4.parts
    obtain ⟨W5, hW5⟩ : ∃ W5, W5 = w4.alloc (.cells #[.slice ao4 q.files.length ac4, .int .i64 q.turn] 36) := ⟨_, rfl⟩
    have hb45 : Below w4.heap.size w4 W5 := by rw [hW5]; exact below_alloc _ _
    have HW5 := Lib.hid hW5
    have HF5 : Hid (Files W5 (.slice ao4 q.files.length ac4) q.files ∧ Fresh wr0.heap.size (.slice ao4 q.files.length ac4)) := Lib.hid ⟨hf4.below hb45, hfr4⟩
    have HQX : Hid (W5.heap[w4.heap.size]? = some (.cells #[.slice ao4 q.files.length ac4, .int .i64 q.turn] 36 (0, 0))) := Lib.hid (by rw [hW5]; exact box_newT _ _ _ _)
    have HB05 := Lib.hid (two hb4 hb45)
    have HZ4 : Hid (wr0.heap.size ≤ w4.heap.size ∧ W5.heap.size = w4.heap.size + 1) := Lib.hid ⟨hb4.size, by rw [hW5]; simp⟩
    have HSK : Hid (∀ W, Below W5.heap.size W5 W → (W.cell? ⟨w4.heap.size, 0, none⟩ = some (.slice ao4 q.files.length ac4) ∧ W.cell? ⟨w4.heap.size, 1, none⟩ = some (.int .i64 q.turn)) ∧ W.cell? ⟨ba, oa + j * 6, none⟩ = some (.string avs[j].kind) ∧ W.cell? ⟨ba, oa + j * 6 + 1, none⟩ = some (.string avs[j].s) ∧ W.cell? ⟨ba, oa + j * 6 + 2, none⟩ = some (.string avs[j].t) ∧ W.cell? ⟨ba, oa + j * 6 + 3, none⟩ = some (.int .i64 avs[j].n) ∧ W.cell? ⟨ba, oa + j * 6 + 4, none⟩ = some (.int .u64 avs[j].k) ∧ W.cell? ⟨ba, oa + j * 6 + 5, none⟩ = some (avs[j].cv)) := Lib.hid (fun W hb => ⟨⟨cell_on' hb (by simp [World.cell?, HQX.out]), cell_on' hb (by simp [World.cell?, HQX.out])⟩, HXC.out W (two HXW.out (two HB05.out hb))⟩)
    have CD := fun W (hb : Below W5.heap.size W5 W) => law_Do_f wr0.heap.size (.agg #[.slice ao4 q.files.length ac4, .int .i64 q.turn]) q avs[j] (al[j]'hlt') W (by have := HZ4.out; have := hb.size; omega) ⟨_, rfl, HF5.out.1.below hb, HF5.out.2⟩ HTR.out.good (HIA.out W (two HXW.out (two HB05.out hb))) HAO.out.1
    unfold RetQF ActV.val at CD
    rw [← HP.out] at CD
    replace CD := Lib.hid CD
    have ED := Lib.hid (Below.refl W5.heap.size W5).drew
    have XE : Hid (((W5.alloc (.cells #[.slice none 0 0, .int .i64 0] 36)).drew).heap[W5.heap.size]? = some (.cells #[.slice none 0 0, .int .i64 0] 36 (0, 0)) ∧ W5.heap.size < ((W5.alloc (.cells #[.slice none 0 0, .int .i64 0] 36)).drew).heap.size) := Lib.hid ⟨box_newT _ _ _ _, by show W5.heap.size < (W5.alloc (.cells #[.slice none 0 0, .int .i64 0] 36)).heap.size; simp⟩
    clear hW5 hf4 hfr4 hb4 hb45
    go_wp2_with fail
    rw [← HW5.out]
    go_cut [8, 9] from 37 to 45 (fun v8 v9 wx => ∃ (bx : Nat) (xo : Option Addr) (xc : Nat), v8 = .pointer (some ⟨bx, 0, none⟩) ∧ v9 = errV p.2 ∧ wx.heap[bx]? = some (.cells #[.slice xo p.1.files.length xc, .int .i64 p.1.turn] 36 (0, 0)) ∧ W5.heap.size ≤ bx ∧ Files wx (.slice xo p.1.files.length xc) p.1.files ∧ Fresh wr0.heap.size (.slice xo p.1.files.length xc) ∧ Below W5.heap.size W5 wx)
    case first =>
      go_region_held3 (fun W => (W.cell? ⟨w4.heap.size, 0, none⟩ = some (.slice ao4 q.files.length ac4) ∧ W.cell? ⟨w4.heap.size, 1, none⟩ = some (.int .i64 q.turn)) ∧ W.cell? ⟨ba, oa + j * 6, none⟩ = some (.string avs[j].kind) ∧ W.cell? ⟨ba, oa + j * 6 + 1, none⟩ = some (.string avs[j].s) ∧ W.cell? ⟨ba, oa + j * 6 + 2, none⟩ = some (.string avs[j].t) ∧ W.cell? ⟨ba, oa + j * 6 + 3, none⟩ = some (.int .i64 avs[j].n) ∧ W.cell? ⟨ba, oa + j * 6 + 4, none⟩ = some (.int .u64 avs[j].k) ∧ W.cell? ⟨ba, oa + j * 6 + 5, none⟩ = some (avs[j].cv))
        (first
          | exact HSK.out _ ED.out
          | exact HSK.out _ (HE1 : Hid _).out
          | exact HSK.out _ (two ED.out (below_alloc _ _))
          | exact HSK.out _ (two (HE1 : Hid _).out (below_alloc _ _))
          | exact HSK.out _ (((HE1 : Hid _).out.setCell (p := ⟨W5.heap.size, 0, none⟩) (Nat.le_refl _) _).setCell (p := ⟨W5.heap.size, 1, none⟩) (Nat.le_refl _) _))
        (first | (go_at_call 11; refine (CD.out _ (by first | exact ED.out | exact two ED.out (below_alloc _ _))).mono ?_; rintro e wA ⟨qx, rfl, ⟨vx, rfl, hfx, hfrx⟩, hba⟩; obtain ⟨xo, xc, rfl, _, _⟩ := hfx.parts; have HX := Lib.hid (And.intro hfx hfrx); have HE1 := Lib.hid (two (by first | exact ED.out | exact two ED.out (below_alloc _ _)) hba); (try (have XF : Hid (wA.heap[W5.heap.size]? = some (.cells #[.slice none 0 0, .int .i64 0] 36 (0, 0))) := Lib.hid ((hba.block _ XE.out.2).trans XE.out.1); have b0 : wA.cell? ⟨W5.heap.size, 0, none⟩ = some (.slice none 0 0) := (by simp [World.cell?, XF.out]); have b1 : wA.cell? ⟨W5.heap.size, 1, none⟩ = some (.int .i64 0) := (by simp [World.cell?, XF.out]); have b2 : ∀ o, wA.frozen? ⟨W5.heap.size, o, none⟩ = false := fun o => (by simp [World.frozen?, XF.out]))); clear hfx hfrx hba))
      all_goals
        go_wp2_with fail
        go_meet
        first
          | (exact ⟨wA.heap.size, xo, xc, rfl, rfl, box_newT _ _ _ _, HE1.out.size, HX.out.1.below (below_alloc _ _), HX.out.2, two HE1.out (below_alloc _ _)⟩)
          | (exact ⟨W5.heap.size, xo, xc, rfl, rfl, heap_set_self _ _ _ _ (heap_set_self _ _ _ _ XF.out), Nat.le_refl _, files_box (files_box HX.out.1 (noStr_box XF.out) 0 _) ((noStr_box XF.out).set 0 _ (files_not_str HX.out.1)) 1 _, HX.out.2, (HE1.out.setCell (p := ⟨W5.heap.size, 0, none⟩) (Nat.le_refl _) _).setCell (p := ⟨W5.heap.size, 1, none⟩) (Nat.le_refl _) _⟩)
    case rest =>
    obtain ⟨bx, xo, xc, rfl, rfl, hnx, hbl, hf7, hfr7, hb57⟩ := hcut
    obtain ⟨W7, h7⟩ : ∃ W7 : World, W7 = wc := ⟨_, rfl⟩
    subst h7
    have HNX := Lib.hid hnx
    have HBL := Lib.hid hbl
    have HF7 := Lib.hid (And.intro hf7 hfr7)
    have HB57 := Lib.hid hb57
    have HX7 := Lib.hid (two HXW.out (two HB05.out hb57))
    have HT7 := Lib.hid (HTR.out.below (two HB05.out hb57))
    have HQX7 : Hid (W7.heap[w4.heap.size]? = some (.cells #[.slice ao4 q.files.length ac4, .int .i64 q.turn] 36 (0, 0))) := Lib.hid (by rw [hb57.block _ (Array.getElem?_eq_some_iff.1 HQX.out).1]; exact HQX.out)
    have HDX7 : Hid (W7.heap[w2.heap.size]? = some (.cells #[.pointer (some ⟨b 0, 0, none⟩), .pointer (some ⟨b 1, 0, none⟩), .pointer (some ⟨b 2, 0, none⟩)] 29 (0, 0))) := Lib.hid (by rw [(two HB05.out hb57).block _ (Array.getElem?_eq_some_iff.1 HDB0.out.1).1]; exact HDB0.out.1)
    clear hnx hbl hf7 hfr7 hb57 CD ED XE HSK
    obtain ⟨m1, hm1, _⟩ := and1023T avs[j].n
    obtain ⟨m2, hm2, hm2'⟩ := and31T avs[j].n
    obtain ⟨k, hk, hkk⟩ := rem3T m1
    obtain ⟨y0, y1, y2, yf⟩ := arr3_cells HDX7.out
    have yk : W7.cell? ⟨w2.heap.size, k, none⟩ = some (.pointer (some ⟨b k, 0, none⟩)) := by
      obtain rfl | rfl | rfl : k = 0 ∨ k = 1 ∨ k = 2 := by omega
      · exact y0
      · exact y1
      · exact y2
    obtain ⟨x0, x1, x2, x3, x4, x5⟩ := HXC.out W7 HX7.out
    clear y0 y1 y2 x0 x1 x2 x4 x5
    have hk3 : (m1 : Int) % 3 = (k : Int) := hkk
    have hkI : (k : Int) < 3 := by omega
    have hkJ : (0 : Int) ≤ (k : Int) := by omega
    have CA := disk_Arm (L k) (D k) (m2 : Int) W7.drew ((HT7.out.below (Below.refl _ _).drew).pre.ds.d k hk) (by omega) (by omega)
    rw [HT7.out.pre.ds.eq k hk] at CA
    have HCA := Lib.hid CA
    clear CA hkk
    go_wp2_with fail
    go_cut [61] from 46 to 61 (fun s61 wx => s61 = .tuple #[] ∧ Stepped 68 72 W7.drew (L k) (armD (D k) (m2 : Int)) wx)
    case first =>
      obtain rfl | rfl | rfl : k = 0 ∨ k = 1 ∨ k = 2 := by omega
      · have hkz : (m1 : Int) % 3 = 0 := hk3
        have hkt : Int.tmod (m1 : Int) 3 = 0 := by rw [← hkz]; exact Int.tmod_eq_emod_of_nonneg (by omega)
        clear hk3
        go_region_with (first | (go_at_call 12; refine HCA.out.mono ?_; rintro e w8 ⟨rfl, hsp⟩; have HSP := Lib.hid hsp; clear hsp))
        all_goals
          go_wp2_with fail
          go_meet
          exact ⟨rfl, HSP.out⟩
      · have hkz : (m1 : Int) % 3 = 1 := hk3
        have hkt : Int.tmod (m1 : Int) 3 = 1 := by rw [← hkz]; exact Int.tmod_eq_emod_of_nonneg (by omega)
        clear hk3
        go_region_with (first | (go_at_call 12; refine HCA.out.mono ?_; rintro e w8 ⟨rfl, hsp⟩; have HSP := Lib.hid hsp; clear hsp))
        all_goals
          go_wp2_with fail
          go_meet
          exact ⟨rfl, HSP.out⟩
      · have hkz : (m1 : Int) % 3 = 2 := hk3
        have hkt : Int.tmod (m1 : Int) 3 = 2 := by rw [← hkz]; exact Int.tmod_eq_emod_of_nonneg (by omega)
        clear hk3
        go_region_with (first | (go_at_call 12; refine HCA.out.mono ?_; rintro e w8 ⟨rfl, hsp⟩; have HSP := Lib.hid hsp; clear hsp))
        all_goals
          go_wp2_with fail
          go_meet
          exact ⟨rfl, HSP.out⟩
    case rest =>
    obtain ⟨rfl, hsp⟩ := hcut
    obtain ⟨w8, h8⟩ : ∃ w8 : World, w8 = wc := ⟨_, rfl⟩
    subst h8
    have hm2b : (m2 : Int) ≤ 9223372036854775807 := by omega
    obtain ⟨hpa, hia8, hst8⟩ := (HT7.out.below (Below.refl _ _).drew).pre.armed (S := S) (fun k hk => (HT7.out.has k hk).i) (k := k) hk (HX7.out.drew).size hm2b hsp
    have hst8' : Steps (TF tb L lb sb) W7 w8 (TF tb L lb sb) := Steps.after (Below.refl _ _).drew hst8
    have hx8 : Below X.heap.size X w8 := HX7.out.trans (hst8'.off.below _ HX7.out.size (fun x hx => (HT7.out.lt hx).2))
    have hia9 := HIA.out w8 hx8
    have CTT := law_DoTrio X w8 b tb L (upd D k (armD (D k) m2)) lb sb rv v q S avs[j] (al[j]'hlt') hpa hia8 (fun k hk => by have := HT7.out.ep k hk; have := HL40.out; omega) HXG.out hx8 HT7.out.good hia9 HAO.out.1
    unfold ActV.val at CTT
    have HCT := Lib.hid CTT
    have HPA := Lib.hid (And.intro hpa hia8)
    have HX8 := Lib.hid hx8
    have HS8 := Lib.hid hst8'
    clear yk yf x3 hm1 hm2 hm2' hm2b hk3 hkI hkJ
    obtain ⟨x0, x1, x2, x3, x4, x5⟩ := HXC.out w8 hx8
    clear hsp hpa hia8 hst8 hst8' hx8 hia9 CTT hk
    go_wp2_with fail
    refine HCT.out.mono ?_
    rintro e w9 hr9
    obtain ⟨n, L9, D9, rfl, hf9⟩ := fell_of (m := 2 + j + 1) HPA.out.1 HPA.out.2 (fun k hk => by have := HT7.out.ep k hk; omega) (by have := HL40.out; omega) HX8.out HT7.out.good hr9
    rw [← HP.out] at hf9
    have HF9 := Lib.hid hf9
    have HS9 : Hid (Steps (TF tb L lb sb) W7 w9 (DF L9)) := Lib.hid (HS8.out.trans hf9.st)
    have hk9 := HS9.out.keep (Array.getElem?_eq_some_iff.1 HDX7.out).1 HDB0.out.2
    have HD9 : Hid (w9.heap[w2.heap.size]? = some (.cells #[.pointer (some ⟨b 0, 0, none⟩), .pointer (some ⟨b 1, 0, none⟩), .pointer (some ⟨b 2, 0, none⟩)] 29 (0, 0)) ∧ ¬ DF L9 w2.heap.size) := Lib.hid ⟨hk9.1.trans HDX7.out, hk9.2.1⟩
    clear hr9 hf9 hk9 x0 x1 x2 x3 x4 x5
    go_wp2_with fail
    go_loopw [11] (fun iv wr => ∃ (k : Nat) (keeps : Nat → Int) (LR : Nat → Dk), k ≤ 3 ∧ iv = .int .i64 k ∧ Disks3 X.heap.size b wr LR (fun i => if i < k then restartD (D9 i) (keeps i) else D9 i) ∧ Steps (DF L9) w9 wr (DF LR) ∧ Below X.heap.size X wr) (fun iv _ => 3 - (intOf iv).toNat)
    case atStart => exact ⟨0, fun _ => 0, L9, by omega, rfl, HF9.out.ds.as (fun k _ => by rw [if_neg (by omega)]), Steps.refl _ _, HF9.out.low⟩
    case round =>
      obtain ⟨k, keeps, LR, hk, rfl, hds, hst, hxr⟩ := hrel
      have HDR := Lib.hid hds
      have HSR := Lib.hid hst
      have HXR := Lib.hid hxr
      have HDBR : Hid (wr.heap[w2.heap.size]? = some (.cells #[.pointer (some ⟨b 0, 0, none⟩), .pointer (some ⟨b 1, 0, none⟩), .pointer (some ⟨b 2, 0, none⟩)] 29 (0, 0))) := Lib.hid ((hst.keep (Array.getElem?_eq_some_iff.1 HD9.out.1).1 HD9.out.2).1.trans HD9.out.1)
      obtain ⟨y0, y1, y2, yf⟩ := arr3_cells HDBR.out
      obtain ⟨x0, x1, x2, x3, x4, x5⟩ := HXC.out wr hxr
      clear hds hst hxr x0 x1 x2 x3 x5
      obtain rfl | rfl | rfl | rfl : k = 0 ∨ k = 1 ∨ k = 2 ∨ k = 3 := by omega
      · have hdj := (HDR.out.below (Below.refl _ _).drew).d 0 (by decide)
        rw [if_neg (by omega)] at hdj
        have CR : Hid (∀ Y : Int, 0 ≤ Y → Y < 18446744073709551616 → Calls Tryz.prog 14 #[.pointer (some ⟨b 0, 0, none⟩), .int .u64 Y] wr.drew fun e w' => e = .returned (.tuple #[]) ∧ Turned 68 72 wr.drew (LR 0) (restartD (D9 0) Y) w') := Lib.hid (fun Y h1 h2 => by
          have := disk_Restart (LR 0) (D9 0) Y wr.drew hdj (HF9.out.ok 0 (by decide)).1 h1 h2 (by have := (HF9.out.ok 0 (by decide)).2; omega)
          rw [HDR.out.eq 0 (by decide)] at this
          exact this)
        clear hdj
        rw [show ((0 : Nat) : Int) = 0 from rfl]
        have hwj : IntKind.i64.wrap 0 = 0 := by decide
        go_wp2_with fail
        go_region_with (first | (go_at_call 14; refine (CR.out _ (by first | omega | (simp; omega)) (by first | omega | (simp; omega))).mono ?_; rintro e wq ⟨rfl, ht⟩; have HTT : Hid (∃ Y : Int, Turned 68 72 wr.drew (LR 0) (restartD (D9 0) Y) wq) := Lib.hid ⟨_, ht⟩; clear ht))
        all_goals
          obtain ⟨Y, hty⟩ := HTT.out
          obtain ⟨L', hd', ho', hg', hb'⟩ := (HDR.out.below (Below.refl _ _).drew).turn (k := 0) (by decide) (by have := HXR.out.size; show X.heap.size ≤ wr.heap.size; omega) hty
          have HD' := Lib.hid hd'
          have HS' : Hid (Steps (DF LR) wr wq (DF (upd LR 0 L'))) := Lib.hid (Steps.after (Below.refl _ _).drew (steps_disk (L := LR) (k := 0) (by decide) ho' hg'))
          have HB' : Hid (Below X.heap.size X wq) := Lib.hid ((HXR.out.drew).trans hb')
          clear hd' ho' hg' hb' hty y0 y1 y2 yf x4
          go_wp2_with fail
          go_roundw
          case rel =>
            refine ⟨1, upd keeps 0 Y, upd LR 0 L', by omega, rfl, HD'.out.as (fun i hi => ?_), HSR.out.trans HS'.out, HB'.out⟩
            by_cases e : i = 0
            · subst e
              rw [upd_same, if_pos (by omega), upd_same]
            · rw [upd_ne _ _ e, upd_ne _ _ e]
              by_cases h1 : i < 0
              · rw [if_pos h1, if_pos (by omega)]
              · rw [if_neg h1, if_neg (by omega)]
          case measure => simp [intOf]
      · have hdj := (HDR.out.below (Below.refl _ _).drew).d 1 (by decide)
        rw [if_neg (by omega)] at hdj
        have CR : Hid (∀ Y : Int, 0 ≤ Y → Y < 18446744073709551616 → Calls Tryz.prog 14 #[.pointer (some ⟨b 1, 0, none⟩), .int .u64 Y] wr.drew fun e w' => e = .returned (.tuple #[]) ∧ Turned 68 72 wr.drew (LR 1) (restartD (D9 1) Y) w') := Lib.hid (fun Y h1 h2 => by
          have := disk_Restart (LR 1) (D9 1) Y wr.drew hdj (HF9.out.ok 1 (by decide)).1 h1 h2 (by have := (HF9.out.ok 1 (by decide)).2; omega)
          rw [HDR.out.eq 1 (by decide)] at this
          exact this)
        clear hdj
        rw [show ((1 : Nat) : Int) = 1 from rfl]
        have hwj : IntKind.i64.wrap 8 = 8 := by decide
        go_wp2_with fail
        go_region_with (first | (go_at_call 14; refine (CR.out _ (by first | omega | (simp; omega)) (by first | omega | (simp; omega))).mono ?_; rintro e wq ⟨rfl, ht⟩; have HTT : Hid (∃ Y : Int, Turned 68 72 wr.drew (LR 1) (restartD (D9 1) Y) wq) := Lib.hid ⟨_, ht⟩; clear ht))
        all_goals
          obtain ⟨Y, hty⟩ := HTT.out
          obtain ⟨L', hd', ho', hg', hb'⟩ := (HDR.out.below (Below.refl _ _).drew).turn (k := 1) (by decide) (by have := HXR.out.size; show X.heap.size ≤ wr.heap.size; omega) hty
          have HD' := Lib.hid hd'
          have HS' : Hid (Steps (DF LR) wr wq (DF (upd LR 1 L'))) := Lib.hid (Steps.after (Below.refl _ _).drew (steps_disk (L := LR) (k := 1) (by decide) ho' hg'))
          have HB' : Hid (Below X.heap.size X wq) := Lib.hid ((HXR.out.drew).trans hb')
          clear hd' ho' hg' hb' hty y0 y1 y2 yf x4
          go_wp2_with fail
          go_roundw
          case rel =>
            refine ⟨2, upd keeps 1 Y, upd LR 1 L', by omega, rfl, HD'.out.as (fun i hi => ?_), HSR.out.trans HS'.out, HB'.out⟩
            by_cases e : i = 1
            · subst e
              rw [upd_same, if_pos (by omega), upd_same]
            · rw [upd_ne _ _ e, upd_ne _ _ e]
              by_cases h1 : i < 1
              · rw [if_pos h1, if_pos (by omega)]
              · rw [if_neg h1, if_neg (by omega)]
          case measure => simp [intOf]
      · have hdj := (HDR.out.below (Below.refl _ _).drew).d 2 (by decide)
        rw [if_neg (by omega)] at hdj
        have CR : Hid (∀ Y : Int, 0 ≤ Y → Y < 18446744073709551616 → Calls Tryz.prog 14 #[.pointer (some ⟨b 2, 0, none⟩), .int .u64 Y] wr.drew fun e w' => e = .returned (.tuple #[]) ∧ Turned 68 72 wr.drew (LR 2) (restartD (D9 2) Y) w') := Lib.hid (fun Y h1 h2 => by
          have := disk_Restart (LR 2) (D9 2) Y wr.drew hdj (HF9.out.ok 2 (by decide)).1 h1 h2 (by have := (HF9.out.ok 2 (by decide)).2; omega)
          rw [HDR.out.eq 2 (by decide)] at this
          exact this)
        clear hdj
        rw [show ((2 : Nat) : Int) = 2 from rfl]
        have hwj : IntKind.i64.wrap 16 = 16 := by decide
        go_wp2_with fail
        go_region_with (first | (go_at_call 14; refine (CR.out _ (by first | omega | (simp; omega)) (by first | omega | (simp; omega))).mono ?_; rintro e wq ⟨rfl, ht⟩; have HTT : Hid (∃ Y : Int, Turned 68 72 wr.drew (LR 2) (restartD (D9 2) Y) wq) := Lib.hid ⟨_, ht⟩; clear ht))
        all_goals
          obtain ⟨Y, hty⟩ := HTT.out
          obtain ⟨L', hd', ho', hg', hb'⟩ := (HDR.out.below (Below.refl _ _).drew).turn (k := 2) (by decide) (by have := HXR.out.size; show X.heap.size ≤ wr.heap.size; omega) hty
          have HD' := Lib.hid hd'
          have HS' : Hid (Steps (DF LR) wr wq (DF (upd LR 2 L'))) := Lib.hid (Steps.after (Below.refl _ _).drew (steps_disk (L := LR) (k := 2) (by decide) ho' hg'))
          have HB' : Hid (Below X.heap.size X wq) := Lib.hid ((HXR.out.drew).trans hb')
          clear hd' ho' hg' hb' hty y0 y1 y2 yf x4
          go_wp2_with fail
          go_roundw
          case rel =>
            refine ⟨3, upd keeps 2 Y, upd LR 2 L', by omega, rfl, HD'.out.as (fun i hi => ?_), HSR.out.trans HS'.out, HB'.out⟩
            by_cases e : i = 2
            · subst e
              rw [upd_same, if_pos (by omega), upd_same]
            · rw [upd_ne _ _ e, upd_ne _ _ e]
              by_cases h1 : i < 2
              · rw [if_pos h1, if_pos (by omega)]
              · rw [if_neg h1, if_neg (by omega)]
          case measure => simp [intOf]
      · obtain ⟨r, hvr, hp1, hp2⟩ := HF9.out.vote keeps
        obtain ⟨DR, hDR⟩ : ∃ DR : Nat → DiskS, DR = fun i => restartD (D9 i) (keeps i) := ⟨_, rfl⟩
        have hde : Disks3 X.heap.size b wr LR DR := HDR.out.as (fun i hi => by rw [if_pos hi, hDR])
        have HSE : Hid (Steps (TF tb L lb sb) W7 wr (DF LR)) := Lib.hid (HS9.out.trans HSR.out)
        obtain ⟨⟨kx, hkx, hmost⟩, hsnd, hgr⟩ := hvr
        have hmost' : ∀ i, i < 3 → i ≠ kx → copyC (DR i) = ⟨true, r⟩ := fun i h1 h2 => by rw [hDR]; exact hmost i h1 h2
        have hsnd' : ∀ i, i < 3 → HasE (2 + j + 1) (DR i) := fun i h1 => by rw [hDR]; exact hsnd i h1
        obtain ⟨hv1, hv2, hv3, _⟩ := most_right (D := DR) (q := r) (k := kx) hkx hmost'
        have CO := trio_Open X b LR DR r wr hde (fun i h1 => (hsnd' i h1).sound) HXG.out HXR.out hv1 hv2 (fault_good hgr)
        obtain ⟨nn, hnn⟩ : ∃ nn, nn = (wrongs (trioC DR) r).length := ⟨_, rfl⟩
        rw [← hnn] at CO
        replace CO := Lib.hid CO
        have HSD := Lib.hid hsnd'
        have HGR := Lib.hid hgr
        have HP1 := Lib.hid hp1
        have HP2 := Lib.hid hp2
        clear hDR hde hmost hsnd hgr hmost' hsnd' hv1 hv2 hv3 hnn hp1 hp2 hkx hk x4
        go_wp2_with fail
        refine CO.out.mono ?_
        rintro e wz ⟨tb7, L7, D7, lb7, sb7, rv7, sp7, v7, rfl, ho7, _, hs7⟩
        have hs8 := HSE.out.trans hs7
        have hft : ∀ x, TF tb L lb sb x → x < wr0.heap.size := fun x hx => (HTR.out.lt hx).1
        have hz4 := HZ4.out
        have hzl := HBL.out
        have HQZ := Lib.hid ((hs8.keep (Array.getElem?_eq_some_iff.1 HQX7.out).1 (fun hx => by have := hft _ hx; omega)).1.trans HQX7.out)
        have HNZ := Lib.hid ((hs8.keep (Array.getElem?_eq_some_iff.1 HNX.out).1 (fun hx => by have := hft _ hx; omega)).1.trans HNX.out)
        have hkd := hs8.keep (Array.getElem?_eq_some_iff.1 HDX7.out).1 HDB0.out.2
        have HDZ := Lib.hid (And.intro (hkd.1.trans HDX7.out) hkd.2.1)
        have HFQ : Hid (Files wz (.slice ao4 q.files.length ac4) q.files) := Lib.hid (RdF.off (F := TF tb L lb sb) ⟨HF5.out.1.below HB57.out, fresh_far HF5.out.2 hft⟩ hs8.off).rd
        have HFN : Hid (Files wz (.slice xo p.1.files.length xc) p.1.files) := Lib.hid (RdF.off (F := TF tb L lb sb) ⟨HF7.out.1, fresh_far HF7.out.2 hft⟩ hs8.off).rd
        have HXZ := Lib.hid ho7.low
        have hall : ∀ i, i < 3 → ∃ S', HasQ (D7 i) S' r ∧ S'.h.epoch ≤ 2 + (j + 1) := fun i hi => by
          by_cases e : copyC (DR i) = ⟨true, r⟩
          · rw [ho7.right i hi e]
            obtain ⟨S', h1, h2⟩ := (HSD.out i hi).has e
            exact ⟨S', h1, by omega⟩
          · obtain ⟨S', h1, h2⟩ := ho7.laid i hi e
            exact ⟨S', h1, by omega⟩
        obtain ⟨S7, hS7⟩ := pick3 hall
        have HTN := Lib.hid (ho7.trio HGR.out hS7)
        have CQZ := Lib.hid (trio_Quilt HTN.out.pre HTN.out.few)
        clear ho7 hs7 hs8 hft hz4 hzl hkd hall hS7 y0 y1 y2 yf
        go_wp2_with fail
        refine CQZ.out.mono ?_
        rintro e w10 ⟨qv10, rfl, ⟨v10, rfl, hf10, _⟩, hb10⟩
        obtain ⟨ao10, ac10, rfl, _, _⟩ := hf10.parts
        obtain ⟨W11, hW11⟩ : ∃ W11, W11 = w10.alloc (.cells #[.slice ao10 r.files.length ac10, .int .i64 r.turn] 36) := ⟨_, rfl⟩
        have hb11 : Below w10.heap.size w10 W11 := by rw [hW11]; exact below_alloc _ _
        have HW11 := Lib.hid hW11
        have HBZ11 := Lib.hid (two hb10 hb11)
        have HFR : Hid (Files W11 (.slice ao10 r.files.length ac10) r.files) := Lib.hid (hf10.below hb11)
        have HRX : Hid (W11.heap[w10.heap.size]? = some (.cells #[.slice ao10 r.files.length ac10, .int .i64 r.turn] 36 (0, 0))) := Lib.hid (by rw [hW11]; exact box_newT _ _ _ _)
        have HKZ : Hid (∀ W, Below W11.heap.size W11 W → (W.cell? ⟨w10.heap.size, 0, none⟩ = some (.slice ao10 r.files.length ac10) ∧ W.cell? ⟨w10.heap.size, 1, none⟩ = some (.int .i64 r.turn)) ∧ (W.cell? ⟨w4.heap.size, 0, none⟩ = some (.slice ao4 q.files.length ac4) ∧ W.cell? ⟨w4.heap.size, 1, none⟩ = some (.int .i64 q.turn)) ∧ W.cell? ⟨bx, 0, none⟩ = some (.slice xo p.1.files.length xc) ∧ W.cell? ⟨bx, 1, none⟩ = some (.int .i64 p.1.turn)) := Lib.hid (fun W hW => by
          have h2 := two HBZ11.out hW
          exact ⟨⟨cell_on' hW (by simp [World.cell?, HRX.out]), cell_on' hW (by simp [World.cell?, HRX.out])⟩, ⟨cell_on' h2 (by simp [World.cell?, HQZ.out]), cell_on' h2 (by simp [World.cell?, HQZ.out])⟩, cell_on' h2 (by simp [World.cell?, HNZ.out]), cell_on' h2 (by simp [World.cell?, HNZ.out])⟩)
        have CS1 : Hid (∀ W, Below W11.heap.size W11 W → Calls Tryz.prog 17 #[.agg #[.slice ao10 r.files.length ac10, .int .i64 r.turn], .agg #[.slice ao4 q.files.length ac4, .int .i64 q.turn]] W fun e w' => e = .returned (.bool (decide (r = q))) ∧ Below W.heap.size W w') := Lib.hid (fun W hW => ref_SameQuilt _ _ r q W ⟨_, rfl, HFR.out.below hW⟩ ⟨_, rfl, HFQ.out.below (two HBZ11.out hW)⟩)
        have CS2 : Hid (∀ W, Below W11.heap.size W11 W → Calls Tryz.prog 17 #[.agg #[.slice ao10 r.files.length ac10, .int .i64 r.turn], .agg #[.slice xo p.1.files.length xc, .int .i64 p.1.turn]] W fun e w' => e = .returned (.bool (decide (r = p.1))) ∧ Below W.heap.size W w') := Lib.hid (fun W hW => ref_SameQuilt _ _ r p.1 W ⟨_, rfl, HFR.out.below hW⟩ ⟨_, rfl, HFN.out.below (two HBZ11.out hW)⟩)
        obtain ⟨⟨r0, r1⟩, ⟨q0, q1⟩, n0, n1⟩ := HKZ.out W11 (Below.refl _ _)
        rw [hW11] at r0 r1 q0 q1 n0 n1
        clear hf10 hb10 hb11 hW11
        by_cases hp2 : p.2 = 0
        · rw [hp2, errV_zero]
          by_cases hn : n = 0
          · rw [hn, errV_zero]
            have hr := (HP2.out hp2).1 hn
            have CS := CS2.out W11 (Below.refl _ _)
            rw [decide_eq_true hr] at CS
            have HCS := Lib.hid CS
            clear CS hr hn hp2
            go_wp2_with fail
            rw [← HW11.out]
            refine HCS.out.mono ?_
            rintro e w13 ⟨rfl, hb13⟩
            have HBE := Lib.hid (two HBZ11.out hb13)
            clear hb13 r0 r1 q0 q1 n0 n1
            go_wp2_with fail
            go_roundw
            case rel => exact ⟨j + 1, tb7, r, L7, D7, S7, lb7, sb7, rv7, v7, by omega, rfl, by go_num, HTN.out.below HBE.out, ⟨(HBE.out.block _ (Array.getElem?_eq_some_iff.1 HDZ.out.1).1).trans HDZ.out.1, HDZ.out.2⟩, two HXZ.out HBE.out⟩
            case measure => simp [intOf]; omega
          · rw [errV_pos hn]
            have hr := (HP2.out hp2).2
            clear hp2
            have CS := CS1.out W11 (Below.refl _ _)
            by_cases hrq : r = q
            · rw [decide_eq_true hrq] at CS
              have HCS := Lib.hid CS
              clear CS hr hrq
              go_wp2_with fail
              rw [← HW11.out]
              refine HCS.out.mono ?_
              rintro e w13 ⟨rfl, hb13⟩
              have HBE := Lib.hid (two HBZ11.out hb13)
              clear hb13 r0 r1 q0 q1 n0 n1
              go_wp2_with fail
              go_roundw
              case rel => exact ⟨j + 1, tb7, r, L7, D7, S7, lb7, sb7, rv7, v7, by omega, rfl, by go_num, HTN.out.below HBE.out, ⟨(HBE.out.block _ (Array.getElem?_eq_some_iff.1 HDZ.out.1).1).trans HDZ.out.1, HDZ.out.2⟩, two HXZ.out HBE.out⟩
              case measure => simp [intOf]; omega
            · have hrn : r = p.1 := hr.resolve_left hrq
              rw [decide_eq_false hrq] at CS
              have HCS := Lib.hid CS
              have CT2 : Hid (∀ W, Below W11.heap.size W11 W → Calls Tryz.prog 17 #[.agg #[.slice ao10 r.files.length ac10, .int .i64 r.turn], .agg #[.slice xo p.1.files.length xc, .int .i64 p.1.turn]] W fun e w' => e = .returned (.bool true) ∧ Below W.heap.size W w') := Lib.hid (fun W hW => by
                have := CS2.out W hW
                rw [decide_eq_true hrn] at this
                exact this)
              clear CS hr hrq hrn
              go_wp2_with fail
              rw [← HW11.out]
              refine HCS.out.mono ?_
              rintro e w13 ⟨rfl, hb13⟩
              have HB13' := Lib.hid hb13
              clear hb13 r0 r1 n0 n1 q0 q1
              obtain ⟨⟨r0, r1⟩, ⟨q0, q1⟩, n0, n1⟩ := HKZ.out w13 HB13'.out
              clear q0 q1
              go_wp2_with fail
              refine (CT2.out w13 HB13'.out).mono ?_
              rintro e w14 ⟨rfl, hb14⟩
              have HBE := Lib.hid (two HBZ11.out (two HB13'.out hb14))
              clear hb14 r0 r1 n0 n1
              go_wp2_with fail
              go_roundw
              case rel => exact ⟨j + 1, tb7, r, L7, D7, S7, lb7, sb7, rv7, v7, by omega, rfl, by go_num, HTN.out.below HBE.out, ⟨(HBE.out.block _ (Array.getElem?_eq_some_iff.1 HDZ.out.1).1).trans HDZ.out.1, HDZ.out.2⟩, two HXZ.out HBE.out⟩
              case measure => simp [intOf]; omega
        · obtain ⟨hn, hr⟩ := HP1.out hp2
          rw [errV_pos hp2, errV_pos hn]
          have CS := CS1.out W11 (Below.refl _ _)
          rw [decide_eq_true hr] at CS
          have HCS := Lib.hid CS
          clear CS hr hn hp2
          go_wp2_with fail
          rw [← HW11.out]
          refine HCS.out.mono ?_
          rintro e w13 ⟨rfl, hb13⟩
          have HBE := Lib.hid (two HBZ11.out hb13)
          clear hb13 r0 r1 q0 q1 n0 n1
          go_wp2_with fail
          go_roundw
          case rel => exact ⟨j + 1, tb7, r, L7, D7, S7, lb7, sb7, rv7, v7, by omega, rfl, by go_num, HTN.out.below HBE.out, ⟨(HBE.out.block _ (Array.getElem?_eq_some_iff.1 HDZ.out.1).1).trans HDZ.out.1, HDZ.out.2⟩, two HXZ.out HBE.out⟩
          case measure => simp [intOf]; omega
end Go.Proofs.YtggpodlecljcbadGreatDoor
