/- The walk of the statement ImageSays. -/
import Derived.Test.YtggpodlecljcbaaGreatDoorLawI0
import Derived.Test.YtggpodlecljcbaaGreatDoorWalkI5
import Derived.Test.YtggpodlecljcbaaGreatDoorWalkI8
import Derived.Test.YtggpodlecljcbaaGreatDoorWalkI9
import Derived.Deep.RegionHeld3
import Derived.Deep.CutRange
namespace Go.Proofs.YtggpodlecljcbaaGreatDoor
set_option linter.unusedSimpArgs false
set_option linter.unusedVariables false
open Go.RowKit Go.Sort
theorem not_le_lt {a b : ByteArray} (h : bLe a b = false) : bLt b a = true := bLt_of_not_le h
theorem rises_adj (l : List Change) (h : ∀ j, (hj : j + 1 < l.length) → bLt (l[j]'(by omega)).key l[j + 1].key = true) : RisesX l := by
  refine List.pairwise_iff_getElem.2 (fun i j hi hj hij => ?_)
  obtain ⟨d, rfl⟩ : ∃ d, j = i + 1 + d := ⟨j - i - 1, by omega⟩
  induction d with
  | zero => exact h i (by omega)
  | succ d ih => exact bLt_trans (ih (by omega) (by omega)) (h (i + 1 + d) (by omega))
/-- the first i rows rise. -/
def UpTo (l : List Change) (i : Nat) : Prop := ∀ j, (hj : j + 1 < l.length) → j + 1 < i → bLt (l[j]'(by omega)).key l[j + 1].key = true
theorem UpTo.step {l : List Change} {i : Nat} (h : UpTo l (i + 1)) (hs : (hi : i + 1 < l.length) → bLt (l[i]'(by omega)).key l[i + 1].key = true) : UpTo l (i + 2) := by
  intro j hj hji
  by_cases e : j = i
  · subst e; exact hs hj
  · exact h j hj (by omega)
set_option maxRecDepth 100000 in
set_option maxHeartbeats 8000000 in
theorem law_ImageSays (qv va vb : Value) (q : Quilt) (a b : List Change) (w : World) (hq : Quilts w qv q) (ha : Changes w va a) (hb : Changes w vb b) (hokq : ∀ f ∈ q.files, f.ok) (hoka : ∀ c ∈ a, c.ok) (hokb : ∀ c ∈ b, c.ok) (hg : GlobI w) :
    Calls Tryz.prog 3 #[qv, va, vb] w fun e w' => e = .returned (.bool true) ∧ Below w.heap.size w w' := by
  obtain ⟨vf, rfl, hfs⟩ := hq
  obtain ⟨qo, qc, rfl, hqc, hqc'⟩ := hfs.parts
  obtain ⟨ao, ac, rfl, hac, hac'⟩ := ha.parts
  obtain ⟨bo, bc, rfl, hbc, hbc'⟩ := hb.parts
  have HA := Lib.hid ha
  have HB := Lib.hid hb
  have HOA := Lib.hid hoka
  have HG := Lib.hid hg
  have HQW : Hid (∀ W, Below w.heap.size w W → Quilts W (.agg #[.slice qo q.files.length qc, .int .i64 q.turn]) q) := Lib.hid (fun W hW => ⟨_, rfl, Rd.below hfs hW⟩)
  obtain ⟨W1, hW1⟩ : ∃ W1, W1 = w.alloc (.cells #[.slice qo q.files.length qc, .int .i64 q.turn] 24) := ⟨_, rfl⟩
  have HB1 : Hid (Below w.heap.size w W1) := Lib.hid (by rw [hW1]; exact below_alloc _ _)
  have HX1 : Hid (∀ W, Below W1.heap.size W1 W → W.cell? ⟨w.heap.size, 0, none⟩ = some (.slice qo q.files.length qc) ∧ W.cell? ⟨w.heap.size, 1, none⟩ = some (.int .i64 q.turn)) := Lib.hid fun W hb => ⟨cell_on' hb (by rw [hW1]; simp), cell_on' hb (by rw [hW1]; simp)⟩
  have CI := Lib.hid (law_images W1 (hg.below (by rw [hW1]; exact below_alloc _ _)))
  have CQ := Lib.hid fun W hW => law_LightQuilt _ q W (HQW.out W hW) hokq
  have CA := Lib.hid fun W hW => law_LightChanges (.slice ao a.length ac) a 20 W (Rd.below ha hW) hoka
  have CB := Lib.hid fun W hW => law_LightChanges (.slice bo b.length bc) b 20 W (Rd.below hb hW) hokb
  have CF := Lib.hid fun W hW => ref_QuiltFault _ q W (HQW.out W hW) hokq
  have HW1 := Lib.hid hW1
  clear hfs ha hb hokq hoka hokb hg hW1
  go_enter Tryz.func3, Tryz.ntmps3
  go_wp2_with fail
  rw [← HW1.out]
  refine CI.out.mono ?_
  rintro e w2 ⟨rfl, hb2⟩
  have HB2 := Lib.hid hb2
  obtain ⟨x0, x1⟩ := HX1.out w2 hb2
  clear hb2
  go_wp2_with fail
  refine (CQ.out _ (two HB1.out HB2.out)).mono ?_
  rintro e w3 ⟨rfl, hb3⟩
  have HB3 := Lib.hid (two HB2.out hb3)
  clear hb3 x0 x1
  cases hl1 : lightFiles q.files
  · go_wp2_with fail
    go_ret
    exact ⟨rfl, two HB1.out HB3.out⟩
  clear hl1
  go_wp2_with fail
  refine (CA.out _ (two HB1.out HB3.out)).mono ?_
  rintro e w4 ⟨rfl, rfl⟩
  cases hl2 : lightChanges a 20
  · go_wp2_with fail
    go_ret
    exact ⟨rfl, two HB1.out HB3.out⟩
  have hla : a.length ≤ 20 := by have := light_lenI hl2; omega
  clear hl2
  go_wp2_with fail
  refine (CB.out _ (two HB1.out HB3.out)).mono ?_
  rintro e w4 ⟨rfl, rfl⟩
  cases hl3 : lightChanges b 20
  · go_wp2_with fail
    go_ret
    exact ⟨rfl, two HB1.out HB3.out⟩
  have hlb : b.length ≤ 20 := by have := light_lenI hl3; omega
  clear hl3
  have HBW3 := Lib.hid (two HB1.out HB3.out)
  go_upto_region 4 with fail
  go_cut [42] from 32 to 42 (fun s42 wx => s42 = .bool false ∧ Below w3.heap.size w3 wx)
  case first =>
    have HS : Hid (∀ W, Below w3.heap.size w3 W → W.cell? ⟨w.heap.size, 0, none⟩ = some (.slice qo q.files.length qc) ∧ W.cell? ⟨w.heap.size, 1, none⟩ = some (.int .i64 q.turn)) := Lib.hid fun W hW => HX1.out W (two HB3.out hW)
    have HR3 := Lib.hid (Below.refl w3.heap.size w3)
    by_cases hq0 : quiltFault q = 0
    · have CF0 : Hid (∀ W, Below w3.heap.size w3 W → Calls Tryz.prog 7 #[.agg #[.slice qo q.files.length qc, .int .i64 q.turn]] W fun e w' => e = .returned (.int .i64 0) ∧ Below W.heap.size W w') := Lib.hid (fun W hW => by
        have := CF.out W (two HBW3.out hW)
        rw [hq0] at this
        exact this)
      have CR : Hid (∀ W, Below w3.heap.size w3 W → Calls Tryz.prog 9 #[.agg #[.slice qo q.files.length qc, .int .i64 q.turn]] W fun e w' => ∃ v, e = .returned v ∧ (∀ W', Below w'.heap.size w' W' → Changes W' v (rowsQ q)) ∧ Below W.heap.size W w') := Lib.hid (fun W hW => (image_RowsG _ q W (HQW.out W (two HBW3.out hW)) (HG.out.below (two HBW3.out hW)) hq0).mono (fun e w' ⟨v, h1, h2, h3⟩ => ⟨v, h1, fun W' h => Rd.below (SL.of_own h2) h, h3⟩))
      have CO : Hid (∀ W, Below w3.heap.size w3 W → Calls Tryz.prog 10 #[.agg #[.slice qo q.files.length qc, .int .i64 q.turn]] W fun e w' => ∃ v, e = .returned v ∧ (∀ W', Below w'.heap.size w' W' → Changes W' v (rowsQ q)) ∧ Below W.heap.size W w') := Lib.hid (fun W hW => (ref_RowsOfG _ q W (HQW.out W (two HBW3.out hW)) hq0).mono (fun e w' ⟨v, h1, h2, h3⟩ => ⟨v, h1, fun W' h => Rd.below (SL.of_own h2) h, h3⟩))
      have CS : Hid (∀ va vb W, Changes W va (rowsQ q) → Changes W vb (rowsQ q) → Calls Tryz.prog 8 #[va, vb] W fun e w' => e = .returned (.bool true) ∧ Below W.heap.size W w') := Lib.hid (fun va vb W h1 h2 => by
        have := ref_SameChanges va vb (rowsQ q) (rowsQ q) W h1 h2
        rw [decide_eq_true (rfl : rowsQ q = rowsQ q)] at this
        exact this)
      clear hq0
      go_region_held3 (fun W => W.cell? ⟨w.heap.size, 0, none⟩ = some (.slice qo q.files.length qc) ∧ W.cell? ⟨w.heap.size, 1, none⟩ = some (.int .i64 q.turn))
        (first
          | exact HS.out _ HR3.out.drew
          | exact HS.out _ (HBS : Hid _).out
          | exact HS.out _ (HBZ : Hid _).out
          | exact HS.out _ (HBY : Hid _).out
          | exact HS.out _ (HBF : Hid _).out)
        (first
          | (go_at_call 7; refine (CF0.out _ HR3.out.drew).mono ?_; rintro e wF ⟨rfl, hbF⟩; have HBF : Hid (Below w3.heap.size w3 wF) := Lib.hid (two HR3.out.drew hbF); clear hbF)
          | (go_at_call 9; refine (CR.out _ (HBF : Hid _).out).mono ?_; rintro e wY ⟨vY, rfl, hvY, hbY⟩; have HVY := Lib.hid hvY; have HBY : Hid (Below w3.heap.size w3 wY) := Lib.hid (two (HBF : Hid _).out hbY); clear hvY hbY)
          | (go_at_call 10; refine (CO.out _ (HBF : Hid _).out).mono ?_; rintro e wY ⟨vY, rfl, hvY, hbY⟩; have HVY := Lib.hid hvY; have HBY : Hid (Below w3.heap.size w3 wY) := Lib.hid (two (HBF : Hid _).out hbY); clear hvY hbY)
          | (go_at_call 10; refine (CO.out _ (HBY : Hid _).out).mono ?_; rintro e wZ ⟨vZ, rfl, hvZ, hbZ⟩; have HVZ := Lib.hid hvZ; have HYZ := Lib.hid hbZ; have HBZ : Hid (Below w3.heap.size w3 wZ) := Lib.hid (two (HBY : Hid _).out hbZ); clear hvZ hbZ)
          | (go_at_call 9; refine (CR.out _ (HBY : Hid _).out).mono ?_; rintro e wZ ⟨vZ, rfl, hvZ, hbZ⟩; have HVZ := Lib.hid hvZ; have HYZ := Lib.hid hbZ; have HBZ : Hid (Below w3.heap.size w3 wZ) := Lib.hid (two (HBY : Hid _).out hbZ); clear hvZ hbZ)
          | (go_at_call 8; refine (CS.out _ _ _ (by first | exact (HVY : Hid _).out _ (HYZ : Hid _).out | exact (HVZ : Hid _).out _ (Below.refl _ _)) (by first | exact (HVY : Hid _).out _ (HYZ : Hid _).out | exact (HVZ : Hid _).out _ (Below.refl _ _))).mono ?_; rintro e wS ⟨rfl, hbS⟩; have HBS : Hid (Below w3.heap.size w3 wS) := Lib.hid (two (HBZ : Hid _).out hbS); clear hbS))
      all_goals
        go_wp2_with fail
        go_meet
        exact ⟨rfl, HBS.out⟩
    · have hq1 : ((quiltFault q : Int) == 0) = false := by simp; omega
      have hq2 : ¬ (quiltFault q : Int) = 0 := by omega
      have hq3 : ¬ quiltFault q = 0 := hq0
      have hq4 : decide (quiltFault q = 0) = false := decide_eq_false hq0
      obtain ⟨x0, x1⟩ := HS.out w3 HR3.out
      replace x0 := regrown_cell x0
      replace x1 := regrown_cell x1
      have CF3 := Lib.hid (CF.out w3 HBW3.out)
      refine wp_region_q (by kernel_rfl) (by kernel_rfl) ?_
      repeat (go_big_quiet_step (first | (go_at_call 7; exact Calls.regrown_of (CF.out _ (two HBW3.out (below_regrown _ _ _))))))
      refine wpQuiet_nil ?_
      intro wx hbx
      have HBX := Lib.hid hbx
      clear hbx
      go_wp2_with fail
      go_meet
      exact ⟨rfl, HBX.out⟩
  case rest =>
  obtain ⟨rfl, hbx⟩ := hcut
  have HBC := Lib.hid (two HBW3.out hbx)
  have CP := Lib.hid (image_Parse (.slice ao a.length ac) a wc (HA.out.below HBC.out) (HG.out.below HBC.out) (by omega) HOA.out)
  clear hbx
  go_wp2_with fail
  refine CP.out.mono ?_
  rintro e w4 ⟨qv4, rfl, hq4, hb4⟩
  obtain ⟨v4, rfl, ho4⟩ := hq4
  obtain ⟨fo, fc, rfl, hfc, hfc'⟩ := own_sliceI ho4
  obtain ⟨W5, hW5⟩ : ∃ W5, W5 = w4.alloc (.cells #[.slice fo (quiltI a).files.length fc, .int .i64 (quiltI a).turn] 24) := ⟨_, rfl⟩
  have HB5 : Hid (Below w.heap.size w W5) := Lib.hid (by rw [hW5]; exact two (two HBC.out hb4) (below_alloc _ _))
  have HQ5 : Hid (∀ W, Below W5.heap.size W5 W → Quilts W (.agg #[.slice fo (quiltI a).files.length fc, .int .i64 (quiltI a).turn]) (quiltI a)) := Lib.hid (fun W hW => ⟨_, rfl, Rd.below (Rd.below (SL.of_own ho4) (by rw [hW5]; exact below_alloc _ _)) hW⟩)
  have HX5 : Hid (∀ W, Below W5.heap.size W5 W → W.cell? ⟨w4.heap.size, 0, none⟩ = some (.slice fo (quiltI a).files.length fc) ∧ W.cell? ⟨w4.heap.size, 1, none⟩ = some (.int .i64 (quiltI a).turn)) := Lib.hid fun W hb => ⟨cell_on' hb (by rw [hW5]; simp), cell_on' hb (by rw [hW5]; simp)⟩
  have HW5 := Lib.hid hW5
  have CO := Lib.hid (ref_QuiltOf (.slice ao a.length ac) a W5 (HA.out.below HB5.out) (by omega) HOA.out)
  clear ho4 hb4 hW5
  go_wp2_with fail
  rw [← HW5.out]
  refine CO.out.mono ?_
  rintro e w6 ⟨qv6, rfl, hq6, hb6⟩
  obtain ⟨v6, rfl, ho6⟩ := hq6
  obtain ⟨go, gc, rfl, hgc, hgc'⟩ := own_sliceI ho6
  obtain ⟨W7, hW7⟩ : ∃ W7, W7 = w6.alloc (.cells #[.slice go (quiltI a).files.length gc, .int .i64 (quiltI a).turn] 24) := ⟨_, rfl⟩
  have HB57 : Hid (Below W5.heap.size W5 W7) := Lib.hid (by rw [hW7]; exact two hb6 (below_alloc _ _))
  have HB7 : Hid (Below w.heap.size w W7) := Lib.hid (two HB5.out HB57.out)
  have HQ7 : Hid (Quilts W7 (.agg #[.slice go (quiltI a).files.length gc, .int .i64 (quiltI a).turn]) (quiltI a)) := Lib.hid ⟨_, rfl, Rd.below (SL.of_own ho6) (by rw [hW7]; exact below_alloc _ _)⟩
  have HX7 : Hid (∀ W, Below W7.heap.size W7 W → W.cell? ⟨w6.heap.size, 0, none⟩ = some (.slice go (quiltI a).files.length gc) ∧ W.cell? ⟨w6.heap.size, 1, none⟩ = some (.int .i64 (quiltI a).turn)) := Lib.hid fun W hb => ⟨cell_on' hb (by rw [hW7]; simp), cell_on' hb (by rw [hW7]; simp)⟩
  have HW7 := Lib.hid hW7
  have CE := law_same (faultI a) (faultI a : Int) W7
  rw [decide_eq_true (rfl : (faultI a : Int) = (faultI a : Int))] at CE
  have CS := ref_SameQuilt _ _ (quiltI a) (quiltI a) W7 (HQ5.out W7 HB57.out) HQ7.out
  rw [decide_eq_true (rfl : quiltI a = quiltI a)] at CS
  have HCE := Lib.hid CE
  have HCS := Lib.hid CS
  obtain ⟨y0, y1⟩ := HX5.out W7 HB57.out
  obtain ⟨z0, z1⟩ := HX7.out W7 (Below.refl _ _)
  obtain ⟨E, hE⟩ : ∃ E, E = errV (faultI a) := ⟨_, rfl⟩
  rw [← hE] at HCE ⊢
  clear ho6 hb6 hW7 CE CS hE
  go_wp2_with fail
  rw [← HW7.out]
  refine HCE.out.mono ?_
  rintro e w8 ⟨rfl, rfl⟩
  go_wp2_with fail
  refine HCS.out.mono ?_
  rintro e w8 ⟨rfl, hb8⟩
  have HB8 := Lib.hid (two HB7.out hb8)
  clear hb8 y0 y1 z0 z1
  go_wp2_with fail
  go_loopw [12] (fun iv wr => ∃ i : Nat, i ≤ 40 ∧ iv = .int .i64 ((i + 1 : Nat) : Int) ∧ UpTo a (i + 1) ∧ UpTo b (i + 1) ∧ Below w.heap.size w wr) (fun iv _ => 41 - (intOf iv).toNat)
  case atStart => exact ⟨0, by omega, rfl, (fun j hj h => absurd h (by omega)), (fun j hj h => absurd h (by omega)), HB8.out⟩
  case round =>
    obtain ⟨j, hj40, rfl, hua, hub, hbw⟩ := hrel
    have HUA := Lib.hid hua
    have HUB := Lib.hid hub
    have HBW := Lib.hid hbw
    clear hua hub hbw
    obtain ⟨i, hi⟩ : ∃ i : Nat, i = j + 1 := ⟨_, rfl⟩
    rw [← hi]
    have hj1 : (i : Int) - 1 = ((j : Nat) : Int) := by omega
    have hj2 : IntKind.i64.wrap ((i : Int) - 1) = ((j : Nat) : Int) := by rw [IntKind.wrap_i64]; omega
    have hi40 : i ≤ 41 := by omega
    have HI := Lib.hid hi
    clear hi
    by_cases hia : i < a.length
    · have hda : decide (i < a.length) = true := decide_eq_true hia
      obtain ⟨ab, aof, rfl, alb, ap0, ap1, ap2⟩ := Changes.cell (Rd.below HA.out HBW.out) i hia
      have hja : j < a.length := by have := HI.out; omega
      obtain ⟨ab2, aof2, hpe, alb2, ar0, ar1, ar2⟩ := Changes.cell (Rd.below HA.out HBW.out) j hja
      simp only [Option.some.injEq, Addr.mk.injEq] at hpe
      obtain ⟨rfl, rfl, _⟩ := hpe
      have HUa : Hid ((a[i].key, a[j].key) = (a[i].key, a[j].key)) := Lib.hid rfl
      obtain ⟨a1, ha1⟩ : ∃ k, k = a[i].key := ⟨_, rfl⟩
      obtain ⟨a2, ha2⟩ : ∃ k, k = a[j].key := ⟨_, rfl⟩
      rw [← ha1] at ap0
      rw [← ha2] at ar0
      have HEa := Lib.hid (And.intro ha1 ha2)
      replace ap0 := regrown_cell ap0
      replace ar0 := regrown_cell ar0
      have ai1 : (0 : Int) ≤ ((j : Nat) : Int) := by omega
      have ai2 : ((j : Nat) : Int) < ((a.length : Nat) : Int) := by omega
      clear ap1 ap2 ar1 ar2 ha1 ha2 alb alb2 HUa
      cases hla1 : (Op.bytesLess a1.toList a2.toList || a1.toList == a2.toList)
      · have HLa : Hid (bLe a1 a2 = false) := Lib.hid hla1
        by_cases hib : i < b.length
        · have hdb : decide (i < b.length) = true := decide_eq_true hib
          obtain ⟨bb, bof, rfl, blb, bp0, bp1, bp2⟩ := Changes.cell (Rd.below HB.out HBW.out) i hib
          have hjb : j < b.length := by have := HI.out; omega
          obtain ⟨bb2, bof2, hpe, blb2, br0, br1, br2⟩ := Changes.cell (Rd.below HB.out HBW.out) j hjb
          simp only [Option.some.injEq, Addr.mk.injEq] at hpe
          obtain ⟨rfl, rfl, _⟩ := hpe
          have HUb : Hid ((b[i].key, b[j].key) = (b[i].key, b[j].key)) := Lib.hid rfl
          obtain ⟨b1, hb1⟩ : ∃ k, k = b[i].key := ⟨_, rfl⟩
          obtain ⟨b2, hb2⟩ : ∃ k, k = b[j].key := ⟨_, rfl⟩
          rw [← hb1] at bp0
          rw [← hb2] at br0
          have HEb := Lib.hid (And.intro hb1 hb2)
          replace bp0 := regrown_cell bp0
          replace br0 := regrown_cell br0
          have bi1 : (0 : Int) ≤ ((j : Nat) : Int) := by omega
          have bi2 : ((j : Nat) : Int) < ((b.length : Nat) : Int) := by omega
          clear bp1 bp2 br1 br2 hb1 hb2 blb blb2 HUb
          cases hlb1 : (Op.bytesLess b1.toList b2.toList || b1.toList == b2.toList)
          · have HLb : Hid (bLe b1 b2 = false) := Lib.hid hlb1
            go_wp2_with fail
            refine wp_region_q (by kernel_rfl) (by kernel_rfl) ?_
            repeat (go_big_quiet_step (fail))
            refine wpQuiet_nil ?_
            intro wx hbx
            have HBX := Lib.hid (two HBW.out hbx)
            clear hbx
            go_wp2_with fail
            obtain rfl := HI.out
            go_roundw
            case rel => exact ⟨j + 1, by omega, by go_num, HUA.out.step (fun hi => by have h1 := not_le_lt HLa.out; rw [HEa.out.1, HEa.out.2] at h1; exact h1), HUB.out.step (fun hi => by have h1 := not_le_lt HLb.out; rw [HEb.out.1, HEb.out.2] at h1; exact h1), HBX.out⟩
            case measure => simp [intOf]; omega
          · skip
            go_wp2_with fail
            refine wp_region_q (by kernel_rfl) (by kernel_rfl) ?_
            repeat (go_big_quiet_step (fail))
            refine wpQuiet_nil ?_
            intro wx hbx
            have HBX := Lib.hid (two HBW.out hbx)
            clear hbx
            go_wp2_with fail
            go_ret
            exact ⟨rfl, HBX.out⟩
        · have hdb : decide (i < b.length) = false := decide_eq_false hib
          go_wp2_with fail
          refine wp_region_q (by kernel_rfl) (by kernel_rfl) ?_
          repeat (go_big_quiet_step (fail))
          refine wpQuiet_nil ?_
          intro wx hbx
          have HBX := Lib.hid (two HBW.out hbx)
          clear hbx
          go_wp2_with fail
          obtain rfl := HI.out
          go_roundw
          case rel => exact ⟨j + 1, by omega, by go_num, HUA.out.step (fun hi => by have h1 := not_le_lt HLa.out; rw [HEa.out.1, HEa.out.2] at h1; exact h1), HUB.out.step (fun hi => by have := HI.out; omega), HBX.out⟩
          case measure => simp [intOf]; omega
      · skip
        go_wp2_with fail
        refine wp_region_q (by kernel_rfl) (by kernel_rfl) ?_
        repeat (go_big_quiet_step (fail))
        refine wpQuiet_nil ?_
        intro wx hbx
        have HBX := Lib.hid (two HBW.out hbx)
        clear hbx
        go_wp2_with fail
        go_ret
        exact ⟨rfl, HBX.out⟩
    · have hda : decide (i < a.length) = false := decide_eq_false hia
      by_cases hib : i < b.length
      · have hdb : decide (i < b.length) = true := decide_eq_true hib
        obtain ⟨bb, bof, rfl, blb, bp0, bp1, bp2⟩ := Changes.cell (Rd.below HB.out HBW.out) i hib
        have hjb : j < b.length := by have := HI.out; omega
        obtain ⟨bb2, bof2, hpe, blb2, br0, br1, br2⟩ := Changes.cell (Rd.below HB.out HBW.out) j hjb
        simp only [Option.some.injEq, Addr.mk.injEq] at hpe
        obtain ⟨rfl, rfl, _⟩ := hpe
        have HUb : Hid ((b[i].key, b[j].key) = (b[i].key, b[j].key)) := Lib.hid rfl
        obtain ⟨b1, hb1⟩ : ∃ k, k = b[i].key := ⟨_, rfl⟩
        obtain ⟨b2, hb2⟩ : ∃ k, k = b[j].key := ⟨_, rfl⟩
        rw [← hb1] at bp0
        rw [← hb2] at br0
        have HEb := Lib.hid (And.intro hb1 hb2)
        replace bp0 := regrown_cell bp0
        replace br0 := regrown_cell br0
        have bi1 : (0 : Int) ≤ ((j : Nat) : Int) := by omega
        have bi2 : ((j : Nat) : Int) < ((b.length : Nat) : Int) := by omega
        clear bp1 bp2 br1 br2 hb1 hb2 blb blb2 HUb
        cases hlb1 : (Op.bytesLess b1.toList b2.toList || b1.toList == b2.toList)
        · have HLb : Hid (bLe b1 b2 = false) := Lib.hid hlb1
          go_wp2_with fail
          refine wp_region_q (by kernel_rfl) (by kernel_rfl) ?_
          repeat (go_big_quiet_step (fail))
          refine wpQuiet_nil ?_
          intro wx hbx
          have HBX := Lib.hid (two HBW.out hbx)
          clear hbx
          go_wp2_with fail
          obtain rfl := HI.out
          go_roundw
          case rel => exact ⟨j + 1, by omega, by go_num, HUA.out.step (fun hi => by have := HI.out; omega), HUB.out.step (fun hi => by have h1 := not_le_lt HLb.out; rw [HEb.out.1, HEb.out.2] at h1; exact h1), HBX.out⟩
          case measure => simp [intOf]; omega
        · skip
          go_wp2_with fail
          refine wp_region_q (by kernel_rfl) (by kernel_rfl) ?_
          repeat (go_big_quiet_step (fail))
          refine wpQuiet_nil ?_
          intro wx hbx
          have HBX := Lib.hid (two HBW.out hbx)
          clear hbx
          go_wp2_with fail
          go_ret
          exact ⟨rfl, HBX.out⟩
      · have hdb : decide (i < b.length) = false := decide_eq_false hib
        have HRA : Hid (RisesX a) := Lib.hid (rises_adj a (fun k hk => HUA.out k hk (by have := HI.out; omega)))
        have HRB : Hid (RisesX b) := Lib.hid (rises_adj b (fun k hk => HUB.out k hk (by have := HI.out; omega)))
        have C1 := Lib.hid (image_Changes (.slice ao a.length ac) (.slice bo b.length bc) a b wr (HA.out.below HBW.out) (HB.out.below HBW.out) (by omega) (by omega) HRA.out HRB.out)
        go_wp2_with fail
        refine C1.out.mono ?_
        rintro e w9 ⟨v9, rfl, ho9, hb9⟩
        have HB9 := Lib.hid (two HBW.out hb9)
        have C2 := Lib.hid (ref_ChangesOf (.slice ao a.length ac) (.slice bo b.length bc) a b w9 (HA.out.below HB9.out) (HB.out.below HB9.out) (by omega) (by omega))
        have HO9 : Hid (∀ W, Below w9.heap.size w9 W → Changes W v9 (mergeC a b)) := Lib.hid (fun W hW => Rd.below (SL.of_own ho9) hW)
        clear ho9 hb9
        go_wp2_with fail
        refine C2.out.mono ?_
        rintro e w10 ⟨v10, rfl, ho10, hb10⟩
        have C3 := ref_SameChanges v9 v10 (mergeC a b) (mergeC a b) w10 (HO9.out _ hb10) (SL.of_own ho10)
        rw [decide_eq_true (rfl : mergeC a b = mergeC a b)] at C3
        have HC3 := Lib.hid C3
        have HB10 := Lib.hid (two HB9.out hb10)
        clear ho10 hb10 C3
        go_wp2_with fail
        refine HC3.out.mono ?_
        rintro e w11 ⟨rfl, hb11⟩
        have HB11 := Lib.hid (two HB10.out hb11)
        clear hb11
        go_wp2_with fail
        go_ret
        exact ⟨rfl, HB11.out⟩
theorem image_says (qv : Value) (q : Quilt) (va : Value) (a : List Change) (vb : Value) (b : List Change) (w : World) (hq : Quilts w qv q) (ha : Changes w va a) (hb : Changes w vb b) (hokq : ∀ f ∈ q.files, f.ok) (hoka : ∀ c ∈ a, c.ok) (hokb : ∀ c ∈ b, c.ok) (hg : GlobI w) :
    Calls Tryz.prog 3 #[qv, va, vb] w fun e w' => e = .returned (.bool true) ∧ Below w.heap.size w w' := law_ImageSays qv va vb q a b w hq ha hb hokq hoka hokb hg
end Go.Proofs.YtggpodlecljcbaaGreatDoor
