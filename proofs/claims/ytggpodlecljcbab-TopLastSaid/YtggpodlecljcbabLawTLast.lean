/- The walk of the statement TopLast. -/
import Derived.Test.YtggpodlecljcbabSpecTL
import Derived.Test.YtggpodlecljcbabWalkT3
import Derived.Test.YtggpodlecljcbabWalkE
namespace Go.Proofs.Ytggpodlecljcbab
open Go.RowKit Go.Sort
set_option linter.unusedSimpArgs false
set_option linter.unusedVariables false
def zeroC : Copy := ⟨false, ⟨[], 0⟩⟩
def zeroT : Trio := ⟨zeroC, zeroC, zeroC⟩
def zeroCV : CopyV := ⟨false, .slice none 0 0, 0⟩
def zeroTV : TrioV := ⟨zeroCV, zeroCV, zeroCV⟩
theorem zeroC_is (w : World) : IsCopy w zeroCV zeroC := ⟨rfl, rfl, Rd.nil w⟩
theorem zeroT_is (w : World) : IsTrio w zeroTV zeroT := ⟨zeroC_is w, zeroC_is w, zeroC_is w⟩
theorem zeroT_E : votedE zeroT = 4 := rfl
theorem zeroT_Q : votedQ zeroT = ⟨[], 0⟩ := rfl
def NoPair (t : Trio) (i k : Nat) : Prop := ∀ j, j < k → ((t.at i).is && sameCopy (t.at i) (t.at j)) = false
theorem NoPair.zero (t : Trio) (i : Nat) : NoPair t i 0 := fun j hj => absurd hj (Nat.not_lt_zero _)
theorem NoPair.next {t : Trio} {i k : Nat} (h : NoPair t i k) (h2 : ((t.at i).is && sameCopy (t.at i) (t.at k)) = false) : NoPair t i (k + 1) := fun j hj => by
  by_cases e : j = k
  · subst e; exact h2
  · exact h j (by omega)
set_option maxRecDepth 100000 in
set_option maxHeartbeats 16000000 in
theorem law_TopLast (tv : TrioV) (t : Trio) (w : World) (ht : IsTrio w tv t) (hok : (∀ f ∈ t.a.quilt.files, f.ok) ∧ (∀ f ∈ t.b.quilt.files, f.ok) ∧ (∀ f ∈ t.c.quilt.files, f.ok)) :
    Calls Try.prog 3 #[tv.val] w fun e w' => e = .returned (.bool true) ∧ Below w.heap.size w w' := by
  have C0 := fun W => vote_Of zeroTV zeroT W (zeroT_is W)
  have CO := fun W (hw : Below w.heap.size w W) => vote_Of tv t W (ht.below hw)
  have CW := fun W (hw : Below w.heap.size w W) qv q hq => vote_Wrong tv t qv q W (ht.below hw) hq
  obtain ⟨⟨a0, av, a2⟩, ⟨b0, bv, b2⟩, ⟨d0, dv, d2⟩⟩ := tv
  obtain ⟨ha, hb, hd⟩ := ht
  have PA := ha.2.2.parts
  have PB := hb.2.2.parts
  have PD := hd.2.2.parts
  dsimp only at PA PB PD
  obtain ⟨a3, a5, rfl, _, _⟩ := PA
  obtain ⟨b3, b5, rfl, _, _⟩ := PB
  obtain ⟨d3, d5, rfl, _, _⟩ := PD
  obtain rfl : a2 = t.a.quilt.turn := ha.2.1
  obtain rfl : b2 = t.b.quilt.turn := hb.2.1
  obtain rfl : d2 = t.c.quilt.turn := hd.2.1
  have EA : Hid (t.a.is = a0) := Lib.hid ha.1.symm
  have EB : Hid (t.b.is = b0) := Lib.hid hb.1.symm
  have ED : Hid (t.c.is = d0) := Lib.hid hd.1.symm
  have HA := Lib.hid ha.2.2
  have HB := Lib.hid hb.2.2
  have HD := Lib.hid hd.2.2
  unfold TrioV.val TrioV.arr at CO CW ⊢
  rw [zeroT_E, zeroT_Q] at C0
  unfold RetQ zeroTV TrioV.val TrioV.arr zeroCV at C0
  rw [show errV 4 = .iface 91 (.int .i64 (4 : Nat)) from rfl] at C0
  dsimp only at C0 CO CW HA HB HD ⊢
  have L0 : Hid (∀ W, Below w.heap.size w W → Calls Try.prog 15 #[.agg #[.slice a3 t.a.quilt.files.length a5, .int .i64 t.a.quilt.turn]] W fun e w' => e = .returned (.bool (lightFiles t.a.quilt.files)) ∧ Below W.heap.size W w') := Lib.hid fun W hw => law_LightQuilt _ t.a.quilt W ⟨_, rfl, HA.out.below hw⟩ hok.1
  have I0 : Hid (∀ W, Below w.heap.size w W → Copies W (.agg #[.bool a0, .slice a3 t.a.quilt.files.length a5, .int .i64 t.a.quilt.turn]) t.a) := Lib.hid fun W hw => ⟨_, by rw [EA.out], HA.out.below hw⟩
  have N0 : Hid (∀ W, Below w.heap.size w W → Quilts W (.agg #[.slice a3 t.a.quilt.files.length a5, .int .i64 t.a.quilt.turn]) t.a.quilt) := Lib.hid fun W hw => ⟨_, rfl, HA.out.below hw⟩
  have L1 : Hid (∀ W, Below w.heap.size w W → Calls Try.prog 15 #[.agg #[.slice b3 t.b.quilt.files.length b5, .int .i64 t.b.quilt.turn]] W fun e w' => e = .returned (.bool (lightFiles t.b.quilt.files)) ∧ Below W.heap.size W w') := Lib.hid fun W hw => law_LightQuilt _ t.b.quilt W ⟨_, rfl, HB.out.below hw⟩ hok.2.1
  have I1 : Hid (∀ W, Below w.heap.size w W → Copies W (.agg #[.bool b0, .slice b3 t.b.quilt.files.length b5, .int .i64 t.b.quilt.turn]) t.b) := Lib.hid fun W hw => ⟨_, by rw [EB.out], HB.out.below hw⟩
  have N1 : Hid (∀ W, Below w.heap.size w W → Quilts W (.agg #[.slice b3 t.b.quilt.files.length b5, .int .i64 t.b.quilt.turn]) t.b.quilt) := Lib.hid fun W hw => ⟨_, rfl, HB.out.below hw⟩
  have L2 : Hid (∀ W, Below w.heap.size w W → Calls Try.prog 15 #[.agg #[.slice d3 t.c.quilt.files.length d5, .int .i64 t.c.quilt.turn]] W fun e w' => e = .returned (.bool (lightFiles t.c.quilt.files)) ∧ Below W.heap.size W w') := Lib.hid fun W hw => law_LightQuilt _ t.c.quilt W ⟨_, rfl, HD.out.below hw⟩ hok.2.2
  have I2 : Hid (∀ W, Below w.heap.size w W → Copies W (.agg #[.bool d0, .slice d3 t.c.quilt.files.length d5, .int .i64 t.c.quilt.turn]) t.c) := Lib.hid fun W hw => ⟨_, by rw [ED.out], HD.out.below hw⟩
  have N2 : Hid (∀ W, Below w.heap.size w W → Quilts W (.agg #[.slice d3 t.c.quilt.files.length d5, .int .i64 t.c.quilt.turn]) t.c.quilt) := Lib.hid fun W hw => ⟨_, rfl, HD.out.below hw⟩
  replace C0 := Lib.hid C0
  replace CO := Lib.hid CO
  replace CW := Lib.hid CW
  obtain ⟨W1, hW1⟩ : ∃ W1, W1 = w.alloc (.cells #[.bool a0, .slice a3 t.a.quilt.files.length a5, .int .i64 t.a.quilt.turn, .bool b0, .slice b3 t.b.quilt.files.length b5, .int .i64 t.b.quilt.turn, .bool d0, .slice d3 t.c.quilt.files.length d5, .int .i64 t.c.quilt.turn] 27) := ⟨_, rfl⟩
  have HB1 : Hid (Below w.heap.size w W1) := Lib.hid (by rw [hW1]; exact below_alloc _ _)
  have CE : Hid (∀ W, Below W1.heap.size W1 W → (W.cell? ⟨w.heap.size, 0, none⟩ = some (.bool a0) ∧ W.cell? ⟨w.heap.size, 1, none⟩ = some (.slice a3 t.a.quilt.files.length a5) ∧ W.cell? ⟨w.heap.size, 2, none⟩ = some (.int .i64 t.a.quilt.turn)) ∧ (W.cell? ⟨w.heap.size, 3, none⟩ = some (.bool b0) ∧ W.cell? ⟨w.heap.size, 4, none⟩ = some (.slice b3 t.b.quilt.files.length b5) ∧ W.cell? ⟨w.heap.size, 5, none⟩ = some (.int .i64 t.b.quilt.turn)) ∧ (W.cell? ⟨w.heap.size, 6, none⟩ = some (.bool d0) ∧ W.cell? ⟨w.heap.size, 7, none⟩ = some (.slice d3 t.c.quilt.files.length d5) ∧ W.cell? ⟨w.heap.size, 8, none⟩ = some (.int .i64 t.c.quilt.turn))) := Lib.hid fun W hb => by
    refine ⟨⟨cell_on' hb ?_, cell_on' hb ?_, cell_on' hb ?_⟩, ⟨cell_on' hb ?_, cell_on' hb ?_, cell_on' hb ?_⟩, ⟨cell_on' hb ?_, cell_on' hb ?_, cell_on' hb ?_⟩⟩ <;> (rw [hW1]; simp)
  have HW1 := Lib.hid hW1
  clear hW1 ha hb hd hok
  go_enter Try.func3, Try.ntmps3
  go_wp2_with fail
  rw [← HW1.out]
  refine (C0.out W1).mono ?_
  rintro e w2 ⟨qz, rfl, ⟨vz, rfl, hfz⟩, hb2⟩
  have HB2 := Lib.hid (two hb2 (below_alloc w2 (.cells #[vz, .int .i64 0] 24)))
  obtain ⟨zo, zc, rfl, _, _⟩ := hfz.parts
  clear hfz hb2
  go_wp2_with fail
  refine (top_number_some 4 _).mono ?_
  rintro e w3 ⟨rfl, hq⟩
  rw [hq]
  clear hq
  obtain ⟨W3, hW3⟩ : ∃ W3, W3 = w2.alloc (.cells #[.slice zo 0 zc, .int .i64 0] 24) := ⟨_, rfl⟩
  have HB3 : Hid (Below W1.heap.size W1 W3) := Lib.hid (by rw [hW3]; exact HB2.out)
  have HW3 := Lib.hid hW3
  clear hW3
  go_wp2_with fail
  try rw [show (List.length ([] : List File)) = 0 from rfl]
  rw [← HW3.out]
  go_loopw [5] (fun i wr => ∃ k : Nat, k ≤ 3 ∧ i = .int .i64 k ∧ (∀ j, j < k → NoPair t j j) ∧ Below W1.heap.size W1 wr) (fun i _ => 3 - (intOf i).toNat)
  case atStart => exact ⟨0, Nat.zero_le _, rfl, fun j hj => absurd hj (Nat.not_lt_zero _), HB3.out⟩
  case round =>
    obtain ⟨k, hk, rfl, hnp, hbw⟩ := hrel
    have HNP := Lib.hid hnp
    have HBW := Lib.hid hbw
    clear hnp hbw
    by_cases hlt : k < 3
    · obtain rfl | rfl | rfl : k = 0 ∨ k = 1 ∨ k = 2 := by omega
      · obtain ⟨⟨x0, x1, x2⟩, ⟨y0, y1, y2⟩, z0, z1, z2⟩ := CE.out _ HBW.out
        go_wp2_with fail
        refine (L0.out _ (two HB1.out HBW.out)).mono ?_
        rintro e w4 ⟨rfl, hb4⟩
        have HB4 := Lib.hid (two HBW.out hb4)
        clear hb4 x0 x1 x2 y0 y1 y2 z0 z1 z2
        cases hl : lightFiles t.a.quilt.files
        · go_wp2_with fail
          go_ret
          exact ⟨rfl, two HB1.out HB4.out⟩
        clear hl
        go_wp2_with fail
        go_loopw [6] (fun m wr => ∃ n : Nat, n ≤ 0 ∧ m = .int .i64 n ∧ NoPair t 0 n ∧ Below W1.heap.size W1 wr) (fun m _ => 0 - (intOf m).toNat)
        case atStart => exact ⟨0, Nat.zero_le _, rfl, NoPair.zero t 0, HB4.out⟩
        case round =>
        
          obtain ⟨n, hn, rfl, hni, hbx⟩ := hrel
          have HNI := Lib.hid hni
          have HBX := Lib.hid hbx
          clear hni hbx
          by_cases hlt2 : n < 0
          · exact absurd hlt2 (Nat.not_lt_zero _)
          · obtain rfl : n = 0 := by omega
            have HNQ : Hid (∀ j, j < 0 + 1 → NoPair t j j) := Lib.hid fun j hj => by
              by_cases e : j = 0
              · subst e; exact HNI.out
              · exact HNP.out j (by omega)
            go_wp2_with fail
            go_roundw
            case rel => exact ⟨1, by omega, by go_num, HNQ.out, HBX.out⟩
            case measure => simp [intOf]
      · obtain ⟨⟨x0, x1, x2⟩, ⟨y0, y1, y2⟩, z0, z1, z2⟩ := CE.out _ HBW.out
        go_wp2_with fail
        refine (L1.out _ (two HB1.out HBW.out)).mono ?_
        rintro e w4 ⟨rfl, hb4⟩
        have HB4 := Lib.hid (two HBW.out hb4)
        clear hb4 x0 x1 x2 y0 y1 y2 z0 z1 z2
        cases hl : lightFiles t.b.quilt.files
        · go_wp2_with fail
          go_ret
          exact ⟨rfl, two HB1.out HB4.out⟩
        clear hl
        go_wp2_with fail
        go_loopw [6] (fun m wr => ∃ n : Nat, n ≤ 1 ∧ m = .int .i64 n ∧ NoPair t 1 n ∧ Below W1.heap.size W1 wr) (fun m _ => 1 - (intOf m).toNat)
        case atStart => exact ⟨0, Nat.zero_le _, rfl, NoPair.zero t 1, HB4.out⟩
        case round =>
        
          obtain ⟨n, hn, rfl, hni, hbx⟩ := hrel
          have HNI := Lib.hid hni
          have HBX := Lib.hid hbx
          clear hni hbx
          by_cases hlt2 : n < 1
          · obtain rfl : n = 0 := by omega
            have K1 : Hid (∀ W, Below wr.heap.size wr W → Calls Try.prog 16 #[.agg #[.bool b0, .slice b3 t.b.quilt.files.length b5, .int .i64 t.b.quilt.turn], .agg #[.bool a0, .slice a3 t.a.quilt.files.length a5, .int .i64 t.a.quilt.turn]] W fun e w' => e = .returned (.bool (sameCopy t.b t.a)) ∧ Below W.heap.size W w') := Lib.hid fun W hw => vote_Same _ _ t.b t.a W (I1.out W (two (two HB1.out HBX.out) hw)) (I0.out W (two (two HB1.out HBX.out) hw))
            have HIS : Hid ((t.at 1).is = b0) := EB
            obtain ⟨⟨x0, x1, x2⟩, ⟨y0, y1, y2⟩, z0, z1, z2⟩ := CE.out _ HBX.out
            replace x0 := regrown_cell x0
            replace x1 := regrown_cell x1
            replace x2 := regrown_cell x2
            replace y0 := regrown_cell y0
            replace y1 := regrown_cell y1
            replace y2 := regrown_cell y2
            replace z0 := regrown_cell z0
            replace z1 := regrown_cell z1
            replace z2 := regrown_cell z2
            cases hs : sameCopy t.b t.a
            · have HNX : Hid (NoPair t 1 (0 + 1)) := Lib.hid (HNI.out.next (by show (_ && sameCopy t.b t.a) = false; rw [hs, Bool.and_false]))
              rw [hs] at K1
              clear hs HIS
              cases b0
              all_goals
                go_wp2_with fail
                refine wp_region_q (by kernel_rfl) (by kernel_rfl) ?_
                repeat (go_big_quiet_step (first | (go_at_call 16; exact Calls.regrown_of (K1.out _ (below_regrown _ _ _)))))
                refine wpQuiet_nil ?_
                intro w6 hb6
                have HB6 := Lib.hid (two HBX.out hb6)
                clear hb6 x0 x1 x2 y0 y1 y2 z0 z1 z2
                go_wp2_with fail
                go_roundw
                case rel => exact ⟨1, by omega, by go_num, HNX.out, HB6.out⟩
                case measure => simp [intOf]
            · rw [hs] at K1
              cases b0
              · have HNX : Hid (NoPair t 1 (0 + 1)) := Lib.hid (HNI.out.next (by rw [HIS.out, Bool.false_and]))
                clear hs HIS
                go_wp2_with fail
                refine wp_region_q (by kernel_rfl) (by kernel_rfl) ?_
                repeat (go_big_quiet_step (first | (go_at_call 16; exact Calls.regrown_of (K1.out _ (below_regrown _ _ _)))))
                refine wpQuiet_nil ?_
                intro w6 hb6
                have HB6 := Lib.hid (two HBX.out hb6)
                clear hb6 x0 x1 x2 y0 y1 y2 z0 z1 z2
                go_wp2_with fail
                go_roundw
                case rel => exact ⟨1, by omega, by go_num, HNX.out, HB6.out⟩
                case measure => simp [intOf]
              · clear hs HIS
                go_wp2_with fail
                refine wp_region_q (by kernel_rfl) (by kernel_rfl) ?_
                repeat (go_big_quiet_step (first | (go_at_call 16; exact Calls.regrown_of (K1.out _ (below_regrown _ _ _)))))
                refine wpQuiet_nil ?_
                intro w6 hb6
                have HB6 := Lib.hid (two HBX.out hb6)
                clear hb6 x0 x1 x2 y0 y1 y2 z0 z1 z2
                go_wp2_with fail
                go_ret
                exact ⟨rfl, two HB1.out HB6.out⟩
          · obtain rfl : n = 1 := by omega
            have HNQ : Hid (∀ j, j < 1 + 1 → NoPair t j j) := Lib.hid fun j hj => by
              by_cases e : j = 1
              · subst e; exact HNI.out
              · exact HNP.out j (by omega)
            go_wp2_with fail
            go_roundw
            case rel => exact ⟨2, by omega, by go_num, HNQ.out, HBX.out⟩
            case measure => simp [intOf]
      · obtain ⟨⟨x0, x1, x2⟩, ⟨y0, y1, y2⟩, z0, z1, z2⟩ := CE.out _ HBW.out
        go_wp2_with fail
        refine (L2.out _ (two HB1.out HBW.out)).mono ?_
        rintro e w4 ⟨rfl, hb4⟩
        have HB4 := Lib.hid (two HBW.out hb4)
        clear hb4 x0 x1 x2 y0 y1 y2 z0 z1 z2
        cases hl : lightFiles t.c.quilt.files
        · go_wp2_with fail
          go_ret
          exact ⟨rfl, two HB1.out HB4.out⟩
        clear hl
        go_wp2_with fail
        go_loopw [6] (fun m wr => ∃ n : Nat, n ≤ 2 ∧ m = .int .i64 n ∧ NoPair t 2 n ∧ Below W1.heap.size W1 wr) (fun m _ => 2 - (intOf m).toNat)
        case atStart => exact ⟨0, Nat.zero_le _, rfl, NoPair.zero t 2, HB4.out⟩
        case round =>
        
          obtain ⟨n, hn, rfl, hni, hbx⟩ := hrel
          have HNI := Lib.hid hni
          have HBX := Lib.hid hbx
          clear hni hbx
          by_cases hlt2 : n < 2
          · obtain rfl | rfl : n = 0 ∨ n = 1 := by omega
            · have K1 : Hid (∀ W, Below wr.heap.size wr W → Calls Try.prog 16 #[.agg #[.bool d0, .slice d3 t.c.quilt.files.length d5, .int .i64 t.c.quilt.turn], .agg #[.bool a0, .slice a3 t.a.quilt.files.length a5, .int .i64 t.a.quilt.turn]] W fun e w' => e = .returned (.bool (sameCopy t.c t.a)) ∧ Below W.heap.size W w') := Lib.hid fun W hw => vote_Same _ _ t.c t.a W (I2.out W (two (two HB1.out HBX.out) hw)) (I0.out W (two (two HB1.out HBX.out) hw))
              have HIS : Hid ((t.at 2).is = d0) := ED
              obtain ⟨⟨x0, x1, x2⟩, ⟨y0, y1, y2⟩, z0, z1, z2⟩ := CE.out _ HBX.out
              replace x0 := regrown_cell x0
              replace x1 := regrown_cell x1
              replace x2 := regrown_cell x2
              replace y0 := regrown_cell y0
              replace y1 := regrown_cell y1
              replace y2 := regrown_cell y2
              replace z0 := regrown_cell z0
              replace z1 := regrown_cell z1
              replace z2 := regrown_cell z2
              cases hs : sameCopy t.c t.a
              · have HNX : Hid (NoPair t 2 (0 + 1)) := Lib.hid (HNI.out.next (by show (_ && sameCopy t.c t.a) = false; rw [hs, Bool.and_false]))
                rw [hs] at K1
                clear hs HIS
                cases d0
                all_goals
                  go_wp2_with fail
                  refine wp_region_q (by kernel_rfl) (by kernel_rfl) ?_
                  repeat (go_big_quiet_step (first | (go_at_call 16; exact Calls.regrown_of (K1.out _ (below_regrown _ _ _)))))
                  refine wpQuiet_nil ?_
                  intro w6 hb6
                  have HB6 := Lib.hid (two HBX.out hb6)
                  clear hb6 x0 x1 x2 y0 y1 y2 z0 z1 z2
                  go_wp2_with fail
                  go_roundw
                  case rel => exact ⟨1, by omega, by go_num, HNX.out, HB6.out⟩
                  case measure => simp [intOf]
              · rw [hs] at K1
                cases d0
                · have HNX : Hid (NoPair t 2 (0 + 1)) := Lib.hid (HNI.out.next (by rw [HIS.out, Bool.false_and]))
                  clear hs HIS
                  go_wp2_with fail
                  refine wp_region_q (by kernel_rfl) (by kernel_rfl) ?_
                  repeat (go_big_quiet_step (first | (go_at_call 16; exact Calls.regrown_of (K1.out _ (below_regrown _ _ _)))))
                  refine wpQuiet_nil ?_
                  intro w6 hb6
                  have HB6 := Lib.hid (two HBX.out hb6)
                  clear hb6 x0 x1 x2 y0 y1 y2 z0 z1 z2
                  go_wp2_with fail
                  go_roundw
                  case rel => exact ⟨1, by omega, by go_num, HNX.out, HB6.out⟩
                  case measure => simp [intOf]
                · clear hs HIS
                  go_wp2_with fail
                  refine wp_region_q (by kernel_rfl) (by kernel_rfl) ?_
                  repeat (go_big_quiet_step (first | (go_at_call 16; exact Calls.regrown_of (K1.out _ (below_regrown _ _ _)))))
                  refine wpQuiet_nil ?_
                  intro w6 hb6
                  have HB6 := Lib.hid (two HBX.out hb6)
                  clear hb6 x0 x1 x2 y0 y1 y2 z0 z1 z2
                  go_wp2_with fail
                  go_ret
                  exact ⟨rfl, two HB1.out HB6.out⟩
            · have K1 : Hid (∀ W, Below wr.heap.size wr W → Calls Try.prog 16 #[.agg #[.bool d0, .slice d3 t.c.quilt.files.length d5, .int .i64 t.c.quilt.turn], .agg #[.bool b0, .slice b3 t.b.quilt.files.length b5, .int .i64 t.b.quilt.turn]] W fun e w' => e = .returned (.bool (sameCopy t.c t.b)) ∧ Below W.heap.size W w') := Lib.hid fun W hw => vote_Same _ _ t.c t.b W (I2.out W (two (two HB1.out HBX.out) hw)) (I1.out W (two (two HB1.out HBX.out) hw))
              have HIS : Hid ((t.at 2).is = d0) := ED
              obtain ⟨⟨x0, x1, x2⟩, ⟨y0, y1, y2⟩, z0, z1, z2⟩ := CE.out _ HBX.out
              replace x0 := regrown_cell x0
              replace x1 := regrown_cell x1
              replace x2 := regrown_cell x2
              replace y0 := regrown_cell y0
              replace y1 := regrown_cell y1
              replace y2 := regrown_cell y2
              replace z0 := regrown_cell z0
              replace z1 := regrown_cell z1
              replace z2 := regrown_cell z2
              cases hs : sameCopy t.c t.b
              · have HNX : Hid (NoPair t 2 (1 + 1)) := Lib.hid (HNI.out.next (by show (_ && sameCopy t.c t.b) = false; rw [hs, Bool.and_false]))
                rw [hs] at K1
                clear hs HIS
                cases d0
                all_goals
                  go_wp2_with fail
                  refine wp_region_q (by kernel_rfl) (by kernel_rfl) ?_
                  repeat (go_big_quiet_step (first | (go_at_call 16; exact Calls.regrown_of (K1.out _ (below_regrown _ _ _)))))
                  refine wpQuiet_nil ?_
                  intro w6 hb6
                  have HB6 := Lib.hid (two HBX.out hb6)
                  clear hb6 x0 x1 x2 y0 y1 y2 z0 z1 z2
                  go_wp2_with fail
                  go_roundw
                  case rel => exact ⟨2, by omega, by go_num, HNX.out, HB6.out⟩
                  case measure => simp [intOf]
              · rw [hs] at K1
                cases d0
                · have HNX : Hid (NoPair t 2 (1 + 1)) := Lib.hid (HNI.out.next (by rw [HIS.out, Bool.false_and]))
                  clear hs HIS
                  go_wp2_with fail
                  refine wp_region_q (by kernel_rfl) (by kernel_rfl) ?_
                  repeat (go_big_quiet_step (first | (go_at_call 16; exact Calls.regrown_of (K1.out _ (below_regrown _ _ _)))))
                  refine wpQuiet_nil ?_
                  intro w6 hb6
                  have HB6 := Lib.hid (two HBX.out hb6)
                  clear hb6 x0 x1 x2 y0 y1 y2 z0 z1 z2
                  go_wp2_with fail
                  go_roundw
                  case rel => exact ⟨2, by omega, by go_num, HNX.out, HB6.out⟩
                  case measure => simp [intOf]
                · clear hs HIS
                  go_wp2_with fail
                  refine wp_region_q (by kernel_rfl) (by kernel_rfl) ?_
                  repeat (go_big_quiet_step (first | (go_at_call 16; exact Calls.regrown_of (K1.out _ (below_regrown _ _ _)))))
                  refine wpQuiet_nil ?_
                  intro w6 hb6
                  have HB6 := Lib.hid (two HBX.out hb6)
                  clear hb6 x0 x1 x2 y0 y1 y2 z0 z1 z2
                  go_wp2_with fail
                  go_ret
                  exact ⟨rfl, two HB1.out HB6.out⟩
          · obtain rfl : n = 2 := by omega
            have HNQ : Hid (∀ j, j < 2 + 1 → NoPair t j j) := Lib.hid fun j hj => by
              by_cases e : j = 2
              · subst e; exact HNI.out
              · exact HNP.out j (by omega)
            go_wp2_with fail
            go_roundw
            case rel => exact ⟨3, by omega, by go_num, HNQ.out, HBX.out⟩
            case measure => simp [intOf]
    · obtain rfl : k = 3 := by omega
      have HAP : Hid (Apart t) := Lib.hid ⟨HNP.out 1 (by decide) 0 (by decide), HNP.out 2 (by decide) 0 (by decide), HNP.out 2 (by decide) 1 (by decide)⟩
      obtain ⟨⟨x0, x1, x2⟩, ⟨y0, y1, y2⟩, z0, z1, z2⟩ := CE.out _ HBW.out
      have C := CO.out wr (two HB1.out HBW.out)
      unfold RetQ at C
      rcases last_best t with ⟨hbt, h1, h2, h3⟩ | ⟨i, hbt, hrt⟩
      · rw [last_none HAP.out hbt] at C
        obtain rfl : a0 = false := EA.out.symm.trans h1
        obtain rfl : b0 = false := EB.out.symm.trans h2
        obtain rfl : d0 = false := ED.out.symm.trans h3
        rw [show errV 4 = .iface 91 (.int .i64 (4 : Nat)) from rfl] at C
        replace C := Lib.hid C
        clear hbt h1 h2 h3
        go_wp2_with fail
        refine C.out.mono ?_
        rintro e w5 ⟨qv, rfl, ⟨vq, rfl, hfq⟩, hb5⟩
        obtain ⟨qo, qc, rfl, _, _⟩ := hfq.parts
        have HB5 := Lib.hid (two HBW.out (two hb5 (below_alloc w5 (.cells #[.slice qo (votedQ t).files.length qc, .int .i64 (votedQ t).turn] 24))))
        clear hfq hb5 x0 x1 x2 y0 y1 y2 z0 z1 z2
        obtain ⟨⟨x0, x1, x2⟩, ⟨y0, y1, y2⟩, z0, z1, z2⟩ := CE.out _ HB5.out
        go_wp2_with fail
        go_ret
        exact ⟨rfl, two HB1.out HB5.out⟩
      · obtain ⟨hq, he⟩ := last_some HAP.out hbt
        have HWR := Lib.hid (last_wrong HAP.out hrt)
        have HTO := Lib.hid hrt.top
        have HI3 := Lib.hid hrt.lt
        have HII := Lib.hid hrt.is
        obtain ⟨Q, hQ⟩ : ∃ Q, Q = (t.at i).quilt := ⟨_, rfl⟩
        have HQI := Lib.hid hQ.symm
        rw [hq, he, ← hQ] at C
        rw [← hQ] at HWR HTO
        rw [show errV 0 = .nilIface from rfl] at C
        replace C := Lib.hid C
        clear hbt hrt hq he hQ
        go_wp2_with fail
        refine C.out.mono ?_
        rintro e w5 ⟨qv, rfl, ⟨vq, rfl, hfq⟩, hb5⟩
        obtain ⟨qo, qc, rfl, _, _⟩ := hfq.parts
        obtain ⟨W7, hW7⟩ : ∃ W7, W7 = w5.alloc (.cells #[.slice qo Q.files.length qc, .int .i64 Q.turn] 24) := ⟨_, rfl⟩
        obtain ⟨qb, hqb⟩ : ∃ qb, qb = w5.heap.size := ⟨_, rfl⟩
        have HB7 : Hid (Below W1.heap.size W1 W7) := Lib.hid (by rw [hW7]; exact two HBW.out (two hb5 (below_alloc _ _)))
        have HF7 : Hid (Files W7 (.slice qo Q.files.length qc) Q.files) := Lib.hid (by rw [hW7]; exact hfq.below (below_alloc _ _))
        have CQ : Hid (∀ W, Below W7.heap.size W7 W → W.cell? ⟨qb, 0, none⟩ = some (.slice qo Q.files.length qc) ∧ W.cell? ⟨qb, 1, none⟩ = some (.int .i64 Q.turn)) := Lib.hid fun W hb => ⟨cell_on' hb (by rw [hW7, hqb]; simp), cell_on' hb (by rw [hW7, hqb]; simp)⟩
        have HW7 := Lib.hid hW7
        have HQB := Lib.hid hqb
        clear hfq hb5 hW7 hqb x0 x1 x2 y0 y1 y2 z0 z1 z2
        go_wp2_with fail
        rw [← HW7.out, ← HQB.out]
        go_loopw [8, 9] (fun f jv wr => ∃ (j : Nat) (fb : Bool), j ≤ 3 ∧ jv = .int .i64 j ∧ f = .bool fb ∧ (i < j → fb = true) ∧ Below W7.heap.size W7 wr) (fun _ jv _ => 3 - (intOf jv).toNat)
        case atStart => exact ⟨0, false, Nat.zero_le _, rfl, rfl, fun h => absurd h (Nat.not_lt_zero _), Below.refl _ _⟩
        case round =>
    
          obtain ⟨j, fb, hj, rfl, rfl, hif, hbx⟩ := hrel
          have HIF := Lib.hid hif
          have HBX := Lib.hid hbx
          clear hif hbx
          obtain ⟨⟨x0, x1, x2⟩, ⟨y0, y1, y2⟩, z0, z1, z2⟩ := CE.out _ (two HB7.out HBX.out)
          obtain ⟨q0, q1⟩ := CQ.out _ HBX.out
          by_cases hj3 : j < 3
          · obtain rfl | rfl | rfl : j = 0 ∨ j = 1 ∨ j = 2 := by omega
            · have K2 : Hid (∀ W, Below W7.heap.size W7 W → Calls Try.prog 17 #[.agg #[.slice a3 t.a.quilt.files.length a5, .int .i64 t.a.quilt.turn], .agg #[.slice qo Q.files.length qc, .int .i64 Q.turn]] W fun e w' => e = .returned (.bool (decide (t.a.quilt = Q))) ∧ Below W.heap.size W w') := Lib.hid fun W hw => ref_SameQuilt _ _ t.a.quilt Q W (N0.out W (two HB1.out (two HB7.out hw))) ⟨_, rfl, HF7.out.below hw⟩
              have HIS : Hid ((t.at 0).is = a0) := EA
              have HTJ : Hid (a0 = true → ¬ Q.turn < t.a.quilt.turn) := Lib.hid fun h => by have := HTO.out 0 (by decide) (HIS.out.trans h); show ¬ Q.turn < (t.at 0).quilt.turn; omega
              obtain ⟨s, hs⟩ : ∃ s, s = decide (t.a.quilt = Q) := ⟨_, rfl⟩
              rw [← hs] at K2
              have HSI : Hid (i = 0 → a0 = true ∧ s = true) := Lib.hid fun h => by subst h; exact ⟨HIS.out.symm.trans HII.out, by rw [hs]; exact decide_eq_true HQI.out⟩
              clear hs
              cases a0
              · have HIN : Hid (i < 0 + 1 → fb = true) := Lib.hid fun h => by
                  by_cases e : i = 0
                  · have := (HSI.out e).1; cases this
                  · exact HIF.out (by omega)
                clear HSI
                cases fb
                all_goals
                  clear y0 y1 y2 z0 z1 z2
                  replace x0 := regrown_cell x0
                  replace x1 := regrown_cell x1
                  replace x2 := regrown_cell x2
                  replace q0 := regrown_cell q0
                  replace q1 := regrown_cell q1
                  go_wp2_with fail
                  refine wp_region_q (by kernel_rfl) (by kernel_rfl) ?_
                  repeat (go_big_quiet_step (fail))
                  refine wpQuiet_nil ?_
                  intro w6 hb6
                  have HB6 := Lib.hid (two HBX.out hb6)
                  clear hb6 x0 x1 x2 q0 q1
                  obtain ⟨⟨x0, x1, x2⟩, ⟨y0, y1, y2⟩, z0, z1, z2⟩ := CE.out _ (two HB7.out HB6.out)
                  obtain ⟨q0, q1⟩ := CQ.out _ HB6.out
                  clear y0 y1 y2 z0 z1 z2
                  replace x0 := regrown_cell x0
                  replace x1 := regrown_cell x1
                  replace x2 := regrown_cell x2
                  replace q0 := regrown_cell q0
                  replace q1 := regrown_cell q1
                  go_wp2_with fail
                  refine wp_region_q (by kernel_rfl) (by kernel_rfl) ?_
                  repeat (go_big_quiet_step (first | (go_at_call 17; exact Calls.regrown_of (K2.out _ (two HB6.out (below_regrown _ _ _))))))
                  refine wpQuiet_nil ?_
                  intro w8 hb8
                  have HB8 := Lib.hid (two HB6.out hb8)
                  clear hb8 x0 x1 x2 q0 q1
                  go_wp2_with fail
                  go_roundw
                  case rel => exact ⟨1, _, by omega, by go_num, rfl, (by first | exact fun _ => rfl | exact HIN.out), HB8.out⟩
                  case measure => simp [intOf]
              · have hgt := HTJ.out rfl
                have hgt2 : decide (Q.turn < t.a.quilt.turn) = false := decide_eq_false hgt
                cases fb
                · have HIN : Hid (i < 0 + 1 → s = true) := Lib.hid fun h => by
                    by_cases e : i = 0
                    · exact (HSI.out e).2
                    · have := HIF.out (by omega); cases this
                  clear HSI
                  clear y0 y1 y2 z0 z1 z2
                  replace x0 := regrown_cell x0
                  replace x1 := regrown_cell x1
                  replace x2 := regrown_cell x2
                  replace q0 := regrown_cell q0
                  replace q1 := regrown_cell q1
                  go_wp2_with fail
                  refine wp_region_q (by kernel_rfl) (by kernel_rfl) ?_
                  repeat (go_big_quiet_step (fail))
                  refine wpQuiet_nil ?_
                  intro w6 hb6
                  have HB6 := Lib.hid (two HBX.out hb6)
                  clear hb6 x0 x1 x2 q0 q1
                  obtain ⟨⟨x0, x1, x2⟩, ⟨y0, y1, y2⟩, z0, z1, z2⟩ := CE.out _ (two HB7.out HB6.out)
                  obtain ⟨q0, q1⟩ := CQ.out _ HB6.out
                  clear y0 y1 y2 z0 z1 z2
                  replace x0 := regrown_cell x0
                  replace x1 := regrown_cell x1
                  replace x2 := regrown_cell x2
                  replace q0 := regrown_cell q0
                  replace q1 := regrown_cell q1
                  go_wp2_with fail
                  refine wp_region_q (by kernel_rfl) (by kernel_rfl) ?_
                  repeat (go_big_quiet_step (first | (go_at_call 17; exact Calls.regrown_of (K2.out _ (two HB6.out (below_regrown _ _ _))))))
                  refine wpQuiet_nil ?_
                  intro w8 hb8
                  have HB8 := Lib.hid (two HB6.out hb8)
                  clear hb8 x0 x1 x2 q0 q1
                  go_wp2_with fail
                  go_roundw
                  case rel => exact ⟨1, s, by omega, by go_num, rfl, (by first | exact fun _ => rfl | exact HIN.out), HB8.out⟩
                  case measure => simp [intOf]
                · clear HSI
                  clear y0 y1 y2 z0 z1 z2
                  replace x0 := regrown_cell x0
                  replace x1 := regrown_cell x1
                  replace x2 := regrown_cell x2
                  replace q0 := regrown_cell q0
                  replace q1 := regrown_cell q1
                  go_wp2_with fail
                  refine wp_region_q (by kernel_rfl) (by kernel_rfl) ?_
                  repeat (go_big_quiet_step (fail))
                  refine wpQuiet_nil ?_
                  intro w6 hb6
                  have HB6 := Lib.hid (two HBX.out hb6)
                  clear hb6 x0 x1 x2 q0 q1
                  obtain ⟨⟨x0, x1, x2⟩, ⟨y0, y1, y2⟩, z0, z1, z2⟩ := CE.out _ (two HB7.out HB6.out)
                  obtain ⟨q0, q1⟩ := CQ.out _ HB6.out
                  clear y0 y1 y2 z0 z1 z2
                  replace x0 := regrown_cell x0
                  replace x1 := regrown_cell x1
                  replace x2 := regrown_cell x2
                  replace q0 := regrown_cell q0
                  replace q1 := regrown_cell q1
                  go_wp2_with fail
                  refine wp_region_q (by kernel_rfl) (by kernel_rfl) ?_
                  repeat (go_big_quiet_step (first | (go_at_call 17; exact Calls.regrown_of (K2.out _ (two HB6.out (below_regrown _ _ _))))))
                  refine wpQuiet_nil ?_
                  intro w8 hb8
                  have HB8 := Lib.hid (two HB6.out hb8)
                  clear hb8 x0 x1 x2 q0 q1
                  go_wp2_with fail
                  go_roundw
                  case rel => exact ⟨1, true, by omega, by go_num, rfl, fun _ => rfl, HB8.out⟩
                  case measure => simp [intOf]
            · have K2 : Hid (∀ W, Below W7.heap.size W7 W → Calls Try.prog 17 #[.agg #[.slice b3 t.b.quilt.files.length b5, .int .i64 t.b.quilt.turn], .agg #[.slice qo Q.files.length qc, .int .i64 Q.turn]] W fun e w' => e = .returned (.bool (decide (t.b.quilt = Q))) ∧ Below W.heap.size W w') := Lib.hid fun W hw => ref_SameQuilt _ _ t.b.quilt Q W (N1.out W (two HB1.out (two HB7.out hw))) ⟨_, rfl, HF7.out.below hw⟩
              have HIS : Hid ((t.at 1).is = b0) := EB
              have HTJ : Hid (b0 = true → ¬ Q.turn < t.b.quilt.turn) := Lib.hid fun h => by have := HTO.out 1 (by decide) (HIS.out.trans h); show ¬ Q.turn < (t.at 1).quilt.turn; omega
              obtain ⟨s, hs⟩ : ∃ s, s = decide (t.b.quilt = Q) := ⟨_, rfl⟩
              rw [← hs] at K2
              have HSI : Hid (i = 1 → b0 = true ∧ s = true) := Lib.hid fun h => by subst h; exact ⟨HIS.out.symm.trans HII.out, by rw [hs]; exact decide_eq_true HQI.out⟩
              clear hs
              cases b0
              · have HIN : Hid (i < 1 + 1 → fb = true) := Lib.hid fun h => by
                  by_cases e : i = 1
                  · have := (HSI.out e).1; cases this
                  · exact HIF.out (by omega)
                clear HSI
                cases fb
                all_goals
                  clear x0 x1 x2 z0 z1 z2
                  replace y0 := regrown_cell y0
                  replace y1 := regrown_cell y1
                  replace y2 := regrown_cell y2
                  replace q0 := regrown_cell q0
                  replace q1 := regrown_cell q1
                  go_wp2_with fail
                  refine wp_region_q (by kernel_rfl) (by kernel_rfl) ?_
                  repeat (go_big_quiet_step (fail))
                  refine wpQuiet_nil ?_
                  intro w6 hb6
                  have HB6 := Lib.hid (two HBX.out hb6)
                  clear hb6 y0 y1 y2 q0 q1
                  obtain ⟨⟨x0, x1, x2⟩, ⟨y0, y1, y2⟩, z0, z1, z2⟩ := CE.out _ (two HB7.out HB6.out)
                  obtain ⟨q0, q1⟩ := CQ.out _ HB6.out
                  clear x0 x1 x2 z0 z1 z2
                  replace y0 := regrown_cell y0
                  replace y1 := regrown_cell y1
                  replace y2 := regrown_cell y2
                  replace q0 := regrown_cell q0
                  replace q1 := regrown_cell q1
                  go_wp2_with fail
                  refine wp_region_q (by kernel_rfl) (by kernel_rfl) ?_
                  repeat (go_big_quiet_step (first | (go_at_call 17; exact Calls.regrown_of (K2.out _ (two HB6.out (below_regrown _ _ _))))))
                  refine wpQuiet_nil ?_
                  intro w8 hb8
                  have HB8 := Lib.hid (two HB6.out hb8)
                  clear hb8 y0 y1 y2 q0 q1
                  go_wp2_with fail
                  go_roundw
                  case rel => exact ⟨2, _, by omega, by go_num, rfl, (by first | exact fun _ => rfl | exact HIN.out), HB8.out⟩
                  case measure => simp [intOf]
              · have hgt := HTJ.out rfl
                have hgt2 : decide (Q.turn < t.b.quilt.turn) = false := decide_eq_false hgt
                cases fb
                · have HIN : Hid (i < 1 + 1 → s = true) := Lib.hid fun h => by
                    by_cases e : i = 1
                    · exact (HSI.out e).2
                    · have := HIF.out (by omega); cases this
                  clear HSI
                  clear x0 x1 x2 z0 z1 z2
                  replace y0 := regrown_cell y0
                  replace y1 := regrown_cell y1
                  replace y2 := regrown_cell y2
                  replace q0 := regrown_cell q0
                  replace q1 := regrown_cell q1
                  go_wp2_with fail
                  refine wp_region_q (by kernel_rfl) (by kernel_rfl) ?_
                  repeat (go_big_quiet_step (fail))
                  refine wpQuiet_nil ?_
                  intro w6 hb6
                  have HB6 := Lib.hid (two HBX.out hb6)
                  clear hb6 y0 y1 y2 q0 q1
                  obtain ⟨⟨x0, x1, x2⟩, ⟨y0, y1, y2⟩, z0, z1, z2⟩ := CE.out _ (two HB7.out HB6.out)
                  obtain ⟨q0, q1⟩ := CQ.out _ HB6.out
                  clear x0 x1 x2 z0 z1 z2
                  replace y0 := regrown_cell y0
                  replace y1 := regrown_cell y1
                  replace y2 := regrown_cell y2
                  replace q0 := regrown_cell q0
                  replace q1 := regrown_cell q1
                  go_wp2_with fail
                  refine wp_region_q (by kernel_rfl) (by kernel_rfl) ?_
                  repeat (go_big_quiet_step (first | (go_at_call 17; exact Calls.regrown_of (K2.out _ (two HB6.out (below_regrown _ _ _))))))
                  refine wpQuiet_nil ?_
                  intro w8 hb8
                  have HB8 := Lib.hid (two HB6.out hb8)
                  clear hb8 y0 y1 y2 q0 q1
                  go_wp2_with fail
                  go_roundw
                  case rel => exact ⟨2, s, by omega, by go_num, rfl, (by first | exact fun _ => rfl | exact HIN.out), HB8.out⟩
                  case measure => simp [intOf]
                · clear HSI
                  clear x0 x1 x2 z0 z1 z2
                  replace y0 := regrown_cell y0
                  replace y1 := regrown_cell y1
                  replace y2 := regrown_cell y2
                  replace q0 := regrown_cell q0
                  replace q1 := regrown_cell q1
                  go_wp2_with fail
                  refine wp_region_q (by kernel_rfl) (by kernel_rfl) ?_
                  repeat (go_big_quiet_step (fail))
                  refine wpQuiet_nil ?_
                  intro w6 hb6
                  have HB6 := Lib.hid (two HBX.out hb6)
                  clear hb6 y0 y1 y2 q0 q1
                  obtain ⟨⟨x0, x1, x2⟩, ⟨y0, y1, y2⟩, z0, z1, z2⟩ := CE.out _ (two HB7.out HB6.out)
                  obtain ⟨q0, q1⟩ := CQ.out _ HB6.out
                  clear x0 x1 x2 z0 z1 z2
                  replace y0 := regrown_cell y0
                  replace y1 := regrown_cell y1
                  replace y2 := regrown_cell y2
                  replace q0 := regrown_cell q0
                  replace q1 := regrown_cell q1
                  go_wp2_with fail
                  refine wp_region_q (by kernel_rfl) (by kernel_rfl) ?_
                  repeat (go_big_quiet_step (first | (go_at_call 17; exact Calls.regrown_of (K2.out _ (two HB6.out (below_regrown _ _ _))))))
                  refine wpQuiet_nil ?_
                  intro w8 hb8
                  have HB8 := Lib.hid (two HB6.out hb8)
                  clear hb8 y0 y1 y2 q0 q1
                  go_wp2_with fail
                  go_roundw
                  case rel => exact ⟨2, true, by omega, by go_num, rfl, fun _ => rfl, HB8.out⟩
                  case measure => simp [intOf]
            · have K2 : Hid (∀ W, Below W7.heap.size W7 W → Calls Try.prog 17 #[.agg #[.slice d3 t.c.quilt.files.length d5, .int .i64 t.c.quilt.turn], .agg #[.slice qo Q.files.length qc, .int .i64 Q.turn]] W fun e w' => e = .returned (.bool (decide (t.c.quilt = Q))) ∧ Below W.heap.size W w') := Lib.hid fun W hw => ref_SameQuilt _ _ t.c.quilt Q W (N2.out W (two HB1.out (two HB7.out hw))) ⟨_, rfl, HF7.out.below hw⟩
              have HIS : Hid ((t.at 2).is = d0) := ED
              have HTJ : Hid (d0 = true → ¬ Q.turn < t.c.quilt.turn) := Lib.hid fun h => by have := HTO.out 2 (by decide) (HIS.out.trans h); show ¬ Q.turn < (t.at 2).quilt.turn; omega
              obtain ⟨s, hs⟩ : ∃ s, s = decide (t.c.quilt = Q) := ⟨_, rfl⟩
              rw [← hs] at K2
              have HSI : Hid (i = 2 → d0 = true ∧ s = true) := Lib.hid fun h => by subst h; exact ⟨HIS.out.symm.trans HII.out, by rw [hs]; exact decide_eq_true HQI.out⟩
              clear hs
              cases d0
              · have HIN : Hid (i < 2 + 1 → fb = true) := Lib.hid fun h => by
                  by_cases e : i = 2
                  · have := (HSI.out e).1; cases this
                  · exact HIF.out (by omega)
                clear HSI
                cases fb
                all_goals
                  clear x0 x1 x2 y0 y1 y2
                  replace z0 := regrown_cell z0
                  replace z1 := regrown_cell z1
                  replace z2 := regrown_cell z2
                  replace q0 := regrown_cell q0
                  replace q1 := regrown_cell q1
                  go_wp2_with fail
                  refine wp_region_q (by kernel_rfl) (by kernel_rfl) ?_
                  repeat (go_big_quiet_step (fail))
                  refine wpQuiet_nil ?_
                  intro w6 hb6
                  have HB6 := Lib.hid (two HBX.out hb6)
                  clear hb6 z0 z1 z2 q0 q1
                  obtain ⟨⟨x0, x1, x2⟩, ⟨y0, y1, y2⟩, z0, z1, z2⟩ := CE.out _ (two HB7.out HB6.out)
                  obtain ⟨q0, q1⟩ := CQ.out _ HB6.out
                  clear x0 x1 x2 y0 y1 y2
                  replace z0 := regrown_cell z0
                  replace z1 := regrown_cell z1
                  replace z2 := regrown_cell z2
                  replace q0 := regrown_cell q0
                  replace q1 := regrown_cell q1
                  go_wp2_with fail
                  refine wp_region_q (by kernel_rfl) (by kernel_rfl) ?_
                  repeat (go_big_quiet_step (first | (go_at_call 17; exact Calls.regrown_of (K2.out _ (two HB6.out (below_regrown _ _ _))))))
                  refine wpQuiet_nil ?_
                  intro w8 hb8
                  have HB8 := Lib.hid (two HB6.out hb8)
                  clear hb8 z0 z1 z2 q0 q1
                  go_wp2_with fail
                  go_roundw
                  case rel => exact ⟨3, _, by omega, by go_num, rfl, (by first | exact fun _ => rfl | exact HIN.out), HB8.out⟩
                  case measure => simp [intOf]
              · have hgt := HTJ.out rfl
                have hgt2 : decide (Q.turn < t.c.quilt.turn) = false := decide_eq_false hgt
                cases fb
                · have HIN : Hid (i < 2 + 1 → s = true) := Lib.hid fun h => by
                    by_cases e : i = 2
                    · exact (HSI.out e).2
                    · have := HIF.out (by omega); cases this
                  clear HSI
                  clear x0 x1 x2 y0 y1 y2
                  replace z0 := regrown_cell z0
                  replace z1 := regrown_cell z1
                  replace z2 := regrown_cell z2
                  replace q0 := regrown_cell q0
                  replace q1 := regrown_cell q1
                  go_wp2_with fail
                  refine wp_region_q (by kernel_rfl) (by kernel_rfl) ?_
                  repeat (go_big_quiet_step (fail))
                  refine wpQuiet_nil ?_
                  intro w6 hb6
                  have HB6 := Lib.hid (two HBX.out hb6)
                  clear hb6 z0 z1 z2 q0 q1
                  obtain ⟨⟨x0, x1, x2⟩, ⟨y0, y1, y2⟩, z0, z1, z2⟩ := CE.out _ (two HB7.out HB6.out)
                  obtain ⟨q0, q1⟩ := CQ.out _ HB6.out
                  clear x0 x1 x2 y0 y1 y2
                  replace z0 := regrown_cell z0
                  replace z1 := regrown_cell z1
                  replace z2 := regrown_cell z2
                  replace q0 := regrown_cell q0
                  replace q1 := regrown_cell q1
                  go_wp2_with fail
                  refine wp_region_q (by kernel_rfl) (by kernel_rfl) ?_
                  repeat (go_big_quiet_step (first | (go_at_call 17; exact Calls.regrown_of (K2.out _ (two HB6.out (below_regrown _ _ _))))))
                  refine wpQuiet_nil ?_
                  intro w8 hb8
                  have HB8 := Lib.hid (two HB6.out hb8)
                  clear hb8 z0 z1 z2 q0 q1
                  go_wp2_with fail
                  go_roundw
                  case rel => exact ⟨3, s, by omega, by go_num, rfl, (by first | exact fun _ => rfl | exact HIN.out), HB8.out⟩
                  case measure => simp [intOf]
                · clear HSI
                  clear x0 x1 x2 y0 y1 y2
                  replace z0 := regrown_cell z0
                  replace z1 := regrown_cell z1
                  replace z2 := regrown_cell z2
                  replace q0 := regrown_cell q0
                  replace q1 := regrown_cell q1
                  go_wp2_with fail
                  refine wp_region_q (by kernel_rfl) (by kernel_rfl) ?_
                  repeat (go_big_quiet_step (fail))
                  refine wpQuiet_nil ?_
                  intro w6 hb6
                  have HB6 := Lib.hid (two HBX.out hb6)
                  clear hb6 z0 z1 z2 q0 q1
                  obtain ⟨⟨x0, x1, x2⟩, ⟨y0, y1, y2⟩, z0, z1, z2⟩ := CE.out _ (two HB7.out HB6.out)
                  obtain ⟨q0, q1⟩ := CQ.out _ HB6.out
                  clear x0 x1 x2 y0 y1 y2
                  replace z0 := regrown_cell z0
                  replace z1 := regrown_cell z1
                  replace z2 := regrown_cell z2
                  replace q0 := regrown_cell q0
                  replace q1 := regrown_cell q1
                  go_wp2_with fail
                  refine wp_region_q (by kernel_rfl) (by kernel_rfl) ?_
                  repeat (go_big_quiet_step (first | (go_at_call 17; exact Calls.regrown_of (K2.out _ (two HB6.out (below_regrown _ _ _))))))
                  refine wpQuiet_nil ?_
                  intro w8 hb8
                  have HB8 := Lib.hid (two HB6.out hb8)
                  clear hb8 z0 z1 z2 q0 q1
                  go_wp2_with fail
                  go_roundw
                  case rel => exact ⟨3, true, by omega, by go_num, rfl, fun _ => rfl, HB8.out⟩
                  case measure => simp [intOf]
          · obtain rfl : j = 3 := by omega
            obtain rfl : fb = true := HIF.out HI3.out
            have C := CW.out wr (two HB1.out (two HB7.out HBX.out)) _ Q ⟨_, rfl, HF7.out.below HBX.out⟩
            unfold RetNums at C
            obtain ⟨ws, hws⟩ : ∃ ws, ws = wrongs t Q := ⟨_, rfl⟩
            rw [← hws] at C HWR
            replace C := Lib.hid C
            clear hws
            go_wp2_with fail
            refine C.out.mono ?_
            rintro e w6 ⟨vn, rfl, hn, hb6⟩
            obtain ⟨no, nc, rfl, _, _⟩ := hn.parts
            have HB6 := Lib.hid (two HBX.out hb6)
            clear hn hb6
            rw [HWR.out]
            go_wp2_with fail
            go_ret
            exact ⟨rfl, two HB1.out (two HB7.out HB6.out)⟩
end Go.Proofs.Ytggpodlecljcbab
