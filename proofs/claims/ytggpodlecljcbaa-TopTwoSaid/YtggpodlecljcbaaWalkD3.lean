/- The walk of the document's answer: which copies are wrong. -/
import Derived.Test.YtggpodlecljcbaaWalkD2
namespace Go.Proofs.Ytggpodlecljcbaa
open Go.RowKit Go.Sort

set_option maxRecDepth 100000 in
set_option maxHeartbeats 1000000 in
theorem ref_WrongOf (tv : TrioV) (t : Trio) (qv : Value) (q : Quilt) (w : World) (ht : IsTrio w tv t) (hq : Quilts w qv q) :
    Calls Try.prog 27 #[tv.val, qv] w (RetNums (wrongs t q) w) := by
  obtain ⟨v, rfl, hq⟩ := hq
  obtain ⟨ao, ca, rfl, hca, hca'⟩ := hq.parts
  have HQ := Lib.hid hq
  have HT := Lib.hid ht
  clear hq ht
  obtain ⟨⟨a0, a1, a2⟩, ⟨b0, b1, b2⟩, ⟨d0, d1, d2⟩⟩ := tv
  obtain ⟨a3, a4, e, _, _⟩ := HT.out.1.2.2.parts
  dsimp only at e
  subst e
  obtain ⟨b3, b4, e, _, _⟩ := HT.out.2.1.2.2.parts
  dsimp only at e
  subst e
  obtain ⟨d3, d4, e, _, _⟩ := HT.out.2.2.2.2.parts
  dsimp only at e
  subst e
  generalize t.a.quilt.files.length = a5, t.b.quilt.files.length = b5, t.c.quilt.files.length = d5 at *
  unfold TrioV.val TrioV.arr
  obtain ⟨W2, hW2⟩ : ∃ W2, W2 = (w.alloc (.cells #[.bool a0, .slice a3 a5 a4, .int .i64 a2, .bool b0, .slice b3 b5 b4, .int .i64 b2, .bool d0, .slice d3 d5 d4, .int .i64 d2] 37)).alloc (.cells #[.slice ao q.files.length ca, .int .i64 q.turn] 34) := ⟨_, rfl⟩
  have B2 : Below w.heap.size w W2 := by rw [hW2]; exact two (below_alloc w _) (below_alloc _ _)
  have c0 : W2.cell? ⟨w.heap.size + 1, 0, none⟩ = some (.slice ao q.files.length ca) := by rw [hW2]; simp
  have c1 : W2.cell? ⟨w.heap.size + 1, 1, none⟩ = some (.int .i64 q.turn) := by rw [hW2]; simp
  have a0' : W2.cell? ⟨w.heap.size, 0, none⟩ = some (.bool a0) := by rw [hW2]; simp
  have a1' : W2.cell? ⟨w.heap.size, 1, none⟩ = some (.slice a3 a5 a4) := by rw [hW2]; simp
  have a2' : W2.cell? ⟨w.heap.size, 2, none⟩ = some (.int .i64 a2) := by rw [hW2]; simp
  have a3' : W2.cell? ⟨w.heap.size, 3, none⟩ = some (.bool b0) := by rw [hW2]; simp
  have a4' : W2.cell? ⟨w.heap.size, 4, none⟩ = some (.slice b3 b5 b4) := by rw [hW2]; simp
  have a5' : W2.cell? ⟨w.heap.size, 5, none⟩ = some (.int .i64 b2) := by rw [hW2]; simp
  have a6' : W2.cell? ⟨w.heap.size, 6, none⟩ = some (.bool d0) := by rw [hW2]; simp
  have a7' : W2.cell? ⟨w.heap.size, 7, none⟩ = some (.slice d3 d5 d4) := by rw [hW2]; simp
  have a8' : W2.cell? ⟨w.heap.size, 8, none⟩ = some (.int .i64 d2) := by rw [hW2]; simp
  have hz : W2.heap.size = w.heap.size + 2 := by rw [hW2]; simp
  have HW2 := Lib.hid hW2
  have HZ := Lib.hid hz
  replace B2 := Lib.hid B2
  clear hW2 hz
  go_enter Try.func27, Try.ntmps27
  go_wp2_with fail
  rw [← HW2.out]
  go_loopw [5, 6] (fun o i wr => ∃ k : Nat, k ≤ 3 ∧ i = .int .i64 k ∧ wr.ownsRow W2.heap.size 3 1 o (wrongTo t q k).length ((wrongTo t q k).flatMap intCells) ∧ Below W2.heap.size W2 wr) (fun _ i _ => 3 - (intOf i).toNat)
  case atStart => exact ⟨0, Nat.zero_le _, rfl, World.ownsRow_nil _ _ _ _, Below.refl _ _⟩
  case round =>
    obtain ⟨k, hk, rfl, hown, hbw⟩ := hrel
    obtain ⟨hc, _⟩ := bcell hbw
    have x0 := regrown_cell ((hc (w.heap.size + 1) 0 (by rw [HZ.out]; omega)).trans c0)
    have x1 := regrown_cell ((hc (w.heap.size + 1) 1 (by rw [HZ.out]; omega)).trans c1)
    have y0 := regrown_cell ((hc w.heap.size 0 (by rw [HZ.out]; omega)).trans a0')
    have y1 := regrown_cell ((hc w.heap.size 1 (by rw [HZ.out]; omega)).trans a1')
    have y2 := regrown_cell ((hc w.heap.size 2 (by rw [HZ.out]; omega)).trans a2')
    have y3 := regrown_cell ((hc w.heap.size 3 (by rw [HZ.out]; omega)).trans a3')
    have y4 := regrown_cell ((hc w.heap.size 4 (by rw [HZ.out]; omega)).trans a4')
    have y5 := regrown_cell ((hc w.heap.size 5 (by rw [HZ.out]; omega)).trans a5')
    have y6 := regrown_cell ((hc w.heap.size 6 (by rw [HZ.out]; omega)).trans a6')
    have y7 := regrown_cell ((hc w.heap.size 7 (by rw [HZ.out]; omega)).trans a7')
    have y8 := regrown_cell ((hc w.heap.size 8 (by rw [HZ.out]; omega)).trans a8')
    have HO := Lib.hid hown
    have HW := Lib.hid hbw
    have HN := Lib.hid (wrong_le t q k)
    clear hown hbw hc
    by_cases hlt : k < 3
    · obtain rfl | rfl | rfl : k = 0 ∨ k = 1 ∨ k = 2 := by omega
      · have C := fun W (hb : Below wr.heap.size wr W) => ref_SameCopy (.agg #[.bool a0, .slice a3 a5 a4, .int .i64 a2]) (.agg #[.bool true, .slice ao q.files.length ca, .int .i64 q.turn]) (t.at 0) ⟨true, q⟩ W (((HT.out.1.below B2.out).below HW.out).below hb).copies ⟨_, rfl, ((HQ.out.below B2.out).below HW.out).below hb⟩
        by_cases hf : sameCopy (t.at 0) ⟨true, q⟩ = true
        · rw [hf] at C
          replace C := Lib.hid C
          have HF := Lib.hid hf
          clear hf
          go_wp2_with fail
          refine wp_region_q (by kernel_rfl) (by kernel_rfl) ?_
          repeat (quiet_step (exact Calls.regrown_of (C.out _ (below_regrown _ _ _))))
          refine wpQuiet_nil ?_
          intro w2 hb2
          have HB2 := Lib.hid hb2
          clear hb2
          go_wp2_with fail
          go_roundw
          case rel => exact ⟨1, by omega, rfl, by rw [wrong_no t q 0 HF.out]; exact HO.out.kept (⟨HB2.out.os, HB2.out.tape, HB2.out.output, HB2.out.size, fun j hj _ => HB2.out.block j hj⟩ : World.grownBy _ _ none) (by cases h : Value.ownBlock _ <;> simp), two HW.out HB2.out⟩
          case measure => simp [intOf]
        · have hf' : sameCopy (t.at 0) ⟨true, q⟩ = false := by simpa using hf
          rw [hf'] at C
          replace C := Lib.hid C
          have HF := Lib.hid hf'
          clear hf hf'
          go_wp2_with fail
          refine wp_region_q (by kernel_rfl) (by kernel_rfl) ?_
          repeat (quiet_step (exact Calls.regrown_of (C.out _ (below_regrown _ _ _))))
          refine wpQuiet_nil ?_
          intro w2 hb2
          have hown2 := Lib.hid (HO.out.kept (⟨hb2.os, hb2.tape, hb2.output, hb2.size, fun j hj _ => hb2.block j hj⟩ : World.grownBy _ _ none) (by cases h : Value.ownBlock _ <;> simp))
          have HB2 := Lib.hid hb2
          have hz2 : W2.heap.size ≤ w2.heap.size := Nat.le_trans HW.out.size hb2.size
          have hlen : (wrongTo t q 0).length ≤ 0 := HN.out
          clear hb2
          go_wp2_with (at_builtin; refine wpList_app I_ints rfl _ _ rfl W2.heap.size _ _ _ rfl (hown2.out.alloc _) ⟨w2.heap.size, 0, none⟩ 1 1 [.int .i64 0] rfl rfl ?c1 ?c2 ?c3 ?c4 ?_)
          case c1 => exact one_new
          case c2 => intro u hu; simp at hu; subst hu; rfl
          case c3 => omega
          case c4 => simp; omega
          intro v' w3 hown3 hg3
          have HB3 := Lib.hid (grown_below ((two HW.out HB2.out).trans ((below_alloc w2 (.cells #[.int .i64 0] 3)).mono hz2)) (hown2.out.alloc _) hg3 (Nat.le_refl _))
          have HO3 := Lib.hid hown3
          clear hown3 hg3
          go_wp2_with fail
          go_roundw
          case rel =>
            refine ⟨1, by omega, rfl, ?_, HB3.out⟩
            rw [wrong_yes t q 0 HF.out, flat_append, List.length_append]
            exact HO3.out
          case measure => simp [intOf]
      · have C := fun W (hb : Below wr.heap.size wr W) => ref_SameCopy (.agg #[.bool b0, .slice b3 b5 b4, .int .i64 b2]) (.agg #[.bool true, .slice ao q.files.length ca, .int .i64 q.turn]) (t.at 1) ⟨true, q⟩ W (((HT.out.2.1.below B2.out).below HW.out).below hb).copies ⟨_, rfl, ((HQ.out.below B2.out).below HW.out).below hb⟩
        by_cases hf : sameCopy (t.at 1) ⟨true, q⟩ = true
        · rw [hf] at C
          replace C := Lib.hid C
          have HF := Lib.hid hf
          clear hf
          go_wp2_with fail
          refine wp_region_q (by kernel_rfl) (by kernel_rfl) ?_
          repeat (quiet_step (exact Calls.regrown_of (C.out _ (below_regrown _ _ _))))
          refine wpQuiet_nil ?_
          intro w2 hb2
          have HB2 := Lib.hid hb2
          clear hb2
          go_wp2_with fail
          go_roundw
          case rel => exact ⟨2, by omega, rfl, by rw [wrong_no t q 1 HF.out]; exact HO.out.kept (⟨HB2.out.os, HB2.out.tape, HB2.out.output, HB2.out.size, fun j hj _ => HB2.out.block j hj⟩ : World.grownBy _ _ none) (by cases h : Value.ownBlock _ <;> simp), two HW.out HB2.out⟩
          case measure => simp [intOf]
        · have hf' : sameCopy (t.at 1) ⟨true, q⟩ = false := by simpa using hf
          rw [hf'] at C
          replace C := Lib.hid C
          have HF := Lib.hid hf'
          clear hf hf'
          go_wp2_with fail
          refine wp_region_q (by kernel_rfl) (by kernel_rfl) ?_
          repeat (quiet_step (exact Calls.regrown_of (C.out _ (below_regrown _ _ _))))
          refine wpQuiet_nil ?_
          intro w2 hb2
          have hown2 := Lib.hid (HO.out.kept (⟨hb2.os, hb2.tape, hb2.output, hb2.size, fun j hj _ => hb2.block j hj⟩ : World.grownBy _ _ none) (by cases h : Value.ownBlock _ <;> simp))
          have HB2 := Lib.hid hb2
          have hz2 : W2.heap.size ≤ w2.heap.size := Nat.le_trans HW.out.size hb2.size
          have hlen : (wrongTo t q 1).length ≤ 1 := HN.out
          clear hb2
          go_wp2_with (at_builtin; refine wpList_app I_ints rfl _ _ rfl W2.heap.size _ _ _ rfl (hown2.out.alloc _) ⟨w2.heap.size, 0, none⟩ 1 1 [.int .i64 1] rfl rfl ?c1 ?c2 ?c3 ?c4 ?_)
          case c1 => exact one_new
          case c2 => intro u hu; simp at hu; subst hu; rfl
          case c3 => omega
          case c4 => simp; omega
          intro v' w3 hown3 hg3
          have HB3 := Lib.hid (grown_below ((two HW.out HB2.out).trans ((below_alloc w2 (.cells #[.int .i64 1] 3)).mono hz2)) (hown2.out.alloc _) hg3 (Nat.le_refl _))
          have HO3 := Lib.hid hown3
          clear hown3 hg3
          go_wp2_with fail
          go_roundw
          case rel =>
            refine ⟨2, by omega, rfl, ?_, HB3.out⟩
            rw [wrong_yes t q 1 HF.out, flat_append, List.length_append]
            exact HO3.out
          case measure => simp [intOf]
      · have C := fun W (hb : Below wr.heap.size wr W) => ref_SameCopy (.agg #[.bool d0, .slice d3 d5 d4, .int .i64 d2]) (.agg #[.bool true, .slice ao q.files.length ca, .int .i64 q.turn]) (t.at 2) ⟨true, q⟩ W (((HT.out.2.2.below B2.out).below HW.out).below hb).copies ⟨_, rfl, ((HQ.out.below B2.out).below HW.out).below hb⟩
        by_cases hf : sameCopy (t.at 2) ⟨true, q⟩ = true
        · rw [hf] at C
          replace C := Lib.hid C
          have HF := Lib.hid hf
          clear hf
          go_wp2_with fail
          refine wp_region_q (by kernel_rfl) (by kernel_rfl) ?_
          repeat (quiet_step (exact Calls.regrown_of (C.out _ (below_regrown _ _ _))))
          refine wpQuiet_nil ?_
          intro w2 hb2
          have HB2 := Lib.hid hb2
          clear hb2
          go_wp2_with fail
          go_roundw
          case rel => exact ⟨3, by omega, rfl, by rw [wrong_no t q 2 HF.out]; exact HO.out.kept (⟨HB2.out.os, HB2.out.tape, HB2.out.output, HB2.out.size, fun j hj _ => HB2.out.block j hj⟩ : World.grownBy _ _ none) (by cases h : Value.ownBlock _ <;> simp), two HW.out HB2.out⟩
          case measure => simp [intOf]
        · have hf' : sameCopy (t.at 2) ⟨true, q⟩ = false := by simpa using hf
          rw [hf'] at C
          replace C := Lib.hid C
          have HF := Lib.hid hf'
          clear hf hf'
          go_wp2_with fail
          refine wp_region_q (by kernel_rfl) (by kernel_rfl) ?_
          repeat (quiet_step (exact Calls.regrown_of (C.out _ (below_regrown _ _ _))))
          refine wpQuiet_nil ?_
          intro w2 hb2
          have hown2 := Lib.hid (HO.out.kept (⟨hb2.os, hb2.tape, hb2.output, hb2.size, fun j hj _ => hb2.block j hj⟩ : World.grownBy _ _ none) (by cases h : Value.ownBlock _ <;> simp))
          have HB2 := Lib.hid hb2
          have hz2 : W2.heap.size ≤ w2.heap.size := Nat.le_trans HW.out.size hb2.size
          have hlen : (wrongTo t q 2).length ≤ 2 := HN.out
          clear hb2
          go_wp2_with (at_builtin; refine wpList_app I_ints rfl _ _ rfl W2.heap.size _ _ _ rfl (hown2.out.alloc _) ⟨w2.heap.size, 0, none⟩ 1 1 [.int .i64 2] rfl rfl ?c1 ?c2 ?c3 ?c4 ?_)
          case c1 => exact one_new
          case c2 => intro u hu; simp at hu; subst hu; rfl
          case c3 => omega
          case c4 => simp; omega
          intro v' w3 hown3 hg3
          have HB3 := Lib.hid (grown_below ((two HW.out HB2.out).trans ((below_alloc w2 (.cells #[.int .i64 2] 3)).mono hz2)) (hown2.out.alloc _) hg3 (Nat.le_refl _))
          have HO3 := Lib.hid hown3
          clear hown3 hg3
          go_wp2_with fail
          go_roundw
          case rel =>
            refine ⟨3, by omega, rfl, ?_, HB3.out⟩
            rw [wrong_yes t q 2 HF.out, flat_append, List.length_append]
            exact HO3.out
          case measure => simp [intOf]
    · obtain rfl : k = 3 := by omega
      go_wp2_with fail
      go_ret
      exact ⟨_, rfl, SL.of_own HO.out, two B2.out HW.out⟩
end Go.Proofs.Ytggpodlecljcbaa
