/- The walk of the statement VoteSays. -/
import Derived.Test.YtggpodlecljcbaaWalkD5
import Derived.Test.YtggpodlecljcbaaWalkE
import Derived.Deep.RegionHeld3
namespace Go.Proofs.Ytggpodlecljcbaa
open Go.RowKit Go.Sort

theorem same_of (n m : Nat) (b : Bool) (h : decide (n = m) = b) (w : World) :
    Calls Try.prog 14 #[errV n, .int .i64 m] w fun e w' => e = .returned (.bool b) ∧ Below w.heap.size w w' :=
  (law_same n m w).mono fun e w' ⟨h1, h2⟩ => ⟨by rw [h1, ← h]; exact ret_bool (by rw [Bool.eq_iff_iff, decide_eq_true_iff, decide_eq_true_iff]; omega), h2 ▸ Below.refl _ _⟩

set_option maxRecDepth 100000 in
set_option maxHeartbeats 1000000 in
theorem law_votes (w : World) : Calls Try.prog 18 #[] w fun e w' => e = .returned (.bool true) ∧ Below w.heap.size w w' := by
  have C := fun W => vote_Of ⟨⟨true, .slice none 0 0, 3⟩, ⟨true, .slice none 0 0, 9⟩, ⟨true, .slice none 0 0, 3⟩⟩ ⟨⟨true, ⟨[], 3⟩⟩, ⟨true, ⟨[], 9⟩⟩, ⟨true, ⟨[], 3⟩⟩⟩ W ⟨⟨rfl, rfl, Rd.nil _⟩, ⟨rfl, rfl, Rd.nil _⟩, ⟨rfl, rfl, Rd.nil _⟩⟩
  rw [show votedQ ⟨⟨true, ⟨[], 3⟩⟩, ⟨true, ⟨[], 9⟩⟩, ⟨true, ⟨[], 3⟩⟩⟩ = ⟨[], 3⟩ by decide, show votedE ⟨⟨true, ⟨[], 3⟩⟩, ⟨true, ⟨[], 9⟩⟩, ⟨true, ⟨[], 3⟩⟩⟩ = 0 by decide] at C
  replace C := Lib.hid C
  go_enter Try.func18, Try.ntmps18
  go_wp2_with fail
  refine (C.out _).mono ?_
  rintro e w1 ⟨qv, rfl, ⟨v, rfl, hq⟩, hb1⟩
  obtain ⟨ao, ca, rfl, _, _⟩ := hq.parts
  rw [errV_zero]
  have HB1 := Lib.hid hb1
  clear hb1
  go_wp2_with fail
  refine (same_of 0 0 true rfl _).mono ?_
  rintro e w2 ⟨rfl, hb2⟩
  obtain ⟨hc, _⟩ := bcell hb2
  have z0 := hc w1.heap.size 1 (by simp)
  simp at z0
  have HB2 := Lib.hid hb2
  clear hb2 hc
  go_wp2_with fail
  go_ret
  exact ⟨rfl, two (below_alloc w _) (two HB1.out (two (below_alloc w1 _) HB2.out))⟩

def Trio.ok (t : Trio) : Prop := (∀ f ∈ t.a.quilt.files, f.ok) ∧ (∀ f ∈ t.b.quilt.files, f.ok) ∧ (∀ f ∈ t.c.quilt.files, f.ok)
/-- A cell of an older block, in a later world. -/
theorem cell_on {w w' : World} (hb : Below w.heap.size w w') {b o : Nat} {v : Value} (h : w.cell? ⟨b, o, none⟩ = some v) : w'.cell? ⟨b, o, none⟩ = some v := by
  rw [hb.cell (p := ⟨b, o, none⟩) (World.block_lt_of_cell? w _ h)]; exact h

set_option maxRecDepth 100000 in
set_option maxHeartbeats 2000000 in
theorem law_VoteSays (tv : TrioV) (t : Trio) (qv : Value) (q : Quilt) (w : World) (ht : IsTrio w tv t) (hq : Quilts w qv q) (hok : t.ok) (hqok : ∀ f ∈ q.files, f.ok) :
    Calls Try.prog 4 #[tv.val, qv] w fun e w' => e = .returned (.bool true) ∧ Below w.heap.size w w' := by
  obtain ⟨v, rfl, hq⟩ := hq
  obtain ⟨ao, ca, rfl, hca, hca'⟩ := hq.parts
  have HT := Lib.hid ht
  have HQ := Lib.hid hq
  have HOK := Lib.hid hok
  have HQOK := Lib.hid hqok
  clear ht hq hok hqok
  obtain ⟨⟨a0, a1, a2⟩, ⟨b0, b1, b2⟩, ⟨d0, d1, d2⟩⟩ := tv
  have PA := HT.out.1.2.2.parts
  have PB := HT.out.2.1.2.2.parts
  have PD := HT.out.2.2.2.2.parts
  dsimp only at PA PB PD
  obtain ⟨a3, a4, rfl, _, _⟩ := PA
  obtain ⟨b3, b4, rfl, _, _⟩ := PB
  obtain ⟨d3, d4, rfl, _, _⟩ := PD
  generalize ea : t.a.quilt.files.length = a5 at *
  generalize eb : t.b.quilt.files.length = b5 at *
  generalize ed : t.c.quilt.files.length = d5 at *
  generalize eq : q.files.length = q5 at *
  clear ea eb ed eq
  obtain ⟨W2, hW2⟩ : ∃ W2, W2 = (w.alloc (.cells #[.bool a0, .slice a3 a5 a4, .int .i64 a2, .bool b0, .slice b3 b5 b4, .int .i64 b2, .bool d0, .slice d3 d5 d4, .int .i64 d2] 37)).alloc (.cells #[.slice ao q5 ca, .int .i64 q.turn] 34) := ⟨_, rfl⟩
  have B2 : Below w.heap.size w W2 := by rw [hW2]; exact two (below_alloc w _) (below_alloc _ _)
  have CE : ∀ W, Below W2.heap.size W2 W → Hid (W.cell? ⟨w.heap.size, 0, none⟩ = some (.bool a0) ∧ W.cell? ⟨w.heap.size, 1, none⟩ = some (.slice a3 a5 a4) ∧ W.cell? ⟨w.heap.size, 2, none⟩ = some (.int .i64 a2) ∧
      W.cell? ⟨w.heap.size, 3, none⟩ = some (.bool b0) ∧ W.cell? ⟨w.heap.size, 4, none⟩ = some (.slice b3 b5 b4) ∧ W.cell? ⟨w.heap.size, 5, none⟩ = some (.int .i64 b2) ∧
      W.cell? ⟨w.heap.size, 6, none⟩ = some (.bool d0) ∧ W.cell? ⟨w.heap.size, 7, none⟩ = some (.slice d3 d5 d4) ∧ W.cell? ⟨w.heap.size, 8, none⟩ = some (.int .i64 d2) ∧
      W.cell? ⟨w.heap.size + 1, 0, none⟩ = some (.slice ao q5 ca) ∧ W.cell? ⟨w.heap.size + 1, 1, none⟩ = some (.int .i64 q.turn)) := by
    intro W hb
    refine ⟨cell_on hb ?_, cell_on hb ?_, cell_on hb ?_, cell_on hb ?_, cell_on hb ?_, cell_on hb ?_, cell_on hb ?_, cell_on hb ?_, cell_on hb ?_, cell_on hb ?_, cell_on hb ?_⟩ <;> (rw [hW2]; simp)
  have HW2 := Lib.hid hW2
  have HB := Lib.hid B2
  replace CE := Lib.hid CE
  clear hW2 B2
  have LA := fun W (hb : Below W2.heap.size W2 W) => law_LightQuilt (.agg #[.slice a3 a5 a4, .int .i64 a2]) t.a.quilt W ⟨_, by rw [← HT.out.1.2.1], (HT.out.1.2.2.below HB.out).below hb⟩ HOK.out.1
  have LB := fun W (hb : Below W2.heap.size W2 W) => law_LightQuilt (.agg #[.slice b3 b5 b4, .int .i64 b2]) t.b.quilt W ⟨_, by rw [← HT.out.2.1.2.1], (HT.out.2.1.2.2.below HB.out).below hb⟩ HOK.out.2.1
  have LD := fun W (hb : Below W2.heap.size W2 W) => law_LightQuilt (.agg #[.slice d3 d5 d4, .int .i64 d2]) t.c.quilt W ⟨_, by rw [← HT.out.2.2.2.1], (HT.out.2.2.2.2.below HB.out).below hb⟩ HOK.out.2.2
  have LQ := fun W (hb : Below W2.heap.size W2 W) => law_LightQuilt (.agg #[.slice ao q5 ca, .int .i64 q.turn]) q W ⟨_, rfl, (HQ.out.below HB.out).below hb⟩ HQOK.out
  unfold TrioV.val TrioV.arr
  cases l0 : lightFiles t.a.quilt.files
  · rw [l0] at LA
    replace LA := Lib.hid LA
    clear LB LD LQ l0
    go_enter Try.func4, Try.ntmps4
    go_wp2_with fail
    rw [← HW2.out]
    refine (law_votes _).mono ?_
    rintro e w1 ⟨rfl, hb1⟩
    obtain ⟨x0, x1, x2, x3, x4, x5, x6, x7, x8, x9, x10⟩ := (CE.out _ hb1).out
    have HB1 := Lib.hid hb1
    clear hb1
    go_wp2_with fail
    refine (LA.out _ HB1.out).mono ?_
    rintro e w2 ⟨rfl, hb2⟩
    have E2 := Lib.hid (two HB1.out hb2)
    clear hb2
    go_wp2_with fail
    go_ret
    exact ⟨rfl, two HB.out E2.out⟩
  · rw [l0] at LA
    replace LA := Lib.hid LA
    clear l0
    cases l1 : lightFiles t.b.quilt.files
    · rw [l1] at LB
      replace LB := Lib.hid LB
      clear LD LQ l1
      go_enter Try.func4, Try.ntmps4
      go_wp2_with fail
      rw [← HW2.out]
      refine (law_votes _).mono ?_
      rintro e w1 ⟨rfl, hb1⟩
      obtain ⟨x0, x1, x2, x3, x4, x5, x6, x7, x8, x9, x10⟩ := (CE.out _ hb1).out
      have HB1 := Lib.hid hb1
      clear hb1
      go_wp2_with fail
      refine (LA.out _ HB1.out).mono ?_
      rintro e w2 ⟨rfl, hb2⟩
      have E2 := Lib.hid (two HB1.out hb2)
      clear hb2
      clear x0 x1 x2 x3 x4 x5 x6 x7 x8 x9 x10
      obtain ⟨x0, x1, x2, x3, x4, x5, x6, x7, x8, x9, x10⟩ := (CE.out _ E2.out).out
      go_wp2_with fail
      refine (LB.out _ E2.out).mono ?_
      rintro e w3 ⟨rfl, hb3⟩
      have E3 := Lib.hid (two E2.out hb3)
      clear hb3
      go_wp2_with fail
      go_ret
      exact ⟨rfl, two HB.out E3.out⟩
    · rw [l1] at LB
      replace LB := Lib.hid LB
      clear l1
      cases l2 : lightFiles t.c.quilt.files
      · rw [l2] at LD
        replace LD := Lib.hid LD
        clear LQ l2
        go_enter Try.func4, Try.ntmps4
        go_wp2_with fail
        rw [← HW2.out]
        refine (law_votes _).mono ?_
        rintro e w1 ⟨rfl, hb1⟩
        obtain ⟨x0, x1, x2, x3, x4, x5, x6, x7, x8, x9, x10⟩ := (CE.out _ hb1).out
        have HB1 := Lib.hid hb1
        clear hb1
        go_wp2_with fail
        refine (LA.out _ HB1.out).mono ?_
        rintro e w2 ⟨rfl, hb2⟩
        have E2 := Lib.hid (two HB1.out hb2)
        clear hb2
        clear x0 x1 x2 x3 x4 x5 x6 x7 x8 x9 x10
        obtain ⟨x0, x1, x2, x3, x4, x5, x6, x7, x8, x9, x10⟩ := (CE.out _ E2.out).out
        go_wp2_with fail
        refine (LB.out _ E2.out).mono ?_
        rintro e w3 ⟨rfl, hb3⟩
        have E3 := Lib.hid (two E2.out hb3)
        clear hb3
        clear x0 x1 x2 x3 x4 x5 x6 x7 x8 x9 x10
        obtain ⟨x0, x1, x2, x3, x4, x5, x6, x7, x8, x9, x10⟩ := (CE.out _ E3.out).out
        go_wp2_with fail
        refine (LD.out _ E3.out).mono ?_
        rintro e w4 ⟨rfl, hb4⟩
        have E4 := Lib.hid (two E3.out hb4)
        clear hb4
        go_wp2_with fail
        go_ret
        exact ⟨rfl, two HB.out E4.out⟩
      · rw [l2] at LD
        replace LD := Lib.hid LD
        clear l2
        cases l3 : lightFiles q.files
        · rw [l3] at LQ
          replace LQ := Lib.hid LQ
          clear  l3
          go_enter Try.func4, Try.ntmps4
          go_wp2_with fail
          rw [← HW2.out]
          refine (law_votes _).mono ?_
          rintro e w1 ⟨rfl, hb1⟩
          obtain ⟨x0, x1, x2, x3, x4, x5, x6, x7, x8, x9, x10⟩ := (CE.out _ hb1).out
          have HB1 := Lib.hid hb1
          clear hb1
          go_wp2_with fail
          refine (LA.out _ HB1.out).mono ?_
          rintro e w2 ⟨rfl, hb2⟩
          have E2 := Lib.hid (two HB1.out hb2)
          clear hb2
          clear x0 x1 x2 x3 x4 x5 x6 x7 x8 x9 x10
          obtain ⟨x0, x1, x2, x3, x4, x5, x6, x7, x8, x9, x10⟩ := (CE.out _ E2.out).out
          go_wp2_with fail
          refine (LB.out _ E2.out).mono ?_
          rintro e w3 ⟨rfl, hb3⟩
          have E3 := Lib.hid (two E2.out hb3)
          clear hb3
          clear x0 x1 x2 x3 x4 x5 x6 x7 x8 x9 x10
          obtain ⟨x0, x1, x2, x3, x4, x5, x6, x7, x8, x9, x10⟩ := (CE.out _ E3.out).out
          go_wp2_with fail
          refine (LD.out _ E3.out).mono ?_
          rintro e w4 ⟨rfl, hb4⟩
          have E4 := Lib.hid (two E3.out hb4)
          clear hb4
          clear x0 x1 x2 x3 x4 x5 x6 x7 x8 x9 x10
          obtain ⟨x0, x1, x2, x3, x4, x5, x6, x7, x8, x9, x10⟩ := (CE.out _ E4.out).out
          go_wp2_with fail
          refine (LQ.out _ E4.out).mono ?_
          rintro e w5 ⟨rfl, hb5⟩
          have E5 := Lib.hid (two E4.out hb5)
          clear hb5
          go_wp2_with fail
          go_ret
          exact ⟨rfl, two HB.out E5.out⟩
        · rw [l3] at LQ
          replace LQ := Lib.hid LQ
          clear l3
          -- all are light
          have VOT := fun W (hb : Below W2.heap.size W2 W) => vote_Of ⟨⟨a0, .slice a3 a5 a4, a2⟩, ⟨b0, .slice b3 b5 b4, b2⟩, ⟨d0, .slice d3 d5 d4, d2⟩⟩ t W ((HT.out.below HB.out).below hb)
          have VTD := fun W (hb : Below W2.heap.size W2 W) => ref_Voted ⟨⟨a0, .slice a3 a5 a4, a2⟩, ⟨b0, .slice b3 b5 b4, b2⟩, ⟨d0, .slice d3 d5 d4, d2⟩⟩ t W ((HT.out.below HB.out).below hb)
          replace VOT := Lib.hid VOT
          replace VTD := Lib.hid VTD
          go_enter Try.func4, Try.ntmps4
          go_wp2_with fail
          rw [← HW2.out]
          refine (law_votes _).mono ?_
          rintro e w1 ⟨rfl, hb1⟩
          obtain ⟨x0, x1, x2, x3, x4, x5, x6, x7, x8, x9, x10⟩ := (CE.out _ hb1).out
          have HB1 := Lib.hid hb1
          clear hb1
          go_wp2_with fail
          refine (LA.out _ HB1.out).mono ?_
          rintro e w2 ⟨rfl, hb2⟩
          have E2 := Lib.hid (two HB1.out hb2)
          clear hb2
          clear x0 x1 x2 x3 x4 x5 x6 x7 x8 x9 x10
          obtain ⟨x0, x1, x2, x3, x4, x5, x6, x7, x8, x9, x10⟩ := (CE.out _ E2.out).out
          go_wp2_with fail
          refine (LB.out _ E2.out).mono ?_
          rintro e w3 ⟨rfl, hb3⟩
          have E3 := Lib.hid (two E2.out hb3)
          clear hb3
          clear x0 x1 x2 x3 x4 x5 x6 x7 x8 x9 x10
          obtain ⟨x0, x1, x2, x3, x4, x5, x6, x7, x8, x9, x10⟩ := (CE.out _ E3.out).out
          go_wp2_with fail
          refine (LD.out _ E3.out).mono ?_
          rintro e w4 ⟨rfl, hb4⟩
          have E4 := Lib.hid (two E3.out hb4)
          clear hb4
          clear x0 x1 x2 x3 x4 x5 x6 x7 x8 x9 x10
          obtain ⟨x0, x1, x2, x3, x4, x5, x6, x7, x8, x9, x10⟩ := (CE.out _ E4.out).out
          go_wp2_with fail
          refine (LQ.out _ E4.out).mono ?_
          rintro e w5 ⟨rfl, hb5⟩
          have E5 := Lib.hid (two E4.out hb5)
          clear hb5
          clear x0 x1 x2 x3 x4 x5 x6 x7 x8 x9 x10
          obtain ⟨x0, x1, x2, x3, x4, x5, x6, x7, x8, x9, x10⟩ := (CE.out _ E5.out).out
          go_wp2_with fail
          refine (VOT.out _ E5.out).mono ?_
          rintro e w6 ⟨xv, rfl, ⟨xs, rfl, hx⟩, hb6⟩
          obtain ⟨xo, xc, rfl, _, _⟩ := hx.parts
          generalize (votedQ t).files.length = xn at *
          have E6 := Lib.hid (two E5.out hb6)
          have HX := Lib.hid hx
          clear hb6 hx x0 x1 x2 x3 x4 x5 x6 x7 x8 x9 x10
          have B7 := below_alloc w6 (.cells #[.slice xo xn xc, .int .i64 (votedQ t).turn] 34)
          obtain ⟨x0, x1, x2, x3, x4, x5, x6, x7, x8, x9, x10⟩ := (CE.out _ (two E6.out B7)).out
          have E7 := Lib.hid (two E6.out B7)
          have BB7 := Lib.hid B7
          clear B7
          go_wp2_with fail
          refine (VTD.out _ E7.out).mono ?_
          rintro e w8 ⟨yv, rfl, ⟨ys, rfl, hy⟩, hb8⟩
          obtain ⟨yo, yc, rfl, _, _⟩ := hy.parts
          generalize (votedQ t).files.length = yn at *
          have E8 := Lib.hid (two E7.out hb8)
          have HY := Lib.hid hy
          have hzx : w6.heap.size < w8.heap.size := by have := hb8.size; simp at this; omega
          have B9 := below_alloc w8 (.cells #[.slice yo yn yc, .int .i64 (votedQ t).turn] 34)
          have p0 : (w8.alloc (.cells #[.slice yo yn yc, .int .i64 (votedQ t).turn] 34)).cell? ⟨w6.heap.size, 0, none⟩ = some (.slice xo xn xc) := cell_on B9 (cell_on hb8 (by simp))
          have p1 : (w8.alloc (.cells #[.slice yo yn yc, .int .i64 (votedQ t).turn] 34)).cell? ⟨w6.heap.size, 1, none⟩ = some (.int .i64 (votedQ t).turn) := cell_on B9 (cell_on hb8 (by simp))
          have HX9 := Lib.hid (((HX.out.below BB7.out).below hb8).below B9)
          have HY9 := Lib.hid (hy.below B9)
          have E9 := Lib.hid (two E8.out B9)
          clear hb8 hy x0 x1 x2 x3 x4 x5 x6 x7 x8 x9 x10
          obtain ⟨x0, x1, x2, x3, x4, x5, x6, x7, x8, x9, x10⟩ := (CE.out _ E9.out).out
          clear B9
          go_wp2_with fail
          obtain ⟨w9, hw9⟩ : ∃ w9, w9 = w8.alloc (.cells #[.slice yo yn yc, .int .i64 (votedQ t).turn] 34) := ⟨_, rfl⟩
          have p2 : w9.cell? ⟨w8.heap.size, 0, none⟩ = some (.slice yo yn yc) := by rw [hw9]; simp
          have p3 : w9.cell? ⟨w8.heap.size, 1, none⟩ = some (.int .i64 (votedQ t).turn) := by rw [hw9]; simp
          rw [← hw9] at p0 p1 HX9 HY9 E9 x0 x1 x2 x3 x4 x5 x6 x7 x8 x9 x10 ⊢
          clear hw9
          replace p0 := regrown_cell p0
          replace p1 := regrown_cell p1
          replace p2 := regrown_cell p2
          replace p3 := regrown_cell p3
          replace x0 := regrown_cell x0
          replace x1 := regrown_cell x1
          replace x2 := regrown_cell x2
          replace x3 := regrown_cell x3
          replace x4 := regrown_cell x4
          replace x5 := regrown_cell x5
          clear x6 x7 x8 x9 x10
          have K1 := Lib.hid (fun W => same_of (votedE t) (votedE t) true (by simp) W)
          have K2 := fun W (hb : Below w9.heap.size w9 W) => ref_SameQuilt (.agg #[.slice xo xn xc, .int .i64 (votedQ t).turn]) (.agg #[.slice yo yn yc, .int .i64 (votedQ t).turn]) (votedQ t) (votedQ t) W ⟨_, rfl, HX9.out.below hb⟩ ⟨_, rfl, HY9.out.below hb⟩
          rw [decide_eq_true rfl] at K2
          replace K2 := Lib.hid K2
          have K3 := Lib.hid fun W (hb : Below w9.heap.size w9 W) => vote_Same (CopyV.val ⟨a0, .slice a3 a5 a4, a2⟩) (CopyV.val ⟨b0, .slice b3 b5 b4, b2⟩) t.a t.b W ((((HT.out.1).below HB.out).below E9.out).below hb).copies ((((HT.out.2.1).below HB.out).below E9.out).below hb).copies
          have K4 := Lib.hid fun W (hb : Below w9.heap.size w9 W) => ref_SameCopy (CopyV.val ⟨a0, .slice a3 a5 a4, a2⟩) (CopyV.val ⟨b0, .slice b3 b5 b4, b2⟩) t.a t.b W ((((HT.out.1).below HB.out).below E9.out).below hb).copies ((((HT.out.2.1).below HB.out).below E9.out).below hb).copies
          refine wp_region_q (by kernel_rfl) (by kernel_rfl) ?_
          repeat (go_big_quiet_step (first | (go_at_call 14; exact Calls.regrown_of (K1.out _)) | (go_at_call 22; exact Calls.regrown_of (K2.out _ (below_regrown _ _ _))) | (go_at_call 23; exact Calls.regrown_of (K3.out _ (below_regrown _ _ _))) | (go_at_call 24; exact Calls.regrown_of (K4.out _ (below_regrown _ _ _)))))
          refine wpQuiet_nil ?_
          intro w10 hb10
          have E10 := Lib.hid (two E9.out hb10)
          clear hb10 p0 p1 p2 p3 x0 x1 x2 x3 x4 x5 K1 K2 K3 K4
          go_wp2_with fail
          have EK : ∀ W, Below W2.heap.size W2 W → _ := fun W hb => (CE.out W hb).out
          have KW := Lib.hid fun W (hb : Below W2.heap.size W2 W) => vote_Wrong ⟨⟨a0, .slice a3 a5 a4, a2⟩, ⟨b0, .slice b3 b5 b4, b2⟩, ⟨d0, .slice d3 d5 d4, d2⟩⟩ t (.agg #[.slice ao q5 ca, .int .i64 q.turn]) q W ((HT.out.below HB.out).below hb) ⟨_, rfl, (HQ.out.below HB.out).below hb⟩
          have KR := Lib.hid fun W (hb : Below W2.heap.size W2 W) => ref_WrongOf ⟨⟨a0, .slice a3 a5 a4, a2⟩, ⟨b0, .slice b3 b5 b4, b2⟩, ⟨d0, .slice d3 d5 d4, d2⟩⟩ t (.agg #[.slice ao q5 ca, .int .i64 q.turn]) q W ((HT.out.below HB.out).below hb) ⟨_, rfl, (HQ.out.below HB.out).below hb⟩
          replace EK := Lib.hid EK
          have ED := Lib.hid E10.out.drew
          clear CE HW2 LA LB LD LQ VOT VTD E2 E3 E4 E5 E6 E7 E8 E9 HB1 HX HY HX9 HY9 BB7 hzx
          go_region_held3 (fun W => W.cell? ⟨w.heap.size, 0, none⟩ = some (.bool a0) ∧ W.cell? ⟨w.heap.size, 1, none⟩ = some (.slice a3 a5 a4) ∧ W.cell? ⟨w.heap.size, 2, none⟩ = some (.int .i64 a2) ∧ W.cell? ⟨w.heap.size, 3, none⟩ = some (.bool b0) ∧ W.cell? ⟨w.heap.size, 4, none⟩ = some (.slice b3 b5 b4) ∧ W.cell? ⟨w.heap.size, 5, none⟩ = some (.int .i64 b2) ∧ W.cell? ⟨w.heap.size, 6, none⟩ = some (.bool d0) ∧ W.cell? ⟨w.heap.size, 7, none⟩ = some (.slice d3 d5 d4) ∧ W.cell? ⟨w.heap.size, 8, none⟩ = some (.int .i64 d2) ∧ W.cell? ⟨w.heap.size + 1, 0, none⟩ = some (.slice ao q5 ca) ∧ W.cell? ⟨w.heap.size + 1, 1, none⟩ = some (.int .i64 q.turn))
            (first
              | exact EK.out _ ED.out
              | exact EK.out _ (HE1 : Hid _).out)
            (first
              | (go_at_call 26; refine (KW.out _ (by first | exact ED.out | exact (HE1 : Hid _).out)).mono ?_; rintro e wA ⟨va, rfl, hna, hba⟩; (try (have HNP := Lib.hid (HNA.out.below hba))); have HE1 := Lib.hid (two (by first | exact ED.out | exact (HE1 : Hid _).out) hba); have HNA := Lib.hid hna; clear hna hba)
              | (go_at_call 27; refine (KR.out _ (by first | exact ED.out | exact (HE1 : Hid _).out)).mono ?_; rintro e wA ⟨va, rfl, hna, hba⟩; (try (have HNP := Lib.hid (HNA.out.below hba))); have HE1 := Lib.hid (two (by first | exact ED.out | exact (HE1 : Hid _).out) hba); have HNA := Lib.hid hna; clear hna hba)
              | (go_at_call 25; (first | with_reducible refine (ref_SameNumbers _ _ _ _ _ HNP.out HNA.out).mono ?_ | with_reducible refine (ref_SameNumbers _ _ _ _ _ HNA.out HNP.out).mono ?_); rintro e wZ ⟨rfl, hbz⟩; have HE1 := Lib.hid (two (HE1 : Hid _).out hbz); clear hbz))
          all_goals
            go_wp2_with fail
            go_ret
            exact ⟨ret_bool (by simp), two HB.out HE1.out⟩
end Go.Proofs.Ytggpodlecljcbaa
