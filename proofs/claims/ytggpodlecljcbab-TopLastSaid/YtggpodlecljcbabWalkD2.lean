/- The walks of chapter 10: which copies are wrong. -/
import Derived.Test.YtggpodlecljcbabWalkD
import Derived.Test.YtggpodlecljcbabBase2
namespace Go.Proofs.Ytggpodlecljcbab
set_option linter.unusedSimpArgs false
set_option linter.unusedVariables false
open Go.RowKit Go.Sort

theorem I_ints : ElemInfo Try.prog 36 3 1 8 := elemInfo_of (z := .int .i64 0) Try.underlying36 (by kernel_rfl) rfl (by decide) (by decide)

/-- Three copies side by side. -/
structure Trio where
  a : Copy
  b : Copy
  c : Copy
structure TrioV where
  a : CopyV
  b : CopyV
  c : CopyV
def TrioV.arr (t : TrioV) : Array Value := #[.bool t.a.is, t.a.v, .int .i64 t.a.turn, .bool t.b.is, t.b.v, .int .i64 t.b.turn, .bool t.c.is, t.c.v, .int .i64 t.c.turn]
def TrioV.val (t : TrioV) : Value := .agg t.arr
def IsTrio (w : World) (tv : TrioV) (t : Trio) : Prop := IsCopy w tv.a t.a ∧ IsCopy w tv.b t.b ∧ IsCopy w tv.c t.c
theorem IsTrio.below {w w' : World} {cv : TrioV} {c : Trio} (h : IsTrio w cv c) (hb : Below w.heap.size w w') : IsTrio w' cv c := ⟨h.1.below hb, h.2.1.below hb, h.2.2.below hb⟩
def Trio.at (t : Trio) (i : Nat) : Copy := match i with | 0 => t.a | 1 => t.b | _ => t.c
def TrioV.at (t : TrioV) (i : Nat) : CopyV := match i with | 0 => t.a | 1 => t.b | _ => t.c
def wrongAt (t : Trio) (q : Quilt) (i : Nat) : Bool := !sameCopy (t.at i) ⟨true, q⟩
def wrongTo (t : Trio) (q : Quilt) (k : Nat) : List Int := ((List.range k).filter (wrongAt t q)).map fun n : Nat => (n : Int)
def wrongs (t : Trio) (q : Quilt) : List Int := wrongTo t q 3
theorem wrong_yes (t : Trio) (q : Quilt) (k : Nat) (h : sameCopy (t.at k) ⟨true, q⟩ = false) : wrongTo t q (k + 1) = wrongTo t q k ++ [(k : Int)] := by
  simp [wrongTo, List.range_succ, List.filter_append, wrongAt, h]
theorem wrong_no (t : Trio) (q : Quilt) (k : Nat) (h : sameCopy (t.at k) ⟨true, q⟩ = true) : wrongTo t q (k + 1) = wrongTo t q k := by
  simp [wrongTo, List.range_succ, List.filter_append, wrongAt, h]
theorem wrong_le (t : Trio) (q : Quilt) (k : Nat) : (wrongTo t q k).length ≤ k := by
  unfold wrongTo
  rw [List.length_map]
  exact Nat.le_trans (List.length_filter_le _ _) (by simp)
@[go_sem] theorem index_trio0 (x0 x1 x2 x3 x4 x5 x6 x7 x8 : Value) (w : World) : (Instr.index 27 (.agg #[x0, x1, x2, x3, x4, x5, x6, x7, x8]) (.int .i64 0)).run Try.prog w = .ok (.agg #[x0, x1, x2]) w := by kernel_rfl
@[go_sem] theorem index_trio1 (x0 x1 x2 x3 x4 x5 x6 x7 x8 : Value) (w : World) : (Instr.index 27 (.agg #[x0, x1, x2, x3, x4, x5, x6, x7, x8]) (.int .i64 1)).run Try.prog w = .ok (.agg #[x3, x4, x5]) w := by kernel_rfl
@[go_sem] theorem index_trio2 (x0 x1 x2 x3 x4 x5 x6 x7 x8 : Value) (w : World) : (Instr.index 27 (.agg #[x0, x1, x2, x3, x4, x5, x6, x7, x8]) (.int .i64 2)).run Try.prog w = .ok (.agg #[x6, x7, x8]) w := by kernel_rfl
def RetNums (l : List Int) (w : World) (e : Ending) (w' : World) : Prop := ∃ v, e = .returned v ∧ Nums w' v l ∧ Below w.heap.size w w'

set_option maxRecDepth 100000 in
set_option maxHeartbeats 1000000 in
theorem vote_Wrong (tv : TrioV) (t : Trio) (qv : Value) (q : Quilt) (w : World) (ht : IsTrio w tv t) (hq : Quilts w qv q) :
    Calls Try.prog 18 #[tv.val, qv] w (RetNums (wrongs t q) w) := by
  obtain ⟨v, rfl, hq⟩ := hq
  obtain ⟨ao, ca, rfl, hca, hca'⟩ := hq.parts
  have HQ := Lib.hid hq
  have HT := Lib.hid ht
  clear hq ht
  obtain ⟨⟨a0, a1, a2⟩, ⟨b0, b1, b2⟩, ⟨d0, d1, d2⟩⟩ := tv
  obtain ⟨a3, a4, e, _, _⟩ := HT.out.1.2.2.parts
  dsimp only at e
  subst e
  obtain ⟨b3, b4, e, _, _⟩ := HT.out.2.1.2.2.parts
  dsimp only at e
  subst e
  obtain ⟨d3, d4, e, _, _⟩ := HT.out.2.2.2.2.parts
  dsimp only at e
  subst e
  generalize t.a.quilt.files.length = a5, t.b.quilt.files.length = b5, t.c.quilt.files.length = d5 at *
  unfold TrioV.val TrioV.arr
  obtain ⟨W2, hW2⟩ : ∃ W2, W2 = (w.alloc (.cells #[.bool a0, .slice a3 a5 a4, .int .i64 a2, .bool b0, .slice b3 b5 b4, .int .i64 b2, .bool d0, .slice d3 d5 d4, .int .i64 d2] 27)).alloc (.cells #[.slice ao q.files.length ca, .int .i64 q.turn] 24) := ⟨_, rfl⟩
  have B2 : Below w.heap.size w W2 := by rw [hW2]; exact two (below_alloc w _) (below_alloc _ _)
  have c0 : W2.cell? ⟨w.heap.size + 1, 0, none⟩ = some (.slice ao q.files.length ca) := by rw [hW2]; simp
  have c1 : W2.cell? ⟨w.heap.size + 1, 1, none⟩ = some (.int .i64 q.turn) := by rw [hW2]; simp
  have hz : W2.heap.size = w.heap.size + 2 := by rw [hW2]; simp
  have HW2 := Lib.hid hW2
  have HZ := Lib.hid hz
  replace B2 := Lib.hid B2
  clear hW2 hz
  go_enter Try.func18, Try.ntmps18
  go_wp2_with fail
  rw [← HW2.out]
  go_loopw [5, 9] (fun o i wr => ∃ k : Nat, k ≤ 3 ∧ i = .int .i64 k ∧ wr.ownsRow W2.heap.size 3 1 o (wrongTo t q k).length ((wrongTo t q k).flatMap intCells) ∧ Below W2.heap.size W2 wr) (fun _ i _ => 3 - (intOf i).toNat)
  case atStart => exact ⟨0, Nat.zero_le _, rfl, World.ownsRow_nil _ _ _ _, Below.refl _ _⟩
  case round =>
    obtain ⟨k, hk, rfl, hown, hbw⟩ := hrel
    have hsz : w.heap.size + 1 < wr.heap.size := by have := hbw.size; rw [HZ.out] at this; omega
    have x0 : wr.cell? ⟨w.heap.size + 1, 0, none⟩ = some (.slice ao q.files.length ca) := by rw [hbw.cell (p := ⟨w.heap.size + 1, 0, none⟩) (by rw [HZ.out]; exact Nat.lt_succ_self _)]; exact c0
    have x1 : wr.cell? ⟨w.heap.size + 1, 1, none⟩ = some (.int .i64 q.turn) := by rw [hbw.cell (p := ⟨w.heap.size + 1, 1, none⟩) (by rw [HZ.out]; exact Nat.lt_succ_self _)]; exact c1
    have HO := Lib.hid hown
    have HW := Lib.hid hbw
    have HN := Lib.hid (wrong_le t q k)
    clear hown hbw
    by_cases hlt : k < 3
    · obtain rfl | rfl | rfl : k = 0 ∨ k = 1 ∨ k = 2 := by omega
      · go_wp2_with fail
        have Bc := below_alloc wr (.cells #[.bool a0, .slice a3 a5 a4, .int .i64 a2] 26)
        have HK := (HT.out.1.below B2.out).below HW.out
        have HQ' := ((HQ.out.below B2.out).below HW.out)
        have C := vote_Same _ _ (t.at 0) ⟨true, q⟩ _ (HK.below Bc).copies ⟨_, rfl, HQ'.below Bc⟩
        replace Bc := Lib.hid Bc
        by_cases hf : sameCopy (t.at 0) ⟨true, q⟩ = true
        · rw [hf] at C
          replace C := Lib.hid C
          have HF := Lib.hid hf
          clear hf HK HQ'
          refine C.out.mono ?_
          rintro e w2 ⟨rfl, hb2⟩
          have HB2 := Lib.hid hb2
          clear hb2
          go_wp2_with fail
          go_roundw
          case rel => exact ⟨1, by omega, rfl, by rw [wrong_no t q 0 HF.out]; exact (HO.out.alloc _).kept (⟨HB2.out.os, HB2.out.tape, HB2.out.output, HB2.out.size, fun j hj _ => HB2.out.block j hj⟩ : World.grownBy _ _ none) (by cases h : Value.ownBlock _ <;> simp), two HW.out (two Bc.out HB2.out)⟩
          case measure => simp [intOf]
        · have hf' : sameCopy (t.at 0) ⟨true, q⟩ = false := by simpa using hf
          rw [hf'] at C
          replace C := Lib.hid C
          have HF := Lib.hid hf'
          clear hf hf' HK HQ'
          refine C.out.mono ?_
          rintro e w2 ⟨rfl, hb2⟩
          have hown2 := Lib.hid ((HO.out.alloc (.cells #[.bool a0, .slice a3 a5 a4, .int .i64 a2] 26)).kept (⟨hb2.os, hb2.tape, hb2.output, hb2.size, fun j hj _ => hb2.block j hj⟩ : World.grownBy _ _ none) (by cases h : Value.ownBlock _ <;> simp))
          have HB2 := Lib.hid hb2
          have hz2 : W2.heap.size ≤ w2.heap.size := Nat.le_trans HW.out.size (two Bc.out hb2).size
          have hlen : (wrongTo t q 0).length ≤ 0 := HN.out
          clear hb2
          go_wp2_with (at_builtin; refine wpList_app I_ints rfl _ _ rfl W2.heap.size _ _ _ rfl (hown2.out.alloc _) ⟨w2.heap.size, 0, none⟩ 1 1 [.int .i64 0] rfl rfl ?c1 ?c2 ?c3 ?c4 ?_)
          case c1 => exact one_new
          case c2 => intro u hu; simp at hu; subst hu; rfl
          case c3 => omega
          case c4 => simp; omega
          intro v' w3 hown3 hg3
          have HB3 := Lib.hid (grown_below ((two HW.out (two Bc.out HB2.out)).trans ((below_alloc w2 (.cells #[.int .i64 0] 3)).mono hz2)) (hown2.out.alloc _) hg3 (Nat.le_refl _))
          have HO3 := Lib.hid hown3
          clear hown3 hg3
          go_wp2_with fail
          go_roundw
          case rel =>
            refine ⟨1, by omega, rfl, ?_, HB3.out⟩
            rw [wrong_yes t q 0 HF.out, flat_append, List.length_append]
            exact HO3.out
          case measure => simp [intOf]
      · go_wp2_with fail
        have Bc := below_alloc wr (.cells #[.bool b0, .slice b3 b5 b4, .int .i64 b2] 26)
        have HK := (HT.out.2.1.below B2.out).below HW.out
        have HQ' := ((HQ.out.below B2.out).below HW.out)
        have C := vote_Same _ _ (t.at 1) ⟨true, q⟩ _ (HK.below Bc).copies ⟨_, rfl, HQ'.below Bc⟩
        replace Bc := Lib.hid Bc
        by_cases hf : sameCopy (t.at 1) ⟨true, q⟩ = true
        · rw [hf] at C
          replace C := Lib.hid C
          have HF := Lib.hid hf
          clear hf HK HQ'
          refine C.out.mono ?_
          rintro e w2 ⟨rfl, hb2⟩
          have HB2 := Lib.hid hb2
          clear hb2
          go_wp2_with fail
          go_roundw
          case rel => exact ⟨2, by omega, rfl, by rw [wrong_no t q 1 HF.out]; exact (HO.out.alloc _).kept (⟨HB2.out.os, HB2.out.tape, HB2.out.output, HB2.out.size, fun j hj _ => HB2.out.block j hj⟩ : World.grownBy _ _ none) (by cases h : Value.ownBlock _ <;> simp), two HW.out (two Bc.out HB2.out)⟩
          case measure => simp [intOf]
        · have hf' : sameCopy (t.at 1) ⟨true, q⟩ = false := by simpa using hf
          rw [hf'] at C
          replace C := Lib.hid C
          have HF := Lib.hid hf'
          clear hf hf' HK HQ'
          refine C.out.mono ?_
          rintro e w2 ⟨rfl, hb2⟩
          have hown2 := Lib.hid ((HO.out.alloc (.cells #[.bool b0, .slice b3 b5 b4, .int .i64 b2] 26)).kept (⟨hb2.os, hb2.tape, hb2.output, hb2.size, fun j hj _ => hb2.block j hj⟩ : World.grownBy _ _ none) (by cases h : Value.ownBlock _ <;> simp))
          have HB2 := Lib.hid hb2
          have hz2 : W2.heap.size ≤ w2.heap.size := Nat.le_trans HW.out.size (two Bc.out hb2).size
          have hlen : (wrongTo t q 1).length ≤ 1 := HN.out
          clear hb2
          go_wp2_with (at_builtin; refine wpList_app I_ints rfl _ _ rfl W2.heap.size _ _ _ rfl (hown2.out.alloc _) ⟨w2.heap.size, 0, none⟩ 1 1 [.int .i64 1] rfl rfl ?c1 ?c2 ?c3 ?c4 ?_)
          case c1 => exact one_new
          case c2 => intro u hu; simp at hu; subst hu; rfl
          case c3 => omega
          case c4 => simp; omega
          intro v' w3 hown3 hg3
          have HB3 := Lib.hid (grown_below ((two HW.out (two Bc.out HB2.out)).trans ((below_alloc w2 (.cells #[.int .i64 1] 3)).mono hz2)) (hown2.out.alloc _) hg3 (Nat.le_refl _))
          have HO3 := Lib.hid hown3
          clear hown3 hg3
          go_wp2_with fail
          go_roundw
          case rel =>
            refine ⟨2, by omega, rfl, ?_, HB3.out⟩
            rw [wrong_yes t q 1 HF.out, flat_append, List.length_append]
            exact HO3.out
          case measure => simp [intOf]
      · go_wp2_with fail
        have Bc := below_alloc wr (.cells #[.bool d0, .slice d3 d5 d4, .int .i64 d2] 26)
        have HK := (HT.out.2.2.below B2.out).below HW.out
        have HQ' := ((HQ.out.below B2.out).below HW.out)
        have C := vote_Same _ _ (t.at 2) ⟨true, q⟩ _ (HK.below Bc).copies ⟨_, rfl, HQ'.below Bc⟩
        replace Bc := Lib.hid Bc
        by_cases hf : sameCopy (t.at 2) ⟨true, q⟩ = true
        · rw [hf] at C
          replace C := Lib.hid C
          have HF := Lib.hid hf
          clear hf HK HQ'
          refine C.out.mono ?_
          rintro e w2 ⟨rfl, hb2⟩
          have HB2 := Lib.hid hb2
          clear hb2
          go_wp2_with fail
          go_roundw
          case rel => exact ⟨3, by omega, rfl, by rw [wrong_no t q 2 HF.out]; exact (HO.out.alloc _).kept (⟨HB2.out.os, HB2.out.tape, HB2.out.output, HB2.out.size, fun j hj _ => HB2.out.block j hj⟩ : World.grownBy _ _ none) (by cases h : Value.ownBlock _ <;> simp), two HW.out (two Bc.out HB2.out)⟩
          case measure => simp [intOf]
        · have hf' : sameCopy (t.at 2) ⟨true, q⟩ = false := by simpa using hf
          rw [hf'] at C
          replace C := Lib.hid C
          have HF := Lib.hid hf'
          clear hf hf' HK HQ'
          refine C.out.mono ?_
          rintro e w2 ⟨rfl, hb2⟩
          have hown2 := Lib.hid ((HO.out.alloc (.cells #[.bool d0, .slice d3 d5 d4, .int .i64 d2] 26)).kept (⟨hb2.os, hb2.tape, hb2.output, hb2.size, fun j hj _ => hb2.block j hj⟩ : World.grownBy _ _ none) (by cases h : Value.ownBlock _ <;> simp))
          have HB2 := Lib.hid hb2
          have hz2 : W2.heap.size ≤ w2.heap.size := Nat.le_trans HW.out.size (two Bc.out hb2).size
          have hlen : (wrongTo t q 2).length ≤ 2 := HN.out
          clear hb2
          go_wp2_with (at_builtin; refine wpList_app I_ints rfl _ _ rfl W2.heap.size _ _ _ rfl (hown2.out.alloc _) ⟨w2.heap.size, 0, none⟩ 1 1 [.int .i64 2] rfl rfl ?c1 ?c2 ?c3 ?c4 ?_)
          case c1 => exact one_new
          case c2 => intro u hu; simp at hu; subst hu; rfl
          case c3 => omega
          case c4 => simp; omega
          intro v' w3 hown3 hg3
          have HB3 := Lib.hid (grown_below ((two HW.out (two Bc.out HB2.out)).trans ((below_alloc w2 (.cells #[.int .i64 2] 3)).mono hz2)) (hown2.out.alloc _) hg3 (Nat.le_refl _))
          have HO3 := Lib.hid hown3
          clear hown3 hg3
          go_wp2_with fail
          go_roundw
          case rel =>
            refine ⟨3, by omega, rfl, ?_, HB3.out⟩
            rw [wrong_yes t q 2 HF.out, flat_append, List.length_append]
            exact HO3.out
          case measure => simp [intOf]
    · obtain rfl : k = 3 := by omega
      go_wp2_with fail
      go_ret
      exact ⟨_, rfl, SL.of_own HO.out, two B2.out HW.out⟩
end Go.Proofs.Ytggpodlecljcbab
