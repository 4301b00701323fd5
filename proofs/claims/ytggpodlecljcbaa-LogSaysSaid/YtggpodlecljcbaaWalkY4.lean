/- The walk of the document's ClosedDeeds. -/
import Derived.Test.YtggpodlecljcbaaWalkY3
namespace Go.Proofs.Ytggpodlecljcbaa
set_option linter.unusedSimpArgs false
set_option linter.unusedVariables false
open Go.RowKit Go.Sort
theorem stepY_form (first i : Nat) (s : ByteArray) (o : List (List Change)) (d : List Change) (u : Nat) (h40 : s.size = 40) (k x y : UInt8) (hk : k = s[0]) (hx : x = s[5]) (hy : y = s[6]) (t : ByteArray) (ht : t = s.extract 7 (7 + (x.toNat + 256 * y.toNat))) :
    stepY first i s o d u = if ((s.extract 1 5).toList == (fourB (first + i)).toList) = false then none else if 33 < x.toNat + 256 * y.toNat then none
      else if ((k.toNat : Int) == 99) then (if (t.toList == (fourB d.length).toList) then some (o ++ [d], [], i + 1) else none) else if ((k.toNat : Int) == 111) = false then none else if (changeOf t).2 ≠ 0 then none else some (o, d ++ [(changeOf t).1], u) := by
  have hL : lookS s (first + i) = lookFrom s (first + i) k x y := by unfold lookS; rw [dif_pos h40, hk, hx, hy]
  unfold stepY
  rw [hL, ht]
  unfold lookFrom
  cases hA : ((s.extract 1 5).toList == (fourB (first + i)).toList)
  · simp [noneY]
  · by_cases hn : 33 < x.toNat + 256 * y.toNat
    · cases h1 : ((k.toNat : Int) == 111) <;> cases h2 : ((k.toNat : Int) == 99) <;> simp [noneY, hn]
    · cases h1 : ((k.toNat : Int) == 111) <;> cases h2 : ((k.toNat : Int) == 99) <;> simp [noneY, hn, h2]
set_option maxRecDepth 100000 in
set_option maxHeartbeats 8000000 in
theorem ref_ClosedDeeds (vl : Value) (l : List ByteArray) (first : Nat) (w : World) (hl : Texts w vl l) (h40 : ∀ s ∈ l, s.size = 40) (hll : l.length ≤ 60) (hf : first ≤ 1000000) :
    Calls Try.prog 57 #[vl, .int .i64 first] w fun e w' => ∃ v, e = .returned (.tuple #[v, .int .i64 (closedY first l 0 [] [] 0).2]) ∧ Deeds (fun x => x < w.heap.size) w' v (closedY first l 0 [] [] 0).1 ∧ Below w.heap.size w w' := by
  obtain ⟨la, lc, rfl, hlc, hlc'⟩ := hl.parts
  have HL := Lib.hid hl
  have H40 := Lib.hid h40
  have CF := Lib.hid fun n (hn : n ≤ 2000000000) W => ref_four n W hn
  clear hl h40
  go_enter Try.func57, Try.ntmps57
  go_wp2_with fail
  go_loopw [6, 7, 8, 9] (fun ov dv uv iv wr => ∃ (k b : Nat) (o : List (List Change)) (d : List Change) (u : Nat) (vs : List Value), k ≤ l.length ∧ iv = .int .i64 k ∧ uv = .int .i64 u ∧ closedY first (l.drop k) k o d u = closedY first l 0 [] [] 0 ∧ OutAt w.heap.size b wr ov vs o ∧ wr.ownsRow b 78 3 dv d.length (d.flatMap Change.cells) ∧ w.heap.size ≤ b ∧ b ≤ wr.heap.size ∧ Below w.heap.size w wr ∧ o.length ≤ k ∧ d.length ≤ k) (fun _ _ _ iv _ => l.length - (intOf iv).toNat)
  case atStart => exact ⟨0, w.heap.size, [], [], 0, [], Nat.zero_le _, rfl, rfl, rfl, OutAt.nil _ _ _, World.ownsRow_nil _ _ _ _, Nat.le_refl _, Nat.le_refl _, Below.refl _ _, by simp, by simp⟩
  case round =>
    obtain ⟨k, b, o, d, u, vs, hk, rfl, rfl, hclo, hout, hdv, hb1, hb2, hbw, hol, hdl⟩ := hrel
    obtain ⟨oa, oc, rfl, hoc, hoc'⟩ := own_slice hout.own
    obtain ⟨da, dc, rfl, hdc, hdc'⟩ := own_slice hdv
    have hvl : vs.length = o.length := hout.len
    have HVL := Lib.hid hvl
    have HCLO := Lib.hid hclo
    have HOUT := Lib.hid hout
    have HDV := Lib.hid hdv
    have HBW := Lib.hid hbw
    have HB12 : Hid (w.heap.size ≤ b ∧ b ≤ wr.heap.size) := Lib.hid ⟨hb1, hb2⟩
    clear hclo hout hdv hbw hvl hb1 hb2
    by_cases hlt : k < l.length
    · obtain ⟨cb, cof, rfl, hlb, x0⟩ := Texts.cell (HL.out.below HBW.out) k hlt
      obtain ⟨s, hs⟩ : ∃ s, s = l[k] := ⟨_, rfl⟩
      have h40 : s.size = 40 := by rw [hs]; exact H40.out _ (List.getElem_mem hlt)
      rw [← hs] at x0
      obtain ⟨q, hq⟩ : ∃ k, k = s[0]'(by omega) := ⟨_, rfl⟩
      obtain ⟨x, hx⟩ : ∃ k, k = s[5]'(by omega) := ⟨_, rfl⟩
      obtain ⟨y, hy⟩ : ∃ k, k = s[6]'(by omega) := ⟨_, rfl⟩
      obtain ⟨t, ht⟩ : ∃ t, t = s.extract 7 (7 + (x.toNat + 256 * y.toNat)) := ⟨_, rfl⟩
      have hst : stepY first k l[k] o d u = stepY first k s o d u := by rw [← hs]
      have HSTEP := Lib.hid (hst.trans (stepY_form first k s o d u h40 q x y hq hx hy t ht))
      clear hst
      have HK := Lib.hid hq
      have HX := Lib.hid hx
      have HY := Lib.hid hy
      have HT := Lib.hid ht
      have ht40 : t.size ≤ 40 := by rw [ht, ByteArray.size_extract]; omega
      clear hs hq hx hy ht
      have hxb : x.toNat ≤ 255 := by have := x.toNat_lt; omega
      have hyb : y.toNat ≤ 255 := by have := y.toNat_lt; omega
      have hqb : q.toNat ≤ 255 := by have := q.toNat_lt; omega
      have b0 : s[0].toNat ≤ 255 := by rw [← HK.out]; exact hqb
      have b5 : s[5].toNat ≤ 255 := by rw [← HX.out]; exact hxb
      have b6 : s[6].toNat ≤ 255 := by rw [← HY.out]; exact hyb
      have CF1 : Hid (∀ W, Calls Try.prog 113 #[.int .i64 ((first : Int) + k)] W fun e w' => e = .returned (.string (fourB (first + k))) ∧ Below W.heap.size W w') := Lib.hid fun W => by
        have := ref_four (first + k) W (by omega)
        simpa using this
      have CF2 := Lib.hid fun W => CF.out d.length (by omega) W
      have CP := fun W => ref_ChangeOf t W (by omega)
      go_wp2_with fail
      go_region
      obtain ⟨w2, hw2⟩ : ∃ w2, w2 = wr.drew := ⟨_, rfl⟩
      have hb2 : Below wr.heap.size wr w2 := by rw [hw2]; exact (Below.refl _ _).drew
      rw [← hw2]
      clear hw2 x0 hlb
      have HG2 : Hid (wr.grownBy w2 none) := Lib.hid (⟨hb2.os, hb2.tape, hb2.output, hb2.size, fun j hj _ => hb2.block j hj⟩)
      have HOUT2 := Lib.hid (HOUT.out.quiet HG2.out)
      have HDV2 := Lib.hid (HDV.out.kept HG2.out (by cases Value.ownBlock _ <;> simp))
      have HBW2 := Lib.hid (two HBW.out hb2)
      have HZ2 : Hid (wr.heap.size ≤ w2.heap.size) := Lib.hid hb2.size
      clear hb2
      cases hA : ((s.extract 1 5).toList == (fourB (first + k)).toList)
      · have HE : Hid (closedY first l 0 [] [] 0 = (o, u)) := Lib.hid (by rw [← HCLO.out]; exact closedY_stop first l k o d u hlt (by rw [HSTEP.out]; simp [hA]))
        go_wp2_with fail
        refine wp_region_q (by kernel_rfl) (by kernel_rfl) ?_
        repeat (go_big_quiet_step (first
          | (go_at_call 113; exact Calls.regrown_of (CF1.out _))))
        refine wpQuiet_nil ?_
        intro w3 hb3
        have HG3 : Hid (w2.grownBy w3 none) := Lib.hid (⟨hb3.os, hb3.tape, hb3.output, hb3.size, fun j hj _ => hb3.block j hj⟩)
        have HOUT3 := Lib.hid (HOUT2.out.quiet HG3.out)
        have HDV3 := Lib.hid (HDV2.out.kept HG3.out (by cases Value.ownBlock _ <;> simp))
        have HBW3 := Lib.hid (two HBW2.out hb3)
        have HZ3 : Hid (w2.heap.size ≤ w3.heap.size) := Lib.hid hb3.size
        clear hb3
        go_wp2_with fail
        refine bodyPost_ret (v := .tuple #[.slice oa vs.length oc, .int .i64 u]) (by simp [results, Try.results57, go_sem]) rfl ?_
        exact ⟨_, by rw [HE.out], by rw [HE.out]; exact HOUT3.out.deeds, HBW3.out⟩
      by_cases hn : 33 < x.toNat + 256 * y.toNat
      · have HE : Hid (closedY first l 0 [] [] 0 = (o, u)) := Lib.hid (by rw [← HCLO.out]; exact closedY_stop first l k o d u hlt (by rw [HSTEP.out]; simp [hA, hn]))
        have hn1 : (33 : Int) < ((s[5].toNat : Int) + 256 * (s[6].toNat : Int)) := by rw [← HX.out, ← HY.out]; omega
        go_wp2_with fail
        refine wp_region_q (by kernel_rfl) (by kernel_rfl) ?_
        repeat (go_big_quiet_step (first
          | (go_at_call 113; exact Calls.regrown_of (CF1.out _))))
        refine wpQuiet_nil ?_
        intro w3 hb3
        have HG3 : Hid (w2.grownBy w3 none) := Lib.hid (⟨hb3.os, hb3.tape, hb3.output, hb3.size, fun j hj _ => hb3.block j hj⟩)
        have HOUT3 := Lib.hid (HOUT2.out.quiet HG3.out)
        have HDV3 := Lib.hid (HDV2.out.kept HG3.out (by cases Value.ownBlock _ <;> simp))
        have HBW3 := Lib.hid (two HBW2.out hb3)
        have HZ3 : Hid (w2.heap.size ≤ w3.heap.size) := Lib.hid hb3.size
        clear hb3
        go_wp2_with fail
        refine bodyPost_ret (v := .tuple #[.slice oa vs.length oc, .int .i64 u]) (by simp [results, Try.results57, go_sem]) rfl ?_
        exact ⟨_, by rw [HE.out], by rw [HE.out]; exact HOUT3.out.deeds, HBW3.out⟩
      have hn1 : ¬ (33 : Int) < ((s[5].toNat : Int) + 256 * (s[6].toNat : Int)) := by rw [← HX.out, ← HY.out]; omega
      have htt : s.extract 7 (7 + (s[5].toNat + 256 * s[6].toNat)) = t := by rw [HT.out, HX.out, HY.out]
      go_wp2_with fail
      refine wp_region_q (by kernel_rfl) (by kernel_rfl) ?_
      repeat (go_big_quiet_step (first
        | (go_at_call 113; exact Calls.regrown_of (CF1.out _))))
      refine wpQuiet_nil ?_
      intro w3 hb3
      have HG3 : Hid (w2.grownBy w3 none) := Lib.hid (⟨hb3.os, hb3.tape, hb3.output, hb3.size, fun j hj _ => hb3.block j hj⟩)
      have HOUT3 := Lib.hid (HOUT2.out.quiet HG3.out)
      have HDV3 := Lib.hid (HDV2.out.kept HG3.out (by cases Value.ownBlock _ <;> simp))
      have HBW3 := Lib.hid (two HBW2.out hb3)
      have HZ3 : Hid (w2.heap.size ≤ w3.heap.size) := Lib.hid hb3.size
      clear hb3
      cases hk9 : ((q.toNat : Int) == 99)
      · have hk3 : ((s[0].toNat : Int) == 99) = false := by rw [← HK.out]; exact hk9
        cases hk1 : ((q.toNat : Int) == 111)
        · have hk4 : ((s[0].toNat : Int) != 111) = true := by rw [← HK.out, bne, hk1]; rfl
          have HE : Hid (closedY first l 0 [] [] 0 = (o, u)) := Lib.hid (by rw [← HCLO.out]; exact closedY_stop first l k o d u hlt (by rw [HSTEP.out]; simp [hA, hn, hk9, hk1]))
          go_wp2_with fail
          refine bodyPost_ret (v := .tuple #[.slice oa vs.length oc, .int .i64 u]) (by simp [results, Try.results57, go_sem]) rfl ?_
          exact ⟨_, by rw [HE.out], by rw [HE.out]; exact HOUT3.out.deeds, HBW3.out⟩
        · have hk4 : ((s[0].toNat : Int) != 111) = false := by rw [← HK.out, bne, hk1]; rfl
          go_wp2_with fail
          rw [htt]
          obtain ⟨⟨⟨xk, xv, xg⟩, n2⟩, hp2⟩ : ∃ p, p = changeOf t := ⟨_, rfl⟩
          have HP2 := Lib.hid hp2
          simp only [← hp2, Change.val'] at CP
          clear hp2
          refine (CP _).mono ?_
          rintro e w4 ⟨rfl, hb4⟩
          have HG4 : Hid (w3.grownBy w4 none) := Lib.hid (⟨hb4.os, hb4.tape, hb4.output, hb4.size, fun j hj _ => hb4.block j hj⟩)
          have HOUT4 := Lib.hid (HOUT3.out.quiet HG4.out)
          have HDV4 := Lib.hid (HDV3.out.kept HG4.out (by cases Value.ownBlock _ <;> simp))
          have HBW4 := Lib.hid (two HBW3.out hb4)
          have HZ4 : Hid (w3.heap.size ≤ w4.heap.size) := Lib.hid hb4.size
          clear hb4
          by_cases hn2 : 0 < n2
          · have hn3 : (0 : Int) < (n2 : Int) := by omega
            have HE : Hid (closedY first l 0 [] [] 0 = (o, u)) := Lib.hid (by rw [← HCLO.out]; exact closedY_stop first l k o d u hlt (by rw [HSTEP.out]; simp [hA, hn, hk9, hk1, ← HP2.out]; omega))
            have HBW5 := Lib.hid (two HBW4.out (below_alloc w4 (.cells #[.string xk, .string xv, .bool xg] 78)))
            have HOUT5 := Lib.hid (HOUT4.out.quiet (World.grownBy_alloc w4 (.cells #[.string xk, .string xv, .bool xg] 78) none))
            clear hn2
            go_wp2_with fail
            refine bodyPost_ret (v := .tuple #[.slice oa vs.length oc, .int .i64 u]) (by simp [results, Try.results57, go_sem]) rfl ?_
            exact ⟨_, by rw [HE.out], by rw [HE.out]; exact HOUT5.out.deeds, HBW5.out⟩
          · have hn3 : ¬ (0 : Int) < (n2 : Int) := by omega
            have HNX : Hid (stepY first k l[k] o d u = some (o, d ++ [⟨xk, xv, xg⟩], u)) := Lib.hid (by rw [HSTEP.out]; simp [hA, hn, hk9, hk1, ← HP2.out]; omega)
            clear hn2
            have HOW := Lib.hid ((HDV4.out.alloc (.cells #[.string xk, .string xv, .bool xg] 78)).alloc (.cells #[.string xk, .string xv, .bool xg] 78))
            go_wp2_with (at_builtin; refine wpList_app I_changes rfl _ _ rfl b _ _ _ rfl HOW.out ⟨w4.heap.size + 1, 0, none⟩ 1 1 [.string xk, .string xv, .bool xg] rfl rfl ?c1 ?c2 ?c3 ?c4 ?_)
            case c1 =>
              intro j u hj
              have h3 := three_new (w := w4.alloc (.cells #[.string xk, .string xv, .bool xg] 78)) (t := 78) j u hj
              rwa [show (w4.alloc (.cells #[.string xk, .string xv, .bool xg] 78)).heap.size = w4.heap.size + 1 by simp] at h3
            case c2 => exact change_one ⟨xk, xv, xg⟩
            case c3 => omega
            case c4 => have := HB12.out; have := HZ2.out; have := HZ3.out; have := HZ4.out; simp; omega
            intro v6 w6 hown6 hg6
            have HOUT6 := Lib.hid (((HOUT4.out.quiet (World.grownBy_alloc _ (.cells #[.string xk, .string xv, .bool xg] 78) none)).quiet (World.grownBy_alloc _ (.cells #[.string xk, .string xv, .bool xg] 78) none)).add HOW.out hg6)
            have HBW6 := Lib.hid (grown_below (two (two HBW4.out (below_alloc _ (.cells #[.string xk, .string xv, .bool xg] 78))) (below_alloc _ (.cells #[.string xk, .string xv, .bool xg] 78))) HOW.out hg6 HB12.out.1)
            have HD6 : Hid (w6.ownsRow b 78 3 v6 (d ++ [(⟨xk, xv, xg⟩ : Change)]).length ((d ++ [(⟨xk, xv, xg⟩ : Change)]).flatMap Change.cells)) := Lib.hid (by simp only [List.flatMap_append, List.length_append, List.flatMap_cons, List.flatMap_nil, List.append_nil, List.length_cons, List.length_nil]; exact hown6)
            have HZ6 : Hid (b ≤ w6.heap.size) := Lib.hid (by have h1 := hg6.size; have := HB12.out; have := HZ2.out; have := HZ3.out; have := HZ4.out; simp at h1; omega)
            clear hown6 hg6
            go_wp2_with fail
            go_roundw
            case rel => exact ⟨k + 1, b, o, d ++ [⟨xk, xv, xg⟩], u, vs, by omega, by go_num, rfl, by rw [← HCLO.out]; exact (closedY_next first l k o d u _ _ _ hlt HNX.out).symm, HOUT6.out, HD6.out, HB12.out.1, HZ6.out, HBW6.out, by omega, by simp; omega⟩
            case measure => simp [intOf]; omega
      · have hk3 : ((s[0].toNat : Int) == 99) = true := by rw [← HK.out]; exact hk9
        go_wp2_with fail
        refine (CF2.out _).mono ?_
        rintro e w4 ⟨rfl, hb4⟩
        have HG4 : Hid (w3.grownBy w4 none) := Lib.hid (⟨hb4.os, hb4.tape, hb4.output, hb4.size, fun j hj _ => hb4.block j hj⟩)
        have HOUT4 := Lib.hid (HOUT3.out.quiet HG4.out)
        have HDV4 := Lib.hid (HDV3.out.kept HG4.out (by cases Value.ownBlock _ <;> simp))
        have HBW4 := Lib.hid (two HBW3.out hb4)
        have HZ4 : Hid (w3.heap.size ≤ w4.heap.size) := Lib.hid hb4.size
        clear hb4
        rw [htt]
        cases hf4 : (t.toList == (fourB d.length).toList)
        · cases hk1 : ((q.toNat : Int) == 111)
          · have hk4 : ((s[0].toNat : Int) != 111) = true := by rw [← HK.out, bne, hk1]; rfl
            have HE : Hid (closedY first l 0 [] [] 0 = (o, u)) := Lib.hid (by rw [← HCLO.out]; exact closedY_stop first l k o d u hlt (by rw [HSTEP.out]; simp [hA, hn, hk9, hf4]))
            go_wp2_with fail
            refine bodyPost_ret (v := .tuple #[.slice oa vs.length oc, .int .i64 u]) (by simp [results, Try.results57, go_sem]) rfl ?_
            exact ⟨_, by rw [HE.out], by rw [HE.out]; exact HOUT4.out.deeds, HBW4.out⟩
          · simp at hk9 hk1
            omega
        · have HNX : Hid (stepY first k l[k] o d u = some (o ++ [d], [], k + 1)) := Lib.hid (by rw [HSTEP.out]; simp [hA, hn, hk9, hf4])
          go_wp2_with (at_builtin; refine wpList_app I_deeds rfl _ _ rfl w.heap.size _ _ _ rfl (HOUT4.out.own.alloc _) ⟨w4.heap.size, 0, none⟩ 1 1 [.slice da d.length dc] rfl rfl ?c1 ?c2 ?c3 ?c4 ?_)
          case c1 => exact one_new
          case c2 => intro u hu; simp at hu; subst hu; exact slice_one HDV4.out
          case c3 => have := HVL.out; omega
          case c4 => have := HB12.out; have := HZ2.out; have := HZ3.out; have := HZ4.out; simp; omega
          intro v6 w6 hown6 hg6
          have HOA := Lib.hid (HOUT4.out.own.alloc (.cells #[.slice da d.length dc] 60))
          have HOUT6 := Lib.hid ((HOUT4.out.quiet (World.grownBy_alloc _ (.cells #[.slice da d.length dc] 60) none)).push HB12.out.1 (HDV4.out.alloc (.cells #[.slice da d.length dc] 60)) hown6 hg6)
          have HBW6 := Lib.hid (grown_below (two HBW4.out (below_alloc _ (.cells #[.slice da d.length dc] 60))) HOA.out hg6 (Nat.le_refl _))
          clear hown6 hg6
          go_wp2_with fail
          go_roundw
          case rel => exact ⟨k + 1, w6.heap.size, o ++ [d], [], k + 1, vs ++ [.slice da d.length dc], by omega, by go_num, by go_num, by rw [← HCLO.out]; exact (closedY_next first l k o d u _ _ _ hlt HNX.out).symm, HOUT6.out, World.ownsRow_nil _ _ _ _, by have := HBW6.out.size; omega, Nat.le_refl _, HBW6.out, by simp; omega, by simp⟩
          case measure => simp [intOf]; omega
    · have HE : Hid (closedY first l 0 [] [] 0 = (o, u)) := Lib.hid (by rw [← HCLO.out]; exact closedY_end first l k o d u hlt)
      go_wp2_with fail
      refine bodyPost_ret (v := .tuple #[.slice oa vs.length oc, .int .i64 u]) (by simp [results, Try.results57, go_sem]) rfl ?_
      exact ⟨_, by rw [HE.out], by rw [HE.out]; exact HOUT.out.deeds, HBW.out⟩
end Go.Proofs.Ytggpodlecljcbaa
