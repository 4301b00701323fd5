/- The walk of the document's Applied. The closed fact of chapter 7; goodRows. -/
import Derived.Test.YtggpodlecljcbacWalkX7
import Derived.Test.YtggpodlecljcbacWalkR
import Derived.Test.YtggpodlecljcbacLawH
namespace Go.Proofs.Ytggpodlecljcbac
set_option linter.unusedSimpArgs false
set_option linter.unusedVariables false
open Go.RowKit Go.Sort
theorem changes_news {w : World} {ad : Addr} {n cap : Nat} {l : List Change} (h : Changes w (.slice (some ad) n cap) l) : ∀ j u, (l.flatMap Change.cells)[j]? = some u → w.cell? (ad.add j) = some u := by
  obtain ⟨h0, ao, cap', h1, h2, h3, h4, h5⟩ := h
  cases h1
  intro j u hj
  obtain ⟨b, off, e, hc⟩ := h5 j u hj
  cases e
  rw [Addr.add_lit]
  exact hc
theorem changes_one (l : List Change) : ∀ u ∈ l.flatMap Change.cells, u.oneCell' = true := flat_oneX
theorem refTo_len (l : List Change) (c : Change) : ∀ k, k ≤ l.length → (refTo l c k).1.length ≤ 2 * k
  | 0, _ => by simp [refTo]
  | k + 1, h => by
    have h1 := refTo_len l c k (by omega)
    rw [refTo_succ l c k (by omega)]
    have h2 : (putStepX c (refTo l c k) l[k]).1.length ≤ (refTo l c k).1.length + 2 := by
      unfold putStepX
      dsimp only
      split <;> split <;> simp <;> omega
    omega
/-- a slice's elements, if it has any, lie at B or behind. -/
def far0 (B : Nat) (v : Value) : Prop := ∀ a n c, v = .slice (some a) n c → 0 < n → ¬ a.block < B
theorem own_far0 {w : World} {base e k n : Nat} {v : Value} {xs : List Value} (h : w.ownsRow base e k v n xs) : far0 base v := by
  intro a m c hv _ hlt
  have := (h.lt a.block (by rw [hv]; rfl)).1
  omega
theorem far0.mono {B B' : Nat} {v : Value} (h : far0 B v) (hb : B' ≤ B) : far0 B' v := fun a n c e p q => h a n c e p (by omega)
set_option maxRecDepth 100000 in
set_option maxHeartbeats 16000000 in
theorem ref_AppliedO (va vc : Value) (l cs : List Change) (w : World) (ha : Changes w va l) (hc : Changes w vc cs) (hr : RisesX l) (hl : l.length ≤ 100) (hcl : cs.length ≤ 100) :
    Calls Try.prog 24 #[va, vc] w fun e w' => ∃ v, e = .returned v ∧ Changes w' v (appsTo l cs cs.length) ∧ far0 w.heap.size v ∧ Below w.heap.size w w' := by
  obtain ⟨ao, ac, rfl, hac, hac'⟩ := ha.parts
  obtain ⟨co, cc, rfl, hcc, hcc'⟩ := hc.parts
  have HC := Lib.hid hc
  have HR := Lib.hid hr
  have HL := Lib.hid hl
  have HCL := Lib.hid hcl
  have HA := Lib.hid ha
  have hq9 : 0 + l.length ≤ 1000000000 := by omega
  have hln : ao = none → l = [] := fun e => by
    cases l with
    | nil => rfl
    | cons x r =>
      obtain ⟨_, ao', cap', h1, _, _, _, h5⟩ := ha
      cases h1
      obtain ⟨b, off, e2, _⟩ := h5 0 (.string x.key) rfl
      rw [e] at e2
      cases e2
  clear ha hc hr hl hcl
  cases ao with
  | none =>
    have hl0 := hln rfl
    have HL0 := Lib.hid hl0
    have hl1 : l.length = 0 := by rw [hl0]; rfl
    rw [hl1]
    clear hl0 hl1 hln hac
    go_enter Try.func24, Try.ntmps24
    go_wp2_with fail
    go_loopw [5, 6] (fun v i wr => ∃ (k : Nat) (R : List Change), k ≤ cs.length ∧ i = .int .i64 k ∧ R = appsTo l cs k ∧ Changes wr v R ∧ far0 w.heap.size v ∧ Below w.heap.size w wr) (fun _ i _ => cs.length - (intOf i).toNat)
    case atStart => exact ⟨0, l, Nat.zero_le _, rfl, rfl, by rw [HL0.out]; exact Rd.nil _, fun a n c h => (by cases h), Below.refl _ _⟩
    case round =>
      obtain ⟨k, R, hk, rfl, hR, hf, hfr, hbw⟩ := hrel
      have HFR := Lib.hid hfr
      clear hfr
      have HRK := Lib.hid hR
      have HRR : Hid (RisesX R ∧ R.length ≤ 200) := Lib.hid (by
        obtain ⟨h1, h2⟩ := appsTo_rises cs HR.out k hk
        rw [hR]
        exact ⟨h1, by have := HL.out; have := HCL.out; omega⟩)
      obtain ⟨ro, rc, rfl, hrc, hrc'⟩ := hf.parts
      have HF := Lib.hid hf
      have HBW := Lib.hid hbw
      clear hf hbw hR
      by_cases hlt : k < cs.length
      · obtain ⟨cb, cof, rfl, hlb, x0, x1, x2⟩ := Changes.cell HC.out k hlt
        have HNX : Hid (appsTo l cs (k + 1) = refX R cs[k]) := Lib.hid (by rw [appsTo_next l cs k hlt, ← HRK.out, ref_is_app _ HRR.out.1])
        obtain ⟨c, hcd⟩ : ∃ c, c = cs[k] := ⟨_, rfl⟩
        rw [← hcd] at x0 x1 x2 HNX
        clear hcd
        have XC : Hid (∀ W, Below wr.heap.size wr W → W.cell? ⟨cb, cof + k * 3, none⟩ = some (.string c.key) ∧ W.cell? ⟨cb, cof + k * 3 + 1, none⟩ = some (.string c.val) ∧ W.cell? ⟨cb, cof + k * 3 + 2, none⟩ = some (.bool c.gone)) := Lib.hid fun W hb => by
          obtain ⟨kc, _⟩ := bcell (two HBW.out hb)
          exact ⟨(kc _ _ hlb).trans x0, (kc _ _ hlb).trans x1, (kc _ _ hlb).trans x2⟩
        clear x0 x1 x2 hlb
        obtain ⟨x0, x1, x2⟩ := XC.out _ (Below.refl _ _)
        obtain ⟨W2, hW2⟩ : ∃ W2, W2 = wr := ⟨_, rfl⟩
        go_wp2_with fail
        subst hW2
        clear x0 x1 x2
        go_loopw [7, 8, 9] (fun ov dv mv wr => ∃ j : Nat, j ≤ R.length ∧ dv = .bool (refTo R c j).2 ∧ mv = .int .i64 j ∧ wr.ownsRow W2.heap.size 75 3 ov (refTo R c j).1.length ((refTo R c j).1.flatMap Change.cells) ∧ Below W2.heap.size W2 wr) (fun _ _ mv _ => R.length - (intOf mv).toNat)
        case atStart => exact ⟨0, Nat.zero_le _, rfl, rfl, World.ownsRow_nil _ _ _ _, Below.refl _ _⟩
        case round =>
          obtain ⟨j, hj, rfl, rfl, hown, hbx⟩ := hrel
          have hlen := refTo_len R c j hj
          have hr200 := HRR.out.2
          obtain ⟨N, d, hN⟩ : ∃ N d, refTo R c j = (N, d) := ⟨_, _, rfl⟩
          rw [hN] at hown hlen ⊢
          dsimp only at hown hlen ⊢
          have HO0 := Lib.hid hown
          have HW0 := Lib.hid hbx
          clear hown hbx
          by_cases hltj : j < R.length
          · obtain ⟨rb, rof, rfl, hrb, y0, y1, y2⟩ := Changes.cell HF.out j hltj
            have YC : Hid (∀ W, Below W2.heap.size W2 W → W.cell? ⟨rb, rof + j * 3, none⟩ = some (.string R[j].key) ∧ W.cell? ⟨rb, rof + j * 3 + 1, none⟩ = some (.string R[j].val) ∧ W.cell? ⟨rb, rof + j * 3 + 2, none⟩ = some (.bool R[j].gone)) := Lib.hid fun W hb => by
              obtain ⟨kc, _⟩ := bcell hb
              exact ⟨(kc _ _ hrb).trans y0, (kc _ _ hrb).trans y1, (kc _ _ hrb).trans y2⟩
            clear y0 y1 y2 hrb
            cases d
            · cases hle : (Op.bytesLess c.key.toList R[j].key.toList || c.key.toList == R[j].key.toList)
              · have hb2 : bLe c.key R[j].key = false := hle
                obtain ⟨x0, x1, x2⟩ := XC.out _ HW0.out
                obtain ⟨y0, y1, y2⟩ := YC.out _ HW0.out
                replace x0 := regrown_cell x0
                replace y0 := regrown_cell y0
                clear x1 x2 y1 y2
                go_wp2_with fail
                refine wp_region_q (by kernel_rfl) (by kernel_rfl) ?_
                repeat (go_big_quiet_step (fail))
                refine wpQuiet_nil ?_
                intro w4 hb4
                have HW4 := Lib.hid (two HW0.out hb4)
                have HO4 := Lib.hid (HO0.out.kept (⟨hb4.os, hb4.tape, hb4.output, hb4.size, fun j hj _ => hb4.block j hj⟩ : World.grownBy _ _ none) (by cases h : Value.ownBlock _ <;> simp))
                clear hb4 x0 y0
                cases hn : (R[j].key.toList == c.key.toList)
                · have HK : Hid (refTo R c (j + 1) = (N ++ [R[j]], false)) := Lib.hid (by rw [refTo_succ R c j hltj, hN, putStepX]; simp [hb2, hn])
                  clear hN
                  obtain ⟨x0, x1, x2⟩ := XC.out _ HW4.out
                  obtain ⟨y0, y1, y2⟩ := YC.out _ HW4.out
                  replace x0 := regrown_cell x0
                  replace y0 := regrown_cell y0
                  clear x1 x2 y1 y2
                  go_wp2_with fail
                  refine wp_region_q (by kernel_rfl) (by kernel_rfl) ?_
                  repeat (go_big_quiet_step (fail))
                  refine wpQuiet_nil ?_
                  intro w5 hb5
                  have HW5 := Lib.hid (two HW4.out hb5)
                  have HO5 := Lib.hid (HO4.out.kept (⟨hb5.os, hb5.tape, hb5.output, hb5.size, fun j hj _ => hb5.block j hj⟩ : World.grownBy _ _ none) (by cases h : Value.ownBlock _ <;> simp))
                  clear hb5 x0 y0
                  obtain ⟨y0, y1, y2⟩ := YC.out _ HW5.out
                  have hz6 := HW5.out.size
                  go_wp2_with (at_builtin; refine wpList_app I_changes rfl _ _ rfl W2.heap.size _ _ _ rfl (HO5.out.alloc _) ⟨w5.heap.size, 0, none⟩ 1 1 [.string R[j].key, .string R[j].val, .bool R[j].gone] rfl rfl ?c1 ?c2 ?c3 ?c4 ?_)
                  case c1 => exact three_new
                  case c2 => exact change_one R[j]
                  case c3 => first | omega | (simp only [List.length_append, List.length_cons, List.length_nil]; omega)
                  case c4 => simp; omega
                  intro v6 w6 hown6 hg6
                  have HW6 := Lib.hid (grown_below (HW5.out.trans ((below_alloc w5 (.cells #[.string R[j].key, .string R[j].val, .bool R[j].gone] 75)).mono hz6)) (HO5.out.alloc _) hg6 (Nat.le_refl _))
                  have HO6 : Hid (w6.ownsRow W2.heap.size 75 3 v6 (N ++ [R[j]]).length ((N ++ [R[j]]).flatMap Change.cells)) := Lib.hid (by first | (rw [flat_append, List.length_append]; exact hown6) | (simp only [List.flatMap_append, List.length_append, List.append_assoc, List.flatMap_cons, List.flatMap_nil, List.append_nil, List.length_cons, List.length_nil]; exact hown6))
                  clear hown6 hg6 hz6 y0 y1 y2
                  go_wp2_with fail
                  go_roundw
                  case rel => exact ⟨j + 1, by omega, by rw [HK.out], by go_num, by rw [HK.out]; exact HO6.out, HW6.out⟩
                  case measure => simp [intOf]; omega
                · have HK : Hid (refTo R c (j + 1) = (N, false)) := Lib.hid (by rw [refTo_succ R c j hltj, hN, putStepX]; simp [hb2, hn])
                  clear hN
                  obtain ⟨x0, x1, x2⟩ := XC.out _ HW4.out
                  obtain ⟨y0, y1, y2⟩ := YC.out _ HW4.out
                  replace x0 := regrown_cell x0
                  replace y0 := regrown_cell y0
                  clear x1 x2 y1 y2
                  go_wp2_with fail
                  refine wp_region_q (by kernel_rfl) (by kernel_rfl) ?_
                  repeat (go_big_quiet_step (fail))
                  refine wpQuiet_nil ?_
                  intro w5 hb5
                  have HW5 := Lib.hid (two HW4.out hb5)
                  have HO5 := Lib.hid (HO4.out.kept (⟨hb5.os, hb5.tape, hb5.output, hb5.size, fun j hj _ => hb5.block j hj⟩ : World.grownBy _ _ none) (by cases h : Value.ownBlock _ <;> simp))
                  clear hb5 x0 y0
                  go_wp2_with fail
                  go_roundw
                  case rel => exact ⟨j + 1, by omega, by rw [HK.out], by go_num, by rw [HK.out]; exact HO5.out, HW5.out⟩
                  case measure => simp [intOf]; omega
              · have hb2 : bLe c.key R[j].key = true := hle
                obtain ⟨x0, x1, x2⟩ := XC.out _ HW0.out
                obtain ⟨y0, y1, y2⟩ := YC.out _ HW0.out
                replace x0 := regrown_cell x0
                replace y0 := regrown_cell y0
                clear x1 x2 y1 y2
                go_wp2_with fail
                refine wp_region_q (by kernel_rfl) (by kernel_rfl) ?_
                repeat (go_big_quiet_step (fail))
                refine wpQuiet_nil ?_
                intro w4 hb4
                have HW4 := Lib.hid (two HW0.out hb4)
                have HO4 := Lib.hid (HO0.out.kept (⟨hb4.os, hb4.tape, hb4.output, hb4.size, fun j hj _ => hb4.block j hj⟩ : World.grownBy _ _ none) (by cases h : Value.ownBlock _ <;> simp))
                clear hb4 x0 y0
                obtain ⟨x0, x1, x2⟩ := XC.out _ HW4.out
                have hz5 := HW4.out.size
                go_wp2_with (at_builtin; refine wpList_app I_changes rfl _ _ rfl W2.heap.size _ _ _ rfl (HO4.out.alloc _) ⟨w4.heap.size, 0, none⟩ 1 1 [.string c.key, .string c.val, .bool c.gone] rfl rfl ?c1 ?c2 ?c3 ?c4 ?_)
                case c1 => exact three_new
                case c2 => exact change_one c
                case c3 => first | omega | (simp only [List.length_append, List.length_cons, List.length_nil]; omega)
                case c4 => simp; omega
                intro v5 w5 hown5 hg5
                have HW5 := Lib.hid (grown_below (HW4.out.trans ((below_alloc w4 (.cells #[.string c.key, .string c.val, .bool c.gone] 75)).mono hz5)) (HO4.out.alloc _) hg5 (Nat.le_refl _))
                have HO5 : Hid (w5.ownsRow W2.heap.size 75 3 v5 (N ++ [c]).length ((N ++ [c]).flatMap Change.cells)) := Lib.hid (by first | (rw [flat_append, List.length_append]; exact hown5) | (simp only [List.flatMap_append, List.length_append, List.append_assoc, List.flatMap_cons, List.flatMap_nil, List.append_nil, List.length_cons, List.length_nil]; exact hown5))
                clear hown5 hg5 hz5 x0 x1 x2
                cases hn : (R[j].key.toList == c.key.toList)
                · have HK : Hid (refTo R c (j + 1) = (N ++ [c] ++ [R[j]], true)) := Lib.hid (by rw [refTo_succ R c j hltj, hN, putStepX]; simp [hb2, hn])
                  clear hN
                  obtain ⟨x0, x1, x2⟩ := XC.out _ HW5.out
                  obtain ⟨y0, y1, y2⟩ := YC.out _ HW5.out
                  replace x0 := regrown_cell x0
                  replace y0 := regrown_cell y0
                  clear x1 x2 y1 y2
                  go_wp2_with fail
                  refine wp_region_q (by kernel_rfl) (by kernel_rfl) ?_
                  repeat (go_big_quiet_step (fail))
                  refine wpQuiet_nil ?_
                  intro w6 hb6
                  have HW6 := Lib.hid (two HW5.out hb6)
                  have HO6 := Lib.hid (HO5.out.kept (⟨hb6.os, hb6.tape, hb6.output, hb6.size, fun j hj _ => hb6.block j hj⟩ : World.grownBy _ _ none) (by cases h : Value.ownBlock _ <;> simp))
                  clear hb6 x0 y0
                  obtain ⟨y0, y1, y2⟩ := YC.out _ HW6.out
                  have hz7 := HW6.out.size
                  go_wp2_with (at_builtin; refine wpList_app I_changes rfl _ _ rfl W2.heap.size _ _ _ rfl (HO6.out.alloc _) ⟨w6.heap.size, 0, none⟩ 1 1 [.string R[j].key, .string R[j].val, .bool R[j].gone] rfl rfl ?c1 ?c2 ?c3 ?c4 ?_)
                  case c1 => exact three_new
                  case c2 => exact change_one R[j]
                  case c3 => first | omega | (simp only [List.length_append, List.length_cons, List.length_nil]; omega)
                  case c4 => simp; omega
                  intro v7 w7 hown7 hg7
                  have HW7 := Lib.hid (grown_below (HW6.out.trans ((below_alloc w6 (.cells #[.string R[j].key, .string R[j].val, .bool R[j].gone] 75)).mono hz7)) (HO6.out.alloc _) hg7 (Nat.le_refl _))
                  have HO7 : Hid (w7.ownsRow W2.heap.size 75 3 v7 (N ++ [c] ++ [R[j]]).length ((N ++ [c] ++ [R[j]]).flatMap Change.cells)) := Lib.hid (by first | (rw [flat_append, List.length_append]; exact hown7) | (simp only [List.flatMap_append, List.length_append, List.append_assoc, List.flatMap_cons, List.flatMap_nil, List.append_nil, List.length_cons, List.length_nil]; exact hown7))
                  clear hown7 hg7 hz7 y0 y1 y2
                  go_wp2_with fail
                  go_roundw
                  case rel => exact ⟨j + 1, by omega, by rw [HK.out], by go_num, by rw [HK.out]; exact HO7.out, HW7.out⟩
                  case measure => simp [intOf]; omega
                · have HK : Hid (refTo R c (j + 1) = (N ++ [c], true)) := Lib.hid (by rw [refTo_succ R c j hltj, hN, putStepX]; simp [hb2, hn])
                  clear hN
                  obtain ⟨x0, x1, x2⟩ := XC.out _ HW5.out
                  obtain ⟨y0, y1, y2⟩ := YC.out _ HW5.out
                  replace x0 := regrown_cell x0
                  replace y0 := regrown_cell y0
                  clear x1 x2 y1 y2
                  go_wp2_with fail
                  refine wp_region_q (by kernel_rfl) (by kernel_rfl) ?_
                  repeat (go_big_quiet_step (fail))
                  refine wpQuiet_nil ?_
                  intro w6 hb6
                  have HW6 := Lib.hid (two HW5.out hb6)
                  have HO6 := Lib.hid (HO5.out.kept (⟨hb6.os, hb6.tape, hb6.output, hb6.size, fun j hj _ => hb6.block j hj⟩ : World.grownBy _ _ none) (by cases h : Value.ownBlock _ <;> simp))
                  clear hb6 x0 y0
                  go_wp2_with fail
                  go_roundw
                  case rel => exact ⟨j + 1, by omega, by rw [HK.out], by go_num, by rw [HK.out]; exact HO6.out, HW6.out⟩
                  case measure => simp [intOf]; omega
            · obtain ⟨x0, x1, x2⟩ := XC.out _ HW0.out
              obtain ⟨y0, y1, y2⟩ := YC.out _ HW0.out
              replace x0 := regrown_cell x0
              replace y0 := regrown_cell y0
              clear x1 x2 y1 y2
              go_wp2_with fail
              refine wp_region_q (by kernel_rfl) (by kernel_rfl) ?_
              repeat (go_big_quiet_step (fail))
              refine wpQuiet_nil ?_
              intro w4 hb4
              have HW4 := Lib.hid (two HW0.out hb4)
              have HO4 := Lib.hid (HO0.out.kept (⟨hb4.os, hb4.tape, hb4.output, hb4.size, fun j hj _ => hb4.block j hj⟩ : World.grownBy _ _ none) (by cases h : Value.ownBlock _ <;> simp))
              clear hb4 x0 y0
              cases hn : (R[j].key.toList == c.key.toList)
              · have HK : Hid (refTo R c (j + 1) = (N ++ [R[j]], true)) := Lib.hid (by rw [refTo_succ R c j hltj, hN, putStepX]; simp [hn])
                clear hN
                obtain ⟨x0, x1, x2⟩ := XC.out _ HW4.out
                obtain ⟨y0, y1, y2⟩ := YC.out _ HW4.out
                replace x0 := regrown_cell x0
                replace y0 := regrown_cell y0
                clear x1 x2 y1 y2
                go_wp2_with fail
                refine wp_region_q (by kernel_rfl) (by kernel_rfl) ?_
                repeat (go_big_quiet_step (fail))
                refine wpQuiet_nil ?_
                intro w5 hb5
                have HW5 := Lib.hid (two HW4.out hb5)
                have HO5 := Lib.hid (HO4.out.kept (⟨hb5.os, hb5.tape, hb5.output, hb5.size, fun j hj _ => hb5.block j hj⟩ : World.grownBy _ _ none) (by cases h : Value.ownBlock _ <;> simp))
                clear hb5 x0 y0
                obtain ⟨y0, y1, y2⟩ := YC.out _ HW5.out
                have hz6 := HW5.out.size
                go_wp2_with (at_builtin; refine wpList_app I_changes rfl _ _ rfl W2.heap.size _ _ _ rfl (HO5.out.alloc _) ⟨w5.heap.size, 0, none⟩ 1 1 [.string R[j].key, .string R[j].val, .bool R[j].gone] rfl rfl ?c1 ?c2 ?c3 ?c4 ?_)
                case c1 => exact three_new
                case c2 => exact change_one R[j]
                case c3 => first | omega | (simp only [List.length_append, List.length_cons, List.length_nil]; omega)
                case c4 => simp; omega
                intro v6 w6 hown6 hg6
                have HW6 := Lib.hid (grown_below (HW5.out.trans ((below_alloc w5 (.cells #[.string R[j].key, .string R[j].val, .bool R[j].gone] 75)).mono hz6)) (HO5.out.alloc _) hg6 (Nat.le_refl _))
                have HO6 : Hid (w6.ownsRow W2.heap.size 75 3 v6 (N ++ [R[j]]).length ((N ++ [R[j]]).flatMap Change.cells)) := Lib.hid (by first | (rw [flat_append, List.length_append]; exact hown6) | (simp only [List.flatMap_append, List.length_append, List.append_assoc, List.flatMap_cons, List.flatMap_nil, List.append_nil, List.length_cons, List.length_nil]; exact hown6))
                clear hown6 hg6 hz6 y0 y1 y2
                go_wp2_with fail
                go_roundw
                case rel => exact ⟨j + 1, by omega, by rw [HK.out], by go_num, by rw [HK.out]; exact HO6.out, HW6.out⟩
                case measure => simp [intOf]; omega
              · have HK : Hid (refTo R c (j + 1) = (N, true)) := Lib.hid (by rw [refTo_succ R c j hltj, hN, putStepX]; simp [hn])
                clear hN
                obtain ⟨x0, x1, x2⟩ := XC.out _ HW4.out
                obtain ⟨y0, y1, y2⟩ := YC.out _ HW4.out
                replace x0 := regrown_cell x0
                replace y0 := regrown_cell y0
                clear x1 x2 y1 y2
                go_wp2_with fail
                refine wp_region_q (by kernel_rfl) (by kernel_rfl) ?_
                repeat (go_big_quiet_step (fail))
                refine wpQuiet_nil ?_
                intro w5 hb5
                have HW5 := Lib.hid (two HW4.out hb5)
                have HO5 := Lib.hid (HO4.out.kept (⟨hb5.os, hb5.tape, hb5.output, hb5.size, fun j hj _ => hb5.block j hj⟩ : World.grownBy _ _ none) (by cases h : Value.ownBlock _ <;> simp))
                clear hb5 x0 y0
                go_wp2_with fail
                go_roundw
                case rel => exact ⟨j + 1, by omega, by rw [HK.out], by go_num, by rw [HK.out]; exact HO5.out, HW5.out⟩
                case measure => simp [intOf]; omega
          · have hjl : j = R.length := by omega
            subst hjl
            cases d
            · have HE : Hid (refX R c = N ++ [c]) := Lib.hid (by unfold refX; rw [hN]; rfl)
              clear hN
              obtain ⟨x0, x1, x2⟩ := XC.out _ HW0.out
              have hz4 := HW0.out.size
              go_wp2_with (at_builtin; refine wpList_app I_changes rfl _ _ rfl W2.heap.size _ _ _ rfl (HO0.out.alloc _) ⟨wr.heap.size, 0, none⟩ 1 1 [.string c.key, .string c.val, .bool c.gone] rfl rfl ?c1 ?c2 ?c3 ?c4 ?_)
              case c1 => exact three_new
              case c2 => exact change_one c
              case c3 => first | omega | (simp only [List.length_append, List.length_cons, List.length_nil]; omega)
              case c4 => simp; omega
              intro v4 w4 hown4 hg4
              have HW4 := Lib.hid (grown_below (HW0.out.trans ((below_alloc wr (.cells #[.string c.key, .string c.val, .bool c.gone] 75)).mono hz4)) (HO0.out.alloc _) hg4 (Nat.le_refl _))
              have HO4 : Hid (w4.ownsRow W2.heap.size 75 3 v4 (N ++ [c]).length ((N ++ [c]).flatMap Change.cells)) := Lib.hid (by first | (rw [flat_append, List.length_append]; exact hown4) | (simp only [List.flatMap_append, List.length_append, List.append_assoc, List.flatMap_cons, List.flatMap_nil, List.append_nil, List.length_cons, List.length_nil]; exact hown4))
              clear hown4 hg4 hz4 x0 x1 x2
              go_wp2_with fail
              go_roundw
              case rel => exact ⟨k + 1, _, by omega, by go_num, (HNX.out.trans HE.out).symm, SL.of_own HO4.out, (own_far0 HO4.out).mono HBW.out.size, two HBW.out HW4.out⟩
              case measure => simp [intOf]; omega
            · have HE : Hid (refX R c = N) := Lib.hid (by unfold refX; rw [hN]; rfl)
              clear hN
              go_wp2_with fail
              go_roundw
              case rel => exact ⟨k + 1, _, by omega, by go_num, (HNX.out.trans HE.out).symm, SL.of_own HO0.out, (own_far0 HO0.out).mono HBW.out.size, two HBW.out HW0.out⟩
              case measure => simp [intOf]; omega
      · have hke : k = cs.length := by omega
        go_wp2_with fail
        go_ret
        exact ⟨_, rfl, by rw [← hke, ← HRK.out]; exact HF.out, HFR.out, HBW.out⟩
  | some ad =>
    have HNW := Lib.hid (changes_news HA.out)
    clear hln
    go_enter Try.func24, Try.ntmps24
    go_wp2_with (at_builtin; refine wpList_app I_changes rfl _ _ rfl w.heap.size (.slice none 0 0) 0 [] rfl (World.ownsRow_nil _ _ _ _) ad l.length ac (l.flatMap Change.cells) rfl (flat_length (k := 3) (fun _ => rfl) _) HNW.out (changes_one _) hq9 (Nat.le_refl _) ?_; intro v1 w1 ho hg; have HF1 : Hid (far0 w.heap.size v1) := Lib.hid (own_far0 ho); have HB1 := Lib.hid (grown_below (Below.refl _ _) (World.ownsRow_nil w w.heap.size 75 3) hg (Nat.le_refl _)); have HC1 : Hid (Changes w1 v1 l) := Lib.hid (by have h := SL.of_own ho; rw [Nat.zero_add, List.nil_append] at h; exact h); clear ho hg)
    go_wp2_with fail
    go_loopw [5, 6] (fun v i wr => ∃ (k : Nat) (R : List Change), k ≤ cs.length ∧ i = .int .i64 k ∧ R = appsTo l cs k ∧ Changes wr v R ∧ far0 w.heap.size v ∧ Below w.heap.size w wr) (fun _ i _ => cs.length - (intOf i).toNat)
    case atStart => exact ⟨0, l, Nat.zero_le _, rfl, rfl, HC1.out, HF1.out, HB1.out⟩
    case round =>
      obtain ⟨k, R, hk, rfl, hR, hf, hfr, hbw⟩ := hrel
      have HFR := Lib.hid hfr
      clear hfr
      have HRK := Lib.hid hR
      have HRR : Hid (RisesX R ∧ R.length ≤ 200) := Lib.hid (by
        obtain ⟨h1, h2⟩ := appsTo_rises cs HR.out k hk
        rw [hR]
        exact ⟨h1, by have := HL.out; have := HCL.out; omega⟩)
      obtain ⟨ro, rc, rfl, hrc, hrc'⟩ := hf.parts
      have HF := Lib.hid hf
      have HBW := Lib.hid hbw
      clear hf hbw hR
      by_cases hlt : k < cs.length
      · obtain ⟨cb, cof, rfl, hlb, x0, x1, x2⟩ := Changes.cell HC.out k hlt
        have HNX : Hid (appsTo l cs (k + 1) = refX R cs[k]) := Lib.hid (by rw [appsTo_next l cs k hlt, ← HRK.out, ref_is_app _ HRR.out.1])
        obtain ⟨c, hcd⟩ : ∃ c, c = cs[k] := ⟨_, rfl⟩
        rw [← hcd] at x0 x1 x2 HNX
        clear hcd
        have XC : Hid (∀ W, Below wr.heap.size wr W → W.cell? ⟨cb, cof + k * 3, none⟩ = some (.string c.key) ∧ W.cell? ⟨cb, cof + k * 3 + 1, none⟩ = some (.string c.val) ∧ W.cell? ⟨cb, cof + k * 3 + 2, none⟩ = some (.bool c.gone)) := Lib.hid fun W hb => by
          obtain ⟨kc, _⟩ := bcell (two HBW.out hb)
          exact ⟨(kc _ _ hlb).trans x0, (kc _ _ hlb).trans x1, (kc _ _ hlb).trans x2⟩
        clear x0 x1 x2 hlb
        obtain ⟨x0, x1, x2⟩ := XC.out _ (Below.refl _ _)
        obtain ⟨W2, hW2⟩ : ∃ W2, W2 = wr := ⟨_, rfl⟩
        go_wp2_with fail
        subst hW2
        clear x0 x1 x2
        go_loopw [7, 8, 9] (fun ov dv mv wr => ∃ j : Nat, j ≤ R.length ∧ dv = .bool (refTo R c j).2 ∧ mv = .int .i64 j ∧ wr.ownsRow W2.heap.size 75 3 ov (refTo R c j).1.length ((refTo R c j).1.flatMap Change.cells) ∧ Below W2.heap.size W2 wr) (fun _ _ mv _ => R.length - (intOf mv).toNat)
        case atStart => exact ⟨0, Nat.zero_le _, rfl, rfl, World.ownsRow_nil _ _ _ _, Below.refl _ _⟩
        case round =>
          obtain ⟨j, hj, rfl, rfl, hown, hbx⟩ := hrel
          have hlen := refTo_len R c j hj
          have hr200 := HRR.out.2
          obtain ⟨N, d, hN⟩ : ∃ N d, refTo R c j = (N, d) := ⟨_, _, rfl⟩
          rw [hN] at hown hlen ⊢
          dsimp only at hown hlen ⊢
          have HO0 := Lib.hid hown
          have HW0 := Lib.hid hbx
          clear hown hbx
          by_cases hltj : j < R.length
          · obtain ⟨rb, rof, rfl, hrb, y0, y1, y2⟩ := Changes.cell HF.out j hltj
            have YC : Hid (∀ W, Below W2.heap.size W2 W → W.cell? ⟨rb, rof + j * 3, none⟩ = some (.string R[j].key) ∧ W.cell? ⟨rb, rof + j * 3 + 1, none⟩ = some (.string R[j].val) ∧ W.cell? ⟨rb, rof + j * 3 + 2, none⟩ = some (.bool R[j].gone)) := Lib.hid fun W hb => by
              obtain ⟨kc, _⟩ := bcell hb
              exact ⟨(kc _ _ hrb).trans y0, (kc _ _ hrb).trans y1, (kc _ _ hrb).trans y2⟩
            clear y0 y1 y2 hrb
            cases d
            · cases hle : (Op.bytesLess c.key.toList R[j].key.toList || c.key.toList == R[j].key.toList)
              · have hb2 : bLe c.key R[j].key = false := hle
                obtain ⟨x0, x1, x2⟩ := XC.out _ HW0.out
                obtain ⟨y0, y1, y2⟩ := YC.out _ HW0.out
                replace x0 := regrown_cell x0
                replace y0 := regrown_cell y0
                clear x1 x2 y1 y2
                go_wp2_with fail
                refine wp_region_q (by kernel_rfl) (by kernel_rfl) ?_
                repeat (go_big_quiet_step (fail))
                refine wpQuiet_nil ?_
                intro w4 hb4
                have HW4 := Lib.hid (two HW0.out hb4)
                have HO4 := Lib.hid (HO0.out.kept (⟨hb4.os, hb4.tape, hb4.output, hb4.size, fun j hj _ => hb4.block j hj⟩ : World.grownBy _ _ none) (by cases h : Value.ownBlock _ <;> simp))
                clear hb4 x0 y0
                cases hn : (R[j].key.toList == c.key.toList)
                · have HK : Hid (refTo R c (j + 1) = (N ++ [R[j]], false)) := Lib.hid (by rw [refTo_succ R c j hltj, hN, putStepX]; simp [hb2, hn])
                  clear hN
                  obtain ⟨x0, x1, x2⟩ := XC.out _ HW4.out
                  obtain ⟨y0, y1, y2⟩ := YC.out _ HW4.out
                  replace x0 := regrown_cell x0
                  replace y0 := regrown_cell y0
                  clear x1 x2 y1 y2
                  go_wp2_with fail
                  refine wp_region_q (by kernel_rfl) (by kernel_rfl) ?_
                  repeat (go_big_quiet_step (fail))
                  refine wpQuiet_nil ?_
                  intro w5 hb5
                  have HW5 := Lib.hid (two HW4.out hb5)
                  have HO5 := Lib.hid (HO4.out.kept (⟨hb5.os, hb5.tape, hb5.output, hb5.size, fun j hj _ => hb5.block j hj⟩ : World.grownBy _ _ none) (by cases h : Value.ownBlock _ <;> simp))
                  clear hb5 x0 y0
                  obtain ⟨y0, y1, y2⟩ := YC.out _ HW5.out
                  have hz6 := HW5.out.size
                  go_wp2_with (at_builtin; refine wpList_app I_changes rfl _ _ rfl W2.heap.size _ _ _ rfl (HO5.out.alloc _) ⟨w5.heap.size, 0, none⟩ 1 1 [.string R[j].key, .string R[j].val, .bool R[j].gone] rfl rfl ?c1 ?c2 ?c3 ?c4 ?_)
                  case c1 => exact three_new
                  case c2 => exact change_one R[j]
                  case c3 => first | omega | (simp only [List.length_append, List.length_cons, List.length_nil]; omega)
                  case c4 => simp; omega
                  intro v6 w6 hown6 hg6
                  have HW6 := Lib.hid (grown_below (HW5.out.trans ((below_alloc w5 (.cells #[.string R[j].key, .string R[j].val, .bool R[j].gone] 75)).mono hz6)) (HO5.out.alloc _) hg6 (Nat.le_refl _))
                  have HO6 : Hid (w6.ownsRow W2.heap.size 75 3 v6 (N ++ [R[j]]).length ((N ++ [R[j]]).flatMap Change.cells)) := Lib.hid (by first | (rw [flat_append, List.length_append]; exact hown6) | (simp only [List.flatMap_append, List.length_append, List.append_assoc, List.flatMap_cons, List.flatMap_nil, List.append_nil, List.length_cons, List.length_nil]; exact hown6))
                  clear hown6 hg6 hz6 y0 y1 y2
                  go_wp2_with fail
                  go_roundw
                  case rel => exact ⟨j + 1, by omega, by rw [HK.out], by go_num, by rw [HK.out]; exact HO6.out, HW6.out⟩
                  case measure => simp [intOf]; omega
                · have HK : Hid (refTo R c (j + 1) = (N, false)) := Lib.hid (by rw [refTo_succ R c j hltj, hN, putStepX]; simp [hb2, hn])
                  clear hN
                  obtain ⟨x0, x1, x2⟩ := XC.out _ HW4.out
                  obtain ⟨y0, y1, y2⟩ := YC.out _ HW4.out
                  replace x0 := regrown_cell x0
                  replace y0 := regrown_cell y0
                  clear x1 x2 y1 y2
                  go_wp2_with fail
                  refine wp_region_q (by kernel_rfl) (by kernel_rfl) ?_
                  repeat (go_big_quiet_step (fail))
                  refine wpQuiet_nil ?_
                  intro w5 hb5
                  have HW5 := Lib.hid (two HW4.out hb5)
                  have HO5 := Lib.hid (HO4.out.kept (⟨hb5.os, hb5.tape, hb5.output, hb5.size, fun j hj _ => hb5.block j hj⟩ : World.grownBy _ _ none) (by cases h : Value.ownBlock _ <;> simp))
                  clear hb5 x0 y0
                  go_wp2_with fail
                  go_roundw
                  case rel => exact ⟨j + 1, by omega, by rw [HK.out], by go_num, by rw [HK.out]; exact HO5.out, HW5.out⟩
                  case measure => simp [intOf]; omega
              · have hb2 : bLe c.key R[j].key = true := hle
                obtain ⟨x0, x1, x2⟩ := XC.out _ HW0.out
                obtain ⟨y0, y1, y2⟩ := YC.out _ HW0.out
                replace x0 := regrown_cell x0
                replace y0 := regrown_cell y0
                clear x1 x2 y1 y2
                go_wp2_with fail
                refine wp_region_q (by kernel_rfl) (by kernel_rfl) ?_
                repeat (go_big_quiet_step (fail))
                refine wpQuiet_nil ?_
                intro w4 hb4
                have HW4 := Lib.hid (two HW0.out hb4)
                have HO4 := Lib.hid (HO0.out.kept (⟨hb4.os, hb4.tape, hb4.output, hb4.size, fun j hj _ => hb4.block j hj⟩ : World.grownBy _ _ none) (by cases h : Value.ownBlock _ <;> simp))
                clear hb4 x0 y0
                obtain ⟨x0, x1, x2⟩ := XC.out _ HW4.out
                have hz5 := HW4.out.size
                go_wp2_with (at_builtin; refine wpList_app I_changes rfl _ _ rfl W2.heap.size _ _ _ rfl (HO4.out.alloc _) ⟨w4.heap.size, 0, none⟩ 1 1 [.string c.key, .string c.val, .bool c.gone] rfl rfl ?c1 ?c2 ?c3 ?c4 ?_)
                case c1 => exact three_new
                case c2 => exact change_one c
                case c3 => first | omega | (simp only [List.length_append, List.length_cons, List.length_nil]; omega)
                case c4 => simp; omega
                intro v5 w5 hown5 hg5
                have HW5 := Lib.hid (grown_below (HW4.out.trans ((below_alloc w4 (.cells #[.string c.key, .string c.val, .bool c.gone] 75)).mono hz5)) (HO4.out.alloc _) hg5 (Nat.le_refl _))
                have HO5 : Hid (w5.ownsRow W2.heap.size 75 3 v5 (N ++ [c]).length ((N ++ [c]).flatMap Change.cells)) := Lib.hid (by first | (rw [flat_append, List.length_append]; exact hown5) | (simp only [List.flatMap_append, List.length_append, List.append_assoc, List.flatMap_cons, List.flatMap_nil, List.append_nil, List.length_cons, List.length_nil]; exact hown5))
                clear hown5 hg5 hz5 x0 x1 x2
                cases hn : (R[j].key.toList == c.key.toList)
                · have HK : Hid (refTo R c (j + 1) = (N ++ [c] ++ [R[j]], true)) := Lib.hid (by rw [refTo_succ R c j hltj, hN, putStepX]; simp [hb2, hn])
                  clear hN
                  obtain ⟨x0, x1, x2⟩ := XC.out _ HW5.out
                  obtain ⟨y0, y1, y2⟩ := YC.out _ HW5.out
                  replace x0 := regrown_cell x0
                  replace y0 := regrown_cell y0
                  clear x1 x2 y1 y2
                  go_wp2_with fail
                  refine wp_region_q (by kernel_rfl) (by kernel_rfl) ?_
                  repeat (go_big_quiet_step (fail))
                  refine wpQuiet_nil ?_
                  intro w6 hb6
                  have HW6 := Lib.hid (two HW5.out hb6)
                  have HO6 := Lib.hid (HO5.out.kept (⟨hb6.os, hb6.tape, hb6.output, hb6.size, fun j hj _ => hb6.block j hj⟩ : World.grownBy _ _ none) (by cases h : Value.ownBlock _ <;> simp))
                  clear hb6 x0 y0
                  obtain ⟨y0, y1, y2⟩ := YC.out _ HW6.out
                  have hz7 := HW6.out.size
                  go_wp2_with (at_builtin; refine wpList_app I_changes rfl _ _ rfl W2.heap.size _ _ _ rfl (HO6.out.alloc _) ⟨w6.heap.size, 0, none⟩ 1 1 [.string R[j].key, .string R[j].val, .bool R[j].gone] rfl rfl ?c1 ?c2 ?c3 ?c4 ?_)
                  case c1 => exact three_new
                  case c2 => exact change_one R[j]
                  case c3 => first | omega | (simp only [List.length_append, List.length_cons, List.length_nil]; omega)
                  case c4 => simp; omega
                  intro v7 w7 hown7 hg7
                  have HW7 := Lib.hid (grown_below (HW6.out.trans ((below_alloc w6 (.cells #[.string R[j].key, .string R[j].val, .bool R[j].gone] 75)).mono hz7)) (HO6.out.alloc _) hg7 (Nat.le_refl _))
                  have HO7 : Hid (w7.ownsRow W2.heap.size 75 3 v7 (N ++ [c] ++ [R[j]]).length ((N ++ [c] ++ [R[j]]).flatMap Change.cells)) := Lib.hid (by first | (rw [flat_append, List.length_append]; exact hown7) | (simp only [List.flatMap_append, List.length_append, List.append_assoc, List.flatMap_cons, List.flatMap_nil, List.append_nil, List.length_cons, List.length_nil]; exact hown7))
                  clear hown7 hg7 hz7 y0 y1 y2
                  go_wp2_with fail
                  go_roundw
                  case rel => exact ⟨j + 1, by omega, by rw [HK.out], by go_num, by rw [HK.out]; exact HO7.out, HW7.out⟩
                  case measure => simp [intOf]; omega
                · have HK : Hid (refTo R c (j + 1) = (N ++ [c], true)) := Lib.hid (by rw [refTo_succ R c j hltj, hN, putStepX]; simp [hb2, hn])
                  clear hN
                  obtain ⟨x0, x1, x2⟩ := XC.out _ HW5.out
                  obtain ⟨y0, y1, y2⟩ := YC.out _ HW5.out
                  replace x0 := regrown_cell x0
                  replace y0 := regrown_cell y0
                  clear x1 x2 y1 y2
                  go_wp2_with fail
                  refine wp_region_q (by kernel_rfl) (by kernel_rfl) ?_
                  repeat (go_big_quiet_step (fail))
                  refine wpQuiet_nil ?_
                  intro w6 hb6
                  have HW6 := Lib.hid (two HW5.out hb6)
                  have HO6 := Lib.hid (HO5.out.kept (⟨hb6.os, hb6.tape, hb6.output, hb6.size, fun j hj _ => hb6.block j hj⟩ : World.grownBy _ _ none) (by cases h : Value.ownBlock _ <;> simp))
                  clear hb6 x0 y0
                  go_wp2_with fail
                  go_roundw
                  case rel => exact ⟨j + 1, by omega, by rw [HK.out], by go_num, by rw [HK.out]; exact HO6.out, HW6.out⟩
                  case measure => simp [intOf]; omega
            · obtain ⟨x0, x1, x2⟩ := XC.out _ HW0.out
              obtain ⟨y0, y1, y2⟩ := YC.out _ HW0.out
              replace x0 := regrown_cell x0
              replace y0 := regrown_cell y0
              clear x1 x2 y1 y2
              go_wp2_with fail
              refine wp_region_q (by kernel_rfl) (by kernel_rfl) ?_
              repeat (go_big_quiet_step (fail))
              refine wpQuiet_nil ?_
              intro w4 hb4
              have HW4 := Lib.hid (two HW0.out hb4)
              have HO4 := Lib.hid (HO0.out.kept (⟨hb4.os, hb4.tape, hb4.output, hb4.size, fun j hj _ => hb4.block j hj⟩ : World.grownBy _ _ none) (by cases h : Value.ownBlock _ <;> simp))
              clear hb4 x0 y0
              cases hn : (R[j].key.toList == c.key.toList)
              · have HK : Hid (refTo R c (j + 1) = (N ++ [R[j]], true)) := Lib.hid (by rw [refTo_succ R c j hltj, hN, putStepX]; simp [hn])
                clear hN
                obtain ⟨x0, x1, x2⟩ := XC.out _ HW4.out
                obtain ⟨y0, y1, y2⟩ := YC.out _ HW4.out
                replace x0 := regrown_cell x0
                replace y0 := regrown_cell y0
                clear x1 x2 y1 y2
                go_wp2_with fail
                refine wp_region_q (by kernel_rfl) (by kernel_rfl) ?_
                repeat (go_big_quiet_step (fail))
                refine wpQuiet_nil ?_
                intro w5 hb5
                have HW5 := Lib.hid (two HW4.out hb5)
                have HO5 := Lib.hid (HO4.out.kept (⟨hb5.os, hb5.tape, hb5.output, hb5.size, fun j hj _ => hb5.block j hj⟩ : World.grownBy _ _ none) (by cases h : Value.ownBlock _ <;> simp))
                clear hb5 x0 y0
                obtain ⟨y0, y1, y2⟩ := YC.out _ HW5.out
                have hz6 := HW5.out.size
                go_wp2_with (at_builtin; refine wpList_app I_changes rfl _ _ rfl W2.heap.size _ _ _ rfl (HO5.out.alloc _) ⟨w5.heap.size, 0, none⟩ 1 1 [.string R[j].key, .string R[j].val, .bool R[j].gone] rfl rfl ?c1 ?c2 ?c3 ?c4 ?_)
                case c1 => exact three_new
                case c2 => exact change_one R[j]
                case c3 => first | omega | (simp only [List.length_append, List.length_cons, List.length_nil]; omega)
                case c4 => simp; omega
                intro v6 w6 hown6 hg6
                have HW6 := Lib.hid (grown_below (HW5.out.trans ((below_alloc w5 (.cells #[.string R[j].key, .string R[j].val, .bool R[j].gone] 75)).mono hz6)) (HO5.out.alloc _) hg6 (Nat.le_refl _))
                have HO6 : Hid (w6.ownsRow W2.heap.size 75 3 v6 (N ++ [R[j]]).length ((N ++ [R[j]]).flatMap Change.cells)) := Lib.hid (by first | (rw [flat_append, List.length_append]; exact hown6) | (simp only [List.flatMap_append, List.length_append, List.append_assoc, List.flatMap_cons, List.flatMap_nil, List.append_nil, List.length_cons, List.length_nil]; exact hown6))
                clear hown6 hg6 hz6 y0 y1 y2
                go_wp2_with fail
                go_roundw
                case rel => exact ⟨j + 1, by omega, by rw [HK.out], by go_num, by rw [HK.out]; exact HO6.out, HW6.out⟩
                case measure => simp [intOf]; omega
              · have HK : Hid (refTo R c (j + 1) = (N, true)) := Lib.hid (by rw [refTo_succ R c j hltj, hN, putStepX]; simp [hn])
                clear hN
                obtain ⟨x0, x1, x2⟩ := XC.out _ HW4.out
                obtain ⟨y0, y1, y2⟩ := YC.out _ HW4.out
                replace x0 := regrown_cell x0
                replace y0 := regrown_cell y0
                clear x1 x2 y1 y2
                go_wp2_with fail
                refine wp_region_q (by kernel_rfl) (by kernel_rfl) ?_
                repeat (go_big_quiet_step (fail))
                refine wpQuiet_nil ?_
                intro w5 hb5
                have HW5 := Lib.hid (two HW4.out hb5)
                have HO5 := Lib.hid (HO4.out.kept (⟨hb5.os, hb5.tape, hb5.output, hb5.size, fun j hj _ => hb5.block j hj⟩ : World.grownBy _ _ none) (by cases h : Value.ownBlock _ <;> simp))
                clear hb5 x0 y0
                go_wp2_with fail
                go_roundw
                case rel => exact ⟨j + 1, by omega, by rw [HK.out], by go_num, by rw [HK.out]; exact HO5.out, HW5.out⟩
                case measure => simp [intOf]; omega
          · have hjl : j = R.length := by omega
            subst hjl
            cases d
            · have HE : Hid (refX R c = N ++ [c]) := Lib.hid (by unfold refX; rw [hN]; rfl)
              clear hN
              obtain ⟨x0, x1, x2⟩ := XC.out _ HW0.out
              have hz4 := HW0.out.size
              go_wp2_with (at_builtin; refine wpList_app I_changes rfl _ _ rfl W2.heap.size _ _ _ rfl (HO0.out.alloc _) ⟨wr.heap.size, 0, none⟩ 1 1 [.string c.key, .string c.val, .bool c.gone] rfl rfl ?c1 ?c2 ?c3 ?c4 ?_)
              case c1 => exact three_new
              case c2 => exact change_one c
              case c3 => first | omega | (simp only [List.length_append, List.length_cons, List.length_nil]; omega)
              case c4 => simp; omega
              intro v4 w4 hown4 hg4
              have HW4 := Lib.hid (grown_below (HW0.out.trans ((below_alloc wr (.cells #[.string c.key, .string c.val, .bool c.gone] 75)).mono hz4)) (HO0.out.alloc _) hg4 (Nat.le_refl _))
              have HO4 : Hid (w4.ownsRow W2.heap.size 75 3 v4 (N ++ [c]).length ((N ++ [c]).flatMap Change.cells)) := Lib.hid (by first | (rw [flat_append, List.length_append]; exact hown4) | (simp only [List.flatMap_append, List.length_append, List.append_assoc, List.flatMap_cons, List.flatMap_nil, List.append_nil, List.length_cons, List.length_nil]; exact hown4))
              clear hown4 hg4 hz4 x0 x1 x2
              go_wp2_with fail
              go_roundw
              case rel => exact ⟨k + 1, _, by omega, by go_num, (HNX.out.trans HE.out).symm, SL.of_own HO4.out, (own_far0 HO4.out).mono HBW.out.size, two HBW.out HW4.out⟩
              case measure => simp [intOf]; omega
            · have HE : Hid (refX R c = N) := Lib.hid (by unfold refX; rw [hN]; rfl)
              clear hN
              go_wp2_with fail
              go_roundw
              case rel => exact ⟨k + 1, _, by omega, by go_num, (HNX.out.trans HE.out).symm, SL.of_own HO0.out, (own_far0 HO0.out).mono HBW.out.size, two HBW.out HW0.out⟩
              case measure => simp [intOf]; omega
      · have hke : k = cs.length := by omega
        go_wp2_with fail
        go_ret
        exact ⟨_, rfl, by rw [← hke, ← HRK.out]; exact HF.out, HFR.out, HBW.out⟩
theorem ref_Applied (va vc : Value) (l cs : List Change) (w : World) (ha : Changes w va l) (hc : Changes w vc cs) (hr : RisesX l) (hl : l.length ≤ 100) (hcl : cs.length ≤ 100) :
    Calls Try.prog 24 #[va, vc] w fun e w' => ∃ v, e = .returned v ∧ Changes w' v (appsTo l cs cs.length) ∧ Below w.heap.size w w' :=
  (ref_AppliedO va vc l cs w ha hc hr hl hcl).mono fun e w' ⟨v, h1, h2, _, h3⟩ => ⟨v, h1, h2, h3⟩
end Go.Proofs.Ytggpodlecljcbac
namespace Go.Proofs.Ytggpodlecljcbac
set_option linter.unusedSimpArgs false
set_option linter.unusedVariables false
open Go.RowKit Go.Sort
theorem rises_adj {l : List Change} (h : ∀ j (hj : j + 1 < l.length), bLt (l[j]'(by omega)).key l[j + 1].key = true) : RisesX l := by
  have key : ∀ d i (hd : i + d + 1 < l.length), bLt (l[i]'(by omega)).key l[i + d + 1].key = true := by
    intro d
    induction d with
    | zero => intro i hd; exact h i hd
    | succ d ih =>
      intro i hd
      exact bLt_trans (ih i (by omega)) (h (i + d + 1) (by omega))
  refine List.pairwise_iff_getElem.mpr fun i j hi hj hij => ?_
  obtain ⟨d, rfl⟩ : ∃ d, j = i + d + 1 := ⟨j - i - 1, by omega⟩
  exact key d i hj
def changeKX : Change := ⟨⟨#[107]⟩, ⟨#[120]⟩, false⟩
theorem bytesKX : changeBytes changeKX = (⟨#[0, 1, 107, 120]⟩, 0) := by decide +kernel
end Go.Proofs.Ytggpodlecljcbac
