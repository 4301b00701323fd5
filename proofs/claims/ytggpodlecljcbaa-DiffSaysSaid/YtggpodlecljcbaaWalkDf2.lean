/- The walk of the document's DiffOf. -/
import Derived.Test.YtggpodlecljcbaaWalkDf
namespace Go.Proofs.Ytggpodlecljcbaa
open Go.RowKit Go.Sort
set_option linter.unusedSimpArgs false
set_option linter.unusedVariables false
theorem merge_left {a b : List File} {i k : Nat} (hi : i < a.length) (hk : k < b.length) (h : bLt a[i].name b[k].name = true) : mergeD (a.drop i) (b.drop k) = a[i].name :: mergeD (a.drop (i + 1)) (b.drop k) := by
  rw [List.drop_eq_getElem_cons hi, List.drop_eq_getElem_cons hk, mergeD, if_pos h]
theorem merge_right {a b : List File} {i k : Nat} (hi : i < a.length) (hk : k < b.length) (h1 : bLt a[i].name b[k].name = false) (h : bLt b[k].name a[i].name = true) : mergeD (a.drop i) (b.drop k) = b[k].name :: mergeD (a.drop i) (b.drop (k + 1)) := by
  rw [List.drop_eq_getElem_cons hi, List.drop_eq_getElem_cons hk, mergeD, if_neg (by simp [h1]), if_pos h]
theorem merge_both {a b : List File} {i k : Nat} (hi : i < a.length) (hk : k < b.length) (h1 : bLt a[i].name b[k].name = false) (h : bLt b[k].name a[i].name = false) : mergeD (a.drop i) (b.drop k) = (if a[i] = b[k] then [] else [a[i].name]) ++ mergeD (a.drop (i + 1)) (b.drop (k + 1)) := by
  rw [List.drop_eq_getElem_cons hi, List.drop_eq_getElem_cons hk, mergeD, if_neg (by simp [h1]), if_neg (by simp [h])]
theorem merge_nil (a : List File) : mergeD a [] = a.map File.name := by cases a <;> rw [mergeD] <;> rfl
theorem merge_lend {a b : List File} {i k : Nat} (hi : i < a.length) (hk : ¬ k < b.length) : mergeD (a.drop i) (b.drop k) = a[i].name :: mergeD (a.drop (i + 1)) (b.drop k) := by
  rw [List.drop_of_length_le (l := b) (by omega), merge_nil, merge_nil, List.drop_eq_getElem_cons hi]; rfl
theorem merge_rend {a b : List File} {i k : Nat} (hi : ¬ i < a.length) (hk : k < b.length) : mergeD (a.drop i) (b.drop k) = b[k].name :: mergeD (a.drop i) (b.drop (k + 1)) := by
  rw [List.drop_of_length_le (l := a) (by omega), List.drop_eq_getElem_cons hk, mergeD, mergeD]; rfl
theorem merge_end {a b : List File} {i k : Nat} (hi : ¬ i < a.length) (hk : ¬ k < b.length) : mergeD (a.drop i) (b.drop k) = [] := by
  rw [List.drop_of_length_le (l := a) (by omega), List.drop_of_length_le (l := b) (by omega), mergeD]; rfl
set_option maxRecDepth 100000 in
set_option maxHeartbeats 8000000 in
theorem ref_DiffOf (va vb : Value) (a b : List File) (ta tb : Int) (w : World) (ha : Files w va a) (hb : Files w vb b) (hla : a.length ≤ 8) (hlb : b.length ≤ 8) :
    Calls Try.prog 93 #[.agg #[va, .int .i64 ta], .agg #[vb, .int .i64 tb]] w fun e w' => ∃ v, e = .returned v ∧ Texts w' v (mergeD a b) ∧ Below w.heap.size w w' := by
  obtain ⟨ao, ca, rfl, hca, hca'⟩ := ha.parts
  obtain ⟨bo, cb, rfl, hcb, hcb'⟩ := hb.parts
  obtain ⟨W1, hW1⟩ : ∃ W1, W1 = w.alloc (.cells #[.slice ao a.length ca, .int .i64 ta] 34) := ⟨_, rfl⟩
  have B1 : Below w.heap.size w W1 := by rw [hW1]; exact below_alloc _ _
  have Q1 : QAt W1 w.heap.size (.slice ao a.length ca) ta := by rw [hW1]; exact QAt.new w _ _ (fun s h => by cases h)
  have hz1 : W1.heap.size = w.heap.size + 1 := by rw [hW1]; simp
  obtain ⟨W2, hW2⟩ : ∃ W2, W2 = W1.alloc (.cells #[.slice bo b.length cb, .int .i64 tb] 34) := ⟨_, rfl⟩
  have B2 : Below W1.heap.size W1 W2 := by rw [hW2]; exact below_alloc _ _
  have Q2 : QAt W2 (w.heap.size + 1) (.slice bo b.length cb) tb := by rw [hW2, ← hz1]; exact QAt.new W1 _ _ (fun s h => by cases h)
  have HQ1 := Lib.hid (Q1.below B2)
  have HQ2 := Lib.hid Q2
  have HQ : Hid (∀ W, Below W2.heap.size W2 W → W.cell? ⟨w.heap.size, 0, none⟩ = some (.slice ao a.length ca) ∧ W.cell? ⟨w.heap.size + 1, 0, none⟩ = some (.slice bo b.length cb)) := Lib.hid fun W hb => ⟨(HQ1.out.below hb).c0, (HQ2.out.below hb).c0⟩
  have HB := Lib.hid (two B1 B2)
  have HW1 := Lib.hid hW1
  have HW2 := Lib.hid hW2
  have HA := Lib.hid (ha.below HB.out)
  have HBF := Lib.hid (hb.below HB.out)
  have HLA := Lib.hid hla
  have HLB := Lib.hid hlb
  clear hW1 hW2 B1 B2 Q1 Q2 hz1 ha hb HQ1 HQ2 hla hlb
  go_enter Try.func93, Try.ntmps93
  go_wp2_with fail
  rw [← HW1.out, ← HW2.out]
  go_loopw [5, 6, 7] (fun v iv kv wr => ∃ (i k : Nat) (R : List ByteArray), i ≤ a.length ∧ k ≤ b.length ∧ iv = .int .i64 i ∧ kv = .int .i64 k ∧ R ++ mergeD (a.drop i) (b.drop k) = mergeD a b ∧ R.length ≤ i + k ∧ wr.ownsRow W2.heap.size 9 1 v R.length (strs' R) ∧ Below W2.heap.size W2 wr) (fun _ iv kv _ => (a.length - (intOf iv).toNat) + (b.length - (intOf kv).toNat))
  case atStart => exact ⟨0, 0, [], Nat.zero_le _, Nat.zero_le _, rfl, rfl, rfl, Nat.zero_le _, World.ownsRow_nil _ _ _ _, Below.refl _ _⟩
  case round =>
    obtain ⟨i, k, R, hi, hk, rfl, rfl, hm, hrl, hown, hbw⟩ := hrel
    have HO := Lib.hid hown
    have HBW := Lib.hid hbw
    have HM := Lib.hid hm
    have HR : Hid (R.length ≤ 16) := Lib.hid (by have := HLA.out; have := HLB.out; omega)
    have HRL := Lib.hid hrl
    clear hown hbw hm hrl
    by_cases hla : i < a.length
    · obtain ⟨oab, oao, rfl, hlba, x0, x1, x2⟩ := Files.cell HA.out i hla
      have XA : Hid (∀ W, Below W2.heap.size W2 W → W.cell? ⟨oab, oao + i * 3, none⟩ = some (.string a[i].name) ∧ W.cell? ⟨oab, oao + i * 3 + 1, none⟩ = some (.string a[i].text) ∧ W.cell? ⟨oab, oao + i * 3 + 2, none⟩ = some (.int .i64 a[i].times)) := Lib.hid fun W hb => by
        obtain ⟨kc, _⟩ := bcell hb
        exact ⟨(kc _ _ hlba).trans x0, (kc _ _ hlba).trans x1, (kc _ _ hlba).trans x2⟩
      clear x0 x1 x2 hlba
      by_cases hlb : k < b.length
      · obtain ⟨obb, obo, rfl, hlbb, x0, x1, x2⟩ := Files.cell HBF.out k hlb
        have XB : Hid (∀ W, Below W2.heap.size W2 W → W.cell? ⟨obb, obo + k * 3, none⟩ = some (.string b[k].name) ∧ W.cell? ⟨obb, obo + k * 3 + 1, none⟩ = some (.string b[k].text) ∧ W.cell? ⟨obb, obo + k * 3 + 2, none⟩ = some (.int .i64 b[k].times)) := Lib.hid fun W hb => by
          obtain ⟨kc, _⟩ := bcell hb
          exact ⟨(kc _ _ hlbb).trans x0, (kc _ _ hlbb).trans x1, (kc _ _ hlbb).trans x2⟩
        clear x0 x1 x2 hlbb
        have hne1 : ((k : Int) == (b.length : Int)) = false := by rw [beq_eq_false_iff_ne]; omega
        have hne2 : ((i : Int) == (a.length : Int)) = false := by rw [beq_eq_false_iff_ne]; omega
        cases h1 : Op.bytesLess a[i].name.toList b[k].name.toList
        · cases h2 : Op.bytesLess b[k].name.toList a[i].name.toList
          · have HE := Lib.hid (HM.out.symm.trans (congrArg (R ++ ·) (merge_both hla hlb h1 h2)))
            by_cases hfg : a[i] = b[k]
            · have hsame : fileSame a[i].name a[i].text a[i].times b[k].name b[k].text b[k].times = true := by rw [fileSame_is, decide_eq_true_eq]; exact hfg
              have HE2 : Hid (R ++ mergeD (a.drop (i + 1)) (b.drop (k + 1)) = mergeD a b) := Lib.hid (by have h := HE.out; rw [if_pos hfg] at h; exact h.symm)
              clear hfg HE
              obtain ⟨q0, q2⟩ := HQ.out _ HBW.out
              obtain ⟨x0, x1, x2⟩ := XA.out _ HBW.out
              obtain ⟨y0, y1, y2⟩ := XB.out _ HBW.out
              have r0 := regrown_cell q0
              have r2 := regrown_cell q2
              have a0 := regrown_cell x0
              have b0 := regrown_cell y0
              go_wp2_with fail
              refine wp_region_q (by kernel_rfl) (by kernel_rfl) ?_
              repeat (go_big_quiet_step (fail))
              refine wpQuiet_nil ?_
              intro w4 hqw4
              have HBw4 := Lib.hid (two HBW.out hqw4)
              have HOw4 := Lib.hid (HO.out.kept (⟨hqw4.os, hqw4.tape, hqw4.output, hqw4.size, fun j hj _ => hqw4.block j hj⟩ : World.grownBy _ _ none) (by cases h : Value.ownBlock _ <;> simp))
              clear hqw4 q0 q2 r0 r2 a0 b0 x0 x1 x2 y0 y1 y2
              obtain ⟨q0, q2⟩ := HQ.out _ HBw4.out
              obtain ⟨x0, x1, x2⟩ := XA.out _ HBw4.out
              obtain ⟨y0, y1, y2⟩ := XB.out _ HBw4.out
              have r0 := regrown_cell q0
              have r2 := regrown_cell q2
              have a0 := regrown_cell x0
              have b0 := regrown_cell y0
              go_wp2_with fail
              refine wp_region_q (by kernel_rfl) (by kernel_rfl) ?_
              repeat (go_big_quiet_step (fail))
              refine wpQuiet_nil ?_
              intro w5 hqw5
              have HBw5 := Lib.hid (two HBw4.out hqw5)
              have HOw5 := Lib.hid (HOw4.out.kept (⟨hqw5.os, hqw5.tape, hqw5.output, hqw5.size, fun j hj _ => hqw5.block j hj⟩ : World.grownBy _ _ none) (by cases h : Value.ownBlock _ <;> simp))
              clear hqw5 q0 q2 r0 r2 a0 b0 x0 x1 x2 y0 y1 y2
              obtain ⟨q0, q2⟩ := HQ.out _ HBw5.out
              obtain ⟨x0, x1, x2⟩ := XA.out _ HBw5.out
              obtain ⟨y0, y1, y2⟩ := XB.out _ HBw5.out
              have r0 := regrown_cell q0
              have r2 := regrown_cell q2
              have a0 := regrown_cell x0
              have b0 := regrown_cell y0
              have a1 := regrown_cell x1
              have a2 := regrown_cell x2
              have b1 := regrown_cell y1
              have b2 := regrown_cell y2
              go_wp2_with fail
              refine wp_region_q (by kernel_rfl) (by kernel_rfl) ?_
              repeat (go_big_quiet_step (fail))
              refine wpQuiet_nil ?_
              intro w6 hqw6
              have HBw6 := Lib.hid (two HBw5.out hqw6)
              have HOw6 := Lib.hid (HOw5.out.kept (⟨hqw6.os, hqw6.tape, hqw6.output, hqw6.size, fun j hj _ => hqw6.block j hj⟩ : World.grownBy _ _ none) (by cases h : Value.ownBlock _ <;> simp))
              clear hqw6 q0 q2 r0 r2 a0 b0 a1 a2 b1 b2 x0 x1 x2 y0 y1 y2
              go_wp2_with fail
              go_roundw
              case rel => exact ⟨i + 1, k + 1, R, by omega, by omega, by go_num, by go_num, HE2.out, by have := HRL.out; omega, HOw6.out, HBw6.out⟩
              case measure => simp [intOf]; omega
            · have hsame : fileSame a[i].name a[i].text a[i].times b[k].name b[k].text b[k].times = false := by rw [fileSame_is, decide_eq_false_iff_not]; exact hfg
              have HE2 : Hid ((R ++ [a[i].name]) ++ mergeD (a.drop (i + 1)) (b.drop (k + 1)) = mergeD a b) := Lib.hid (by have h := HE.out; rw [if_neg hfg] at h; rw [List.append_assoc]; exact h.symm)
              clear hfg HE
              obtain ⟨q0, q2⟩ := HQ.out _ HBW.out
              obtain ⟨x0, x1, x2⟩ := XA.out _ HBW.out
              obtain ⟨y0, y1, y2⟩ := XB.out _ HBW.out
              have r0 := regrown_cell q0
              have r2 := regrown_cell q2
              have a0 := regrown_cell x0
              have b0 := regrown_cell y0
              go_wp2_with fail
              refine wp_region_q (by kernel_rfl) (by kernel_rfl) ?_
              repeat (go_big_quiet_step (fail))
              refine wpQuiet_nil ?_
              intro w4 hqw4
              have HBw4 := Lib.hid (two HBW.out hqw4)
              have HOw4 := Lib.hid (HO.out.kept (⟨hqw4.os, hqw4.tape, hqw4.output, hqw4.size, fun j hj _ => hqw4.block j hj⟩ : World.grownBy _ _ none) (by cases h : Value.ownBlock _ <;> simp))
              clear hqw4 q0 q2 r0 r2 a0 b0 x0 x1 x2 y0 y1 y2
              obtain ⟨q0, q2⟩ := HQ.out _ HBw4.out
              obtain ⟨x0, x1, x2⟩ := XA.out _ HBw4.out
              obtain ⟨y0, y1, y2⟩ := XB.out _ HBw4.out
              have r0 := regrown_cell q0
              have r2 := regrown_cell q2
              have a0 := regrown_cell x0
              have b0 := regrown_cell y0
              go_wp2_with fail
              refine wp_region_q (by kernel_rfl) (by kernel_rfl) ?_
              repeat (go_big_quiet_step (fail))
              refine wpQuiet_nil ?_
              intro w5 hqw5
              have HBw5 := Lib.hid (two HBw4.out hqw5)
              have HOw5 := Lib.hid (HOw4.out.kept (⟨hqw5.os, hqw5.tape, hqw5.output, hqw5.size, fun j hj _ => hqw5.block j hj⟩ : World.grownBy _ _ none) (by cases h : Value.ownBlock _ <;> simp))
              clear hqw5 q0 q2 r0 r2 a0 b0 x0 x1 x2 y0 y1 y2
              obtain ⟨q0, q2⟩ := HQ.out _ HBw5.out
              obtain ⟨x0, x1, x2⟩ := XA.out _ HBw5.out
              obtain ⟨y0, y1, y2⟩ := XB.out _ HBw5.out
              have r0 := regrown_cell q0
              have r2 := regrown_cell q2
              have a0 := regrown_cell x0
              have b0 := regrown_cell y0
              have a1 := regrown_cell x1
              have a2 := regrown_cell x2
              have b1 := regrown_cell y1
              have b2 := regrown_cell y2
              go_wp2_with fail
              refine wp_region_q (by kernel_rfl) (by kernel_rfl) ?_
              repeat (go_big_quiet_step (fail))
              refine wpQuiet_nil ?_
              intro w6 hqw6
              have HBw6 := Lib.hid (two HBw5.out hqw6)
              have HOw6 := Lib.hid (HOw5.out.kept (⟨hqw6.os, hqw6.tape, hqw6.output, hqw6.size, fun j hj _ => hqw6.block j hj⟩ : World.grownBy _ _ none) (by cases h : Value.ownBlock _ <;> simp))
              clear hqw6 q0 q2 r0 r2 a0 b0 a1 a2 b1 b2 x0 x1 x2 y0 y1 y2
              obtain ⟨q0, q2⟩ := HQ.out _ HBw6.out
              obtain ⟨x0, x1, x2⟩ := XA.out _ HBw6.out
              go_wp2_with (at_builtin; refine wpList_app I_textsD rfl _ _ rfl W2.heap.size _ _ _ rfl (HOw6.out.alloc _) ⟨w6.heap.size, 0, none⟩ 1 1 [.string a[i].name] rfl rfl ?c1 ?c2 ?c3 ?c4 ?_)
              case c1 => exact one_new
              case c2 => exact one_text _
              case c3 => have := HR.out; omega
              case c4 => have := HBw6.out.size; simp; omega
              intro v7 w7 hown7 hg7
              have HW7 := Lib.hid (grown_below (HBw6.out.trans ((below_alloc w6 (.cells #[.string a[i].name] 9)).mono HBw6.out.size)) (HOw6.out.alloc _) hg7 (Nat.le_refl _))
              have HO7 : Hid (w7.ownsRow W2.heap.size 9 1 v7 (R ++ [a[i].name]).length (strs' (R ++ [a[i].name]))) := Lib.hid (by rw [← strs_snoc, List.length_append]; exact hown7)
              clear hown7 hg7 q0 q2 x0 x1 x2
              go_wp2_with fail
              go_roundw
              case rel => exact ⟨i + 1, k + 1, _, by omega, by omega, by go_num, by go_num, HE2.out, by have := HRL.out; rw [List.length_append]; simp; omega, HO7.out, HW7.out⟩
              case measure => simp [intOf]; omega
          · have HE2 : Hid ((R ++ [b[k].name]) ++ mergeD (a.drop i) (b.drop (k + 1)) = mergeD a b) := Lib.hid (by rw [List.append_assoc]; exact (HM.out.symm.trans (congrArg (R ++ ·) (merge_right hla hlb h1 h2))).symm)
            obtain ⟨q0, q2⟩ := HQ.out _ HBW.out
            obtain ⟨x0, x1, x2⟩ := XA.out _ HBW.out
            obtain ⟨y0, y1, y2⟩ := XB.out _ HBW.out
            have r0 := regrown_cell q0
            have r2 := regrown_cell q2
            have a0 := regrown_cell x0
            have b0 := regrown_cell y0
            go_wp2_with fail
            refine wp_region_q (by kernel_rfl) (by kernel_rfl) ?_
            repeat (go_big_quiet_step (fail))
            refine wpQuiet_nil ?_
            intro w4 hqw4
            have HBw4 := Lib.hid (two HBW.out hqw4)
            have HOw4 := Lib.hid (HO.out.kept (⟨hqw4.os, hqw4.tape, hqw4.output, hqw4.size, fun j hj _ => hqw4.block j hj⟩ : World.grownBy _ _ none) (by cases h : Value.ownBlock _ <;> simp))
            clear hqw4 q0 q2 r0 r2 a0 b0 x0 x1 x2 y0 y1 y2
            obtain ⟨q0, q2⟩ := HQ.out _ HBw4.out
            obtain ⟨x0, x1, x2⟩ := XA.out _ HBw4.out
            obtain ⟨y0, y1, y2⟩ := XB.out _ HBw4.out
            have r0 := regrown_cell q0
            have r2 := regrown_cell q2
            have a0 := regrown_cell x0
            have b0 := regrown_cell y0
            go_wp2_with fail
            refine wp_region_q (by kernel_rfl) (by kernel_rfl) ?_
            repeat (go_big_quiet_step (fail))
            refine wpQuiet_nil ?_
            intro w5 hqw5
            have HBw5 := Lib.hid (two HBw4.out hqw5)
            have HOw5 := Lib.hid (HOw4.out.kept (⟨hqw5.os, hqw5.tape, hqw5.output, hqw5.size, fun j hj _ => hqw5.block j hj⟩ : World.grownBy _ _ none) (by cases h : Value.ownBlock _ <;> simp))
            clear hqw5 q0 q2 r0 r2 a0 b0 x0 x1 x2 y0 y1 y2
            obtain ⟨q0, q2⟩ := HQ.out _ HBw5.out
            obtain ⟨x0, x1, x2⟩ := XB.out _ HBw5.out
            go_wp2_with (at_builtin; refine wpList_app I_textsD rfl _ _ rfl W2.heap.size _ _ _ rfl (HOw5.out.alloc _) ⟨w5.heap.size, 0, none⟩ 1 1 [.string b[k].name] rfl rfl ?c1 ?c2 ?c3 ?c4 ?_)
            case c1 => exact one_new
            case c2 => exact one_text _
            case c3 => have := HR.out; omega
            case c4 => have := HBw5.out.size; simp; omega
            intro v7 w7 hown7 hg7
            have HW7 := Lib.hid (grown_below (HBw5.out.trans ((below_alloc w5 (.cells #[.string b[k].name] 9)).mono HBw5.out.size)) (HOw5.out.alloc _) hg7 (Nat.le_refl _))
            have HO7 : Hid (w7.ownsRow W2.heap.size 9 1 v7 (R ++ [b[k].name]).length (strs' (R ++ [b[k].name]))) := Lib.hid (by rw [← strs_snoc, List.length_append]; exact hown7)
            clear hown7 hg7 q0 q2 x0 x1 x2
            go_wp2_with fail
            go_roundw
            case rel => exact ⟨i, k + 1, _, by omega, by omega, by go_num, by go_num, HE2.out, by have := HRL.out; rw [List.length_append]; simp; omega, HO7.out, HW7.out⟩
            case measure => simp [intOf]; omega
        · have HE2 : Hid ((R ++ [a[i].name]) ++ mergeD (a.drop (i + 1)) (b.drop k) = mergeD a b) := Lib.hid (by rw [List.append_assoc]; exact (HM.out.symm.trans (congrArg (R ++ ·) (merge_left hla hlb h1))).symm)
          obtain ⟨q0, q2⟩ := HQ.out _ HBW.out
          obtain ⟨x0, x1, x2⟩ := XA.out _ HBW.out
          obtain ⟨y0, y1, y2⟩ := XB.out _ HBW.out
          have r0 := regrown_cell q0
          have r2 := regrown_cell q2
          have a0 := regrown_cell x0
          have b0 := regrown_cell y0
          go_wp2_with fail
          refine wp_region_q (by kernel_rfl) (by kernel_rfl) ?_
          repeat (go_big_quiet_step (fail))
          refine wpQuiet_nil ?_
          intro w4 hqw4
          have HBw4 := Lib.hid (two HBW.out hqw4)
          have HOw4 := Lib.hid (HO.out.kept (⟨hqw4.os, hqw4.tape, hqw4.output, hqw4.size, fun j hj _ => hqw4.block j hj⟩ : World.grownBy _ _ none) (by cases h : Value.ownBlock _ <;> simp))
          clear hqw4 q0 q2 r0 r2 a0 b0 x0 x1 x2 y0 y1 y2
          obtain ⟨q0, q2⟩ := HQ.out _ HBw4.out
          obtain ⟨x0, x1, x2⟩ := XA.out _ HBw4.out
          go_wp2_with (at_builtin; refine wpList_app I_textsD rfl _ _ rfl W2.heap.size _ _ _ rfl (HOw4.out.alloc _) ⟨w4.heap.size, 0, none⟩ 1 1 [.string a[i].name] rfl rfl ?c1 ?c2 ?c3 ?c4 ?_)
          case c1 => exact one_new
          case c2 => exact one_text _
          case c3 => have := HR.out; omega
          case c4 => have := HBw4.out.size; simp; omega
          intro v7 w7 hown7 hg7
          have HW7 := Lib.hid (grown_below (HBw4.out.trans ((below_alloc w4 (.cells #[.string a[i].name] 9)).mono HBw4.out.size)) (HOw4.out.alloc _) hg7 (Nat.le_refl _))
          have HO7 : Hid (w7.ownsRow W2.heap.size 9 1 v7 (R ++ [a[i].name]).length (strs' (R ++ [a[i].name]))) := Lib.hid (by rw [← strs_snoc, List.length_append]; exact hown7)
          clear hown7 hg7 q0 q2 x0 x1 x2
          go_wp2_with fail
          go_roundw
          case rel => exact ⟨i + 1, k, _, by omega, by omega, by go_num, by go_num, HE2.out, by have := HRL.out; rw [List.length_append]; simp; omega, HO7.out, HW7.out⟩
          case measure => simp [intOf]; omega
      · have hkb : k = b.length := by omega
        have HE2 : Hid ((R ++ [a[i].name]) ++ mergeD (a.drop (i + 1)) (b.drop k) = mergeD a b) := Lib.hid (by rw [List.append_assoc]; exact (HM.out.symm.trans (congrArg (R ++ ·) (merge_lend hla hlb))).symm)
        subst hkb
        have hne1 : ((b.length : Int) == (b.length : Int)) = true := by simp
        obtain ⟨q0, q2⟩ := HQ.out _ HBW.out
        obtain ⟨x0, x1, x2⟩ := XA.out _ HBW.out
        have r0 := regrown_cell q0
        have r2 := regrown_cell q2
        have a0 := regrown_cell x0
        go_wp2_with fail
        refine wp_region_q (by kernel_rfl) (by kernel_rfl) ?_
        repeat (go_big_quiet_step (fail))
        refine wpQuiet_nil ?_
        intro w4 hqw4
        have HBw4 := Lib.hid (two HBW.out hqw4)
        have HOw4 := Lib.hid (HO.out.kept (⟨hqw4.os, hqw4.tape, hqw4.output, hqw4.size, fun j hj _ => hqw4.block j hj⟩ : World.grownBy _ _ none) (by cases h : Value.ownBlock _ <;> simp))
        clear hqw4 q0 q2 r0 r2 a0 x0 x1 x2 
        obtain ⟨q0, q2⟩ := HQ.out _ HBw4.out
        obtain ⟨x0, x1, x2⟩ := XA.out _ HBw4.out
        go_wp2_with (at_builtin; refine wpList_app I_textsD rfl _ _ rfl W2.heap.size _ _ _ rfl (HOw4.out.alloc _) ⟨w4.heap.size, 0, none⟩ 1 1 [.string a[i].name] rfl rfl ?c1 ?c2 ?c3 ?c4 ?_)
        case c1 => exact one_new
        case c2 => exact one_text _
        case c3 => have := HR.out; omega
        case c4 => have := HBw4.out.size; simp; omega
        intro v7 w7 hown7 hg7
        have HW7 := Lib.hid (grown_below (HBw4.out.trans ((below_alloc w4 (.cells #[.string a[i].name] 9)).mono HBw4.out.size)) (HOw4.out.alloc _) hg7 (Nat.le_refl _))
        have HO7 : Hid (w7.ownsRow W2.heap.size 9 1 v7 (R ++ [a[i].name]).length (strs' (R ++ [a[i].name]))) := Lib.hid (by rw [← strs_snoc, List.length_append]; exact hown7)
        clear hown7 hg7 q0 q2 x0 x1 x2
        go_wp2_with fail
        go_roundw
        case rel => exact ⟨i + 1, _, _, by omega, Nat.le_refl _, by go_num, rfl, HE2.out, by have := HRL.out; rw [List.length_append]; simp; omega, HO7.out, HW7.out⟩
        case measure => simp [intOf]; omega
    · have hia : i = a.length := by omega
      by_cases hlb : k < b.length
      · obtain ⟨obb, obo, rfl, hlbb, x0, x1, x2⟩ := Files.cell HBF.out k hlb
        have XB : Hid (∀ W, Below W2.heap.size W2 W → W.cell? ⟨obb, obo + k * 3, none⟩ = some (.string b[k].name) ∧ W.cell? ⟨obb, obo + k * 3 + 1, none⟩ = some (.string b[k].text) ∧ W.cell? ⟨obb, obo + k * 3 + 2, none⟩ = some (.int .i64 b[k].times)) := Lib.hid fun W hb => by
          obtain ⟨kc, _⟩ := bcell hb
          exact ⟨(kc _ _ hlbb).trans x0, (kc _ _ hlbb).trans x1, (kc _ _ hlbb).trans x2⟩
        clear x0 x1 x2 hlbb
        have HE2 : Hid ((R ++ [b[k].name]) ++ mergeD (a.drop i) (b.drop (k + 1)) = mergeD a b) := Lib.hid (by rw [List.append_assoc]; exact (HM.out.symm.trans (congrArg (R ++ ·) (merge_rend hla hlb))).symm)
        have hne1 : ((k : Int) == (b.length : Int)) = false := by rw [beq_eq_false_iff_ne]; omega
        have hne2 : ((a.length : Int) == (a.length : Int)) = true := by simp
        subst hia
        obtain ⟨q0, q2⟩ := HQ.out _ HBW.out
        obtain ⟨y0, y1, y2⟩ := XB.out _ HBW.out
        have r0 := regrown_cell q0
        have r2 := regrown_cell q2
        have b0 := regrown_cell y0
        go_wp2_with fail
        refine wp_region_q (by kernel_rfl) (by kernel_rfl) ?_
        repeat (go_big_quiet_step (fail))
        refine wpQuiet_nil ?_
        intro w4 hqw4
        have HBw4 := Lib.hid (two HBW.out hqw4)
        have HOw4 := Lib.hid (HO.out.kept (⟨hqw4.os, hqw4.tape, hqw4.output, hqw4.size, fun j hj _ => hqw4.block j hj⟩ : World.grownBy _ _ none) (by cases h : Value.ownBlock _ <;> simp))
        clear hqw4 q0 q2 r0 r2 b0  y0 y1 y2
        obtain ⟨q0, q2⟩ := HQ.out _ HBw4.out
        obtain ⟨y0, y1, y2⟩ := XB.out _ HBw4.out
        have r0 := regrown_cell q0
        have r2 := regrown_cell q2
        have b0 := regrown_cell y0
        go_wp2_with fail
        refine wp_region_q (by kernel_rfl) (by kernel_rfl) ?_
        repeat (go_big_quiet_step (fail))
        refine wpQuiet_nil ?_
        intro w5 hqw5
        have HBw5 := Lib.hid (two HBw4.out hqw5)
        have HOw5 := Lib.hid (HOw4.out.kept (⟨hqw5.os, hqw5.tape, hqw5.output, hqw5.size, fun j hj _ => hqw5.block j hj⟩ : World.grownBy _ _ none) (by cases h : Value.ownBlock _ <;> simp))
        clear hqw5 q0 q2 r0 r2 b0  y0 y1 y2
        obtain ⟨q0, q2⟩ := HQ.out _ HBw5.out
        obtain ⟨x0, x1, x2⟩ := XB.out _ HBw5.out
        go_wp2_with (at_builtin; refine wpList_app I_textsD rfl _ _ rfl W2.heap.size _ _ _ rfl (HOw5.out.alloc _) ⟨w5.heap.size, 0, none⟩ 1 1 [.string b[k].name] rfl rfl ?c1 ?c2 ?c3 ?c4 ?_)
        case c1 => exact one_new
        case c2 => exact one_text _
        case c3 => have := HR.out; omega
        case c4 => have := HBw5.out.size; simp; omega
        intro v7 w7 hown7 hg7
        have HW7 := Lib.hid (grown_below (HBw5.out.trans ((below_alloc w5 (.cells #[.string b[k].name] 9)).mono HBw5.out.size)) (HOw5.out.alloc _) hg7 (Nat.le_refl _))
        have HO7 : Hid (w7.ownsRow W2.heap.size 9 1 v7 (R ++ [b[k].name]).length (strs' (R ++ [b[k].name]))) := Lib.hid (by rw [← strs_snoc, List.length_append]; exact hown7)
        clear hown7 hg7 q0 q2 x0 x1 x2
        go_wp2_with fail
        go_roundw
        case rel => exact ⟨_, k + 1, _, Nat.le_refl _, by omega, rfl, by go_num, HE2.out, by have := HRL.out; rw [List.length_append]; simp; omega, HO7.out, HW7.out⟩
        case measure => simp [intOf]; omega
      · have hkb : k = b.length := by omega
        have HE2 : Hid (R = mergeD a b) := Lib.hid (by have h := HM.out; rw [merge_end hla hlb, List.append_nil] at h; exact h)
        obtain ⟨q0, q2⟩ := HQ.out _ HBW.out
        subst hia
        subst hkb
        go_wp2_with fail
        go_ret
        exact ⟨_, rfl, HE2.out ▸ SL_texts HO.out, two HB.out HBW.out⟩
end Go.Proofs.Ytggpodlecljcbaa
