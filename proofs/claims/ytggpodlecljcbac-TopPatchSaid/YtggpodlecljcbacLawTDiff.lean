/- The walk of the statement TopDiff. -/
import Derived.Test.YtggpodlecljcbacWalkDf
import Derived.Test.YtggpodlecljcbacSpecDt
import Derived.Deep.RegionHeld3
namespace Go.Proofs.Ytggpodlecljcbac
open Go.RowKit Go.Sort
set_option linter.unusedSimpArgs false
set_option linter.unusedVariables false
set_option maxHeartbeats 1000000 in
theorem top_fineQuilt (vq : Value) (q : Quilt) (w : World) (hq : Quilts w vq q) (hok : ∀ f ∈ q.files, f.ok) :
    Calls Try.prog 14 #[vq] w fun e w' => e = .returned (.bool (fineQ q)) ∧ Below w.heap.size w w' := by
  have CL := Lib.hid fun W hw => law_LightQuilt vq q W (hq.below hw) hok
  have CC := Lib.hid fun W hw => quilt_Check vq q W (hq.below hw) hok
  obtain ⟨v, rfl, hf⟩ := hq
  obtain ⟨ao, ca, rfl, hca, hca'⟩ := hf.parts
  obtain ⟨W1, hW1⟩ : ∃ W1, W1 = w.alloc (.cells #[.slice ao q.files.length ca, .int .i64 q.turn] 27) := ⟨_, rfl⟩
  have B1 : Below w.heap.size w W1 := by rw [hW1]; exact below_alloc _ _
  have Q1 : QAt W1 w.heap.size (.slice ao q.files.length ca) q.turn := by rw [hW1]; exact QAt.new w _ _ (fun s h => by cases h)
  have HB1 := Lib.hid B1
  have HQ1 := Lib.hid Q1
  have HW1 := Lib.hid hW1
  clear hW1 B1 Q1 hf
  have q0 := HQ1.out.c0
  have q1 := HQ1.out.c1
  rw [HW1.out] at q0 q1
  go_enter Try.func14, Try.ntmps14
  go_wp2_with fail
  rw [← HW1.out]
  clear q0 q1
  refine (CL.out _ HB1.out).mono ?_
  rintro e w2 ⟨rfl, hb2⟩
  have HB2 := Lib.hid hb2
  have q0 := (HQ1.out.below hb2).c0
  have q1 := (HQ1.out.below hb2).c1
  clear hb2
  cases hl : lightFiles q.files
  · go_wp2_with fail
    go_ret
    exact ⟨ret_bool (by simp [fineQ, hl]), two HB1.out HB2.out⟩
  · have HL := Lib.hid hl
    clear hl
    go_wp2_with fail
    refine (CC.out _ (two HB1.out HB2.out)).mono ?_
    rintro e w3 ⟨rfl, hb3⟩
    have HB3 := Lib.hid hb3
    clear hb3 q0 q1
    by_cases h0 : quiltFault q = 0
    · have he : errV (quiltFault q) = .nilIface := by rw [h0]; rfl
      have HZ := Lib.hid h0
      clear h0
      go_wp2_with fail
      go_ret
      exact ⟨ret_bool (by simp [fineQ, HL.out, HZ.out]), two HB1.out (two HB2.out HB3.out)⟩
    · have he : errV (quiltFault q) = .iface 70 (.int .i64 (quiltFault q)) := errV_pos h0
      have HZ := Lib.hid h0
      clear h0
      go_wp2_with fail
      go_ret
      exact ⟨ret_bool (by simp [fineQ, HZ.out]), two HB1.out (two HB2.out HB3.out)⟩
set_option maxRecDepth 100000 in
set_option maxHeartbeats 8000000 in
theorem law_TopDiff (va : Value) (a : Quilt) (vb : Value) (b : Quilt) (w : World) (ha : Quilts w va a) (hb : Quilts w vb b) (hoa : ∀ f ∈ a.files, f.ok) (hob : ∀ f ∈ b.files, f.ok) :
    Calls Try.prog 4 #[va, vb] w fun e w' => e = .returned (.bool true) ∧ Below w.heap.size w w' := by
  have CFA := Lib.hid fun W hw => top_fineQuilt va a W (ha.below hw) hoa
  have CFB := Lib.hid fun W hw => top_fineQuilt vb b W (hb.below hw) hob
  obtain ⟨va, rfl, ha⟩ := ha
  obtain ⟨vb, rfl, hb⟩ := hb
  obtain ⟨ao, ca, rfl, hca, hca'⟩ := ha.parts
  obtain ⟨bo, cb, rfl, hcb, hcb'⟩ := hb.parts
  obtain ⟨W1, hW1⟩ : ∃ W1, W1 = w.alloc (.cells #[.slice ao a.files.length ca, .int .i64 a.turn] 27) := ⟨_, rfl⟩
  have B1 : Below w.heap.size w W1 := by rw [hW1]; exact below_alloc _ _
  have Q1 : QAt W1 w.heap.size (.slice ao a.files.length ca) a.turn := by rw [hW1]; exact QAt.new w _ _ (fun s h => by cases h)
  have hz1 : W1.heap.size = w.heap.size + 1 := by rw [hW1]; simp
  obtain ⟨W2, hW2⟩ : ∃ W2, W2 = W1.alloc (.cells #[.slice bo b.files.length cb, .int .i64 b.turn] 27) := ⟨_, rfl⟩
  have B2 : Below W1.heap.size W1 W2 := by rw [hW2]; exact below_alloc _ _
  have Q2 : QAt W2 (w.heap.size + 1) (.slice bo b.files.length cb) b.turn := by rw [hW2, ← hz1]; exact QAt.new W1 _ _ (fun s h => by cases h)
  have hz2 : W2.heap.size = w.heap.size + 1 + 1 := by rw [hW2]; simp [hz1]
  obtain ⟨W3, hW3⟩ : ∃ W3, W3 = W2.alloc (.cells #[.string ⟨#[97]⟩, .string ⟨#[]⟩, .int .i64 1] 41) := ⟨_, rfl⟩
  have B3 : Below W2.heap.size W2 W3 := by rw [hW3]; exact below_alloc _ _
  have F3 : Files W3 (.slice (some ⟨w.heap.size + 1 + 1, 0, none⟩) 1 1) [tdA] := one_file tdA (by rw [hW3, ← hz2]; simp [tdA]) (by rw [hW3, ← hz2]; simp [tdA]) (by rw [hW3, ← hz2]; simp [tdA])
  have hz3 : W3.heap.size = w.heap.size + 1 + 1 + 1 := by rw [hW3]; simp [hz2]
  obtain ⟨W4, hW4⟩ : ∃ W4, W4 = W3.alloc (.cells #[.slice (some ⟨w.heap.size + 1 + 1, 0, none⟩) 1 1, .int .i64 1] 27) := ⟨_, rfl⟩
  have B4 : Below W3.heap.size W3 W4 := by rw [hW4]; exact below_alloc _ _
  have Q4 : QAt W4 (w.heap.size + 1 + 1 + 1) (.slice (some ⟨w.heap.size + 1 + 1, 0, none⟩) 1 1) 1 := by rw [hW4, ← hz3]; exact QAt.new W3 _ _ (fun s h => by cases h)
  have HQ : Hid (∀ W, Below W4.heap.size W4 W → (W.cell? ⟨w.heap.size, 0, none⟩ = some (.slice ao a.files.length ca) ∧ W.cell? ⟨w.heap.size, 1, none⟩ = some (.int .i64 a.turn)) ∧ (W.cell? ⟨w.heap.size + 1, 0, none⟩ = some (.slice bo b.files.length cb) ∧ W.cell? ⟨w.heap.size + 1, 1, none⟩ = some (.int .i64 b.turn))) := Lib.hid fun W hb => ⟨⟨((Q1.below B2).below (two (two B3 B4) hb)).c0, ((Q1.below B2).below (two (two B3 B4) hb)).c1⟩, ⟨(Q2.below (two (two B3 B4) hb)).c0, (Q2.below (two (two B3 B4) hb)).c1⟩⟩
  have HQ4 : Hid (∀ W, Below W4.heap.size W4 W → W.cell? ⟨w.heap.size + 1 + 1 + 1, 0, none⟩ = some (.slice (some ⟨w.heap.size + 1 + 1, 0, none⟩) 1 1) ∧ W.cell? ⟨w.heap.size + 1 + 1 + 1, 1, none⟩ = some (.int .i64 1)) := Lib.hid fun W hb => ⟨(Q4.below hb).c0, (Q4.below hb).c1⟩
  have HF4 := Lib.hid (F3.below B4)
  have HB := Lib.hid (two (two B1 B2) (two B3 B4))
  have HA := Lib.hid ha
  have HBF := Lib.hid hb
  have HW1 := Lib.hid hW1
  have HW2 := Lib.hid hW2
  have HW3 := Lib.hid hW3
  have HW4 := Lib.hid hW4
  have HSX := Lib.hid (Below.refl W4.heap.size W4).drew
  have C0 := Lib.hid fun W (hw : Below W4.heap.size W4 W) => diff_Of _ _ [tdA] [tdA] 1 1 W (HF4.out.below hw) (HF4.out.below hw) tdA_rises tdA_rises (by decide) (by decide)
  have C1 := Lib.hid fun v W (hw : Below W4.heap.size W4 W) (hv : Files W v []) => diff_Of _ v [tdA] [] 1 1 W (HF4.out.below hw) hv tdA_rises List.Pairwise.nil (by decide) (by decide)
  rw [td_none] at C0
  rw [td_one] at C1
  clear hW1 hW2 hW3 hW4 B1 B2 B3 B4 Q1 Q2 Q4 F3 hz1 hz2 hz3 ha hb hoa hob
  go_enter Try.func4, Try.ntmps4
  go_wp2_with fail
  rw [← HW1.out, ← HW2.out, ← HW3.out, ← HW4.out]
  go_region_held3 (fun W => W.cell? ⟨w.heap.size + 1 + 1 + 1, 0, none⟩ = some (.slice (some ⟨w.heap.size + 1 + 1, 0, none⟩) 1 1) ∧ W.cell? ⟨w.heap.size + 1 + 1 + 1, 1, none⟩ = some (.int .i64 1))
    (first
      | exact HQ4.out _ HSX.out
      | exact HQ4.out _ (HEA : Hid _).out
      | exact HQ4.out _ (HEB : Hid _).out
      | exact HQ4.out _ (HEC : Hid _).out)
    (first
      | (go_at_call 9; refine (quilt_New _).mono ?_; rintro e wB ⟨qn, rfl, ⟨vn, rfl, hfn⟩, hbB⟩; have HEB := Lib.hid (two (HEA : Hid _).out hbB); have HFN := Lib.hid hfn; clear hfn hbB)
      | (go_at_call 13; refine (C1.out _ _ (HEB : Hid _).out (HFN : Hid _).out).mono ?_; rintro e wC ⟨v2, rfl, ht2, hbC⟩; obtain ⟨o2, c2, rfl, _, _⟩ := ht2.parts; have HEC := Lib.hid (two (HEB : Hid _).out hbC); clear ht2 hbC)
      | (go_at_call 13; refine (C0.out _ HSX.out).mono ?_; rintro e wA ⟨v1, rfl, ht1, hbA⟩; obtain ⟨o1, c1, rfl, _, _⟩ := ht1.parts; have HEA := Lib.hid (two HSX.out hbA); clear ht1 hbA))
  all_goals
    obtain ⟨⟨q0, q1⟩, q2, q3⟩ := HQ.out _ HEC.out
    go_wp2_with fail
    refine (CFA.out _ (two HB.out HEC.out)).mono ?_
    rintro e w4 ⟨rfl, hb4⟩
    have HB4 := Lib.hid (two HEC.out hb4)
    clear hb4 q0 q1 q2 q3
    obtain ⟨⟨q0, q1⟩, q2, q3⟩ := HQ.out _ HB4.out
    cases hfa : fineQ a
    · go_wp2_with fail
      go_ret
      exact ⟨rfl, two HB.out HB4.out⟩
    have HGA : Hid (Good a) := Lib.hid (by
      unfold fineQ at hfa
      simp only [Bool.and_eq_true, decide_eq_true_eq] at hfa
      exact (good_iff a).1 hfa.2)
    clear hfa
    go_wp2_with fail
    refine (CFB.out _ (two HB.out HB4.out)).mono ?_
    rintro e w5 ⟨rfl, hb5⟩
    have HB5 := Lib.hid (two HB4.out hb5)
    clear hb5 q0 q1 q2 q3
    obtain ⟨⟨q0, q1⟩, q2, q3⟩ := HQ.out _ HB5.out
    cases hfb : fineQ b
    · go_wp2_with fail
      go_ret
      exact ⟨rfl, two HB.out HB5.out⟩
    have HGB : Hid (Good b) := Lib.hid (by
      unfold fineQ at hfb
      simp only [Bool.and_eq_true, decide_eq_true_eq] at hfb
      exact (good_iff b).1 hfb.2)
    clear hfb
    have CO := diff_Of _ _ a.files b.files a.turn b.turn w5 (HA.out.below (two HB.out HB5.out)) (HBF.out.below (two HB.out HB5.out)) HGA.out.fine.rises HGB.out.fine.rises HGA.out.fine.len HGB.out.fine.len
    have CR := Lib.hid fun W (hw : Below W4.heap.size W4 W) => diff_Of _ _ b.files a.files b.turn a.turn W (HBF.out.below (two HB.out hw)) (HA.out.below (two HB.out hw)) HGB.out.fine.rises HGA.out.fine.rises HGB.out.fine.len HGA.out.fine.len
    rw [← merge_comm HGA.out.fine.rises HGB.out.fine.rises] at CR
    have HUP := Lib.hid (up_mergeD a.files b.files HGA.out.fine.rises HGB.out.fine.rises)
    have HNN := Lib.hid (merge_none HGA.out.fine.rises HGB.out.fine.rises)
    obtain ⟨M, hM⟩ : ∃ M, M = mergeD a.files b.files := ⟨_, rfl⟩
    rw [← hM] at CO CR HUP HNN
    replace CO := Lib.hid CO
    clear hM
    go_wp2_with fail
    refine CO.out.mono ?_
    rintro e w6 ⟨v6, rfl, ht6, hb6⟩
    obtain ⟨mo, mc, rfl, hmc, hmc'⟩ := ht6.parts
    have HT6 := Lib.hid ht6
    have HB6 := Lib.hid (two HB5.out hb6)
    clear ht6 hb6 q0 q1 q2 q3
    go_wp2_with fail
    go_loopw [7] (fun i wr => ∃ k : Nat, k ≤ M.length ∧ i = .int .i64 ((k + 1 : Nat) : Int) ∧ Below w6.heap.size w6 wr) (fun i _ => M.length + 1 - (intOf i).toNat)
    case atStart => exact ⟨0, Nat.zero_le _, rfl, Below.refl _ _⟩
    case round =>
      obtain ⟨k, hk, rfl, hbw⟩ := hrel
      have HBW := Lib.hid hbw
      clear hbw
      by_cases hlt : k + 1 < M.length
      · obtain ⟨mb, mof, rfl, hlb, x0⟩ := Texts.cell HT6.out (k + 1) hlt
        obtain ⟨bb, ob, eb, _, y0⟩ := Texts.cell HT6.out k (by omega)
        simp only [Option.some.injEq, Addr.mk.injEq, and_true] at eb
        obtain ⟨rfl, rfl⟩ := eb
        obtain ⟨kc, _⟩ := bcell HBW.out
        replace x0 := regrown_cell ((kc _ _ hlb).trans x0)
        replace y0 := regrown_cell ((kc _ _ hlb).trans y0)
        have hle2 : (Op.bytesLess M[k + 1].toList (M[k]'(by omega)).toList || M[k + 1].toList == (M[k]'(by omega)).toList) = false := up_at HUP.out k hlt
        clear kc hlb
        go_wp2_with fail
        refine wp_region_q (by kernel_rfl) (by kernel_rfl) ?_
        repeat (go_big_quiet_step (fail))
        refine wpQuiet_nil ?_
        intro w7 hb7
        have HB7 := Lib.hid (two HBW.out hb7)
        clear hb7 x0 y0
        go_wp2_with fail
        go_roundw
        case rel => exact ⟨k + 1, by omega, by go_num, HB7.out⟩
        case measure => simp [intOf]; omega
      · obtain ⟨⟨q0, q1⟩, q2, q3⟩ := HQ.out _ (two HB6.out HBW.out)
        have C2 := Lib.hid (CR.out wr (two HB6.out HBW.out))
        have HX := Lib.hid (two HB.out (two HB6.out HBW.out))
        go_wp2_with fail
        refine C2.out.mono ?_
        rintro e w8 ⟨v8, rfl, ht8, hb8⟩
        have C3 := ref_SameTexts _ v8 M M w8 (HT6.out.below (two HBW.out hb8)) ht8
        rw [decide_eq_true (rfl : M = M)] at C3
        have HB8 := Lib.hid hb8
        replace C3 := Lib.hid C3
        clear ht8 hb8 q0 q1 q2 q3
        go_wp2_with fail
        refine C3.out.mono ?_
        rintro e w9 ⟨rfl, hb9⟩
        have HB9 := Lib.hid (two HB8.out hb9)
        clear hb9
        obtain ⟨⟨q0, q1⟩, q2, q3⟩ := HQ.out _ (two HB6.out (two HBW.out HB9.out))
        have C4 := ref_SameFiles _ _ a.files b.files w9 (HA.out.below (two HX.out HB9.out)) (HBF.out.below (two HX.out HB9.out))
        by_cases hab : a.files = b.files
        · have hm0 : M = [] := HNN.out.2 hab
          rw [decide_eq_true hab] at C4
          replace C4 := Lib.hid C4
          have hl0 : M.length = 0 := by rw [hm0]; rfl
          have HL0 := Lib.hid hl0
          rw [hl0]
          clear hm0 hl0 hab hlt hk
          go_wp2_with fail
          refine C4.out.mono ?_
          rintro e w10 ⟨rfl, hb10⟩
          have HB10 := Lib.hid (two HB9.out hb10)
          clear hb10
          go_wp2_with fail
          go_ret
          exact ⟨rfl, two HX.out HB10.out⟩
        · have hm0 : M.length ≠ 0 := fun h => hab (HNN.out.1 (List.eq_nil_of_length_eq_zero h))
          have hm1 : ((M.length : Int) == 0) = false := by rw [beq_eq_false_iff_ne]; omega
          rw [decide_eq_false hab] at C4
          replace C4 := Lib.hid C4
          clear hm0 hab
          go_wp2_with fail
          refine C4.out.mono ?_
          rintro e w10 ⟨rfl, hb10⟩
          have HB10 := Lib.hid (two HB9.out hb10)
          clear hb10
          go_wp2_with fail
          go_ret
          exact ⟨rfl, two HX.out HB10.out⟩
end Go.Proofs.Ytggpodlecljcbac
