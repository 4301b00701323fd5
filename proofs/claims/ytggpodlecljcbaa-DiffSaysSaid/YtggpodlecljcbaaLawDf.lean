/- The closed fact of chapter 4; the walk of DiffSays. -/
import Derived.Test.YtggpodlecljcbaaWalkDf2
import Derived.Test.YtggpodlecljcbaaWalkDp
import Derived.Test.YtggpodlecljcbaaWalkDp2
namespace Go.Proofs.Ytggpodlecljcbaa
open Go.RowKit Go.Sort
set_option linter.unusedSimpArgs false
set_option linter.unusedVariables false
theorem two_files {w : World} {b : Nat} (f g : File) (h : w.cell? ⟨b, 0, none⟩ = some (.string f.name) ∧ w.cell? ⟨b, 1, none⟩ = some (.string f.text) ∧ w.cell? ⟨b, 2, none⟩ = some (.int .i64 f.times) ∧ w.cell? ⟨b, 3, none⟩ = some (.string g.name) ∧ w.cell? ⟨b, 4, none⟩ = some (.string g.text) ∧ w.cell? ⟨b, 5, none⟩ = some (.int .i64 g.times)) : Files w (.slice (some ⟨b, 0, none⟩) 2 2) [f, g] := by
  obtain ⟨h0, h1, h2, h3, h4, h5⟩ := h
  refine read_list rfl (Nat.le_refl _) (by decide) fun j u hj => ?_
  match j, hj with
  | 0, hj => simp [File.cells] at hj; subst hj; exact h0
  | 1, hj => simp [File.cells] at hj; subst hj; exact h1
  | 2, hj => simp [File.cells] at hj; subst hj; exact h2
  | 3, hj => simp [File.cells] at hj; subst hj; exact h3
  | 4, hj => simp [File.cells] at hj; subst hj; exact h4
  | 5, hj => simp [File.cells] at hj; subst hj; exact h5
  | j + 6, hj => simp [File.cells] at hj
theorem three_texts {w : World} {b : Nat} (x y z : ByteArray) (h : w.cell? ⟨b, 0, none⟩ = some (.string x) ∧ w.cell? ⟨b, 1, none⟩ = some (.string y) ∧ w.cell? ⟨b, 2, none⟩ = some (.string z)) : Texts w (.slice (some ⟨b, 0, none⟩) 3 3) [x, y, z] := by
  obtain ⟨h0, h1, h2⟩ := h
  refine ⟨rfl, some ⟨b, 0, none⟩, 3, rfl, Nat.le_refl _, by decide, (fun _ h => by cases h), fun j u hj => ⟨b, 0, rfl, ?_⟩⟩
  rw [Nat.zero_add]
  match j, hj with
  | 0, hj => simp [strCells] at hj; subst hj; exact h0
  | 1, hj => simp [strCells] at hj; subst hj; exact h1
  | 2, hj => simp [strCells] at hj; subst hj; exact h2
  | j + 3, hj => simp [strCells] at hj
def dfA : File := ⟨⟨#[97]⟩, ⟨#[]⟩, 1⟩
def dfB : File := ⟨⟨#[98]⟩, ⟨#[]⟩, 1⟩
def dfB2 : File := ⟨⟨#[98]⟩, ⟨#[]⟩, 2⟩
def dfC : File := ⟨⟨#[99]⟩, ⟨#[]⟩, 1⟩
theorem df_ab : bLt dfA.name dfB.name = true := by decide +kernel
theorem df_ab2 : bLt dfA.name dfB2.name = true := by decide +kernel
theorem df_bc : bLt dfB2.name dfC.name = true := by decide +kernel
theorem df_bb : bLt dfB.name dfB2.name = false := by decide +kernel
theorem df_bb2 : bLt dfB2.name dfB.name = false := by decide +kernel
theorem df_ne : dfB ≠ dfB2 := by intro h; have := congrArg File.times h; revert this; decide
theorem df_r1 : Rises [dfA, dfB] := List.Pairwise.cons (by intro x hx; simp at hx; subst hx; exact df_ab) (List.pairwise_singleton _ _)
theorem df_r2 : Rises [dfB2, dfC] := List.Pairwise.cons (by intro x hx; simp at hx; subst hx; exact df_bc) (List.pairwise_singleton _ _)
theorem df_merge : mergeD [dfA, dfB] [dfB2, dfC] = [⟨#[97]⟩, ⟨#[98]⟩, ⟨#[99]⟩] := by
  rw [mergeD, if_pos df_ab2, mergeD, if_neg (by simp [df_bb]), if_neg (by simp [df_bb2]), if_neg df_ne, mergeD]
  rfl
set_option maxRecDepth 100000 in
set_option maxHeartbeats 4000000 in
theorem law_diffs (w : World) : Calls Try.prog 88 #[] w fun e w' => e = .returned (.bool true) ∧ Below w.heap.size w w' := by
  obtain ⟨V1, hV1⟩ : ∃ V1, V1 = w.alloc (.cells #[.string ⟨#[97]⟩, .string ⟨#[]⟩, .int .i64 1, .string ⟨#[98]⟩, .string ⟨#[]⟩, .int .i64 1] 23) := ⟨_, rfl⟩
  have B1 : Below w.heap.size w V1 := by rw [hV1]; exact below_alloc _ _
  have F1 : Files V1 (.slice (some ⟨w.heap.size, 0, none⟩) 2 2) [dfA, dfB] := two_files dfA dfB (by rw [hV1]; simp [dfA, dfB])
  have z1 : V1.heap.size = w.heap.size + 1 := by rw [hV1]; simp
  obtain ⟨V2, hV2⟩ : ∃ V2, V2 = V1.alloc (.cells #[.slice (some ⟨w.heap.size, 0, none⟩) 2 2, .int .i64 3] 34) := ⟨_, rfl⟩
  have B2 : Below V1.heap.size V1 V2 := by rw [hV2]; exact below_alloc _ _
  have z2 : V2.heap.size = w.heap.size + 1 + 1 := by rw [hV2]; simp [z1]
  obtain ⟨V3, hV3⟩ : ∃ V3, V3 = V2.alloc (.cells #[.string ⟨#[98]⟩, .string ⟨#[]⟩, .int .i64 2, .string ⟨#[99]⟩, .string ⟨#[]⟩, .int .i64 1] 23) := ⟨_, rfl⟩
  have B3 : Below V2.heap.size V2 V3 := by rw [hV3]; exact below_alloc _ _
  have F3 : Files V3 (.slice (some ⟨w.heap.size + 1 + 1, 0, none⟩) 2 2) [dfB2, dfC] := two_files dfB2 dfC (by rw [hV3, ← z2]; simp [dfB2, dfC])
  obtain ⟨V4, hV4⟩ : ∃ V4, V4 = V3.alloc (.cells #[.slice (some ⟨w.heap.size + 1 + 1, 0, none⟩) 2 2, .int .i64 4] 34) := ⟨_, rfl⟩
  have B4 : Below V3.heap.size V3 V4 := by rw [hV4]; exact below_alloc _ _
  have C1 := diff_Of _ _ _ _ 3 4 V4 ((F1.below B2).below (two B3 B4)) (F3.below B4) df_r1 df_r2 (by decide) (by decide)
  rw [df_merge] at C1
  replace C1 := Lib.hid C1
  have HB4 := Lib.hid (two (two B1 B2) (two B3 B4))
  have HV1 := Lib.hid hV1
  have HV2 := Lib.hid hV2
  have HV3 := Lib.hid hV3
  have HV4 := Lib.hid hV4
  clear hV1 hV2 hV3 hV4 B1 B2 B3 B4 F1 F3 z1 z2
  obtain ⟨V1, hV1⟩ : ∃ V1, V1 = w.alloc (.cells #[.string ⟨#[97]⟩, .string ⟨#[]⟩, .int .i64 1, .string ⟨#[98]⟩, .string ⟨#[]⟩, .int .i64 1] 23) := ⟨_, rfl⟩
  have B1 : Below w.heap.size w V1 := by rw [hV1]; exact below_alloc _ _
  have F1 : Files V1 (.slice (some ⟨w.heap.size, 0, none⟩) 2 2) [dfA, dfB] := two_files dfA dfB (by rw [hV1]; simp [dfA, dfB])
  have z1 : V1.heap.size = w.heap.size + 1 := by rw [hV1]; simp
  obtain ⟨V2, hV2⟩ : ∃ V2, V2 = V1.alloc (.cells #[.slice (some ⟨w.heap.size, 0, none⟩) 2 2, .int .i64 3] 34) := ⟨_, rfl⟩
  have B2 : Below V1.heap.size V1 V2 := by rw [hV2]; exact below_alloc _ _
  have z2 : V2.heap.size = w.heap.size + 1 + 1 := by rw [hV2]; simp [z1]
  obtain ⟨V3, hV3⟩ : ∃ V3, V3 = V2.alloc (.cells #[.string ⟨#[98]⟩, .string ⟨#[]⟩, .int .i64 2, .string ⟨#[99]⟩, .string ⟨#[]⟩, .int .i64 1] 23) := ⟨_, rfl⟩
  have B3 : Below V2.heap.size V2 V3 := by rw [hV3]; exact below_alloc _ _
  have F3 : Files V3 (.slice (some ⟨w.heap.size + 1 + 1, 0, none⟩) 2 2) [dfB2, dfC] := two_files dfB2 dfC (by rw [hV3, ← z2]; simp [dfB2, dfC])
  obtain ⟨V4, hV4⟩ : ∃ V4, V4 = V3.alloc (.cells #[.slice (some ⟨w.heap.size + 1 + 1, 0, none⟩) 2 2, .int .i64 4] 34) := ⟨_, rfl⟩
  have B4 : Below V3.heap.size V3 V4 := by rw [hV4]; exact below_alloc _ _
  have C1 := diff_Of _ _ _ _ 3 4 V4 ((F1.below B2).below (two B3 B4)) (F3.below B4) df_r1 df_r2 (by decide) (by decide)
  rw [df_merge] at C1
  replace C1 := Lib.hid C1
  have HB4 := Lib.hid (two (two B1 B2) (two B3 B4))
  have HV1 := Lib.hid hV1
  have HV2 := Lib.hid hV2
  have HV3 := Lib.hid hV3
  have HV4 := Lib.hid hV4
  clear hV1 hV2 hV3 hV4 B1 B2 B3 B4 F1 F3 z1 z2
  obtain ⟨V1, hV1⟩ : ∃ V1, V1 = w.alloc (.cells #[.string ⟨#[97]⟩, .string ⟨#[]⟩, .int .i64 1, .string ⟨#[98]⟩, .string ⟨#[]⟩, .int .i64 1] 23) := ⟨_, rfl⟩
  have B1 : Below w.heap.size w V1 := by rw [hV1]; exact below_alloc _ _
  have F1 : Files V1 (.slice (some ⟨w.heap.size, 0, none⟩) 2 2) [dfA, dfB] := two_files dfA dfB (by rw [hV1]; simp [dfA, dfB])
  have z1 : V1.heap.size = w.heap.size + 1 := by rw [hV1]; simp
  obtain ⟨V2, hV2⟩ : ∃ V2, V2 = V1.alloc (.cells #[.slice (some ⟨w.heap.size, 0, none⟩) 2 2, .int .i64 3] 34) := ⟨_, rfl⟩
  have B2 : Below V1.heap.size V1 V2 := by rw [hV2]; exact below_alloc _ _
  have z2 : V2.heap.size = w.heap.size + 1 + 1 := by rw [hV2]; simp [z1]
  obtain ⟨V3, hV3⟩ : ∃ V3, V3 = V2.alloc (.cells #[.string ⟨#[98]⟩, .string ⟨#[]⟩, .int .i64 2, .string ⟨#[99]⟩, .string ⟨#[]⟩, .int .i64 1] 23) := ⟨_, rfl⟩
  have B3 : Below V2.heap.size V2 V3 := by rw [hV3]; exact below_alloc _ _
  have F3 : Files V3 (.slice (some ⟨w.heap.size + 1 + 1, 0, none⟩) 2 2) [dfB2, dfC] := two_files dfB2 dfC (by rw [hV3, ← z2]; simp [dfB2, dfC])
  obtain ⟨V4, hV4⟩ : ∃ V4, V4 = V3.alloc (.cells #[.slice (some ⟨w.heap.size + 1 + 1, 0, none⟩) 2 2, .int .i64 4] 34) := ⟨_, rfl⟩
  have B4 : Below V3.heap.size V3 V4 := by rw [hV4]; exact below_alloc _ _
  have C1 := diff_Of _ _ _ _ 3 4 V4 ((F1.below B2).below (two B3 B4)) (F3.below B4) df_r1 df_r2 (by decide) (by decide)
  rw [df_merge] at C1
  replace C1 := Lib.hid C1
  have HB4 := Lib.hid (two (two B1 B2) (two B3 B4))
  have HV1 := Lib.hid hV1
  have HV2 := Lib.hid hV2
  have HV3 := Lib.hid hV3
  have HV4 := Lib.hid hV4
  clear hV1 hV2 hV3 hV4 B1 B2 B3 B4 F1 F3 z1 z2
  obtain ⟨V1, hV1⟩ : ∃ V1, V1 = w.alloc (.cells #[.string ⟨#[97]⟩, .string ⟨#[]⟩, .int .i64 1, .string ⟨#[98]⟩, .string ⟨#[]⟩, .int .i64 1] 23) := ⟨_, rfl⟩
  have B1 : Below w.heap.size w V1 := by rw [hV1]; exact below_alloc _ _
  have F1 : Files V1 (.slice (some ⟨w.heap.size, 0, none⟩) 2 2) [dfA, dfB] := two_files dfA dfB (by rw [hV1]; simp [dfA, dfB])
  have z1 : V1.heap.size = w.heap.size + 1 := by rw [hV1]; simp
  obtain ⟨V2, hV2⟩ : ∃ V2, V2 = V1.alloc (.cells #[.slice (some ⟨w.heap.size, 0, none⟩) 2 2, .int .i64 3] 34) := ⟨_, rfl⟩
  have B2 : Below V1.heap.size V1 V2 := by rw [hV2]; exact below_alloc _ _
  have z2 : V2.heap.size = w.heap.size + 1 + 1 := by rw [hV2]; simp [z1]
  obtain ⟨V3, hV3⟩ : ∃ V3, V3 = V2.alloc (.cells #[.string ⟨#[98]⟩, .string ⟨#[]⟩, .int .i64 2, .string ⟨#[99]⟩, .string ⟨#[]⟩, .int .i64 1] 23) := ⟨_, rfl⟩
  have B3 : Below V2.heap.size V2 V3 := by rw [hV3]; exact below_alloc _ _
  have F3 : Files V3 (.slice (some ⟨w.heap.size + 1 + 1, 0, none⟩) 2 2) [dfB2, dfC] := two_files dfB2 dfC (by rw [hV3, ← z2]; simp [dfB2, dfC])
  obtain ⟨V4, hV4⟩ : ∃ V4, V4 = V3.alloc (.cells #[.slice (some ⟨w.heap.size + 1 + 1, 0, none⟩) 2 2, .int .i64 4] 34) := ⟨_, rfl⟩
  have B4 : Below V3.heap.size V3 V4 := by rw [hV4]; exact below_alloc _ _
  have C1 := diff_Of _ _ _ _ 3 4 V4 ((F1.below B2).below (two B3 B4)) (F3.below B4) df_r1 df_r2 (by decide) (by decide)
  rw [df_merge] at C1
  replace C1 := Lib.hid C1
  have HB4 := Lib.hid (two (two B1 B2) (two B3 B4))
  have HV1 := Lib.hid hV1
  have HV2 := Lib.hid hV2
  have HV3 := Lib.hid hV3
  have HV4 := Lib.hid hV4
  clear hV1 hV2 hV3 hV4 B1 B2 B3 B4 F1 F3 z1 z2
  go_enter Try.func88, Try.ntmps88
  go_wp2_with fail
  rw [← HV1.out, ← HV2.out, ← HV3.out, ← HV4.out]
  refine C1.out.mono ?_
  rintro e w5 ⟨v, rfl, ht, hb5⟩
  obtain ⟨W6, hW6⟩ : ∃ W6, W6 = w5.alloc (.cells #[.string ⟨#[97]⟩, .string ⟨#[98]⟩, .string ⟨#[99]⟩] 9) := ⟨_, rfl⟩
  have C2 := ref_SameTexts v (.slice (some ⟨w5.heap.size, 0, none⟩) 3 3) _ [⟨#[97]⟩, ⟨#[98]⟩, ⟨#[99]⟩] W6 (ht.below (by rw [hW6]; exact below_alloc _ _)) (three_texts _ _ _ (by rw [hW6]; simp))
  rw [decide_eq_true (rfl : ([⟨#[97]⟩, ⟨#[98]⟩, ⟨#[99]⟩] : List ByteArray) = _)] at C2
  have HB6 : Hid (Below w.heap.size w W6) := Lib.hid (by rw [hW6]; exact two HB4.out (two hb5 (below_alloc _ _)))
  replace C2 := Lib.hid C2
  have HW6 := Lib.hid hW6
  clear ht hb5 hW6
  go_wp2_with fail
  rw [← HW6.out]
  refine C2.out.mono ?_
  rintro e w7 ⟨rfl, hb7⟩
  have HB7 := Lib.hid (two HB6.out hb7)
  clear hb7
  go_wp2_with fail
  go_ret
  exact ⟨rfl, HB7.out⟩
set_option maxRecDepth 100000 in
set_option maxHeartbeats 8000000 in
theorem law_DiffSays (va vb vn : Value) (a b : Quilt) (names : List ByteArray) (w : World) (ha : Quilts w va a) (hb : Quilts w vb b) (hn : Texts w vn names) (hoa : ∀ f ∈ a.files, f.ok) (hob : ∀ f ∈ b.files, f.ok) (hon : ∀ s ∈ names, s.size ≤ maxLen) :
    Calls Try.prog 11 #[va, vb, vn] w fun e w' => e = .returned (.bool true) ∧ Below w.heap.size w w' := by
  have CS := Lib.hid fun W => law_diffs W
  have CLA := Lib.hid fun W hw => law_LightQuilt va a W (ha.below hw) hoa
  have CLB := Lib.hid fun W hw => law_LightQuilt vb b W (hb.below hw) hob
  have CQA := Lib.hid fun W hw => ref_QuiltFault va a W (ha.below hw) hoa
  have CQB := Lib.hid fun W hw => ref_QuiltFault vb b W (hb.below hw) hob
  obtain ⟨va, rfl, ha⟩ := ha
  obtain ⟨vb, rfl, hb⟩ := hb
  obtain ⟨ao, ca, rfl, hca, hca'⟩ := ha.parts
  obtain ⟨bo, cb, rfl, hcb, hcb'⟩ := hb.parts
  obtain ⟨no, cn, rfl, hcn, hcn'⟩ := hn.parts
  obtain ⟨W1, hW1⟩ : ∃ W1, W1 = w.alloc (.cells #[.slice ao a.files.length ca, .int .i64 a.turn] 34) := ⟨_, rfl⟩
  have B1 : Below w.heap.size w W1 := by rw [hW1]; exact below_alloc _ _
  have Q1 : QAt W1 w.heap.size (.slice ao a.files.length ca) a.turn := by rw [hW1]; exact QAt.new w _ _ (fun s h => by cases h)
  have hz1 : W1.heap.size = w.heap.size + 1 := by rw [hW1]; simp
  obtain ⟨W2, hW2⟩ : ∃ W2, W2 = W1.alloc (.cells #[.slice bo b.files.length cb, .int .i64 b.turn] 34) := ⟨_, rfl⟩
  have B2 : Below W1.heap.size W1 W2 := by rw [hW2]; exact below_alloc _ _
  have Q2 : QAt W2 (w.heap.size + 1) (.slice bo b.files.length cb) b.turn := by rw [hW2, ← hz1]; exact QAt.new W1 _ _ (fun s h => by cases h)
  have HQ : Hid (∀ W, Below W2.heap.size W2 W → (W.cell? ⟨w.heap.size, 0, none⟩ = some (.slice ao a.files.length ca) ∧ W.cell? ⟨w.heap.size, 1, none⟩ = some (.int .i64 a.turn)) ∧ (W.cell? ⟨w.heap.size + 1, 0, none⟩ = some (.slice bo b.files.length cb) ∧ W.cell? ⟨w.heap.size + 1, 1, none⟩ = some (.int .i64 b.turn))) := Lib.hid fun W hb => ⟨⟨((Q1.below B2).below hb).c0, ((Q1.below B2).below hb).c1⟩, ⟨(Q2.below hb).c0, (Q2.below hb).c1⟩⟩
  have HB := Lib.hid (two B1 B2)
  have HA := Lib.hid ha
  have HBF := Lib.hid hb
  have HN := Lib.hid hn
  have HON := Lib.hid hon
  have HW1 := Lib.hid hW1
  have HW2 := Lib.hid hW2
  clear hW1 hW2 B1 B2 Q1 Q2 hz1 ha hb hn hoa hob hon
  go_enter Try.func11, Try.ntmps11
  go_wp2_with fail
  rw [← HW1.out, ← HW2.out]
  refine (CS.out _).mono ?_
  rintro e w3 ⟨rfl, hb3⟩
  have HB3 := Lib.hid hb3
  clear hb3
  obtain ⟨⟨q0, q1⟩, q2, q3⟩ := HQ.out _ HB3.out
  go_wp2_with fail
  refine (CLA.out _ (two HB.out HB3.out)).mono ?_
  rintro e w4 ⟨rfl, hb4⟩
  have HB4 := Lib.hid (two HB3.out hb4)
  clear hb4 q0 q1 q2 q3
  obtain ⟨⟨q0, q1⟩, q2, q3⟩ := HQ.out _ HB4.out
  cases hla : lightFiles a.files
  · go_wp2_with fail
    go_ret
    exact ⟨rfl, two HB.out HB4.out⟩
  clear hla
  go_wp2_with fail
  refine (CLB.out _ (two HB.out HB4.out)).mono ?_
  rintro e w5 ⟨rfl, hb5⟩
  have HB5 := Lib.hid (two HB4.out hb5)
  clear hb5 q0 q1 q2 q3
  obtain ⟨⟨q0, q1⟩, q2, q3⟩ := HQ.out _ HB5.out
  cases hlb : lightFiles b.files
  · go_wp2_with fail
    go_ret
    exact ⟨rfl, two HB.out HB5.out⟩
  clear hlb
  by_cases hnl : 20 < names.length
  · have hnl' : (20 : Int) < (names.length : Int) := by omega
    clear hnl
    go_wp2_with fail
    go_ret
    exact ⟨rfl, two HB.out HB5.out⟩
  have hnl' : ¬ (20 : Int) < (names.length : Int) := by omega
  clear hnl
  go_wp2_with fail
  refine (CQA.out _ (two HB.out HB5.out)).mono ?_
  rintro e w6 ⟨rfl, hb6⟩
  have HB6 := Lib.hid (two HB5.out hb6)
  clear hb6 q0 q1 q2 q3
  obtain ⟨⟨q0, q1⟩, q2, q3⟩ := HQ.out _ HB6.out
  by_cases hqa : quiltFault a = 0
  rotate_left
  · have hqa' : (0 : Int) < (quiltFault a : Int) := by omega
    clear hqa
    go_wp2_with fail
    go_ret
    exact ⟨rfl, two HB.out HB6.out⟩
  have HGA := Lib.hid ((good_iff a).1 hqa)
  have hqa' : ¬ (0 : Int) < (quiltFault a : Int) := by omega
  clear hqa
  go_wp2_with fail
  refine (CQB.out _ (two HB.out HB6.out)).mono ?_
  rintro e w7 ⟨rfl, hb7⟩
  have HB7 := Lib.hid (two HB6.out hb7)
  clear hb7 q0 q1 q2 q3
  by_cases hqb : quiltFault b = 0
  rotate_left
  · have hqb' : (0 : Int) < (quiltFault b : Int) := by omega
    clear hqb
    go_wp2_with fail
    go_ret
    exact ⟨rfl, two HB.out HB7.out⟩
  have HGB := Lib.hid ((good_iff b).1 hqb)
  have hqb' : ¬ (0 : Int) < (quiltFault b : Int) := by omega
  clear hqb
  go_wp2_with fail
  clear hqb' hqa' hnl'
  go_loopw [8] (fun i wr => ∃ k : Nat, k ≤ names.length ∧ i = .int .i64 k ∧ wr = w7) (fun i _ => names.length - (intOf i).toNat)
  case atStart => exact ⟨0, Nat.zero_le _, rfl, rfl⟩
  case round =>
    obtain ⟨k, hk, rfl, rfl⟩ := hrel
    by_cases hlt : k < names.length
    · obtain ⟨nb, nof, rfl, _, x0⟩ := Texts.cell (HN.out.below (two HB.out HB7.out)) k hlt
      have hsz := HON.out _ (List.getElem_mem hlt)
      unfold maxLen at hsz
      by_cases hs : 20 < names[k].size
      · have hs' : (20 : Int) < (names[k].size : Int) := by omega
        clear hs
        go_wp2_with fail
        go_ret
        exact ⟨rfl, two HB.out HB7.out⟩
      · have hs' : ¬ (20 : Int) < (names[k].size : Int) := by omega
        clear hs
        go_wp2_with fail
        clear x0 hs'
        go_roundw
        case rel => exact ⟨k + 1, by omega, by go_num, trivial⟩
        case measure => simp [intOf]; omega
    · obtain ⟨⟨q0, q1⟩, q2, q3⟩ := HQ.out _ HB7.out
      have C1 := diff_Patch _ _ _ a b names wr (HA.out.below (two HB.out HB7.out)) (HBF.out.below (two HB.out HB7.out)) (HN.out.below (two HB.out HB7.out)) HGA.out.fine HGB.out.fine
      have C2 := fun W (hw : Below wr.heap.size wr W) => ref_Patched _ _ _ a b names W (HA.out.below (two (two HB.out HB7.out) hw)) (HBF.out.below (two (two HB.out HB7.out) hw)) (HN.out.below (two (two HB.out HB7.out) hw)) HGA.out.fine HGB.out.fine
      obtain ⟨p, hp⟩ : ∃ p, p = patchedQ a b names := ⟨_, rfl⟩
      rw [← hp] at C1
      simp only [← hp] at C2
      clear hp
      unfold RetQE at C1
      unfold RetQN at C2
      replace C1 := Lib.hid C1
      replace C2 := Lib.hid C2
      go_wp2_with fail
      refine C1.out.mono ?_
      rintro e w8 ⟨qx, rfl, ⟨vx, rfl, hfx⟩, hb8⟩
      obtain ⟨xo, xc, rfl, _, _⟩ := hfx.parts
      obtain ⟨W9, hW9⟩ : ∃ W9, W9 = w8.alloc (.cells #[.slice xo p.1.files.length xc, .int .i64 p.1.turn] 34) := ⟨_, rfl⟩
      have QX : QAt W9 w8.heap.size (.slice xo p.1.files.length xc) p.1.turn := by rw [hW9]; exact QAt.new w8 _ _ (fun s h => by cases h)
      have HB9 : Hid (Below wr.heap.size wr W9) := Lib.hid (by rw [hW9]; exact two hb8 (below_alloc _ _))
      have FX : Files W9 (.slice xo p.1.files.length xc) p.1.files := hfx.below (by rw [hW9]; exact below_alloc _ _)
      have HW9 := Lib.hid hW9
      have HQX := Lib.hid QX
      have HFX := Lib.hid FX
      clear hW9 hfx hb8 q0 q1 q2 q3 QX FX
      obtain ⟨⟨q0, q1⟩, q2, q3⟩ := HQ.out _ (two HB7.out HB9.out)
      rw [HW9.out] at q0 q1 q2 q3
      go_wp2_with fail
      rw [← HW9.out]
      refine (C2.out _ HB9.out).mono ?_
      rintro e w10 ⟨qy, rfl, ⟨vy, rfl, hfy⟩, hb10⟩
      obtain ⟨yo, yc, rfl, _, _⟩ := hfy.parts
      obtain ⟨W11, hW11⟩ : ∃ W11, W11 = w10.alloc (.cells #[.slice yo p.1.files.length yc, .int .i64 p.1.turn] 34) := ⟨_, rfl⟩
      have QY : QAt W11 w10.heap.size (.slice yo p.1.files.length yc) p.1.turn := by rw [hW11]; exact QAt.new w10 _ _ (fun s h => by cases h)
      have HB11 : Hid (Below wr.heap.size wr W11) := Lib.hid (by rw [hW11]; exact two HB9.out (two hb10 (below_alloc _ _)))
      have FY : Files W11 (.slice yo p.1.files.length yc) p.1.files := hfy.below (by rw [hW11]; exact below_alloc _ _)
      have HQX2 := Lib.hid (HQX.out.below (show Below W9.heap.size W9 W11 by rw [hW11]; exact two hb10 (below_alloc _ _)))
      have HFX2 := Lib.hid (HFX.out.below (show Below W9.heap.size W9 W11 by rw [hW11]; exact two hb10 (below_alloc _ _)))
      have HW11 := Lib.hid hW11
      have HQY := Lib.hid QY
      have HFY := Lib.hid FY
      have HSX := Lib.hid (Below.refl W11.heap.size W11).drew
      obtain ⟨bx, hbx⟩ : ∃ bx, bx = w8.heap.size := ⟨_, rfl⟩
      obtain ⟨by_, hby⟩ : ∃ bx, bx = w10.heap.size := ⟨_, rfl⟩
      rw [← hbx] at HQX2
      rw [← hby] at HQY
      have HBX := Lib.hid hbx
      have HBY := Lib.hid hby
      clear hW11 hfy hb10 q0 q1 q2 q3 QY FY hbx hby HQX HFX
      have HSK : Hid (∀ W, Below W11.heap.size W11 W → ((W.cell? ⟨w.heap.size, 0, none⟩ = some (.slice ao a.files.length ca) ∧ W.cell? ⟨w.heap.size, 1, none⟩ = some (.int .i64 a.turn)) ∧ (W.cell? ⟨w.heap.size + 1, 0, none⟩ = some (.slice bo b.files.length cb) ∧ W.cell? ⟨w.heap.size + 1, 1, none⟩ = some (.int .i64 b.turn))) ∧ (W.cell? ⟨bx, 0, none⟩ = some (.slice xo p.1.files.length xc) ∧ W.cell? ⟨bx, 1, none⟩ = some (.int .i64 p.1.turn)) ∧ (W.cell? ⟨by_, 0, none⟩ = some (.slice yo p.1.files.length yc) ∧ W.cell? ⟨by_, 1, none⟩ = some (.int .i64 p.1.turn))) := Lib.hid fun W hb => ⟨HQ.out W (two (two HB7.out HB11.out) hb), ⟨(HQX2.out.below hb).c0, (HQX2.out.below hb).c1⟩, ⟨(HQY.out.below hb).c0, (HQY.out.below hb).c1⟩⟩
      have CO := Lib.hid fun W (hw : Below W11.heap.size W11 W) => diff_Of _ _ a.files b.files a.turn b.turn W (HA.out.below (two (two HB.out HB7.out) (two HB11.out hw))) (HBF.out.below (two (two HB.out HB7.out) (two HB11.out hw))) HGA.out.fine.rises HGB.out.fine.rises HGA.out.fine.len HGB.out.fine.len
      have CD := Lib.hid fun W (hw : Below W11.heap.size W11 W) => ref_DiffOf _ _ a.files b.files a.turn b.turn W (HA.out.below (two (two HB.out HB7.out) (two HB11.out hw))) (HBF.out.below (two (two HB.out HB7.out) (two HB11.out hw))) HGA.out.fine.len HGB.out.fine.len
      obtain ⟨M, hM⟩ : ∃ M, M = mergeD a.files b.files := ⟨_, rfl⟩
      simp only [← hM] at CO CD
      have CT : Hid (∀ W v1 v2, Texts W v1 M → Texts W v2 M → Calls Try.prog 91 #[v1, v2] W fun e w' => e = .returned (.bool true) ∧ Below W.heap.size W w') := Lib.hid fun W v1 v2 h1 h2 => by
        have c := ref_SameTexts v1 v2 M M W h1 h2
        rw [decide_eq_true (rfl : M = M)] at c
        exact c
      have CE := Lib.hid fun W => same_eq p.2 W
      have CQ : Hid (∀ W, Below W11.heap.size W11 W → Calls Try.prog 22 #[.agg #[.slice xo p.1.files.length xc, .int .i64 p.1.turn], .agg #[.slice yo p.1.files.length yc, .int .i64 p.1.turn]] W fun e w' => e = .returned (.bool true) ∧ Below W.heap.size W w') := Lib.hid fun W hw => by
        have c := ref_SameQuilt _ _ p.1 p.1 W ⟨_, rfl, HFX2.out.below hw⟩ ⟨_, rfl, HFY.out.below hw⟩
        rw [decide_eq_true (rfl : p.1 = p.1)] at c
        exact c
      clear hM
      go_wp2_with fail
      rw [← HW11.out, ← HBX.out, ← HBY.out]
      go_region_held3 (fun W => ((W.cell? ⟨w.heap.size, 0, none⟩ = some (.slice ao a.files.length ca) ∧ W.cell? ⟨w.heap.size, 1, none⟩ = some (.int .i64 a.turn)) ∧ (W.cell? ⟨w.heap.size + 1, 0, none⟩ = some (.slice bo b.files.length cb) ∧ W.cell? ⟨w.heap.size + 1, 1, none⟩ = some (.int .i64 b.turn))) ∧ (W.cell? ⟨bx, 0, none⟩ = some (.slice xo p.1.files.length xc) ∧ W.cell? ⟨bx, 1, none⟩ = some (.int .i64 p.1.turn)) ∧ (W.cell? ⟨by_, 0, none⟩ = some (.slice yo p.1.files.length yc) ∧ W.cell? ⟨by_, 1, none⟩ = some (.int .i64 p.1.turn)))
        (first
          | exact HSK.out _ HSX.out
          | exact HSK.out _ (HEA : Hid _).out
          | exact HSK.out _ (HEB : Hid _).out
          | exact HSK.out _ (HEC : Hid _).out
          | exact HSK.out _ (HED : Hid _).out
          | exact HSK.out _ (HEE : Hid _).out)
        (first
          | (go_at_call 92; refine (CO.out _ HSX.out).mono ?_; rintro e wA ⟨v1, rfl, ht1, hbA⟩; have HEA := Lib.hid (two HSX.out hbA); have HT1 := Lib.hid ht1; clear ht1 hbA)
          | (go_at_call 93; refine (CD.out _ (HEA : Hid _).out).mono ?_; rintro e wB ⟨v2, rfl, ht2, hbB⟩; have HEB := Lib.hid (two (HEA : Hid _).out hbB); have HT1B := Lib.hid ((HT1 : Hid _).out.below hbB); have HT2 := Lib.hid ht2; clear ht2 hbB)
          | (go_at_call 91; refine (CT.out _ _ _ (HT1B : Hid _).out (HT2 : Hid _).out).mono ?_; rintro e wC ⟨rfl, hbC⟩; have HEC := Lib.hid (two (HEB : Hid _).out hbC); clear hbC)
          | (go_at_call 14; refine (CE.out _).mono ?_; rintro e wD ⟨rfl, hbD⟩; have HED := Lib.hid (two (HEC : Hid _).out hbD); clear hbD)
          | (go_at_call 22; refine (CQ.out _ (HED : Hid _).out).mono ?_; rintro e wE ⟨rfl, hbE⟩; have HEE := Lib.hid (two (HED : Hid _).out hbE); clear hbE))
      all_goals
        try go_wp2_with fail
        go_ret
        exact ⟨rfl, two HB.out (two HB7.out (two HB11.out HEE.out))⟩
end Go.Proofs.Ytggpodlecljcbaa
