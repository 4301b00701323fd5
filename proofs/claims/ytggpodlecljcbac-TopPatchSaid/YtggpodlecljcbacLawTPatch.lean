/- The walk of the statement TopPatch. -/
import Derived.Test.YtggpodlecljcbacLawTDiff
import Derived.Test.YtggpodlecljcbacSpecDq
import Derived.Test.YtggpodlecljcbacWalkDp
import Derived.Test.YtggpodlecljcbacWalkT3
namespace Go.Proofs.Ytggpodlecljcbac
open Go.RowKit Go.Sort
set_option linter.unusedSimpArgs false
set_option linter.unusedVariables false
theorem and1023' (n : Int) : ∃ m : Nat, bits .and .i64 n 1023 = (m : Int) ∧ m ≤ 1023 := by
  refine ⟨(BitVec.ofInt 64 n &&& BitVec.ofInt 64 1023).toNat, ?_, ?_⟩
  · show IntKind.i64.wrap ((BitVec.ofInt 64 n &&& BitVec.ofInt 64 1023).toNat : Int) = _
    have h : (BitVec.ofInt 64 n &&& BitVec.ofInt 64 1023).toNat ≤ 1023 := by
      rw [BitVec.toNat_and]
      exact Nat.le_trans Nat.and_le_right (by decide)
    rw [IntKind.wrap_i64]
    omega
  · rw [BitVec.toNat_and]
    exact Nat.le_trans Nat.and_le_right (by decide)
theorem texts_box {w : World} {v : Value} {l : List ByteArray} {b : Nat} (h : Texts w v l) (hb : NoStr w b) (i : Nat) (x : Value) (hx : ∀ s, x ≠ .string s) : Texts (w.setCell ⟨b, i, none⟩ x) v l := by
  obtain ⟨h0, ao, cap, h1, h2, h3, h4, h5⟩ := h
  refine ⟨h0, ao, cap, h1, h2, h3, h4, fun j u hj => ?_⟩
  obtain ⟨g, off, e, hc⟩ := h5 j u hj
  refine ⟨g, off, e, ?_⟩
  have hu : ∃ s, u = .string s := by
    have hm := List.mem_of_getElem? hj
    rw [List.mem_flatMap] at hm
    obtain ⟨s, _, hs⟩ := hm
    simp [strCells] at hs
    exact ⟨s, hs⟩
  obtain ⟨s, rfl⟩ := hu
  rw [World.cell?_setCell_other _ _ _ _ (by intro e; cases e; exact hb _ s hc)]
  exact hc
theorem texts_take {w : World} {ao : Option Addr} {n cap r : Nat} {l : List ByteArray} (h : Texts w (.slice ao n cap) l) (hr : r ≤ l.length) : Texts w (.slice ao r cap) (l.take r) := by
  obtain ⟨h0, ao', cap', h1, h2, h3, h4, h5⟩ := h
  cases h1
  have hlen : (l.take r).length = r := by rw [List.length_take]; omega
  have hfl : (l.take r).flatMap strCells = (l.flatMap strCells).take r := by rw [flat_strs, flat_strs]; unfold strs'; rw [List.map_take]
  refine ⟨by rw [hfl, hlen, List.length_take, flat_strs]; unfold strs'; rw [List.length_map]; omega, ao, cap, by rw [hlen], by omega, h3, fun _ e => ?_, fun j u hj => ?_⟩
  · have hl : l.length = 0 := by
      cases l with
      | nil => rfl
      | cons x r' =>
        obtain ⟨b, off, e2, _⟩ := h5 0 (.string x) rfl
        rw [e] at e2; cases e2
    exact h4 hl e
  · rw [hfl, List.getElem?_take] at hj
    split at hj
    · exact h5 j u hj
    · cases hj
theorem texts_box2 {w : World} {v : Value} {l : List ByteArray} {b : Nat} (h : Texts w v l) (hb : NoStr w b) (x : Value) (hx : ∀ s, x ≠ .string s) (t : Int) : Texts ((w.setCell ⟨b, 0, none⟩ x).setCell ⟨b, 1, none⟩ (.int .i64 t)) v l :=
  texts_box (texts_box h hb 0 x hx) (hb.set 0 x hx) 1 _ (fun s h => by cases h)
theorem one_text_at {w : World} {b : Nat} {x : ByteArray} (h : w.cell? ⟨b, 0, none⟩ = some (.string x)) : Texts w (.slice (some ⟨b, 0, none⟩) 1 1) [x] := by
  refine ⟨rfl, some ⟨b, 0, none⟩, 1, rfl, Nat.le_refl _, by decide, (fun _ h => by cases h), fun j u hj => ⟨b, 0, rfl, ?_⟩⟩
  rw [Nat.zero_add]
  match j, hj with
  | 0, hj => simp [strCells] at hj; subst hj; exact h
  | j + 1, hj => simp [strCells] at hj
/-- A quilt's box, still empty, laid behind a world. -/
structure ZB (W0 w : World) (b : Nat) : Prop where
  q : QAt w b (.slice none 0 0) 0
  le : W0.heap.size ≤ b
theorem ZB.below {W0 w w' : World} {b : Nat} (h : ZB W0 w b) (hb : Below w.heap.size w w') : ZB W0 w' b := ⟨h.q.below hb, h.le⟩
theorem ZB.new {W0 : World} (w : World) (h : Below W0.heap.size W0 w) : ZB W0 (w.alloc (.cells #[.slice none 0 0, .int .i64 0] 27)) w.heap.size := ⟨QAt.new w _ _ (fun s h => by cases h), h.size⟩
theorem ZB.new1 {W0 : World} (w : World) (o : Obj) (h : Below W0.heap.size W0 w) : ZB W0 ((w.alloc o).alloc (.cells #[.slice none 0 0, .int .i64 0] 27)) (w.heap.size + 1) := by
  have h1 := QAt.new (w.alloc o) (.slice none 0 0) 0 (fun s h => by cases h)
  have h2 : (w.alloc o).heap.size = w.heap.size + 1 := by simp
  rw [h2] at h1
  exact ⟨h1, Nat.le_succ_of_le h.size⟩
theorem below_set2 {B : Nat} {w0 w : World} (h : Below B w0 w) (b : Nat) (hb : B ≤ b) (x y : Value) : Below B w0 ((w.setCell ⟨b, 0, none⟩ x).setCell ⟨b, 1, none⟩ y) := (h.setCell (p := ⟨b, 0, none⟩) hb x).setCell (p := ⟨b, 1, none⟩) hb y
def QAt.world {w : World} {b : Nat} {v : Value} {t : Int} (_ : QAt w b v t) : World := w
def QAt.addr {w : World} {b : Nat} {v : Value} {t : Int} (_ : QAt w b v t) : Nat := b
set_option maxRecDepth 100000 in
set_option maxHeartbeats 8000000 in
theorem law_TopPatch (va : Value) (a : Quilt) (vb : Value) (b : Quilt) (few : Int) (w : World) (ha : Quilts w va a) (hb : Quilts w vb b) (hoa : ∀ f ∈ a.files, f.ok) (hob : ∀ f ∈ b.files, f.ok) :
    Calls Try.prog 6 #[va, vb, .int .i64 few] w fun e w' => e = .returned (.bool true) ∧ Below w.heap.size w w' := by
  have CFA := Lib.hid fun W hw => top_fineQuilt va a W (ha.below hw) hoa
  have CFB := Lib.hid fun W hw => top_fineQuilt vb b W (hb.below hw) hob
  obtain ⟨va, rfl, ha⟩ := ha
  obtain ⟨vb, rfl, hb⟩ := hb
  obtain ⟨ao, ca, rfl, hca, hca'⟩ := ha.parts
  obtain ⟨bo, cb, rfl, hcb, hcb'⟩ := hb.parts
  obtain ⟨W1, hW1⟩ : ∃ W1, W1 = w.alloc (.cells #[.slice ao a.files.length ca, .int .i64 a.turn] 27) := ⟨_, rfl⟩
  have B1 : Below w.heap.size w W1 := by rw [hW1]; exact below_alloc _ _
  have Q1 : QAt W1 w.heap.size (.slice ao a.files.length ca) a.turn := by rw [hW1]; exact QAt.new w _ _ (fun s h => by cases h)
  have hz1 : W1.heap.size = w.heap.size + 1 := by rw [hW1]; simp
  obtain ⟨W2, hW2⟩ : ∃ W2, W2 = W1.alloc (.cells #[.slice bo b.files.length cb, .int .i64 b.turn] 27) := ⟨_, rfl⟩
  have B2 : Below W1.heap.size W1 W2 := by rw [hW2]; exact below_alloc _ _
  have Q2 : QAt W2 (w.heap.size + 1) (.slice bo b.files.length cb) b.turn := by rw [hW2, ← hz1]; exact QAt.new W1 _ _ (fun s h => by cases h)
  have hz2 : W2.heap.size = w.heap.size + 1 + 1 := by rw [hW2]; simp [hz1]
  obtain ⟨W3, hW3⟩ : ∃ W3, W3 = W2.alloc (.cells #[.string ⟨#[97]⟩, .string ⟨#[]⟩, .int .i64 1] 41) := ⟨_, rfl⟩
  have B3 : Below W2.heap.size W2 W3 := by rw [hW3]; exact below_alloc _ _
  have F3 : Files W3 (.slice (some ⟨w.heap.size + 1 + 1, 0, none⟩) 1 1) [tdA] := one_file tdA (by rw [hW3, ← hz2]; simp [tdA]) (by rw [hW3, ← hz2]; simp [tdA]) (by rw [hW3, ← hz2]; simp [tdA])
  have hz3 : W3.heap.size = w.heap.size + 1 + 1 + 1 := by rw [hW3]; simp [hz2]
  obtain ⟨W4, hW4⟩ : ∃ W4, W4 = W3.alloc (.cells #[.slice (some ⟨w.heap.size + 1 + 1, 0, none⟩) 1 1, .int .i64 1] 27) := ⟨_, rfl⟩
  have B4 : Below W3.heap.size W3 W4 := by rw [hW4]; exact below_alloc _ _
  have Q4 : QAt W4 (w.heap.size + 1 + 1 + 1) (.slice (some ⟨w.heap.size + 1 + 1, 0, none⟩) 1 1) 1 := by rw [hW4, ← hz3]; exact QAt.new W3 _ _ (fun s h => by cases h)
  have HQ : Hid (∀ W, Below W4.heap.size W4 W → (W.cell? ⟨w.heap.size, 0, none⟩ = some (.slice ao a.files.length ca) ∧ W.cell? ⟨w.heap.size, 1, none⟩ = some (.int .i64 a.turn)) ∧ (W.cell? ⟨w.heap.size + 1, 0, none⟩ = some (.slice bo b.files.length cb) ∧ W.cell? ⟨w.heap.size + 1, 1, none⟩ = some (.int .i64 b.turn))) := Lib.hid fun W hb => ⟨⟨((Q1.below B2).below (two (two B3 B4) hb)).c0, ((Q1.below B2).below (two (two B3 B4) hb)).c1⟩, ⟨(Q2.below (two (two B3 B4) hb)).c0, (Q2.below (two (two B3 B4) hb)).c1⟩⟩
  have HQ4 : Hid (∀ W, Below W4.heap.size W4 W → W.cell? ⟨w.heap.size + 1 + 1 + 1, 0, none⟩ = some (.slice (some ⟨w.heap.size + 1 + 1, 0, none⟩) 1 1) ∧ W.cell? ⟨w.heap.size + 1 + 1 + 1, 1, none⟩ = some (.int .i64 1)) := Lib.hid fun W hb => ⟨(Q4.below hb).c0, (Q4.below hb).c1⟩
  have HF4 := Lib.hid (F3.below B4)
  have HB := Lib.hid (two (two B1 B2) (two B3 B4))
  have HA := Lib.hid ha
  have HBF := Lib.hid hb
  have HW1 := Lib.hid hW1
  have HW2 := Lib.hid hW2
  have HW3 := Lib.hid hW3
  have HW4 := Lib.hid hW4
  have HG1 : Hid (Good ⟨[], 1⟩) := Lib.hid good_new
  have HGT : Hid (Good ⟨[tdA], 1⟩) := Lib.hid ⟨⟨by simp, tdA_rises, by intro f hf; simp at hf; subst hf; decide⟩, by decide, by decide⟩
  have CPA : Hid (∀ (W : World) (vN : Value) (sb : Nat), Files W vN [] → Files W (.slice (some ⟨w.heap.size + 1 + 1, 0, none⟩) 1 1) [tdA] → W.cell? ⟨sb, 0, none⟩ = some (.string ⟨#[97]⟩) → Calls Try.prog 29 #[.agg #[vN, .int .i64 1], .agg #[.slice (some ⟨w.heap.size + 1 + 1, 0, none⟩) 1 1, .int .i64 1], .slice (some ⟨sb, 0, none⟩) 1 1] W (RetQE (⟨[tdA], 1⟩, 0) W)) := Lib.hid fun W vN sb h1 h2 h3 => by
    have c := diff_Patch vN _ _ ⟨[], 1⟩ ⟨[tdA], 1⟩ [⟨#[97]⟩] W h1 h2 (one_text_at h3) HG1.out.fine HGT.out.fine
    rw [td_patch] at c
    exact c
  unfold RetQE at CPA
  rw [show errV (((⟨[tdA], 1⟩, 0) : Quilt × Nat).2) = Value.nilIface from rfl] at CPA
  clear hW1 hW2 hW3 hW4 B1 B2 B3 B4 Q1 Q2 Q4 F3 hz1 hz2 hz3 ha hb hoa hob
  have HSX := Lib.hid (Below.refl W4.heap.size W4).drew
  have Z1 : Hid (ZB W4 (W4.alloc (.cells #[.slice none 0 0, .int .i64 0] 27)).drew W4.heap.size) := Lib.hid ((ZB.new W4 (Below.refl _ _)).below (Below.refl _ _).drew)
  have Z2 : Hid (ZB W4 ((W4.alloc (.cells #[.slice none 0 0, .int .i64 0] 27)).alloc (.cells #[.string ⟨#[97]⟩] 9)).drew W4.heap.size) := Lib.hid (((ZB.new W4 (Below.refl _ _)).below (below_alloc _ _)).below (Below.refl _ _).drew)
  have Z3 : Hid (ZB W4 ((W4.alloc (.cells #[.string ⟨#[97]⟩] 9)).alloc (.cells #[.slice none 0 0, .int .i64 0] 27)).drew (W4.heap.size + 1)) := Lib.hid ((ZB.new1 W4 _ (Below.refl _ _)).below (Below.refl _ _).drew)
  go_enter Try.func6, Try.ntmps6
  go_wp2_with fail
  rw [← HW1.out, ← HW2.out, ← HW3.out, ← HW4.out]
  go_region_held3 (fun W => W.cell? ⟨w.heap.size + 1 + 1 + 1, 0, none⟩ = some (.slice (some ⟨w.heap.size + 1 + 1, 0, none⟩) 1 1) ∧ W.cell? ⟨w.heap.size + 1 + 1 + 1, 1, none⟩ = some (.int .i64 1))
    (first
      | exact HQ4.out _ HSX.out
      | exact HQ4.out _ (below_alloc _ _).drew
      | exact HQ4.out _ (two (below_alloc _ _) (below_alloc _ _)).drew
      | exact HQ4.out _ (HEP : Hid _).out
      | exact HQ4.out _ (two (HEP : Hid _).out (below_alloc _ _))
      | exact HQ4.out _ (below_set2 (HEP : Hid _).out _ (HXP : Hid _).out.le _ _)
      | exact HQ4.out _ (HEN : Hid _).out
      | exact HQ4.out _ (two (HEN : Hid _).out (below_alloc _ _))
      | exact HQ4.out _ (two (HEN : Hid _).out (two (below_alloc _ _) (below_alloc _ _))))
    (first
      | (go_at_call 9; refine (quilt_New _).mono ?_; rintro e wN ⟨qn, rfl, ⟨vn, rfl, hfn⟩, hbN⟩; have HEN := Lib.hid (two (w := W4) (by first | exact HSX.out | exact (below_alloc _ _).drew | exact (two (below_alloc _ _) (below_alloc _ _)).drew) hbN); have HFN := Lib.hid hfn; have HBN := Lib.hid hbN; (try (have HXB := Lib.hid (ZB.below (by first | exact Z1.out | exact Z2.out | exact Z3.out) hbN))); clear hfn hbN)
      | (go_at_call 29; refine (CPA.out _ _ _ (by first | exact HFN.out | exact HFN.out.below (below_alloc _ _) | exact HFN.out.below (two (below_alloc _ _) (below_alloc _ _))) (by first | exact HF4.out.below HEN.out | exact HF4.out.below (two HEN.out (below_alloc _ _)) | exact HF4.out.below (two HEN.out (two (below_alloc _ _) (below_alloc _ _)))) (by first | (simp; done) | exact cell_on' HBN.out (by simp) | exact cell_on' (two HBN.out (below_alloc _ _)) (by simp))).mono ?_; rintro e wP ⟨qx, rfl, ⟨vx, rfl, hfx⟩, hbP⟩; have HEP := Lib.hid (two (w := W4) (by first | exact HEN.out | exact two HEN.out (below_alloc _ _) | exact two HEN.out (two (below_alloc _ _) (below_alloc _ _))) hbP); obtain ⟨xo, xc, rfl, _, _⟩ := hfx.parts; have HFX := Lib.hid hfx; (try (have HXP := Lib.hid (ZB.below (by first | exact (HXB : Hid _).out | exact (HXB : Hid _).out.below (below_alloc _ _) | exact ZB.new _ HEN.out | exact (ZB.new _ HEN.out).below (below_alloc _ _) | exact ZB.new1 _ _ HEN.out) hbP); have b0 := HXP.out.q.c0; have b1 := HXP.out.q.c1; have b2 := HXP.out.q.f0; have b3 := HXP.out.q.f1)); clear hfx hbP))
  all_goals
    first
      | (have hq5 := QAt.new wP (.slice xo 1 xc) 1 (files_not_str HFX.out)
         have hf5 : Files (wP.alloc (.cells #[.slice xo 1 xc, .int .i64 1] 27)) (.slice xo 1 xc) [tdA] := HFX.out.below (below_alloc wP _)
         have he5 : Below W4.heap.size W4 (wP.alloc (.cells #[.slice xo 1 xc, .int .i64 1] 27)) := two HEP.out (below_alloc wP _)
         obtain ⟨W5, hW5⟩ : ∃ W5, W5 = wP.alloc (.cells #[.slice xo 1 xc, .int .i64 1] 27) := ⟨_, rfl⟩
         obtain ⟨bx, hbx⟩ : ∃ bx, bx = wP.heap.size := ⟨_, rfl⟩
         have hl5 : W4.heap.size ≤ bx := by rw [hbx]; exact HEP.out.size
         rw [← hW5, ← hbx]
         rw [← hW5] at hq5 hf5 he5
         rw [← hbx] at hq5)
      | (have hq5 := HXP.out.q.set (.slice xo 1 xc) 1 (files_not_str HFX.out)
         have hf5 := files_set_box HFX.out HXP.out.q.ns (.slice xo 1 xc) (files_not_str HFX.out) 1
         have he5 := below_set2 HEP.out _ HXP.out.le (.slice xo 1 xc) (.int .i64 1)
         obtain ⟨W5, hW5⟩ : ∃ W5, W5 = hq5.world := ⟨_, rfl⟩
         obtain ⟨bx, hbx⟩ : ∃ bx, bx = hq5.addr := ⟨_, rfl⟩
         dsimp only [QAt.world, QAt.addr] at hW5 hbx
         have hl5 : W4.heap.size ≤ bx := by rw [hbx]; exact HXP.out.le
         rw [← hW5, ← hbx]
         rw [← hW5] at hq5 hf5 he5
         rw [← hbx] at hq5)
  all_goals
    have HQ5 := Lib.hid hq5
    have HF5 : Hid (Files W5 (.slice xo 1 xc) [tdA]) := Lib.hid hf5
    have HE5 := Lib.hid he5
    have HL5 := Lib.hid hl5
    clear hW5 hbx hq5 hf5 he5 hl5 HFX HFN HBN HEN HEP
    (try clear HXP)
    (try clear HXB)
    (try clear b0 b1 b2 b3)
    have c0 := HQ5.out.c0
    have c1 := HQ5.out.c1
    obtain ⟨d0, d1⟩ := HQ4.out _ HE5.out
    have C1 := ref_SameQuilt _ _ ⟨[tdA], 1⟩ ⟨[tdA], 1⟩ W5 ⟨_, rfl, HF5.out⟩ ⟨_, rfl, HF4.out.below HE5.out⟩
    rw [decide_eq_true (rfl : (⟨[tdA], 1⟩ : Quilt) = ⟨[tdA], 1⟩)] at C1
    replace C1 := Lib.hid C1
    go_wp2_with fail
    refine C1.out.mono ?_
    rintro e w6 ⟨rfl, hb6⟩
    have HQ6 := Lib.hid (HQ5.out.below hb6)
    have HE6 := Lib.hid (two HE5.out hb6)
    clear hb6 c0 c1 d0 d1 C1
    obtain ⟨⟨q0, q1⟩, q2, q3⟩ := HQ.out _ HE6.out
    go_wp2_with fail
    refine (CFA.out _ (two HB.out HE6.out)).mono ?_
    rintro e w7 ⟨rfl, hb7⟩
    have HQ7 := Lib.hid (HQ6.out.below hb7)
    have HE7 := Lib.hid (two HE6.out hb7)
    clear hb7 q0 q1 q2 q3
    obtain ⟨⟨q0, q1⟩, q2, q3⟩ := HQ.out _ HE7.out
    cases hfa : fineQ a
    · go_wp2_with fail
      go_ret
      exact ⟨rfl, two HB.out HE7.out⟩
    have HGA : Hid (Good a) := Lib.hid (by
      unfold fineQ at hfa
      simp only [Bool.and_eq_true, decide_eq_true_eq] at hfa
      exact (good_iff a).1 hfa.2)
    clear hfa
    go_wp2_with fail
    refine (CFB.out _ (two HB.out HE7.out)).mono ?_
    rintro e w8 ⟨rfl, hb8⟩
    have HQ8 := Lib.hid (HQ7.out.below hb8)
    have HE8 := Lib.hid (two HE7.out hb8)
    clear hb8 q0 q1 q2 q3
    obtain ⟨⟨q0, q1⟩, q2, q3⟩ := HQ.out _ HE8.out
    cases hfb : fineQ b
    · go_wp2_with fail
      go_ret
      exact ⟨rfl, two HB.out HE8.out⟩
    have HGB : Hid (Good b) := Lib.hid (by
      unfold fineQ at hfb
      simp only [Bool.and_eq_true, decide_eq_true_eq] at hfb
      exact (good_iff b).1 hfb.2)
    clear hfb
    have CO := diff_Of _ _ a.files b.files a.turn b.turn w8 (HA.out.below (two HB.out HE8.out)) (HBF.out.below (two HB.out HE8.out)) HGA.out.fine.rises HGB.out.fine.rises HGA.out.fine.len HGB.out.fine.len
    have HML : Hid ((mergeD a.files b.files).length ≤ 16) := Lib.hid (by
      have h := (merge_perm HGA.out.fine.rises HGB.out.fine.rises).length_eq
      have h1 := raw1_len a.files b.files
      have h2 := raw2_len a.files b.files
      have h3 := HGA.out.fine.len
      have h4 := HGB.out.fine.len
      unfold rawD at h
      rw [List.length_append] at h
      omega)
    have HPL := Lib.hid (patched_all HGA.out HGB.out)
    have HPP := Lib.hid (patched_part HGA.out HGB.out)
    obtain ⟨M, hM⟩ : ∃ M, M = mergeD a.files b.files := ⟨_, rfl⟩
    rw [← hM] at CO HML HPL HPP
    replace CO := Lib.hid CO
    clear hM
    go_wp2_with fail
    refine CO.out.mono ?_
    rintro e w9 ⟨v9, rfl, ht9, hb9⟩
    obtain ⟨mo, mc, rfl, hmc, hmc'⟩ := ht9.parts
    have HT9 := Lib.hid ht9
    have HQ9 := Lib.hid (HQ8.out.below hb9)
    have HE9 := Lib.hid (two HE8.out hb9)
    clear ht9 hb9 q0 q1 q2 q3
    obtain ⟨⟨q0, q1⟩, q2, q3⟩ := HQ.out _ HE9.out
    have CP := diff_Patch _ _ _ a b M w9 (HA.out.below (two HB.out HE9.out)) (HBF.out.below (two HB.out HE9.out)) HT9.out HGA.out.fine HGB.out.fine
    rw [HPL.out] at CP
    unfold RetQE at CP
    rw [show errV (((b, 0) : Quilt × Nat).2) = Value.nilIface from rfl] at CP
    replace CP := Lib.hid CP
    go_wp2_with fail
    refine CP.out.mono ?_
    rintro e w10 ⟨qx, rfl, ⟨vx, rfl, hfx⟩, hb10⟩
    obtain ⟨zo, zc, rfl, _, _⟩ := hfx.parts
    have HFZ := Lib.hid hfx
    have HT10 := Lib.hid (HT9.out.below hb10)
    have HQ10 := Lib.hid (HQ9.out.below hb10)
    have HE10 := Lib.hid (two HE9.out hb10)
    clear hfx hb10 q0 q1 q2 q3
    have b0 := HQ10.out.c0
    have b1 := HQ10.out.c1
    have b2 := HQ10.out.f0
    have b3 := HQ10.out.f1
    obtain ⟨W11, hW11⟩ : ∃ W11, W11 = (w10.setCell ⟨bx, 0, none⟩ (.slice zo b.files.length zc)).setCell ⟨bx, 1, none⟩ (.int .i64 b.turn) := ⟨_, rfl⟩
    have HQ11 : Hid (QAt W11 bx (.slice zo b.files.length zc) b.turn) := Lib.hid (by rw [hW11]; exact HQ10.out.set _ _ (files_not_str HFZ.out))
    have HF11 : Hid (Files W11 (.slice zo b.files.length zc) b.files) := Lib.hid (by rw [hW11]; exact files_set_box HFZ.out HQ10.out.ns _ (files_not_str HFZ.out) _)
    have HE11 : Hid (Below W4.heap.size W4 W11) := Lib.hid (by rw [hW11]; exact below_set2 HE10.out _ HL5.out _ _)
    have HT11 : Hid (Texts W11 (.slice mo M.length mc) M) := Lib.hid (by rw [hW11]; exact texts_box2 HT10.out HQ10.out.ns _ (files_not_str HFZ.out) _)
    have HW11 := Lib.hid hW11
    have c0 := HQ11.out.c0
    have c1 := HQ11.out.c1
    obtain ⟨⟨q0, q1⟩, q2, q3⟩ := HQ.out _ HE11.out
    rw [HW11.out] at c0 c1 q0 q1 q2 q3
    have C2 := ref_SameQuilt _ _ b b W11 ⟨_, rfl, HF11.out⟩ ⟨_, rfl, HBF.out.below (two HB.out HE11.out)⟩
    rw [decide_eq_true (rfl : b = b)] at C2
    replace C2 := Lib.hid C2
    clear hW11
    go_wp2_with fail
    rw [← HW11.out]
    refine C2.out.mono ?_
    rintro e w12 ⟨rfl, hb12⟩
    have HT12 := Lib.hid (HT11.out.below hb12)
    have HE12 := Lib.hid (two HE11.out hb12)
    clear hb12 c0 c1 q0 q1 q2 q3 b0 b1 b2 b3
    obtain ⟨⟨q0, q1⟩, q2, q3⟩ := HQ.out _ HE12.out
    obtain ⟨m, hm, hm3⟩ := and1023' few
    obtain ⟨r, hr⟩ : ∃ r, r = m % (M.length + 1) := ⟨_, rfl⟩
    have hrl : r ≤ M.length := by rw [hr]; have := Nat.mod_lt m (show 0 < M.length + 1 by omega); omega
    have hmr : ((m : Int).tmod ((M.length : Int) + 1)) = (r : Int) := by
      rw [hr, Int.tmod_eq_emod_of_nonneg (by omega), Int.natCast_emod]
      rfl
    have HRL := Lib.hid hrl
    have hml := HML.out
    clear hr
    have C3 := diff_Patch _ _ _ a b (M.take r) w12 (HA.out.below (two HB.out HE12.out)) (HBF.out.below (two HB.out HE12.out)) (texts_take HT12.out hrl) HGA.out.fine HGB.out.fine
    have HP7 := Lib.hid (patched_err (a := a) HGB.out (M.take r))
    have HPR := Lib.hid fun h => HPP.out r hrl h
    have HPF := Lib.hid fun h => (patched_get HGA.out HGB.out (M.take r) h).1
    obtain ⟨p, hp⟩ : ∃ p, p = patchedQ a b (M.take r) := ⟨_, rfl⟩
    rw [← hp] at C3 HP7 HPR HPF
    unfold RetQE at C3
    replace C3 := Lib.hid C3
    clear hp
    go_wp2_with fail
    refine C3.out.mono ?_
    rintro e w13 ⟨qy, rfl, ⟨vy, rfl, hfy⟩, hb13⟩
    obtain ⟨yo, yc, rfl, _, _⟩ := hfy.parts
    obtain ⟨W14, hW14⟩ : ∃ W14, W14 = w13.alloc (.cells #[.slice yo p.1.files.length yc, .int .i64 p.1.turn] 27) := ⟨_, rfl⟩
    have HQ14 : Hid (QAt W14 w13.heap.size (.slice yo p.1.files.length yc) p.1.turn) := Lib.hid (by rw [hW14]; exact QAt.new w13 _ _ (files_not_str hfy))
    have HF14 : Hid (Files W14 (.slice yo p.1.files.length yc) p.1.files) := Lib.hid (by rw [hW14]; exact hfy.below (below_alloc _ _))
    have HE14 : Hid (Below W4.heap.size W4 W14) := Lib.hid (by rw [hW14]; exact two HE12.out (two hb13 (below_alloc _ _)))
    have HW14 := Lib.hid hW14
    clear hfy hb13 hW14 q0 q1 q2 q3
    by_cases hp0 : p.2 = 0
    · have hev : errV p.2 = .nilIface := by rw [hp0]; rfl
      have HLN := Lib.hid (HPR.out hp0)
      have HFN := Lib.hid (HPF.out hp0)
      clear hp0
      have c0 := HQ14.out.c0
      have c1 := HQ14.out.c1
      obtain ⟨⟨q0, q1⟩, q2, q3⟩ := HQ.out _ HE14.out
      rw [HW14.out] at c0 c1 q0 q1 q2 q3
      have C4 := diff_Of _ _ p.1.files b.files p.1.turn b.turn W14 HF14.out (HBF.out.below (two HB.out HE14.out)) HFN.out.rises HGB.out.fine.rises HFN.out.len HGB.out.fine.len
      obtain ⟨M2, hM2⟩ : ∃ M2, M2 = mergeD p.1.files b.files := ⟨_, rfl⟩
      rw [← hM2] at C4 HLN
      replace C4 := Lib.hid C4
      have hsub : (M.length : Int) - (r : Int) = (M2.length : Int) := by have := HLN.out; omega
      clear hM2
      go_wp2_with fail
      rw [← HW14.out]
      refine C4.out.mono ?_
      rintro e w15 ⟨v15, rfl, ht15, hb15⟩
      obtain ⟨lo, lc, rfl, _, _⟩ := ht15.parts
      have HE15 := Lib.hid (two HE14.out hb15)
      clear ht15 hb15
      go_wp2_with fail
      go_ret
      exact ⟨rfl, two HB.out HE15.out⟩
    · have h7 : p.2 = 7 := HP7.out hp0
      have hev : errV p.2 = .iface 70 (.int .i64 (7 : Nat)) := by rw [h7]; rfl
      clear hp0 h7
      go_wp2_with fail
      rw [← HW14.out]
      refine (top_number_some 7 _).mono ?_
      rintro e w15 ⟨rfl, hq⟩
      rw [hq]
      clear hq
      go_wp2_with fail
      go_ret
      exact ⟨rfl, two HB.out HE14.out⟩
end Go.Proofs.Ytggpodlecljcbac
