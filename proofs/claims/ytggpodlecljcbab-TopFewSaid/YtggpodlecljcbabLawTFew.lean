/- The walk of the statement TopFew. -/
import Derived.Test.YtggpodlecljcbabWalkT2
import Derived.Test.YtggpodlecljcbabWalkB
import Derived.Test.YtggpodlecljcbabSpecT2
namespace Go.Proofs.Ytggpodlecljcbab
open Go.RowKit Go.Sort
set_option linter.unusedSimpArgs false
set_option linter.unusedVariables false

set_option maxRecDepth 100000 in
set_option maxHeartbeats 4000000 in
theorem law_TopFew (va : Value) (avs : List ActV) (al : List Act) (name text : ByteArray) (w : World) (hav : ActVs w va avs) (haa : IsActs w avs al) (hak : ∀ a ∈ al, a.ok) (hname : name.size ≤ maxLen) (htext : text.size ≤ maxLen) :
    Calls Try.prog 11 #[va, .string name, .string text] w fun e w' => e = .returned (.bool true) ∧ Below w.heap.size w w' := by
  have CB := Lib.hid (top_began w)
  obtain ⟨vo, vc, rfl, hvc, hvm⟩ := hav.parts
  have hmname : name.size ≤ 9223372036854775807 := by unfold maxLen at hname; omega
  have HMname := Lib.hid hname
  have hmtext : text.size ≤ 9223372036854775807 := by unfold maxLen at htext; omega
  have HMtext := Lib.hid htext
  have HAV := Lib.hid hav
  have HAA := Lib.hid haa
  have HAK : Hid (∀ a ∈ al, a.ok) := Lib.hid hak
  clear hav haa hak hname htext
  cases hlg : lightActs al 60
  · have CG := Lib.hid fun W (hb : Below w.heap.size w W) => top_grown_no _ avs al W (HAV.out.below hb) (HAA.out.below hb) HAK.out hlg
    clear hlg
    go_enter Try.func11, Try.ntmps11
    go_wp2_with fail
    refine CB.out.mono ?_
    rintro e w1 ⟨rfl, hb1⟩
    have HB1 := Lib.hid hb1
    clear hb1
    go_wp2_with fail
    refine (CG.out _ HB1.out).mono ?_
    rintro e w2 ⟨qo, qc, rfl, hb2⟩
    have HB2 := Lib.hid (two (two HB1.out hb2) (below_alloc w2 (.cells #[.slice qo 0 qc, .int .i64 0] 24)))
    clear hb2
    go_wp2_with fail
    go_ret
    exact ⟨rfl, HB2.out⟩
  · have CG := Lib.hid fun W (hb : Below w.heap.size w W) => top_grown_yes _ avs al W (HAV.out.below hb) (HAA.out.below hb) HAK.out hlg
    have HGQ := Lib.hid (grown_fit hlg)
    have HGT := Lib.hid (grown_times hlg)
    obtain ⟨q, hq⟩ : ∃ q, q = grownQ al := ⟨_, rfl⟩
    rw [← hq] at CG HGQ HGT
    clear hq hlg
    have HG : Hid (Good q) := Lib.hid HGQ.out.1
    have hq8 := HGQ.out.1.fine.len
    have hqt := HGQ.out.2
    have hq1 := HGQ.out.1.lo
    by_cases hg0 : 20 < name.size
    · go_enter Try.func11, Try.ntmps11
      go_wp2_with fail
      refine CB.out.mono ?_
      rintro e w1 ⟨rfl, hb1⟩
      have HB1 := Lib.hid hb1
      clear hb1
      go_wp2_with fail
      refine (CG.out _ HB1.out).mono ?_
      rintro e w2 ⟨qo, qc, rfl, hf2, hb2⟩
      have HB2 := Lib.hid (two (two HB1.out hb2) (below_alloc w2 (.cells #[.slice qo q.files.length qc, .int .i64 q.turn] 24)))
      clear hb2 hf2
      go_wp2_with fail
      go_ret
      exact ⟨rfl, HB2.out⟩
    by_cases hg1 : 40 < text.size
    · go_enter Try.func11, Try.ntmps11
      go_wp2_with fail
      refine CB.out.mono ?_
      rintro e w1 ⟨rfl, hb1⟩
      have HB1 := Lib.hid hb1
      clear hb1
      go_wp2_with fail
      refine (CG.out _ HB1.out).mono ?_
      rintro e w2 ⟨qo, qc, rfl, hf2, hb2⟩
      have HB2 := Lib.hid (two (two HB1.out hb2) (below_alloc w2 (.cells #[.slice qo q.files.length qc, .int .i64 q.turn] 24)))
      clear hb2 hf2
      go_wp2_with fail
      go_ret
      exact ⟨rfl, HB2.out⟩
    obtain ⟨f, hf⟩ : ∃ x, x = fileOr (getAt q.files name) := ⟨_, rfl⟩
    replace hf := Lib.hid hf
    cases hfi0 : (getAt q.files name).isSome
    · have hfi : Hid (false = (getAt q.files name).isSome) := Lib.hid hfi0.symm
      by_cases h8 : q.files.length = 8
      · have h0 := few_full (t := text) h8 hfi0
        have h7 : 7 < q.files.length := by omega
        clear hfi0 h8
        have hev := errV_pos h0
        clear h0
        go_enter Try.func11, Try.ntmps11
        go_wp2_with fail
        refine CB.out.mono ?_
        rintro e w1 ⟨rfl, hb1⟩
        have HB1 := Lib.hid hb1
        clear hb1
        go_wp2_with fail
        refine (CG.out _ HB1.out).mono ?_
        rintro e w2 ⟨qo, qc, rfl, hf2, hb2⟩
        obtain ⟨W2, hW2⟩ : ∃ W2, W2 = w2.alloc (.cells #[.slice qo q.files.length qc, .int .i64 q.turn] 24) := ⟨_, rfl⟩
        have HB2 : Hid (Below w.heap.size w W2) := Lib.hid (by rw [hW2]; exact two (two HB1.out hb2) (below_alloc _ _))
        have QBq : Hid (QAt W2 w2.heap.size (.slice qo q.files.length qc) q.turn) := Lib.hid (by rw [hW2]; exact QAt.new w2 _ _ (files_not_str hf2))
        have FQq : Hid (Files W2 (.slice qo q.files.length qc) q.files) := Lib.hid (by rw [hW2]; exact hf2.below (below_alloc _ _))
        have HW2 := Lib.hid hW2
        clear hW2 hb2 hf2
        have C := shelf_Get _ q.files name W2 (FQq.out.below (Below.refl _ _)) hq8 HG.out.fine.rises
        unfold RetFile File.val at C
        rw [← hf.out, ← hfi.out] at C
        replace C := Lib.hid C
        go_wp2_with fail
        rw [← HW2.out]
        refine C.out.mono ?_
        rintro e w3 ⟨rfl, hb3⟩
        clear C
        obtain ⟨W3, hW3⟩ : ∃ W3, W3 = w3.alloc (.cells #[.string (f).name, .string (f).text, .int .i64 (f).times] 57) := ⟨_, rfl⟩
        have HB3 : Hid (Below w.heap.size w W3) := Lib.hid (by rw [hW3]; exact two (two HB2.out hb3) (below_alloc _ _))
        have BXf : Hid (BoxF w3.heap.size (f) W3) := Lib.hid (by rw [hW3]; exact box_new w3 _)
        have BT3 : Hid (Below W2.heap.size W2 W3) := Lib.hid (by rw [hW3]; exact two hb3 (below_alloc _ _))
        have BN3 : Hid (Below W2.heap.size W2 w3) := Lib.hid hb3
        have HW3 := Lib.hid hW3
        clear hW3 hb3
        have C := quilt_Write _ q name text W3 ⟨_, rfl, FQq.out.below BT3.out⟩ HG.out HMname.out HMtext.out
        unfold RetQE at C
        rw [hev] at C
        replace C := Lib.hid C
        have zz := QBq.out.below BT3.out
        have zq0 := zz.c0
        have zq1 := zz.c1
        clear zz
        rw [HW3.out] at zq0 zq1
        go_wp2_with fail
        rw [← HW3.out]
        refine C.out.mono ?_
        clear zq0 zq1
        rintro e w4 ⟨qx, rfl, ⟨vx, rfl, hf4⟩, hb4⟩
        clear C
        obtain ⟨xo, xc, rfl, _, _⟩ := hf4.parts
        obtain ⟨x, hxx⟩ : ∃ x, x = (writtenQ q name text).1 := ⟨_, rfl⟩
        rw [← hxx] at hf4 ⊢
        clear hxx
        obtain ⟨W4, hW4⟩ : ∃ W4, W4 = w4.alloc (.cells #[.slice xo x.files.length xc, .int .i64 x.turn] 24) := ⟨_, rfl⟩
        have HB4 : Hid (Below w.heap.size w W4) := Lib.hid (by rw [hW4]; exact two (two HB3.out hb4) (below_alloc _ _))
        have QBx : Hid (QAt W4 w4.heap.size (.slice xo x.files.length xc) x.turn) := Lib.hid (by rw [hW4]; exact QAt.new w4 _ _ (files_not_str hf4))
        have FQx : Hid (Files W4 (.slice xo x.files.length xc) x.files) := Lib.hid (by rw [hW4]; exact hf4.below (below_alloc _ _))
        have HW4 := Lib.hid hW4
        have BT4 : Hid (Below W3.heap.size W3 W4) := Lib.hid (by rw [hW4]; exact two hb4 (below_alloc _ _))
        have BN4 : Hid (Below W3.heap.size W3 w4) := Lib.hid hb4
        clear hW4 hb4 hf4
        have zz := QBq.out.below (two BT3.out BT4.out)
        have zq0 := zz.c0
        have zq1 := zz.c1
        clear zz
        rw [HW4.out] at zq0 zq1
        go_wp2_with fail
        go_ret
        exact ⟨by first | rfl | exact ret_bool (by simp; omega), by first | exact HB4.out | (rw [← HW4.out]; exact HB4.out)⟩
      · clear hfi0
        by_cases h0 : (writtenQ q name text).2 = 0
        · skip
          have hev : errV (writtenQ q name text).2 = .nilIface := by rw [h0]; rfl
          clear h0
          go_enter Try.func11, Try.ntmps11
          go_wp2_with fail
          refine CB.out.mono ?_
          rintro e w1 ⟨rfl, hb1⟩
          have HB1 := Lib.hid hb1
          clear hb1
          go_wp2_with fail
          refine (CG.out _ HB1.out).mono ?_
          rintro e w2 ⟨qo, qc, rfl, hf2, hb2⟩
          obtain ⟨W2, hW2⟩ : ∃ W2, W2 = w2.alloc (.cells #[.slice qo q.files.length qc, .int .i64 q.turn] 24) := ⟨_, rfl⟩
          have HB2 : Hid (Below w.heap.size w W2) := Lib.hid (by rw [hW2]; exact two (two HB1.out hb2) (below_alloc _ _))
          have QBq : Hid (QAt W2 w2.heap.size (.slice qo q.files.length qc) q.turn) := Lib.hid (by rw [hW2]; exact QAt.new w2 _ _ (files_not_str hf2))
          have FQq : Hid (Files W2 (.slice qo q.files.length qc) q.files) := Lib.hid (by rw [hW2]; exact hf2.below (below_alloc _ _))
          have HW2 := Lib.hid hW2
          clear hW2 hb2 hf2
          have C := shelf_Get _ q.files name W2 (FQq.out.below (Below.refl _ _)) hq8 HG.out.fine.rises
          unfold RetFile File.val at C
          rw [← hf.out, ← hfi.out] at C
          replace C := Lib.hid C
          go_wp2_with fail
          rw [← HW2.out]
          refine C.out.mono ?_
          rintro e w3 ⟨rfl, hb3⟩
          clear C
          obtain ⟨W3, hW3⟩ : ∃ W3, W3 = w3.alloc (.cells #[.string (f).name, .string (f).text, .int .i64 (f).times] 57) := ⟨_, rfl⟩
          have HB3 : Hid (Below w.heap.size w W3) := Lib.hid (by rw [hW3]; exact two (two HB2.out hb3) (below_alloc _ _))
          have BXf : Hid (BoxF w3.heap.size (f) W3) := Lib.hid (by rw [hW3]; exact box_new w3 _)
          have BT3 : Hid (Below W2.heap.size W2 W3) := Lib.hid (by rw [hW3]; exact two hb3 (below_alloc _ _))
          have BN3 : Hid (Below W2.heap.size W2 w3) := Lib.hid hb3
          have HW3 := Lib.hid hW3
          clear hW3 hb3
          have C := quilt_Write _ q name text W3 ⟨_, rfl, FQq.out.below BT3.out⟩ HG.out HMname.out HMtext.out
          unfold RetQE at C
          rw [hev] at C
          replace C := Lib.hid C
          have zz := QBq.out.below BT3.out
          have zq0 := zz.c0
          have zq1 := zz.c1
          clear zz
          rw [HW3.out] at zq0 zq1
          go_wp2_with fail
          rw [← HW3.out]
          refine C.out.mono ?_
          clear zq0 zq1
          rintro e w4 ⟨qx, rfl, ⟨vx, rfl, hf4⟩, hb4⟩
          clear C
          obtain ⟨xo, xc, rfl, _, _⟩ := hf4.parts
          obtain ⟨x, hxx⟩ : ∃ x, x = (writtenQ q name text).1 := ⟨_, rfl⟩
          rw [← hxx] at hf4 ⊢
          clear hxx
          obtain ⟨W4, hW4⟩ : ∃ W4, W4 = w4.alloc (.cells #[.slice xo x.files.length xc, .int .i64 x.turn] 24) := ⟨_, rfl⟩
          have HB4 : Hid (Below w.heap.size w W4) := Lib.hid (by rw [hW4]; exact two (two HB3.out hb4) (below_alloc _ _))
          have QBx : Hid (QAt W4 w4.heap.size (.slice xo x.files.length xc) x.turn) := Lib.hid (by rw [hW4]; exact QAt.new w4 _ _ (files_not_str hf4))
          have FQx : Hid (Files W4 (.slice xo x.files.length xc) x.files) := Lib.hid (by rw [hW4]; exact hf4.below (below_alloc _ _))
          have HW4 := Lib.hid hW4
          have BT4 : Hid (Below W3.heap.size W3 W4) := Lib.hid (by rw [hW4]; exact two hb4 (below_alloc _ _))
          have BN4 : Hid (Below W3.heap.size W3 w4) := Lib.hid hb4
          clear hW4 hb4 hf4
          have zz := QBq.out.below (two BT3.out BT4.out)
          have zq0 := zz.c0
          have zq1 := zz.c1
          clear zz
          rw [HW4.out] at zq0 zq1
          go_wp2_with fail
          go_ret
          exact ⟨by first | rfl | exact ret_bool (by simp; omega), by first | exact HB4.out | (rw [← HW4.out]; exact HB4.out)⟩
        · skip
          have hev := errV_pos h0
          clear h0
          go_enter Try.func11, Try.ntmps11
          go_wp2_with fail
          refine CB.out.mono ?_
          rintro e w1 ⟨rfl, hb1⟩
          have HB1 := Lib.hid hb1
          clear hb1
          go_wp2_with fail
          refine (CG.out _ HB1.out).mono ?_
          rintro e w2 ⟨qo, qc, rfl, hf2, hb2⟩
          obtain ⟨W2, hW2⟩ : ∃ W2, W2 = w2.alloc (.cells #[.slice qo q.files.length qc, .int .i64 q.turn] 24) := ⟨_, rfl⟩
          have HB2 : Hid (Below w.heap.size w W2) := Lib.hid (by rw [hW2]; exact two (two HB1.out hb2) (below_alloc _ _))
          have QBq : Hid (QAt W2 w2.heap.size (.slice qo q.files.length qc) q.turn) := Lib.hid (by rw [hW2]; exact QAt.new w2 _ _ (files_not_str hf2))
          have FQq : Hid (Files W2 (.slice qo q.files.length qc) q.files) := Lib.hid (by rw [hW2]; exact hf2.below (below_alloc _ _))
          have HW2 := Lib.hid hW2
          clear hW2 hb2 hf2
          have C := shelf_Get _ q.files name W2 (FQq.out.below (Below.refl _ _)) hq8 HG.out.fine.rises
          unfold RetFile File.val at C
          rw [← hf.out, ← hfi.out] at C
          replace C := Lib.hid C
          go_wp2_with fail
          rw [← HW2.out]
          refine C.out.mono ?_
          rintro e w3 ⟨rfl, hb3⟩
          clear C
          obtain ⟨W3, hW3⟩ : ∃ W3, W3 = w3.alloc (.cells #[.string (f).name, .string (f).text, .int .i64 (f).times] 57) := ⟨_, rfl⟩
          have HB3 : Hid (Below w.heap.size w W3) := Lib.hid (by rw [hW3]; exact two (two HB2.out hb3) (below_alloc _ _))
          have BXf : Hid (BoxF w3.heap.size (f) W3) := Lib.hid (by rw [hW3]; exact box_new w3 _)
          have BT3 : Hid (Below W2.heap.size W2 W3) := Lib.hid (by rw [hW3]; exact two hb3 (below_alloc _ _))
          have BN3 : Hid (Below W2.heap.size W2 w3) := Lib.hid hb3
          have HW3 := Lib.hid hW3
          clear hW3 hb3
          have C := quilt_Write _ q name text W3 ⟨_, rfl, FQq.out.below BT3.out⟩ HG.out HMname.out HMtext.out
          unfold RetQE at C
          rw [hev] at C
          replace C := Lib.hid C
          have zz := QBq.out.below BT3.out
          have zq0 := zz.c0
          have zq1 := zz.c1
          clear zz
          rw [HW3.out] at zq0 zq1
          go_wp2_with fail
          rw [← HW3.out]
          refine C.out.mono ?_
          clear zq0 zq1
          rintro e w4 ⟨qx, rfl, ⟨vx, rfl, hf4⟩, hb4⟩
          clear C
          obtain ⟨xo, xc, rfl, _, _⟩ := hf4.parts
          obtain ⟨x, hxx⟩ : ∃ x, x = (writtenQ q name text).1 := ⟨_, rfl⟩
          rw [← hxx] at hf4 ⊢
          clear hxx
          obtain ⟨W4, hW4⟩ : ∃ W4, W4 = w4.alloc (.cells #[.slice xo x.files.length xc, .int .i64 x.turn] 24) := ⟨_, rfl⟩
          have HB4 : Hid (Below w.heap.size w W4) := Lib.hid (by rw [hW4]; exact two (two HB3.out hb4) (below_alloc _ _))
          have QBx : Hid (QAt W4 w4.heap.size (.slice xo x.files.length xc) x.turn) := Lib.hid (by rw [hW4]; exact QAt.new w4 _ _ (files_not_str hf4))
          have FQx : Hid (Files W4 (.slice xo x.files.length xc) x.files) := Lib.hid (by rw [hW4]; exact hf4.below (below_alloc _ _))
          have HW4 := Lib.hid hW4
          have BT4 : Hid (Below W3.heap.size W3 W4) := Lib.hid (by rw [hW4]; exact two hb4 (below_alloc _ _))
          have BN4 : Hid (Below W3.heap.size W3 w4) := Lib.hid hb4
          clear hW4 hb4 hf4
          have zz := QBq.out.below (two BT3.out BT4.out)
          have zq0 := zz.c0
          have zq1 := zz.c1
          clear zz
          rw [HW4.out] at zq0 zq1
          go_wp2_with fail
          go_ret
          exact ⟨by first | rfl | exact ret_bool (by simp; omega), by first | exact HB4.out | (rw [← HW4.out]; exact HB4.out)⟩
    · have hfi : Hid (true = (getAt q.files name).isSome) := Lib.hid hfi0.symm
      have HFW := few_is (t := text) HG.out hqt HGT.out hfi0
      clear hfi0
      by_cases h8 : q.files.length = 8
      · have h7 : 7 < q.files.length := by omega
        clear h8
        by_cases hsz : text.size ≤ 12
        · have h0 : (writtenQ q name text).2 = 0 := by exact HFW.2 hsz
          clear HFW
          have hev : errV (writtenQ q name text).2 = .nilIface := by rw [h0]; rfl
          clear h0
          go_enter Try.func11, Try.ntmps11
          go_wp2_with fail
          refine CB.out.mono ?_
          rintro e w1 ⟨rfl, hb1⟩
          have HB1 := Lib.hid hb1
          clear hb1
          go_wp2_with fail
          refine (CG.out _ HB1.out).mono ?_
          rintro e w2 ⟨qo, qc, rfl, hf2, hb2⟩
          obtain ⟨W2, hW2⟩ : ∃ W2, W2 = w2.alloc (.cells #[.slice qo q.files.length qc, .int .i64 q.turn] 24) := ⟨_, rfl⟩
          have HB2 : Hid (Below w.heap.size w W2) := Lib.hid (by rw [hW2]; exact two (two HB1.out hb2) (below_alloc _ _))
          have QBq : Hid (QAt W2 w2.heap.size (.slice qo q.files.length qc) q.turn) := Lib.hid (by rw [hW2]; exact QAt.new w2 _ _ (files_not_str hf2))
          have FQq : Hid (Files W2 (.slice qo q.files.length qc) q.files) := Lib.hid (by rw [hW2]; exact hf2.below (below_alloc _ _))
          have HW2 := Lib.hid hW2
          clear hW2 hb2 hf2
          have C := shelf_Get _ q.files name W2 (FQq.out.below (Below.refl _ _)) hq8 HG.out.fine.rises
          unfold RetFile File.val at C
          rw [← hf.out, ← hfi.out] at C
          replace C := Lib.hid C
          go_wp2_with fail
          rw [← HW2.out]
          refine C.out.mono ?_
          rintro e w3 ⟨rfl, hb3⟩
          clear C
          obtain ⟨W3, hW3⟩ : ∃ W3, W3 = w3.alloc (.cells #[.string (f).name, .string (f).text, .int .i64 (f).times] 57) := ⟨_, rfl⟩
          have HB3 : Hid (Below w.heap.size w W3) := Lib.hid (by rw [hW3]; exact two (two HB2.out hb3) (below_alloc _ _))
          have BXf : Hid (BoxF w3.heap.size (f) W3) := Lib.hid (by rw [hW3]; exact box_new w3 _)
          have BT3 : Hid (Below W2.heap.size W2 W3) := Lib.hid (by rw [hW3]; exact two hb3 (below_alloc _ _))
          have BN3 : Hid (Below W2.heap.size W2 w3) := Lib.hid hb3
          have HW3 := Lib.hid hW3
          clear hW3 hb3
          have C := quilt_Write _ q name text W3 ⟨_, rfl, FQq.out.below BT3.out⟩ HG.out HMname.out HMtext.out
          unfold RetQE at C
          rw [hev] at C
          replace C := Lib.hid C
          have zz := QBq.out.below BT3.out
          have zq0 := zz.c0
          have zq1 := zz.c1
          clear zz
          rw [HW3.out] at zq0 zq1
          go_wp2_with fail
          rw [← HW3.out]
          refine C.out.mono ?_
          clear zq0 zq1
          rintro e w4 ⟨qx, rfl, ⟨vx, rfl, hf4⟩, hb4⟩
          clear C
          obtain ⟨xo, xc, rfl, _, _⟩ := hf4.parts
          obtain ⟨x, hxx⟩ : ∃ x, x = (writtenQ q name text).1 := ⟨_, rfl⟩
          rw [← hxx] at hf4 ⊢
          clear hxx
          obtain ⟨W4, hW4⟩ : ∃ W4, W4 = w4.alloc (.cells #[.slice xo x.files.length xc, .int .i64 x.turn] 24) := ⟨_, rfl⟩
          have HB4 : Hid (Below w.heap.size w W4) := Lib.hid (by rw [hW4]; exact two (two HB3.out hb4) (below_alloc _ _))
          have QBx : Hid (QAt W4 w4.heap.size (.slice xo x.files.length xc) x.turn) := Lib.hid (by rw [hW4]; exact QAt.new w4 _ _ (files_not_str hf4))
          have FQx : Hid (Files W4 (.slice xo x.files.length xc) x.files) := Lib.hid (by rw [hW4]; exact hf4.below (below_alloc _ _))
          have HW4 := Lib.hid hW4
          have BT4 : Hid (Below W3.heap.size W3 W4) := Lib.hid (by rw [hW4]; exact two hb4 (below_alloc _ _))
          have BN4 : Hid (Below W3.heap.size W3 w4) := Lib.hid hb4
          clear hW4 hb4 hf4
          have zz := QBq.out.below (two BT3.out BT4.out)
          have zq0 := zz.c0
          have zq1 := zz.c1
          clear zz
          rw [HW4.out] at zq0 zq1
          go_wp2_with fail
          go_ret
          exact ⟨by first | rfl | exact ret_bool (by simp; omega), by first | exact HB4.out | (rw [← HW4.out]; exact HB4.out)⟩
        · have h0 : ¬ (writtenQ q name text).2 = 0 := by exact fun h => hsz (HFW.1 h)
          clear HFW
          have hev := errV_pos h0
          clear h0
          go_enter Try.func11, Try.ntmps11
          go_wp2_with fail
          refine CB.out.mono ?_
          rintro e w1 ⟨rfl, hb1⟩
          have HB1 := Lib.hid hb1
          clear hb1
          go_wp2_with fail
          refine (CG.out _ HB1.out).mono ?_
          rintro e w2 ⟨qo, qc, rfl, hf2, hb2⟩
          obtain ⟨W2, hW2⟩ : ∃ W2, W2 = w2.alloc (.cells #[.slice qo q.files.length qc, .int .i64 q.turn] 24) := ⟨_, rfl⟩
          have HB2 : Hid (Below w.heap.size w W2) := Lib.hid (by rw [hW2]; exact two (two HB1.out hb2) (below_alloc _ _))
          have QBq : Hid (QAt W2 w2.heap.size (.slice qo q.files.length qc) q.turn) := Lib.hid (by rw [hW2]; exact QAt.new w2 _ _ (files_not_str hf2))
          have FQq : Hid (Files W2 (.slice qo q.files.length qc) q.files) := Lib.hid (by rw [hW2]; exact hf2.below (below_alloc _ _))
          have HW2 := Lib.hid hW2
          clear hW2 hb2 hf2
          have C := shelf_Get _ q.files name W2 (FQq.out.below (Below.refl _ _)) hq8 HG.out.fine.rises
          unfold RetFile File.val at C
          rw [← hf.out, ← hfi.out] at C
          replace C := Lib.hid C
          go_wp2_with fail
          rw [← HW2.out]
          refine C.out.mono ?_
          rintro e w3 ⟨rfl, hb3⟩
          clear C
          obtain ⟨W3, hW3⟩ : ∃ W3, W3 = w3.alloc (.cells #[.string (f).name, .string (f).text, .int .i64 (f).times] 57) := ⟨_, rfl⟩
          have HB3 : Hid (Below w.heap.size w W3) := Lib.hid (by rw [hW3]; exact two (two HB2.out hb3) (below_alloc _ _))
          have BXf : Hid (BoxF w3.heap.size (f) W3) := Lib.hid (by rw [hW3]; exact box_new w3 _)
          have BT3 : Hid (Below W2.heap.size W2 W3) := Lib.hid (by rw [hW3]; exact two hb3 (below_alloc _ _))
          have BN3 : Hid (Below W2.heap.size W2 w3) := Lib.hid hb3
          have HW3 := Lib.hid hW3
          clear hW3 hb3
          have C := quilt_Write _ q name text W3 ⟨_, rfl, FQq.out.below BT3.out⟩ HG.out HMname.out HMtext.out
          unfold RetQE at C
          rw [hev] at C
          replace C := Lib.hid C
          have zz := QBq.out.below BT3.out
          have zq0 := zz.c0
          have zq1 := zz.c1
          clear zz
          rw [HW3.out] at zq0 zq1
          go_wp2_with fail
          rw [← HW3.out]
          refine C.out.mono ?_
          clear zq0 zq1
          rintro e w4 ⟨qx, rfl, ⟨vx, rfl, hf4⟩, hb4⟩
          clear C
          obtain ⟨xo, xc, rfl, _, _⟩ := hf4.parts
          obtain ⟨x, hxx⟩ : ∃ x, x = (writtenQ q name text).1 := ⟨_, rfl⟩
          rw [← hxx] at hf4 ⊢
          clear hxx
          obtain ⟨W4, hW4⟩ : ∃ W4, W4 = w4.alloc (.cells #[.slice xo x.files.length xc, .int .i64 x.turn] 24) := ⟨_, rfl⟩
          have HB4 : Hid (Below w.heap.size w W4) := Lib.hid (by rw [hW4]; exact two (two HB3.out hb4) (below_alloc _ _))
          have QBx : Hid (QAt W4 w4.heap.size (.slice xo x.files.length xc) x.turn) := Lib.hid (by rw [hW4]; exact QAt.new w4 _ _ (files_not_str hf4))
          have FQx : Hid (Files W4 (.slice xo x.files.length xc) x.files) := Lib.hid (by rw [hW4]; exact hf4.below (below_alloc _ _))
          have HW4 := Lib.hid hW4
          have BT4 : Hid (Below W3.heap.size W3 W4) := Lib.hid (by rw [hW4]; exact two hb4 (below_alloc _ _))
          have BN4 : Hid (Below W3.heap.size W3 w4) := Lib.hid hb4
          clear hW4 hb4 hf4
          have zz := QBq.out.below (two BT3.out BT4.out)
          have zq0 := zz.c0
          have zq1 := zz.c1
          clear zz
          rw [HW4.out] at zq0 zq1
          go_wp2_with fail
          go_ret
          exact ⟨by first | rfl | exact ret_bool (by simp; omega), by first | exact HB4.out | (rw [← HW4.out]; exact HB4.out)⟩
      · by_cases hsz : text.size ≤ 12
        · have h0 : (writtenQ q name text).2 = 0 := by exact HFW.2 hsz
          clear HFW
          have hev : errV (writtenQ q name text).2 = .nilIface := by rw [h0]; rfl
          clear h0
          go_enter Try.func11, Try.ntmps11
          go_wp2_with fail
          refine CB.out.mono ?_
          rintro e w1 ⟨rfl, hb1⟩
          have HB1 := Lib.hid hb1
          clear hb1
          go_wp2_with fail
          refine (CG.out _ HB1.out).mono ?_
          rintro e w2 ⟨qo, qc, rfl, hf2, hb2⟩
          obtain ⟨W2, hW2⟩ : ∃ W2, W2 = w2.alloc (.cells #[.slice qo q.files.length qc, .int .i64 q.turn] 24) := ⟨_, rfl⟩
          have HB2 : Hid (Below w.heap.size w W2) := Lib.hid (by rw [hW2]; exact two (two HB1.out hb2) (below_alloc _ _))
          have QBq : Hid (QAt W2 w2.heap.size (.slice qo q.files.length qc) q.turn) := Lib.hid (by rw [hW2]; exact QAt.new w2 _ _ (files_not_str hf2))
          have FQq : Hid (Files W2 (.slice qo q.files.length qc) q.files) := Lib.hid (by rw [hW2]; exact hf2.below (below_alloc _ _))
          have HW2 := Lib.hid hW2
          clear hW2 hb2 hf2
          have C := shelf_Get _ q.files name W2 (FQq.out.below (Below.refl _ _)) hq8 HG.out.fine.rises
          unfold RetFile File.val at C
          rw [← hf.out, ← hfi.out] at C
          replace C := Lib.hid C
          go_wp2_with fail
          rw [← HW2.out]
          refine C.out.mono ?_
          rintro e w3 ⟨rfl, hb3⟩
          clear C
          obtain ⟨W3, hW3⟩ : ∃ W3, W3 = w3.alloc (.cells #[.string (f).name, .string (f).text, .int .i64 (f).times] 57) := ⟨_, rfl⟩
          have HB3 : Hid (Below w.heap.size w W3) := Lib.hid (by rw [hW3]; exact two (two HB2.out hb3) (below_alloc _ _))
          have BXf : Hid (BoxF w3.heap.size (f) W3) := Lib.hid (by rw [hW3]; exact box_new w3 _)
          have BT3 : Hid (Below W2.heap.size W2 W3) := Lib.hid (by rw [hW3]; exact two hb3 (below_alloc _ _))
          have BN3 : Hid (Below W2.heap.size W2 w3) := Lib.hid hb3
          have HW3 := Lib.hid hW3
          clear hW3 hb3
          have C := quilt_Write _ q name text W3 ⟨_, rfl, FQq.out.below BT3.out⟩ HG.out HMname.out HMtext.out
          unfold RetQE at C
          rw [hev] at C
          replace C := Lib.hid C
          have zz := QBq.out.below BT3.out
          have zq0 := zz.c0
          have zq1 := zz.c1
          clear zz
          rw [HW3.out] at zq0 zq1
          go_wp2_with fail
          rw [← HW3.out]
          refine C.out.mono ?_
          clear zq0 zq1
          rintro e w4 ⟨qx, rfl, ⟨vx, rfl, hf4⟩, hb4⟩
          clear C
          obtain ⟨xo, xc, rfl, _, _⟩ := hf4.parts
          obtain ⟨x, hxx⟩ : ∃ x, x = (writtenQ q name text).1 := ⟨_, rfl⟩
          rw [← hxx] at hf4 ⊢
          clear hxx
          obtain ⟨W4, hW4⟩ : ∃ W4, W4 = w4.alloc (.cells #[.slice xo x.files.length xc, .int .i64 x.turn] 24) := ⟨_, rfl⟩
          have HB4 : Hid (Below w.heap.size w W4) := Lib.hid (by rw [hW4]; exact two (two HB3.out hb4) (below_alloc _ _))
          have QBx : Hid (QAt W4 w4.heap.size (.slice xo x.files.length xc) x.turn) := Lib.hid (by rw [hW4]; exact QAt.new w4 _ _ (files_not_str hf4))
          have FQx : Hid (Files W4 (.slice xo x.files.length xc) x.files) := Lib.hid (by rw [hW4]; exact hf4.below (below_alloc _ _))
          have HW4 := Lib.hid hW4
          have BT4 : Hid (Below W3.heap.size W3 W4) := Lib.hid (by rw [hW4]; exact two hb4 (below_alloc _ _))
          have BN4 : Hid (Below W3.heap.size W3 w4) := Lib.hid hb4
          clear hW4 hb4 hf4
          have zz := QBq.out.below (two BT3.out BT4.out)
          have zq0 := zz.c0
          have zq1 := zz.c1
          clear zz
          rw [HW4.out] at zq0 zq1
          go_wp2_with fail
          go_ret
          exact ⟨by first | rfl | exact ret_bool (by simp; omega), by first | exact HB4.out | (rw [← HW4.out]; exact HB4.out)⟩
        · have h0 : ¬ (writtenQ q name text).2 = 0 := by exact fun h => hsz (HFW.1 h)
          clear HFW
          have hev := errV_pos h0
          clear h0
          go_enter Try.func11, Try.ntmps11
          go_wp2_with fail
          refine CB.out.mono ?_
          rintro e w1 ⟨rfl, hb1⟩
          have HB1 := Lib.hid hb1
          clear hb1
          go_wp2_with fail
          refine (CG.out _ HB1.out).mono ?_
          rintro e w2 ⟨qo, qc, rfl, hf2, hb2⟩
          obtain ⟨W2, hW2⟩ : ∃ W2, W2 = w2.alloc (.cells #[.slice qo q.files.length qc, .int .i64 q.turn] 24) := ⟨_, rfl⟩
          have HB2 : Hid (Below w.heap.size w W2) := Lib.hid (by rw [hW2]; exact two (two HB1.out hb2) (below_alloc _ _))
          have QBq : Hid (QAt W2 w2.heap.size (.slice qo q.files.length qc) q.turn) := Lib.hid (by rw [hW2]; exact QAt.new w2 _ _ (files_not_str hf2))
          have FQq : Hid (Files W2 (.slice qo q.files.length qc) q.files) := Lib.hid (by rw [hW2]; exact hf2.below (below_alloc _ _))
          have HW2 := Lib.hid hW2
          clear hW2 hb2 hf2
          have C := shelf_Get _ q.files name W2 (FQq.out.below (Below.refl _ _)) hq8 HG.out.fine.rises
          unfold RetFile File.val at C
          rw [← hf.out, ← hfi.out] at C
          replace C := Lib.hid C
          go_wp2_with fail
          rw [← HW2.out]
          refine C.out.mono ?_
          rintro e w3 ⟨rfl, hb3⟩
          clear C
          obtain ⟨W3, hW3⟩ : ∃ W3, W3 = w3.alloc (.cells #[.string (f).name, .string (f).text, .int .i64 (f).times] 57) := ⟨_, rfl⟩
          have HB3 : Hid (Below w.heap.size w W3) := Lib.hid (by rw [hW3]; exact two (two HB2.out hb3) (below_alloc _ _))
          have BXf : Hid (BoxF w3.heap.size (f) W3) := Lib.hid (by rw [hW3]; exact box_new w3 _)
          have BT3 : Hid (Below W2.heap.size W2 W3) := Lib.hid (by rw [hW3]; exact two hb3 (below_alloc _ _))
          have BN3 : Hid (Below W2.heap.size W2 w3) := Lib.hid hb3
          have HW3 := Lib.hid hW3
          clear hW3 hb3
          have C := quilt_Write _ q name text W3 ⟨_, rfl, FQq.out.below BT3.out⟩ HG.out HMname.out HMtext.out
          unfold RetQE at C
          rw [hev] at C
          replace C := Lib.hid C
          have zz := QBq.out.below BT3.out
          have zq0 := zz.c0
          have zq1 := zz.c1
          clear zz
          rw [HW3.out] at zq0 zq1
          go_wp2_with fail
          rw [← HW3.out]
          refine C.out.mono ?_
          clear zq0 zq1
          rintro e w4 ⟨qx, rfl, ⟨vx, rfl, hf4⟩, hb4⟩
          clear C
          obtain ⟨xo, xc, rfl, _, _⟩ := hf4.parts
          obtain ⟨x, hxx⟩ : ∃ x, x = (writtenQ q name text).1 := ⟨_, rfl⟩
          rw [← hxx] at hf4 ⊢
          clear hxx
          obtain ⟨W4, hW4⟩ : ∃ W4, W4 = w4.alloc (.cells #[.slice xo x.files.length xc, .int .i64 x.turn] 24) := ⟨_, rfl⟩
          have HB4 : Hid (Below w.heap.size w W4) := Lib.hid (by rw [hW4]; exact two (two HB3.out hb4) (below_alloc _ _))
          have QBx : Hid (QAt W4 w4.heap.size (.slice xo x.files.length xc) x.turn) := Lib.hid (by rw [hW4]; exact QAt.new w4 _ _ (files_not_str hf4))
          have FQx : Hid (Files W4 (.slice xo x.files.length xc) x.files) := Lib.hid (by rw [hW4]; exact hf4.below (below_alloc _ _))
          have HW4 := Lib.hid hW4
          have BT4 : Hid (Below W3.heap.size W3 W4) := Lib.hid (by rw [hW4]; exact two hb4 (below_alloc _ _))
          have BN4 : Hid (Below W3.heap.size W3 w4) := Lib.hid hb4
          clear hW4 hb4 hf4
          have zz := QBq.out.below (two BT3.out BT4.out)
          have zq0 := zz.c0
          have zq1 := zz.c1
          clear zz
          rw [HW4.out] at zq0 zq1
          go_wp2_with fail
          go_ret
          exact ⟨by first | rfl | exact ret_bool (by simp; omega), by first | exact HB4.out | (rw [← HW4.out]; exact HB4.out)⟩
end Go.Proofs.Ytggpodlecljcbab
