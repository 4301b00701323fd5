/- The walk of the statement TopBack. -/
import Derived.Test.YtggpodlecljcbabWalkT2
import Derived.Test.YtggpodlecljcbabWalkB
import Derived.Test.YtggpodlecljcbabSpecT2
namespace Go.Proofs.Ytggpodlecljcbab
open Go.RowKit Go.Sort
set_option linter.unusedSimpArgs false
set_option linter.unusedVariables false

set_option maxRecDepth 100000 in
set_option maxHeartbeats 4000000 in
theorem law_TopBack (va : Value) (avs : List ActV) (al : List Act) (a b : ByteArray) (w : World) (hav : ActVs w va avs) (haa : IsActs w avs al) (hak : ∀ a ∈ al, a.ok) (ha : a.size ≤ maxLen) (hb : b.size ≤ maxLen) :
    Calls Try.prog 8 #[va, .string a, .string b] w fun e w' => e = .returned (.bool true) ∧ Below w.heap.size w w' := by
  have CB := Lib.hid (top_began w)
  obtain ⟨vo, vc, rfl, hvc, hvm⟩ := hav.parts
  have hma : a.size ≤ 9223372036854775807 := by unfold maxLen at ha; omega
  have HMa := Lib.hid ha
  have hmb : b.size ≤ 9223372036854775807 := by unfold maxLen at hb; omega
  have HMb := Lib.hid hb
  have HAV := Lib.hid hav
  have HAA := Lib.hid haa
  have HAK : Hid (∀ a ∈ al, a.ok) := Lib.hid hak
  clear hav haa hak ha hb
  cases hlg : lightActs al 60
  · have CG := Lib.hid fun W (hb : Below w.heap.size w W) => top_grown_no _ avs al W (HAV.out.below hb) (HAA.out.below hb) HAK.out hlg
    clear hlg
    go_enter Try.func8, Try.ntmps8
    go_wp2_with fail
    refine CB.out.mono ?_
    rintro e w1 ⟨rfl, hb1⟩
    have HB1 := Lib.hid hb1
    clear hb1
    go_wp2_with fail
    refine (CG.out _ HB1.out).mono ?_
    rintro e w2 ⟨qo, qc, rfl, hb2⟩
    have HB2 := Lib.hid (two (two HB1.out hb2) (below_alloc w2 (.cells #[.slice qo 0 qc, .int .i64 0] 24)))
    clear hb2
    go_wp2_with fail
    go_ret
    exact ⟨rfl, HB2.out⟩
  · have CG := Lib.hid fun W (hb : Below w.heap.size w W) => top_grown_yes _ avs al W (HAV.out.below hb) (HAA.out.below hb) HAK.out hlg
    have HGQ := Lib.hid (grown_fit hlg)
    obtain ⟨q, hq⟩ : ∃ q, q = grownQ al := ⟨_, rfl⟩
    rw [← hq] at CG HGQ
    clear hq hlg
    have HG : Hid (Good q) := Lib.hid HGQ.out.1
    have hq8 := HGQ.out.1.fine.len
    have hqt := HGQ.out.2
    have hq1 := HGQ.out.1.lo
    by_cases hg0 : 20 < a.size
    · go_enter Try.func8, Try.ntmps8
      go_wp2_with fail
      refine CB.out.mono ?_
      rintro e w1 ⟨rfl, hb1⟩
      have HB1 := Lib.hid hb1
      clear hb1
      go_wp2_with fail
      refine (CG.out _ HB1.out).mono ?_
      rintro e w2 ⟨qo, qc, rfl, hf2, hb2⟩
      have HB2 := Lib.hid (two (two HB1.out hb2) (below_alloc w2 (.cells #[.slice qo q.files.length qc, .int .i64 q.turn] 24)))
      clear hb2 hf2
      go_wp2_with fail
      go_ret
      exact ⟨rfl, HB2.out⟩
    by_cases hg1 : 20 < b.size
    · go_enter Try.func8, Try.ntmps8
      go_wp2_with fail
      refine CB.out.mono ?_
      rintro e w1 ⟨rfl, hb1⟩
      have HB1 := Lib.hid hb1
      clear hb1
      go_wp2_with fail
      refine (CG.out _ HB1.out).mono ?_
      rintro e w2 ⟨qo, qc, rfl, hf2, hb2⟩
      have HB2 := Lib.hid (two (two HB1.out hb2) (below_alloc w2 (.cells #[.slice qo q.files.length qc, .int .i64 q.turn] 24)))
      clear hb2 hf2
      go_wp2_with fail
      go_ret
      exact ⟨rfl, HB2.out⟩
    by_cases h0 : (renamedQ q a b).2 = 0
    · skip
      have HS := Lib.hid (back_spec HG.out hqt h0)
      have HGX := Lib.hid (renamed_good HG.out a b h0)
      have hev : errV (renamedQ q a b).2 = .nilIface := by rw [h0]; rfl
      obtain ⟨x, hx⟩ : ∃ x, x = (renamedQ q a b).1 := ⟨_, rfl⟩
      replace hx := Lib.hid hx
      rw [← hx.out] at HS HGX
      have hx8 := HGX.out.1.fine.len
      go_enter Try.func8, Try.ntmps8
      go_wp2_with fail
      refine CB.out.mono ?_
      rintro e w1 ⟨rfl, hb1⟩
      have HB1 := Lib.hid hb1
      clear hb1
      go_wp2_with fail
      refine (CG.out _ HB1.out).mono ?_
      rintro e w2 ⟨qo, qc, rfl, hf2, hb2⟩
      obtain ⟨W2, hW2⟩ : ∃ W2, W2 = w2.alloc (.cells #[.slice qo q.files.length qc, .int .i64 q.turn] 24) := ⟨_, rfl⟩
      have HB2 : Hid (Below w.heap.size w W2) := Lib.hid (by rw [hW2]; exact two (two HB1.out hb2) (below_alloc _ _))
      have QBq : Hid (QAt W2 w2.heap.size (.slice qo q.files.length qc) q.turn) := Lib.hid (by rw [hW2]; exact QAt.new w2 _ _ (files_not_str hf2))
      have FQq : Hid (Files W2 (.slice qo q.files.length qc) q.files) := Lib.hid (by rw [hW2]; exact hf2.below (below_alloc _ _))
      have HW2 := Lib.hid hW2
      clear hW2 hb2 hf2
      have C := quilt_Rename _ q a b W2 ⟨_, rfl, FQq.out.below (Below.refl _ _)⟩ HG.out HMb.out
      unfold RetQE at C
      rw [hev, ← hx.out] at C
      replace C := Lib.hid C
      go_wp2_with fail
      rw [← HW2.out]
      refine C.out.mono ?_
      rintro e w3 ⟨qx, rfl, ⟨vx, rfl, hf3⟩, hb3⟩
      clear C
      obtain ⟨xo, xc, rfl, _, _⟩ := hf3.parts
      obtain ⟨W3, hW3⟩ : ∃ W3, W3 = w3.alloc (.cells #[.slice xo x.files.length xc, .int .i64 x.turn] 24) := ⟨_, rfl⟩
      have HB3 : Hid (Below w.heap.size w W3) := Lib.hid (by rw [hW3]; exact two (two HB2.out hb3) (below_alloc _ _))
      have QBx : Hid (QAt W3 w3.heap.size (.slice xo x.files.length xc) x.turn) := Lib.hid (by rw [hW3]; exact QAt.new w3 _ _ (files_not_str hf3))
      have FQx : Hid (Files W3 (.slice xo x.files.length xc) x.files) := Lib.hid (by rw [hW3]; exact hf3.below (below_alloc _ _))
      have HW3 := Lib.hid hW3
      have BT3 : Hid (Below W2.heap.size W2 W3) := Lib.hid (by rw [hW3]; exact two hb3 (below_alloc _ _))
      have BN3 : Hid (Below W2.heap.size W2 w3) := Lib.hid hb3
      clear hW3 hb3 hf3
      clear hev
      have C := shelf_Get _ x.files a W3 (FQx.out.below (Below.refl _ _)) hx8 HGX.out.1.fine.rises
      rw [HS.out.1] at C
      unfold RetFile File.val at C
      rw [show fileOr (none) = noFile from rfl, show (none : Option File).isSome = false from rfl] at C
      replace C := Lib.hid C
      go_wp2_with fail
      rw [← HW3.out]
      refine C.out.mono ?_
      rintro e w4 ⟨rfl, hb4⟩
      clear C
      obtain ⟨W4, hW4⟩ : ∃ W4, W4 = w4.alloc (.cells #[.string (noFile).name, .string (noFile).text, .int .i64 (noFile).times] 57) := ⟨_, rfl⟩
      have HB4 : Hid (Below w.heap.size w W4) := Lib.hid (by rw [hW4]; exact two (two HB3.out hb4) (below_alloc _ _))
      have BXg : Hid (BoxF w4.heap.size (noFile) W4) := Lib.hid (by rw [hW4]; exact box_new w4 _)
      have BT4 : Hid (Below W3.heap.size W3 W4) := Lib.hid (by rw [hW4]; exact two hb4 (below_alloc _ _))
      have BN4 : Hid (Below W3.heap.size W3 w4) := Lib.hid hb4
      have HW4 := Lib.hid hW4
      clear hW4 hb4
      have hev : errV (renamedQ x b a).2 = .nilIface := by rw [HS.out.2]; rfl
      obtain ⟨y, hy⟩ : ∃ y, y = (renamedQ x b a).1 := ⟨_, rfl⟩
      replace hy := Lib.hid hy
      have HY1 : Hid (y.files = q.files) := Lib.hid (by rw [hy.out, HS.out.2])
      have hyt : y.turn = q.turn + 2 := by rw [hy.out, HS.out.2]
      have HYT := Lib.hid hyt
      clear hyt
      have C := quilt_Rename _ x b a W4 ⟨_, rfl, FQx.out.below BT4.out⟩ HGX.out.1 HMa.out
      unfold RetQE at C
      rw [hev, ← hy.out] at C
      replace C := Lib.hid C
      have zz := QBx.out.below BT4.out
      have zx0 := zz.c0
      have zx1 := zz.c1
      clear zz
      rw [HW4.out] at zx0 zx1
      go_wp2_with fail
      rw [← HW4.out]
      refine C.out.mono ?_
      clear zx0 zx1
      rintro e w5 ⟨qy, rfl, ⟨vy, rfl, hf5⟩, hb5⟩
      clear C
      obtain ⟨yo, yc, rfl, _, _⟩ := hf5.parts
      obtain ⟨W5, hW5⟩ : ∃ W5, W5 = w5.alloc (.cells #[.slice yo y.files.length yc, .int .i64 y.turn] 24) := ⟨_, rfl⟩
      have HB5 : Hid (Below w.heap.size w W5) := Lib.hid (by rw [hW5]; exact two (two HB4.out hb5) (below_alloc _ _))
      have QBy : Hid (QAt W5 w5.heap.size (.slice yo y.files.length yc) y.turn) := Lib.hid (by rw [hW5]; exact QAt.new w5 _ _ (files_not_str hf5))
      have FQy : Hid (Files W5 (.slice yo y.files.length yc) y.files) := Lib.hid (by rw [hW5]; exact hf5.below (below_alloc _ _))
      have HW5 := Lib.hid hW5
      have BT5 : Hid (Below W4.heap.size W4 W5) := Lib.hid (by rw [hW5]; exact two hb5 (below_alloc _ _))
      have BN5 : Hid (Below W4.heap.size W4 w5) := Lib.hid hb5
      clear hW5 hb5 hf5
      have C := ref_SameFiles _ _ y.files q.files W5 FQy.out (FQq.out.below (two (two BT3.out BT4.out) BT5.out))
      rw [show decide (y.files = q.files) = true by rw [HY1.out]; simp] at C
      replace C := Lib.hid C
      have zz := QBq.out.below (two (two BT3.out BT4.out) BT5.out)
      have zq0 := zz.c0
      have zq1 := zz.c1
      clear zz
      rw [HW5.out] at zq0 zq1
      go_wp2_with fail
      rw [← HW5.out]
      refine C.out.mono ?_
      clear zq0 zq1
      rintro e w6 ⟨rfl, hbz⟩
      have BN6 := Lib.hid hbz
      have HBZ := Lib.hid (two HB5.out hbz)
      clear hbz C
      have zz := QBq.out.below (two (two (two BT3.out BT4.out) BT5.out) BN6.out)
      have zq0 := zz.c0
      have zq1 := zz.c1
      clear zz
      have zz := QBy.out.below BN6.out
      have zy0 := zz.c0
      have zy1 := zz.c1
      clear zz
      rw [HYT.out] at zy1
      go_wp2_with fail
      go_ret
      exact ⟨rfl, HBZ.out⟩
    · skip
      have hev := errV_pos h0
      go_enter Try.func8, Try.ntmps8
      go_wp2_with fail
      refine CB.out.mono ?_
      rintro e w1 ⟨rfl, hb1⟩
      have HB1 := Lib.hid hb1
      clear hb1
      go_wp2_with fail
      refine (CG.out _ HB1.out).mono ?_
      rintro e w2 ⟨qo, qc, rfl, hf2, hb2⟩
      obtain ⟨W2, hW2⟩ : ∃ W2, W2 = w2.alloc (.cells #[.slice qo q.files.length qc, .int .i64 q.turn] 24) := ⟨_, rfl⟩
      have HB2 : Hid (Below w.heap.size w W2) := Lib.hid (by rw [hW2]; exact two (two HB1.out hb2) (below_alloc _ _))
      have QBq : Hid (QAt W2 w2.heap.size (.slice qo q.files.length qc) q.turn) := Lib.hid (by rw [hW2]; exact QAt.new w2 _ _ (files_not_str hf2))
      have FQq : Hid (Files W2 (.slice qo q.files.length qc) q.files) := Lib.hid (by rw [hW2]; exact hf2.below (below_alloc _ _))
      have HW2 := Lib.hid hW2
      clear hW2 hb2 hf2
      have C := quilt_Rename _ q a b W2 ⟨_, rfl, FQq.out.below (Below.refl _ _)⟩ HG.out HMb.out
      unfold RetQE at C
      rw [hev] at C
      replace C := Lib.hid C
      go_wp2_with fail
      rw [← HW2.out]
      refine C.out.mono ?_
      rintro e w3 ⟨qx, rfl, ⟨vx, rfl, hf3⟩, hb3⟩
      clear C
      obtain ⟨xo, xc, rfl, _, _⟩ := hf3.parts
      obtain ⟨x, hxx⟩ : ∃ x, x = (renamedQ q a b).1 := ⟨_, rfl⟩
      rw [← hxx] at hf3 ⊢
      clear hxx
      obtain ⟨W3, hW3⟩ : ∃ W3, W3 = w3.alloc (.cells #[.slice xo x.files.length xc, .int .i64 x.turn] 24) := ⟨_, rfl⟩
      have HB3 : Hid (Below w.heap.size w W3) := Lib.hid (by rw [hW3]; exact two (two HB2.out hb3) (below_alloc _ _))
      have QBx : Hid (QAt W3 w3.heap.size (.slice xo x.files.length xc) x.turn) := Lib.hid (by rw [hW3]; exact QAt.new w3 _ _ (files_not_str hf3))
      have FQx : Hid (Files W3 (.slice xo x.files.length xc) x.files) := Lib.hid (by rw [hW3]; exact hf3.below (below_alloc _ _))
      have HW3 := Lib.hid hW3
      have BT3 : Hid (Below W2.heap.size W2 W3) := Lib.hid (by rw [hW3]; exact two hb3 (below_alloc _ _))
      have BN3 : Hid (Below W2.heap.size W2 w3) := Lib.hid hb3
      clear hW3 hb3 hf3
      go_wp2_with fail
      go_ret
      exact ⟨by first | rfl | exact ret_bool (by simp; omega), by first | exact HB3.out | (rw [← HW3.out]; exact HB3.out)⟩
end Go.Proofs.Ytggpodlecljcbab
