/- The walk of the statement TopSwap. -/
import Derived.Test.YtggpodlecljcbabWalkT2
import Derived.Test.YtggpodlecljcbabWalkB
import Derived.Test.YtggpodlecljcbabSpecT3
namespace Go.Proofs.Ytggpodlecljcbab
open Go.RowKit Go.Sort
set_option linter.unusedSimpArgs false
set_option linter.unusedVariables false

set_option maxRecDepth 100000 in
set_option maxHeartbeats 4000000 in
theorem law_TopSwap (va : Value) (avs : List ActV) (al : List Act) (a b : ByteArray) (w : World) (hav : ActVs w va avs) (haa : IsActs w avs al) (hak : ∀ a ∈ al, a.ok) (ha : a.size ≤ maxLen) (hb : b.size ≤ maxLen) :
    Calls Try.prog 9 #[va, .string a, .string b] w fun e w' => e = .returned (.bool true) ∧ Below w.heap.size w w' := by
  have CB := Lib.hid (top_began w)
  obtain ⟨vo, vc, rfl, hvc, hvm⟩ := hav.parts
  have hma : a.size ≤ 9223372036854775807 := by unfold maxLen at ha; omega
  have HMa := Lib.hid ha
  have hmb : b.size ≤ 9223372036854775807 := by unfold maxLen at hb; omega
  have HMb := Lib.hid hb
  have HAV := Lib.hid hav
  have HAA := Lib.hid haa
  have HAK : Hid (∀ a ∈ al, a.ok) := Lib.hid hak
  clear hav haa hak ha hb
  cases hlg : lightActs al 60
  · have CG := Lib.hid fun W (hb : Below w.heap.size w W) => top_grown_no _ avs al W (HAV.out.below hb) (HAA.out.below hb) HAK.out hlg
    clear hlg
    go_enter Try.func9, Try.ntmps9
    go_wp2_with fail
    refine CB.out.mono ?_
    rintro e w1 ⟨rfl, hb1⟩
    have HB1 := Lib.hid hb1
    clear hb1
    go_wp2_with fail
    refine (CG.out _ HB1.out).mono ?_
    rintro e w2 ⟨qo, qc, rfl, hb2⟩
    have HB2 := Lib.hid (two (two HB1.out hb2) (below_alloc w2 (.cells #[.slice qo 0 qc, .int .i64 0] 24)))
    clear hb2
    go_wp2_with fail
    go_ret
    exact ⟨rfl, HB2.out⟩
  · have CG := Lib.hid fun W (hb : Below w.heap.size w W) => top_grown_yes _ avs al W (HAV.out.below hb) (HAA.out.below hb) HAK.out hlg
    have HGQ := Lib.hid (grown_fit hlg)
    have HGT := Lib.hid (grown_times hlg)
    obtain ⟨q, hq⟩ : ∃ q, q = grownQ al := ⟨_, rfl⟩
    rw [← hq] at CG HGQ HGT
    clear hq hlg
    have HG : Hid (Good q) := Lib.hid HGQ.out.1
    have hq8 := HGQ.out.1.fine.len
    have hqt := HGQ.out.2
    have hq1 := HGQ.out.1.lo
    by_cases hg0 : 20 < a.size
    · go_enter Try.func9, Try.ntmps9
      go_wp2_with fail
      refine CB.out.mono ?_
      rintro e w1 ⟨rfl, hb1⟩
      have HB1 := Lib.hid hb1
      clear hb1
      go_wp2_with fail
      refine (CG.out _ HB1.out).mono ?_
      rintro e w2 ⟨qo, qc, rfl, hf2, hb2⟩
      have HB2 := Lib.hid (two (two HB1.out hb2) (below_alloc w2 (.cells #[.slice qo q.files.length qc, .int .i64 q.turn] 24)))
      clear hb2 hf2
      go_wp2_with fail
      go_ret
      exact ⟨rfl, HB2.out⟩
    by_cases hg1 : 20 < b.size
    · go_enter Try.func9, Try.ntmps9
      go_wp2_with fail
      refine CB.out.mono ?_
      rintro e w1 ⟨rfl, hb1⟩
      have HB1 := Lib.hid hb1
      clear hb1
      go_wp2_with fail
      refine (CG.out _ HB1.out).mono ?_
      rintro e w2 ⟨qo, qc, rfl, hf2, hb2⟩
      have HB2 := Lib.hid (two (two HB1.out hb2) (below_alloc w2 (.cells #[.slice qo q.files.length qc, .int .i64 q.turn] 24)))
      clear hb2 hf2
      go_wp2_with fail
      go_ret
      exact ⟨rfl, HB2.out⟩
    by_cases h0 : (swappedQ q a b).2 = 0
    · skip
      have HGX0 := swapped_good HG.out a b h0
      obtain ⟨f1, g1, h1, ⟨kn, kt, kk⟩, x, y, hx, hs1, hs2, hs3, hs4, hs5, hs6, hs7, hs8, hs9, hs10⟩ := swap_again HG.out hqt HGT.out h0
      simp only at hs6
      subst hs6
      rw [hx] at HGX0
      have HGX := Lib.hid HGX0
      have hev : errV (swappedQ q a b).2 = .nilIface := by rw [h0]; rfl
      have HEV2 : Hid (errV (swappedQ x a b).2 = .nilIface) := Lib.hid (by rw [hs8]; rfl)
      have HX : Hid (x = (swappedQ q a b).1) := Lib.hid hx.symm
      have HY : Hid (y = (swappedQ x a b).1) := Lib.hid (by rw [hs8])
      have K1 := Lib.hid hs1
      have K2 := Lib.hid hs2
      have K3 := Lib.hid hs3
      have K4 := Lib.hid hs4
      have K5 := Lib.hid hs5
      have K7 := Lib.hid hs7
      have K9 := Lib.hid hs9
      have K10 := Lib.hid hs10
      have HX8 := Lib.hid HGX0.1.fine.len
      clear hs1 hs2 hs3 hs4 hs5 hs7 hs8 hs9 hs10 hx HGX0
      go_enter Try.func9, Try.ntmps9
      go_wp2_with fail
      refine CB.out.mono ?_
      rintro e w1 ⟨rfl, hb1⟩
      have HB1 := Lib.hid hb1
      clear hb1
      go_wp2_with fail
      refine (CG.out _ HB1.out).mono ?_
      rintro e w2 ⟨qo, qc, rfl, hf2, hb2⟩
      obtain ⟨W2, hW2⟩ : ∃ W2, W2 = w2.alloc (.cells #[.slice qo q.files.length qc, .int .i64 q.turn] 24) := ⟨_, rfl⟩
      have HB2 : Hid (Below w.heap.size w W2) := Lib.hid (by rw [hW2]; exact two (two HB1.out hb2) (below_alloc _ _))
      have QBq : Hid (QAt W2 w2.heap.size (.slice qo q.files.length qc) q.turn) := Lib.hid (by rw [hW2]; exact QAt.new w2 _ _ (files_not_str hf2))
      have FQq : Hid (Files W2 (.slice qo q.files.length qc) q.files) := Lib.hid (by rw [hW2]; exact hf2.below (below_alloc _ _))
      have HW2 := Lib.hid hW2
      clear hW2 hb2 hf2
      have C := quilt_Swap _ q a b W2 ⟨_, rfl, FQq.out.below (Below.refl _ _)⟩ HG.out 
      unfold RetQE at C
      rw [hev, ← HX.out] at C
      replace C := Lib.hid C
      go_wp2_with fail
      rw [← HW2.out]
      refine C.out.mono ?_
      rintro e w3 ⟨qx, rfl, ⟨vx, rfl, hf3⟩, hb3⟩
      clear C
      obtain ⟨xo, xc, rfl, _, _⟩ := hf3.parts
      obtain ⟨W3, hW3⟩ : ∃ W3, W3 = w3.alloc (.cells #[.slice xo x.files.length xc, .int .i64 x.turn] 24) := ⟨_, rfl⟩
      have HB3 : Hid (Below w.heap.size w W3) := Lib.hid (by rw [hW3]; exact two (two HB2.out hb3) (below_alloc _ _))
      have QBx : Hid (QAt W3 w3.heap.size (.slice xo x.files.length xc) x.turn) := Lib.hid (by rw [hW3]; exact QAt.new w3 _ _ (files_not_str hf3))
      have FQx : Hid (Files W3 (.slice xo x.files.length xc) x.files) := Lib.hid (by rw [hW3]; exact hf3.below (below_alloc _ _))
      have HW3 := Lib.hid hW3
      have BT3 : Hid (Below W2.heap.size W2 W3) := Lib.hid (by rw [hW3]; exact two hb3 (below_alloc _ _))
      have BN3 : Hid (Below W2.heap.size W2 w3) := Lib.hid hb3
      clear hW3 hb3 hf3
      clear hev
      have C := shelf_Get _ q.files a W3 (FQq.out.below BT3.out) hq8 HG.out.fine.rises
      rw [K1.out] at C
      unfold RetFile File.val at C
      rw [show fileOr (some f1) = f1 from rfl, show (some f1 : Option File).isSome = true from rfl] at C
      replace C := Lib.hid C
      have zz := QBq.out.below BT3.out
      have zq0 := zz.c0
      have zq1 := zz.c1
      clear zz
      rw [HW3.out] at zq0 zq1
      go_wp2_with fail
      rw [← HW3.out]
      refine C.out.mono ?_
      clear zq0 zq1
      rintro e w4 ⟨rfl, hb4⟩
      clear C
      obtain ⟨W4, hW4⟩ : ∃ W4, W4 = w4.alloc (.cells #[.string (f1).name, .string (f1).text, .int .i64 (f1).times] 57) := ⟨_, rfl⟩
      have HB4 : Hid (Below w.heap.size w W4) := Lib.hid (by rw [hW4]; exact two (two HB3.out hb4) (below_alloc _ _))
      have BXf1 : Hid (BoxF w4.heap.size (f1) W4) := Lib.hid (by rw [hW4]; exact box_new w4 _)
      have BT4 : Hid (Below W3.heap.size W3 W4) := Lib.hid (by rw [hW4]; exact two hb4 (below_alloc _ _))
      have BN4 : Hid (Below W3.heap.size W3 w4) := Lib.hid hb4
      have HW4 := Lib.hid hW4
      clear hW4 hb4
      have C := shelf_Get _ q.files b W4 (FQq.out.below (two BT3.out BT4.out)) hq8 HG.out.fine.rises
      rw [K2.out] at C
      unfold RetFile File.val at C
      rw [show fileOr (some g1) = g1 from rfl, show (some g1 : Option File).isSome = true from rfl] at C
      replace C := Lib.hid C
      have zz := QBq.out.below (two BT3.out BT4.out)
      have zq0 := zz.c0
      have zq1 := zz.c1
      clear zz
      rw [HW4.out] at zq0 zq1
      go_wp2_with fail
      rw [← HW4.out]
      refine C.out.mono ?_
      clear zq0 zq1
      rintro e w5 ⟨rfl, hb5⟩
      clear C
      obtain ⟨W5, hW5⟩ : ∃ W5, W5 = w5.alloc (.cells #[.string (g1).name, .string (g1).text, .int .i64 (g1).times] 57) := ⟨_, rfl⟩
      have HB5 : Hid (Below w.heap.size w W5) := Lib.hid (by rw [hW5]; exact two (two HB4.out hb5) (below_alloc _ _))
      have BXg1 : Hid (BoxF w5.heap.size (g1) W5) := Lib.hid (by rw [hW5]; exact box_new w5 _)
      have BT5 : Hid (Below W4.heap.size W4 W5) := Lib.hid (by rw [hW5]; exact two hb5 (below_alloc _ _))
      have BN5 : Hid (Below W4.heap.size W4 w5) := Lib.hid hb5
      have HW5 := Lib.hid hW5
      clear hW5 hb5
      have C := shelf_Get _ x.files a W5 (FQx.out.below (two BT4.out BT5.out)) HX8.out HGX.out.1.fine.rises
      rw [K3.out] at C
      unfold RetFile File.val at C
      rw [show fileOr (some h1) = h1 from rfl, show (some h1 : Option File).isSome = true from rfl] at C
      replace C := Lib.hid C
      have zz := QBx.out.below (two BT4.out BT5.out)
      have zx0 := zz.c0
      have zx1 := zz.c1
      clear zz
      rw [HW5.out] at zx0 zx1
      go_wp2_with fail
      rw [← HW5.out]
      refine C.out.mono ?_
      clear zx0 zx1
      rintro e w6 ⟨rfl, hb6⟩
      clear C
      obtain ⟨W6, hW6⟩ : ∃ W6, W6 = w6.alloc (.cells #[.string (h1).name, .string (h1).text, .int .i64 (h1).times] 57) := ⟨_, rfl⟩
      have HB6 : Hid (Below w.heap.size w W6) := Lib.hid (by rw [hW6]; exact two (two HB5.out hb6) (below_alloc _ _))
      have BXh1 : Hid (BoxF w6.heap.size (h1) W6) := Lib.hid (by rw [hW6]; exact box_new w6 _)
      have BT6 : Hid (Below W5.heap.size W5 W6) := Lib.hid (by rw [hW6]; exact two hb6 (below_alloc _ _))
      have BN6 : Hid (Below W5.heap.size W5 w6) := Lib.hid hb6
      have HW6 := Lib.hid hW6
      clear hW6 hb6
      have C := shelf_Get _ x.files b W6 (FQx.out.below (two (two BT4.out BT5.out) BT6.out)) HX8.out HGX.out.1.fine.rises
      rw [K4.out] at C
      unfold RetFile File.val at C
      rw [show fileOr (some (⟨kn, f1.text, kk⟩ : File)) = (⟨kn, f1.text, kk⟩ : File) from rfl, show (some (⟨kn, f1.text, kk⟩ : File) : Option File).isSome = true from rfl] at C
      replace C := Lib.hid C
      have zz := QBx.out.below (two (two BT4.out BT5.out) BT6.out)
      have zx0 := zz.c0
      have zx1 := zz.c1
      clear zz
      rw [HW6.out] at zx0 zx1
      go_wp2_with fail
      rw [← HW6.out]
      refine C.out.mono ?_
      clear zx0 zx1
      rintro e w7 ⟨rfl, hb7⟩
      clear C
      obtain ⟨W7, hW7⟩ : ∃ W7, W7 = w7.alloc (.cells #[.string ((⟨kn, f1.text, kk⟩ : File)).name, .string ((⟨kn, f1.text, kk⟩ : File)).text, .int .i64 ((⟨kn, f1.text, kk⟩ : File)).times] 57) := ⟨_, rfl⟩
      have HB7 : Hid (Below w.heap.size w W7) := Lib.hid (by rw [hW7]; exact two (two HB6.out hb7) (below_alloc _ _))
      have BXk1 : Hid (BoxF w7.heap.size ((⟨kn, f1.text, kk⟩ : File)) W7) := Lib.hid (by rw [hW7]; exact box_new w7 _)
      have BT7 : Hid (Below W6.heap.size W6 W7) := Lib.hid (by rw [hW7]; exact two hb7 (below_alloc _ _))
      have BN7 : Hid (Below W6.heap.size W6 w7) := Lib.hid hb7
      have HW7 := Lib.hid hW7
      clear hW7 hb7
      have hev := HEV2.out
      have C := quilt_Swap _ x a b W7 ⟨_, rfl, FQx.out.below (two (two (two BT4.out BT5.out) BT6.out) BT7.out)⟩ HGX.out.1
      unfold RetQE at C
      rw [hev, ← HY.out] at C
      replace C := Lib.hid C
      have zz := QBq.out.below (two (two (two (two BT3.out BT4.out) BT5.out) BT6.out) BT7.out)
      have zq0 := zz.c0
      have zq1 := zz.c1
      clear zz
      rw [HW7.out] at zq0 zq1
      have zz := QBx.out.below (two (two (two BT4.out BT5.out) BT6.out) BT7.out)
      have zx0 := zz.c0
      have zx1 := zz.c1
      clear zz
      rw [HW7.out] at zx0 zx1
      obtain ⟨zf10, zf11, zf12⟩ := BXf1.out _ (two (two BT5.out BT6.out) BT7.out)
      rw [HW7.out] at zf10 zf11 zf12
      obtain ⟨zg10, zg11, zg12⟩ := BXg1.out _ (two BT6.out BT7.out)
      rw [HW7.out] at zg10 zg11 zg12
      obtain ⟨zh10, zh11, zh12⟩ := BXh1.out _ BT7.out
      rw [HW7.out] at zh10 zh11 zh12
      rw [K5.out] at zh11
      rw [K7.out] at zx0
      have CX : Hid (Value.agg #[.slice xo x.files.length xc, .int .i64 x.turn] = .agg #[.slice xo q.files.length xc, .int .i64 x.turn]) := Lib.hid (by rw [K7.out])
      rw [CX.out] at C
      go_wp2_with fail
      rw [← HW7.out]
      refine C.out.mono ?_
      clear zq0 zq1 zx0 zx1 zf10 zf11 zf12 zg10 zg11 zg12 zh10 zh11 zh12
      rintro e w8 ⟨qy, rfl, ⟨vy, rfl, hf8⟩, hb8⟩
      clear C CX hev
      obtain ⟨yo, yc, rfl, _, _⟩ := hf8.parts
      obtain ⟨W8, hW8⟩ : ∃ W8, W8 = w8.alloc (.cells #[.slice yo y.files.length yc, .int .i64 y.turn] 24) := ⟨_, rfl⟩
      have HB8 : Hid (Below w.heap.size w W8) := Lib.hid (by rw [hW8]; exact two (two HB7.out hb8) (below_alloc _ _))
      have QBy : Hid (QAt W8 w8.heap.size (.slice yo y.files.length yc) y.turn) := Lib.hid (by rw [hW8]; exact QAt.new w8 _ _ (files_not_str hf8))
      have FQy : Hid (Files W8 (.slice yo y.files.length yc) y.files) := Lib.hid (by rw [hW8]; exact hf8.below (below_alloc _ _))
      have HW8 := Lib.hid hW8
      have BT8 : Hid (Below W7.heap.size W7 W8) := Lib.hid (by rw [hW8]; exact two hb8 (below_alloc _ _))
      have BN8 : Hid (Below W7.heap.size W7 w8) := Lib.hid hb8
      clear hW8 hb8 hf8
      go_wp2_with fail
      rw [← HW8.out]
      go_loopw [20] (fun i wr => ∃ t : Nat, t ≤ q.files.length ∧ i = .int .i64 t ∧ Below W8.heap.size W8 wr) (fun i _ => q.files.length - (intOf i).toNat)
      case atStart => exact ⟨0, Nat.zero_le _, rfl, Below.refl _ _⟩
      case round =>
        obtain ⟨t, ht, rfl, hb⟩ := hrel
        have HBW := Lib.hid hb
        clear hb
        have zz := (QBq.out.below (two (two (two (two (two BT3.out BT4.out) BT5.out) BT6.out) BT7.out) BT8.out)).below HBW.out
        have zq0 := zz.c0
        clear zz
        have zz := QBy.out.below HBW.out
        have zy0 := zz.c0
        clear zz
        rw [K9.out] at zy0
        by_cases hlt : t < q.files.length
        · skip
          obtain ⟨bq, oq, e, _, x0, x1, x2⟩ := Files.cell ((FQq.out.below (two (two (two (two (two BT3.out BT4.out) BT5.out) BT6.out) BT7.out) BT8.out)).below HBW.out) t hlt
          cases e
          have hly : t < y.files.length := by rw [K9.out]; exact hlt
          obtain ⟨b2, o2, e, _, y0, y1, y2⟩ := Files.cell (FQy.out.below HBW.out) t hly
          cases e
          have hsm := K10.out t hlt hly
          rw [hsm.1] at y0
          rw [hsm.2] at y1
          obtain ⟨nm, hnm⟩ : ∃ s, s = q.files[t].name := ⟨_, rfl⟩
          obtain ⟨tx, htx⟩ : ∃ s, s = q.files[t].text := ⟨_, rfl⟩
          rw [← hnm] at x0 y0
          rw [← htx] at x1 y1
          clear x2 y2
          clear hnm htx hsm hly
          have rq := regrown_cell zq0
          have ry := regrown_cell zy0
          have rx0 := regrown_cell x0
          have rx1 := regrown_cell x1
          have ry0 := regrown_cell y0
          have ry1 := regrown_cell y1
          go_wp2_with fail
          refine wp_region_q (by kernel_rfl) (by kernel_rfl) ?_
          repeat (go_big_quiet_step (fail))
          refine wpQuiet_nil ?_
          intro w3 hb3
          have HB3 := Lib.hid hb3
          clear hb3
          go_wp2_with fail
          go_roundw
          case rel => exact ⟨t + 1, by omega, by go_num, two HBW.out HB3.out⟩
          case measure => simp [intOf]; omega
        · go_wp2_with fail
          go_ret
          exact ⟨rfl, two HB8.out HBW.out⟩
    · skip
      have hev := errV_pos h0
      go_enter Try.func9, Try.ntmps9
      go_wp2_with fail
      refine CB.out.mono ?_
      rintro e w1 ⟨rfl, hb1⟩
      have HB1 := Lib.hid hb1
      clear hb1
      go_wp2_with fail
      refine (CG.out _ HB1.out).mono ?_
      rintro e w2 ⟨qo, qc, rfl, hf2, hb2⟩
      obtain ⟨W2, hW2⟩ : ∃ W2, W2 = w2.alloc (.cells #[.slice qo q.files.length qc, .int .i64 q.turn] 24) := ⟨_, rfl⟩
      have HB2 : Hid (Below w.heap.size w W2) := Lib.hid (by rw [hW2]; exact two (two HB1.out hb2) (below_alloc _ _))
      have QBq : Hid (QAt W2 w2.heap.size (.slice qo q.files.length qc) q.turn) := Lib.hid (by rw [hW2]; exact QAt.new w2 _ _ (files_not_str hf2))
      have FQq : Hid (Files W2 (.slice qo q.files.length qc) q.files) := Lib.hid (by rw [hW2]; exact hf2.below (below_alloc _ _))
      have HW2 := Lib.hid hW2
      clear hW2 hb2 hf2
      have C := quilt_Swap _ q a b W2 ⟨_, rfl, FQq.out.below (Below.refl _ _)⟩ HG.out 
      unfold RetQE at C
      rw [hev] at C
      replace C := Lib.hid C
      go_wp2_with fail
      rw [← HW2.out]
      refine C.out.mono ?_
      rintro e w3 ⟨qx, rfl, ⟨vx, rfl, hf3⟩, hb3⟩
      clear C
      obtain ⟨xo, xc, rfl, _, _⟩ := hf3.parts
      obtain ⟨x, hxx⟩ : ∃ x, x = (swappedQ q a b).1 := ⟨_, rfl⟩
      rw [← hxx] at hf3 ⊢
      clear hxx
      obtain ⟨W3, hW3⟩ : ∃ W3, W3 = w3.alloc (.cells #[.slice xo x.files.length xc, .int .i64 x.turn] 24) := ⟨_, rfl⟩
      have HB3 : Hid (Below w.heap.size w W3) := Lib.hid (by rw [hW3]; exact two (two HB2.out hb3) (below_alloc _ _))
      have QBx : Hid (QAt W3 w3.heap.size (.slice xo x.files.length xc) x.turn) := Lib.hid (by rw [hW3]; exact QAt.new w3 _ _ (files_not_str hf3))
      have FQx : Hid (Files W3 (.slice xo x.files.length xc) x.files) := Lib.hid (by rw [hW3]; exact hf3.below (below_alloc _ _))
      have HW3 := Lib.hid hW3
      have BT3 : Hid (Below W2.heap.size W2 W3) := Lib.hid (by rw [hW3]; exact two hb3 (below_alloc _ _))
      have BN3 : Hid (Below W2.heap.size W2 w3) := Lib.hid hb3
      clear hW3 hb3 hf3
      go_wp2_with fail
      go_ret
      exact ⟨by first | rfl | exact ret_bool (by simp; omega), by first | exact HB3.out | (rw [← HW3.out]; exact HB3.out)⟩
end Go.Proofs.Ytggpodlecljcbab
