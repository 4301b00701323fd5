/- The walk of the statement TopWrite. -/
import Derived.Test.YtggpodlecljcbabWalkT2
import Derived.Test.YtggpodlecljcbabWalkB
namespace Go.Proofs.Ytggpodlecljcbab
open Go.RowKit Go.Sort
set_option linter.unusedSimpArgs false
set_option linter.unusedVariables false

set_option maxRecDepth 100000 in
set_option maxHeartbeats 4000000 in
theorem law_TopWrite (va : Value) (avs : List ActV) (al : List Act) (name text other : ByteArray) (w : World) (hav : ActVs w va avs) (haa : IsActs w avs al) (hak : ∀ a ∈ al, a.ok) (hname : name.size ≤ maxLen) (htext : text.size ≤ maxLen) (hother : other.size ≤ maxLen) :
    Calls Try.prog 7 #[va, .string name, .string text, .string other] w fun e w' => e = .returned (.bool true) ∧ Below w.heap.size w w' := by
  have CB := Lib.hid (top_began w)
  obtain ⟨vo, vc, rfl, hvc, hvm⟩ := hav.parts
  have hmname : name.size ≤ 9223372036854775807 := by unfold maxLen at hname; omega
  have HMname := Lib.hid hname
  have hmtext : text.size ≤ 9223372036854775807 := by unfold maxLen at htext; omega
  have HMtext := Lib.hid htext
  have hmother : other.size ≤ 9223372036854775807 := by unfold maxLen at hother; omega
  have HMother := Lib.hid hother
  have HAV := Lib.hid hav
  have HAA := Lib.hid haa
  have HAK : Hid (∀ a ∈ al, a.ok) := Lib.hid hak
  clear hav haa hak hname htext hother
  cases hlg : lightActs al 60
  · have CG := Lib.hid fun W (hb : Below w.heap.size w W) => top_grown_no _ avs al W (HAV.out.below hb) (HAA.out.below hb) HAK.out hlg
    clear hlg
    go_enter Try.func7, Try.ntmps7
    go_wp2_with fail
    refine CB.out.mono ?_
    rintro e w1 ⟨rfl, hb1⟩
    have HB1 := Lib.hid hb1
    clear hb1
    go_wp2_with fail
    refine (CG.out _ HB1.out).mono ?_
    rintro e w2 ⟨qo, qc, rfl, hb2⟩
    have HB2 := Lib.hid (two (two HB1.out hb2) (below_alloc w2 (.cells #[.slice qo 0 qc, .int .i64 0] 24)))
    clear hb2
    go_wp2_with fail
    go_ret
    exact ⟨rfl, HB2.out⟩
  · have CG := Lib.hid fun W (hb : Below w.heap.size w W) => top_grown_yes _ avs al W (HAV.out.below hb) (HAA.out.below hb) HAK.out hlg
    have HGQ := Lib.hid (grown_fit hlg)
    obtain ⟨q, hq⟩ : ∃ q, q = grownQ al := ⟨_, rfl⟩
    rw [← hq] at CG HGQ
    clear hq hlg
    have HG : Hid (Good q) := Lib.hid HGQ.out.1
    have hq8 := HGQ.out.1.fine.len
    have hqt := HGQ.out.2
    have hq1 := HGQ.out.1.lo
    by_cases hg0 : 20 < name.size
    · go_enter Try.func7, Try.ntmps7
      go_wp2_with fail
      refine CB.out.mono ?_
      rintro e w1 ⟨rfl, hb1⟩
      have HB1 := Lib.hid hb1
      clear hb1
      go_wp2_with fail
      refine (CG.out _ HB1.out).mono ?_
      rintro e w2 ⟨qo, qc, rfl, hf2, hb2⟩
      have HB2 := Lib.hid (two (two HB1.out hb2) (below_alloc w2 (.cells #[.slice qo q.files.length qc, .int .i64 q.turn] 24)))
      clear hb2 hf2
      go_wp2_with fail
      go_ret
      exact ⟨rfl, HB2.out⟩
    by_cases hg1 : 40 < text.size
    · go_enter Try.func7, Try.ntmps7
      go_wp2_with fail
      refine CB.out.mono ?_
      rintro e w1 ⟨rfl, hb1⟩
      have HB1 := Lib.hid hb1
      clear hb1
      go_wp2_with fail
      refine (CG.out _ HB1.out).mono ?_
      rintro e w2 ⟨qo, qc, rfl, hf2, hb2⟩
      have HB2 := Lib.hid (two (two HB1.out hb2) (below_alloc w2 (.cells #[.slice qo q.files.length qc, .int .i64 q.turn] 24)))
      clear hb2 hf2
      go_wp2_with fail
      go_ret
      exact ⟨rfl, HB2.out⟩
    by_cases hg2 : 20 < other.size
    · go_enter Try.func7, Try.ntmps7
      go_wp2_with fail
      refine CB.out.mono ?_
      rintro e w1 ⟨rfl, hb1⟩
      have HB1 := Lib.hid hb1
      clear hb1
      go_wp2_with fail
      refine (CG.out _ HB1.out).mono ?_
      rintro e w2 ⟨qo, qc, rfl, hf2, hb2⟩
      have HB2 := Lib.hid (two (two HB1.out hb2) (below_alloc w2 (.cells #[.slice qo q.files.length qc, .int .i64 q.turn] 24)))
      clear hb2 hf2
      go_wp2_with fail
      go_ret
      exact ⟨rfl, HB2.out⟩
    obtain ⟨f, hf⟩ : ∃ x, x = fileOr (getAt q.files name) := ⟨_, rfl⟩
    replace hf := Lib.hid hf
    obtain ⟨fi, hfi⟩ : ∃ x, x = (getAt q.files name).isSome := ⟨_, rfl⟩
    replace hfi := Lib.hid hfi
    have hft := get_times HG.out.fine name
    rw [← hf.out] at hft
    by_cases h0 : (writtenQ q name text).2 = 0
    · skip
      have HOK := Lib.hid (written_ok HG.out h0)
      have HGX := Lib.hid (written_good HG.out name text h0)
      have hev : errV (writtenQ q name text).2 = .nilIface := by rw [h0]; rfl
      obtain ⟨x, hx⟩ : ∃ x, x = (writtenQ q name text).1 := ⟨_, rfl⟩
      replace hx := Lib.hid hx
      rw [← hx.out] at HOK HGX
      have hx8 := HGX.out.1.fine.len
      have HXF : Hid (x.files = putAll q.files ⟨name, text, f.times + 1⟩) := Lib.hid (by rw [HOK.out.1, hf.out])
      have HGX1 : Hid (getAt x.files name = some ⟨name, text, f.times + 1⟩) := Lib.hid (by rw [HXF.out]; exact get_put_same ⟨name, text, f.times + 1⟩ HG.out.fine.rises)
      have hg : Hid ((⟨name, text, f.times + 1⟩ : File) = fileOr (getAt x.files name)) := Lib.hid (by rw [HGX1.out]; rfl)
      have hgi : Hid (true = (getAt x.files name).isSome) := Lib.hid (by rw [HGX1.out]; rfl)
      obtain ⟨a, ha⟩ : ∃ x, x = fileOr (getAt q.files other) := ⟨_, rfl⟩
      replace ha := Lib.hid ha
      obtain ⟨ai, hai⟩ : ∃ x, x = (getAt q.files other).isSome := ⟨_, rfl⟩
      replace hai := Lib.hid hai
      go_enter Try.func7, Try.ntmps7
      go_wp2_with fail
      refine CB.out.mono ?_
      rintro e w1 ⟨rfl, hb1⟩
      have HB1 := Lib.hid hb1
      clear hb1
      go_wp2_with fail
      refine (CG.out _ HB1.out).mono ?_
      rintro e w2 ⟨qo, qc, rfl, hf2, hb2⟩
      obtain ⟨W2, hW2⟩ : ∃ W2, W2 = w2.alloc (.cells #[.slice qo q.files.length qc, .int .i64 q.turn] 24) := ⟨_, rfl⟩
      have HB2 : Hid (Below w.heap.size w W2) := Lib.hid (by rw [hW2]; exact two (two HB1.out hb2) (below_alloc _ _))
      have QBq : Hid (QAt W2 w2.heap.size (.slice qo q.files.length qc) q.turn) := Lib.hid (by rw [hW2]; exact QAt.new w2 _ _ (files_not_str hf2))
      have FQq : Hid (Files W2 (.slice qo q.files.length qc) q.files) := Lib.hid (by rw [hW2]; exact hf2.below (below_alloc _ _))
      have HW2 := Lib.hid hW2
      clear hW2 hb2 hf2
      have C := shelf_Get _ q.files name W2 (FQq.out.below (Below.refl _ _)) hq8 HG.out.fine.rises
      unfold RetFile File.val at C
      rw [← hf.out, ← hfi.out] at C
      replace C := Lib.hid C
      go_wp2_with fail
      rw [← HW2.out]
      refine C.out.mono ?_
      rintro e w3 ⟨rfl, hb3⟩
      clear C
      obtain ⟨W3, hW3⟩ : ∃ W3, W3 = w3.alloc (.cells #[.string (f).name, .string (f).text, .int .i64 (f).times] 57) := ⟨_, rfl⟩
      have HB3 : Hid (Below w.heap.size w W3) := Lib.hid (by rw [hW3]; exact two (two HB2.out hb3) (below_alloc _ _))
      have BXf : Hid (BoxF w3.heap.size (f) W3) := Lib.hid (by rw [hW3]; exact box_new w3 _)
      have BT3 : Hid (Below W2.heap.size W2 W3) := Lib.hid (by rw [hW3]; exact two hb3 (below_alloc _ _))
      have BN3 : Hid (Below W2.heap.size W2 w3) := Lib.hid hb3
      have HW3 := Lib.hid hW3
      clear hW3 hb3
      have C := quilt_Write _ q name text W3 ⟨_, rfl, FQq.out.below BT3.out⟩ HG.out HMname.out HMtext.out
      unfold RetQE at C
      rw [hev, ← hx.out] at C
      replace C := Lib.hid C
      have zz := QBq.out.below BT3.out
      have zq0 := zz.c0
      have zq1 := zz.c1
      clear zz
      rw [HW3.out] at zq0 zq1
      go_wp2_with fail
      rw [← HW3.out]
      refine C.out.mono ?_
      clear zq0 zq1
      rintro e w4 ⟨qx, rfl, ⟨vx, rfl, hf4⟩, hb4⟩
      clear C
      obtain ⟨xo, xc, rfl, _, _⟩ := hf4.parts
      obtain ⟨W4, hW4⟩ : ∃ W4, W4 = w4.alloc (.cells #[.slice xo x.files.length xc, .int .i64 x.turn] 24) := ⟨_, rfl⟩
      have HB4 : Hid (Below w.heap.size w W4) := Lib.hid (by rw [hW4]; exact two (two HB3.out hb4) (below_alloc _ _))
      have QBx : Hid (QAt W4 w4.heap.size (.slice xo x.files.length xc) x.turn) := Lib.hid (by rw [hW4]; exact QAt.new w4 _ _ (files_not_str hf4))
      have FQx : Hid (Files W4 (.slice xo x.files.length xc) x.files) := Lib.hid (by rw [hW4]; exact hf4.below (below_alloc _ _))
      have HW4 := Lib.hid hW4
      have BT4 : Hid (Below W3.heap.size W3 W4) := Lib.hid (by rw [hW4]; exact two hb4 (below_alloc _ _))
      have BN4 : Hid (Below W3.heap.size W3 w4) := Lib.hid hb4
      clear hW4 hb4 hf4
      have C := shelf_Get _ x.files name W4 FQx.out hx8 HGX.out.1.fine.rises
      unfold RetFile File.val at C
      rw [← hg.out, ← hgi.out] at C
      replace C := Lib.hid C
      go_wp2_with fail
      rw [← HW4.out]
      refine C.out.mono ?_
      rintro e w5 ⟨rfl, hb5⟩
      clear C
      obtain ⟨W5, hW5⟩ : ∃ W5, W5 = w5.alloc (.cells #[.string ((⟨name, text, f.times + 1⟩ : File)).name, .string ((⟨name, text, f.times + 1⟩ : File)).text, .int .i64 ((⟨name, text, f.times + 1⟩ : File)).times] 57) := ⟨_, rfl⟩
      have HB5 : Hid (Below w.heap.size w W5) := Lib.hid (by rw [hW5]; exact two (two HB4.out hb5) (below_alloc _ _))
      have BXg : Hid (BoxF w5.heap.size ((⟨name, text, f.times + 1⟩ : File)) W5) := Lib.hid (by rw [hW5]; exact box_new w5 _)
      have BT5 : Hid (Below W4.heap.size W4 W5) := Lib.hid (by rw [hW5]; exact two hb5 (below_alloc _ _))
      have BN5 : Hid (Below W4.heap.size W4 w5) := Lib.hid hb5
      have HW5 := Lib.hid hW5
      clear hW5 hb5
      have C := shelf_Get _ q.files other W5 (FQq.out.below (two (two BT3.out BT4.out) BT5.out)) hq8 HG.out.fine.rises
      unfold RetFile File.val at C
      rw [← ha.out, ← hai.out] at C
      replace C := Lib.hid C
      have zz := QBq.out.below (two (two BT3.out BT4.out) BT5.out)
      have zq0 := zz.c0
      have zq1 := zz.c1
      clear zz
      rw [HW5.out] at zq0 zq1
      go_wp2_with fail
      rw [← HW5.out]
      refine C.out.mono ?_
      clear zq0 zq1
      rintro e w6 ⟨rfl, hb6⟩
      clear C
      obtain ⟨W6, hW6⟩ : ∃ W6, W6 = w6.alloc (.cells #[.string (a).name, .string (a).text, .int .i64 (a).times] 57) := ⟨_, rfl⟩
      have HB6 : Hid (Below w.heap.size w W6) := Lib.hid (by rw [hW6]; exact two (two HB5.out hb6) (below_alloc _ _))
      have BXa : Hid (BoxF w6.heap.size (a) W6) := Lib.hid (by rw [hW6]; exact box_new w6 _)
      have BT6 : Hid (Below W5.heap.size W5 W6) := Lib.hid (by rw [hW6]; exact two hb6 (below_alloc _ _))
      have BN6 : Hid (Below W5.heap.size W5 w6) := Lib.hid hb6
      have HW6 := Lib.hid hW6
      clear hW6 hb6
      cases hon : (other.toList == name.toList)
      · skip
        have hne : other.toList ≠ name.toList := by intro e; rw [e] at hon; simp at hon
        have HSM : Hid (getAt x.files other = getAt q.files other) := Lib.hid (by rw [HXF.out]; exact get_put_other ⟨name, text, f.times + 1⟩ HG.out.fine.rises other hne)
        clear hne
        have C := shelf_Get _ x.files other W6 (FQx.out.below (two BT5.out BT6.out)) hx8 HGX.out.1.fine.rises
        unfold RetFile File.val at C
        rw [HSM.out, ← ha.out, ← hai.out] at C
        replace C := Lib.hid C
        have zz := QBx.out.below (two BT5.out BT6.out)
        have zx0 := zz.c0
        have zx1 := zz.c1
        clear zz
        rw [HW6.out] at zx0 zx1
        go_wp2_with fail
        rw [← HW6.out]
        refine C.out.mono ?_
        clear zx0 zx1
        rintro e w7 ⟨rfl, hb7⟩
        clear C
        obtain ⟨W7, hW7⟩ : ∃ W7, W7 = w7.alloc (.cells #[.string (a).name, .string (a).text, .int .i64 (a).times] 57) := ⟨_, rfl⟩
        have HB7 : Hid (Below w.heap.size w W7) := Lib.hid (by rw [hW7]; exact two (two HB6.out hb7) (below_alloc _ _))
        have BXb : Hid (BoxF w7.heap.size (a) W7) := Lib.hid (by rw [hW7]; exact box_new w7 _)
        have BT7 : Hid (Below W6.heap.size W6 W7) := Lib.hid (by rw [hW7]; exact two hb7 (below_alloc _ _))
        have BN7 : Hid (Below W6.heap.size W6 w7) := Lib.hid hb7
        have HW7 := Lib.hid hW7
        clear hW7 hb7
        obtain ⟨zf0, zf1, zf2⟩ := BXf.out _ (two (two (two BT4.out BT5.out) BT6.out) BT7.out)
        rw [HW7.out] at zf0 zf1 zf2
        obtain ⟨zg0, zg1, zg2⟩ := BXg.out _ (two BT6.out BT7.out)
        rw [HW7.out] at zg0 zg1 zg2
        obtain ⟨za0, za1, za2⟩ := BXa.out _ BT7.out
        rw [HW7.out] at za0 za1 za2
        have hsame : fileSame a.name a.text a.times a.name a.text a.times = true := by rw [fileSame_iff]; simp
        go_wp2_with fail
        go_ret
        exact ⟨rfl, by first | exact HB7.out | (rw [← HW7.out]; exact HB7.out)⟩
      · skip
        obtain ⟨b, hb⟩ : ∃ b, b = fileOr (getAt x.files other) := ⟨_, rfl⟩
        obtain ⟨bi, hbi⟩ : ∃ b, b = (getAt x.files other).isSome := ⟨_, rfl⟩
        have C := shelf_Get _ x.files other W6 (FQx.out.below (two BT5.out BT6.out)) hx8 HGX.out.1.fine.rises
        unfold RetFile File.val at C
        rw [← hb, ← hbi] at C
        replace C := Lib.hid C
        clear hb hbi
        have zz := QBx.out.below (two BT5.out BT6.out)
        have zx0 := zz.c0
        have zx1 := zz.c1
        clear zz
        rw [HW6.out] at zx0 zx1
        go_wp2_with fail
        rw [← HW6.out]
        refine C.out.mono ?_
        clear zx0 zx1
        rintro e w7 ⟨rfl, hb7⟩
        clear C
        obtain ⟨W7, hW7⟩ : ∃ W7, W7 = w7.alloc (.cells #[.string (b).name, .string (b).text, .int .i64 (b).times] 57) := ⟨_, rfl⟩
        have HB7 : Hid (Below w.heap.size w W7) := Lib.hid (by rw [hW7]; exact two (two HB6.out hb7) (below_alloc _ _))
        have BXb : Hid (BoxF w7.heap.size (b) W7) := Lib.hid (by rw [hW7]; exact box_new w7 _)
        have BT7 : Hid (Below W6.heap.size W6 W7) := Lib.hid (by rw [hW7]; exact two hb7 (below_alloc _ _))
        have BN7 : Hid (Below W6.heap.size W6 w7) := Lib.hid hb7
        have HW7 := Lib.hid hW7
        clear hW7 hb7
        obtain ⟨zf0, zf1, zf2⟩ := BXf.out _ (two (two (two BT4.out BT5.out) BT6.out) BT7.out)
        rw [HW7.out] at zf0 zf1 zf2
        obtain ⟨zg0, zg1, zg2⟩ := BXg.out _ (two BT6.out BT7.out)
        rw [HW7.out] at zg0 zg1 zg2
        obtain ⟨za0, za1, za2⟩ := BXa.out _ BT7.out
        rw [HW7.out] at za0 za1 za2
        go_wp2_with fail
        go_ret
        exact ⟨rfl, by first | exact HB7.out | (rw [← HW7.out]; exact HB7.out)⟩
    · have hev := errV_pos h0
      go_enter Try.func7, Try.ntmps7
      go_wp2_with fail
      refine CB.out.mono ?_
      rintro e w1 ⟨rfl, hb1⟩
      have HB1 := Lib.hid hb1
      clear hb1
      go_wp2_with fail
      refine (CG.out _ HB1.out).mono ?_
      rintro e w2 ⟨qo, qc, rfl, hf2, hb2⟩
      obtain ⟨W2, hW2⟩ : ∃ W2, W2 = w2.alloc (.cells #[.slice qo q.files.length qc, .int .i64 q.turn] 24) := ⟨_, rfl⟩
      have HB2 : Hid (Below w.heap.size w W2) := Lib.hid (by rw [hW2]; exact two (two HB1.out hb2) (below_alloc _ _))
      have QBq : Hid (QAt W2 w2.heap.size (.slice qo q.files.length qc) q.turn) := Lib.hid (by rw [hW2]; exact QAt.new w2 _ _ (files_not_str hf2))
      have FQq : Hid (Files W2 (.slice qo q.files.length qc) q.files) := Lib.hid (by rw [hW2]; exact hf2.below (below_alloc _ _))
      have HW2 := Lib.hid hW2
      clear hW2 hb2 hf2
      have C := shelf_Get _ q.files name W2 (FQq.out.below (Below.refl _ _)) hq8 HG.out.fine.rises
      unfold RetFile File.val at C
      rw [← hf.out, ← hfi.out] at C
      replace C := Lib.hid C
      go_wp2_with fail
      rw [← HW2.out]
      refine C.out.mono ?_
      rintro e w3 ⟨rfl, hb3⟩
      clear C
      obtain ⟨W3, hW3⟩ : ∃ W3, W3 = w3.alloc (.cells #[.string (f).name, .string (f).text, .int .i64 (f).times] 57) := ⟨_, rfl⟩
      have HB3 : Hid (Below w.heap.size w W3) := Lib.hid (by rw [hW3]; exact two (two HB2.out hb3) (below_alloc _ _))
      have BXf : Hid (BoxF w3.heap.size (f) W3) := Lib.hid (by rw [hW3]; exact box_new w3 _)
      have BT3 : Hid (Below W2.heap.size W2 W3) := Lib.hid (by rw [hW3]; exact two hb3 (below_alloc _ _))
      have BN3 : Hid (Below W2.heap.size W2 w3) := Lib.hid hb3
      have HW3 := Lib.hid hW3
      clear hW3 hb3
      have C := quilt_Write _ q name text W3 ⟨_, rfl, FQq.out.below BT3.out⟩ HG.out HMname.out HMtext.out
      unfold RetQE at C
      rw [hev] at C
      replace C := Lib.hid C
      have zz := QBq.out.below BT3.out
      have zq0 := zz.c0
      have zq1 := zz.c1
      clear zz
      rw [HW3.out] at zq0 zq1
      go_wp2_with fail
      rw [← HW3.out]
      refine C.out.mono ?_
      clear zq0 zq1
      rintro e w4 ⟨qx, rfl, ⟨vx, rfl, hf4⟩, hb4⟩
      clear C
      obtain ⟨xo, xc, rfl, _, _⟩ := hf4.parts
      obtain ⟨x, hx⟩ : ∃ x, x = (writtenQ q name text).1 := ⟨_, rfl⟩
      rw [← hx] at hf4 ⊢
      clear hx
      obtain ⟨W4, hW4⟩ : ∃ W4, W4 = w4.alloc (.cells #[.slice xo x.files.length xc, .int .i64 x.turn] 24) := ⟨_, rfl⟩
      have HB4 : Hid (Below w.heap.size w W4) := Lib.hid (by rw [hW4]; exact two (two HB3.out hb4) (below_alloc _ _))
      have QBx : Hid (QAt W4 w4.heap.size (.slice xo x.files.length xc) x.turn) := Lib.hid (by rw [hW4]; exact QAt.new w4 _ _ (files_not_str hf4))
      have FQx : Hid (Files W4 (.slice xo x.files.length xc) x.files) := Lib.hid (by rw [hW4]; exact hf4.below (below_alloc _ _))
      have HW4 := Lib.hid hW4
      have BT4 : Hid (Below W3.heap.size W3 W4) := Lib.hid (by rw [hW4]; exact two hb4 (below_alloc _ _))
      have BN4 : Hid (Below W3.heap.size W3 w4) := Lib.hid hb4
      clear hW4 hb4 hf4
      go_wp2_with fail
      go_ret
      exact ⟨rfl, by first | exact HB4.out | (rw [← HW4.out]; exact HB4.out)⟩
end Go.Proofs.Ytggpodlecljcbab
