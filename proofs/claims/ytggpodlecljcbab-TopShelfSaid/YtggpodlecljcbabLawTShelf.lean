/- The walk of the statement TopShelf. -/
import Derived.Test.YtggpodlecljcbabWalkT2
import Derived.Test.YtggpodlecljcbabWalkB
import Derived.Test.YtggpodlecljcbabSpecT2
import Derived.Test.YtggpodlecljcbabLawH
namespace Go.Proofs.Ytggpodlecljcbab
open Go.RowKit Go.Sort
set_option linter.unusedSimpArgs false
set_option linter.unusedVariables false

def fileB : File := ⟨⟨#[97]⟩, ⟨#[]⟩, 1⟩
theorem fileB_put : putAt [] fileB = ([fileB], 0) := put_new [] fileB (by decide) List.Pairwise.nil 0 rfl rfl (by decide)
theorem fine_ok {l : List File} (h : Fine l) : ∀ f ∈ l, f.ok := fun f hf => by
  obtain ⟨h1, h2, _, _⟩ := file_good (h.each f hf)
  have h3 := name_good h1
  refine ⟨?_, ?_⟩ <;> unfold maxLen
  · have : f.name.size = f.name.data.toList.length := by rw [Array.length_toList]; rfl
    omega
  · omega
set_option maxRecDepth 100000 in
set_option maxHeartbeats 8000000 in
theorem law_TopShelf (va : Value) (l : List File) (f : File) (name : ByteArray) (w : World) (ha : Files w va l) (hlok : ∀ x ∈ l, x.ok) (hf : f.ok) (hn : name.size ≤ maxLen) :
    Calls Try.prog 5 #[va, f.val, .string name] w fun e w' => e = .returned (.bool true) ∧ Below w.heap.size w w' := by
  have CL := Lib.hid fun W hb => law_LightFiles va l W (Rd.below ha hb) hlok
  have CL1 := Lib.hid fun v W h => law_LightFiles v [f] W h (by simpa using hf)
  have CK := Lib.hid fun W hb => shelf_Check va l W (Rd.below ha hb) hlok
  have C0 := fun W => shelf_Put (.slice none 0 0) [] fileB W (Rd.nil _) ⟨by decide, by decide⟩ (by decide) List.Pairwise.nil
  rw [fileB_put] at C0
  unfold RetFilesE File.val at C0
  rw [errV_zero] at C0
  replace C0 := Lib.hid C0
  have HA := Lib.hid ha
  have HFO := Lib.hid hf
  obtain ⟨ao, ca, rfl, hca, hca'⟩ := ha.parts
  unfold File.val
  unfold maxLen at hn
  obtain ⟨W1, hW1⟩ : ∃ W1, W1 = w.alloc (.cells #[.string f.name, .string f.text, .int .i64 f.times] 57) := ⟨_, rfl⟩
  have HB1 : Hid (Below w.heap.size w W1) := Lib.hid (by rw [hW1]; exact below_alloc w _)
  have BXF : Hid (BoxF w.heap.size f W1) := Lib.hid (by rw [hW1]; exact box_new w f)
  have HW1 := Lib.hid hW1
  clear hW1 ha hf
  cases hlf : lightFiles l
  · have HLF := Lib.hid hlf
    clear hlf
    go_enter Try.func5, Try.ntmps5
    go_wp2_with fail
    rw [← HW1.out]
    refine (C0.out _).mono ?_
    rintro e W2 ⟨v1, rfl, hv1, hb2⟩
    obtain ⟨o1, q1, rfl, _, _⟩ := hv1.parts
    have BT2 := Lib.hid hb2
    have BN2 := Lib.hid hb2
    have HB2 := Lib.hid (two HB1.out hb2)
    clear hb2 hv1
    go_wp2_with fail
    refine (CL.out _ HB2.out).mono ?_
    rintro e w3 ⟨rfl, rfl⟩
    rw [HLF.out]
    go_wp2_with fail
    go_ret
    exact ⟨rfl, HB2.out⟩
  have HLF := Lib.hid hlf
  clear hlf
  cases hlf1 : lightFiles [f]
  · have HLF1 := Lib.hid hlf1
    clear hlf1
    go_enter Try.func5, Try.ntmps5
    go_wp2_with fail
    rw [← HW1.out]
    refine (C0.out _).mono ?_
    rintro e W2 ⟨v1, rfl, hv1, hb2⟩
    obtain ⟨o1, q1, rfl, _, _⟩ := hv1.parts
    have BT2 := Lib.hid hb2
    have BN2 := Lib.hid hb2
    have HB2 := Lib.hid (two HB1.out hb2)
    clear hb2 hv1
    go_wp2_with fail
    refine (CL.out _ HB2.out).mono ?_
    rintro e w3 ⟨rfl, rfl⟩
    rw [HLF.out]
    obtain ⟨z0, z1, z2⟩ := BXF.out _ BT2.out
    have BT3 : Hid (Below W2.heap.size W2 (W2.alloc (.cells #[.string f.name, .string f.text, .int .i64 f.times] 57))) := Lib.hid (below_alloc _ _)
    go_wp2_with fail
    refine (CL1.out _ _ (one_file f (by simp) (by simp) (by simp))).mono ?_
    rintro e w3 ⟨rfl, rfl⟩
    rw [HLF1.out]
    clear z0 z1 z2
    obtain ⟨W3, hW3⟩ : ∃ W3, W3 = W2.alloc (.cells #[.string f.name, .string f.text, .int .i64 f.times] 57) := ⟨_, rfl⟩
    rw [← hW3] at BT3 ⊢
    have BN3 := BT3
    have HB3 := Lib.hid (two HB2.out BT3.out)
    clear hW3
    go_wp2_with fail
    go_ret
    exact ⟨rfl, HB3.out⟩
  have HLF1 := Lib.hid hlf1
  clear hlf1
  by_cases hnm : 20 < name.size
  · skip
    go_enter Try.func5, Try.ntmps5
    go_wp2_with fail
    rw [← HW1.out]
    refine (C0.out _).mono ?_
    rintro e W2 ⟨v1, rfl, hv1, hb2⟩
    obtain ⟨o1, q1, rfl, _, _⟩ := hv1.parts
    have BT2 := Lib.hid hb2
    have BN2 := Lib.hid hb2
    have HB2 := Lib.hid (two HB1.out hb2)
    clear hb2 hv1
    go_wp2_with fail
    refine (CL.out _ HB2.out).mono ?_
    rintro e w3 ⟨rfl, rfl⟩
    rw [HLF.out]
    obtain ⟨z0, z1, z2⟩ := BXF.out _ BT2.out
    have BT3 : Hid (Below W2.heap.size W2 (W2.alloc (.cells #[.string f.name, .string f.text, .int .i64 f.times] 57))) := Lib.hid (below_alloc _ _)
    go_wp2_with fail
    refine (CL1.out _ _ (one_file f (by simp) (by simp) (by simp))).mono ?_
    rintro e w3 ⟨rfl, rfl⟩
    rw [HLF1.out]
    clear z0 z1 z2
    obtain ⟨W3, hW3⟩ : ∃ W3, W3 = W2.alloc (.cells #[.string f.name, .string f.text, .int .i64 f.times] 57) := ⟨_, rfl⟩
    rw [← hW3] at BT3 ⊢
    have BN3 := BT3
    have HB3 := Lib.hid (two HB2.out BT3.out)
    clear hW3
    go_wp2_with fail
    go_ret
    exact ⟨rfl, HB3.out⟩
  by_cases hff : filesFault l = 0
  rotate_left
  · have hev := errV_pos hff
    rw [hev] at CK
    clear hff hev
    go_enter Try.func5, Try.ntmps5
    go_wp2_with fail
    rw [← HW1.out]
    refine (C0.out _).mono ?_
    rintro e W2 ⟨v1, rfl, hv1, hb2⟩
    obtain ⟨o1, q1, rfl, _, _⟩ := hv1.parts
    have BT2 := Lib.hid hb2
    have BN2 := Lib.hid hb2
    have HB2 := Lib.hid (two HB1.out hb2)
    clear hb2 hv1
    go_wp2_with fail
    refine (CL.out _ HB2.out).mono ?_
    rintro e w3 ⟨rfl, rfl⟩
    rw [HLF.out]
    obtain ⟨z0, z1, z2⟩ := BXF.out _ BT2.out
    have BT3 : Hid (Below W2.heap.size W2 (W2.alloc (.cells #[.string f.name, .string f.text, .int .i64 f.times] 57))) := Lib.hid (below_alloc _ _)
    go_wp2_with fail
    refine (CL1.out _ _ (one_file f (by simp) (by simp) (by simp))).mono ?_
    rintro e w3 ⟨rfl, rfl⟩
    rw [HLF1.out]
    clear z0 z1 z2
    obtain ⟨W3, hW3⟩ : ∃ W3, W3 = W2.alloc (.cells #[.string f.name, .string f.text, .int .i64 f.times] 57) := ⟨_, rfl⟩
    rw [← hW3] at BT3 ⊢
    have BN3 := BT3
    have HB3 := Lib.hid (two HB2.out BT3.out)
    clear hW3
    go_wp2_with fail
    refine (CK.out _ HB3.out).mono ?_
    rintro e W4 ⟨rfl, hb4⟩
    have HB4 := Lib.hid (two HB3.out hb4)
    clear hb4
    go_wp2_with fail
    go_ret
    exact ⟨rfl, HB4.out⟩
  rw [hff, errV_zero] at CK
  have HFI := Lib.hid ((fine_iff l).1 hff)
  have hl8 := HFI.out.len
  clear hff
  obtain ⟨a, ha⟩ : ∃ x, x = fileOr (getAt l name) := ⟨_, rfl⟩
  replace ha := Lib.hid ha
  obtain ⟨ai, hai⟩ : ∃ x, x = (getAt l name).isSome := ⟨_, rfl⟩
  replace hai := Lib.hid hai
  by_cases h0 : (putAt l f).2 = 0
  · skip
    have hpk := put_ok h0
    have HPE := Lib.hid hpk.1
    have HPG := Lib.hid (get_put_same f HFI.out.rises)
    have HPF : Hid (Fine (putAll l f)) := Lib.hid (by have h := put_fine HFI.out f; rw [hpk.1] at h; exact h)
    have HPO := Lib.hid (fun n hn => get_put_other f HFI.out.rises n hn)
    obtain ⟨m, hm⟩ : ∃ m, m = putAll l f := ⟨_, rfl⟩
    rw [← hm] at HPE HPG HPF HPO
    have hm8 := HPF.out.len
    clear hm hpk h0
    go_enter Try.func5, Try.ntmps5
    go_wp2_with fail
    rw [← HW1.out]
    refine (C0.out _).mono ?_
    rintro e W2 ⟨v1, rfl, hv1, hb2⟩
    obtain ⟨o1, q1, rfl, _, _⟩ := hv1.parts
    have BT2 := Lib.hid hb2
    have BN2 := Lib.hid hb2
    have HB2 := Lib.hid (two HB1.out hb2)
    clear hb2 hv1
    go_wp2_with fail
    refine (CL.out _ HB2.out).mono ?_
    rintro e w3 ⟨rfl, rfl⟩
    rw [HLF.out]
    obtain ⟨z0, z1, z2⟩ := BXF.out _ BT2.out
    have BT3 : Hid (Below W2.heap.size W2 (W2.alloc (.cells #[.string f.name, .string f.text, .int .i64 f.times] 57))) := Lib.hid (below_alloc _ _)
    go_wp2_with fail
    refine (CL1.out _ _ (one_file f (by simp) (by simp) (by simp))).mono ?_
    rintro e w3 ⟨rfl, rfl⟩
    rw [HLF1.out]
    clear z0 z1 z2
    obtain ⟨W3, hW3⟩ : ∃ W3, W3 = W2.alloc (.cells #[.string f.name, .string f.text, .int .i64 f.times] 57) := ⟨_, rfl⟩
    rw [← hW3] at BT3 ⊢
    have BN3 := BT3
    have HB3 := Lib.hid (two HB2.out BT3.out)
    clear hW3
    go_wp2_with fail
    refine (CK.out _ HB3.out).mono ?_
    rintro e W4 ⟨rfl, hb4⟩
    have BT4 := Lib.hid hb4
    have BN4 := Lib.hid hb4
    have HB4 := Lib.hid (two HB3.out hb4)
    clear hb4
    have C := shelf_Put (.slice ao l.length ca) l f W4 (HA.out.below HB4.out) HFO.out hl8 HFI.out.rises
    unfold RetFilesE File.val at C
    rw [HPE.out, show errV ((m, 0) : List File × Nat).2 = .nilIface from rfl] at C
    replace C := Lib.hid C
    obtain ⟨zF0, zF1, zF2⟩ := BXF.out _ (two (two BT2.out BT3.out) BT4.out)
    go_wp2_with fail
    refine C.out.mono ?_
    clear zF0 zF1 zF2
    rintro e W5 ⟨vm, rfl, hvm, hb5⟩
    clear C
    have BT5 := Lib.hid hb5
    have BN5 := Lib.hid hb5
    have HB5 := Lib.hid (two HB4.out hb5)
    clear hb5
    obtain ⟨mo, mc, rfl, _, _⟩ := hvm.parts
    have HVM := Lib.hid hvm
    clear hvm
    have C := shelf_Get _ m f.name W5 (HVM.out.below (Below.refl _ _)) hm8 HPF.out.rises
    unfold RetFile File.val at C
    rw [HPG.out, show fileOr (some f) = f from rfl, show (some f).isSome = true from rfl] at C
    replace C := Lib.hid C
    obtain ⟨zF0, zF1, zF2⟩ := BXF.out _ (two (two (two BT2.out BT3.out) BT4.out) BT5.out)
    go_wp2_with fail
    refine C.out.mono ?_
    clear zF0 zF1 zF2
    rintro e w6 ⟨rfl, hb6⟩
    clear C
    obtain ⟨W6, hW6⟩ : ∃ W6, W6 = w6.alloc (.cells #[.string (f).name, .string (f).text, .int .i64 (f).times] 57) := ⟨_, rfl⟩
    have HB6 : Hid (Below w.heap.size w W6) := Lib.hid (by rw [hW6]; exact two (two HB5.out hb6) (below_alloc _ _))
    have BXg : Hid (BoxF w6.heap.size (f) W6) := Lib.hid (by rw [hW6]; exact box_new w6 _)
    have BT6 : Hid (Below W5.heap.size W5 W6) := Lib.hid (by rw [hW6]; exact two hb6 (below_alloc _ _))
    have BN6 : Hid (Below W5.heap.size W5 w6) := Lib.hid hb6
    have HW6 := Lib.hid hW6
    clear hW6 hb6
    have C := shelf_Get (.slice ao l.length ca) l name W6 (HA.out.below HB6.out) hl8 HFI.out.rises
    unfold RetFile File.val at C
    rw [← ha.out, ← hai.out] at C
    replace C := Lib.hid C
    go_wp2_with fail
    rw [← HW6.out]
    refine C.out.mono ?_
    rintro e w7 ⟨rfl, hb7⟩
    clear C
    obtain ⟨W7, hW7⟩ : ∃ W7, W7 = w7.alloc (.cells #[.string (a).name, .string (a).text, .int .i64 (a).times] 57) := ⟨_, rfl⟩
    have HB7 : Hid (Below w.heap.size w W7) := Lib.hid (by rw [hW7]; exact two (two HB6.out hb7) (below_alloc _ _))
    have BXa : Hid (BoxF w7.heap.size (a) W7) := Lib.hid (by rw [hW7]; exact box_new w7 _)
    have BT7 : Hid (Below W6.heap.size W6 W7) := Lib.hid (by rw [hW7]; exact two hb7 (below_alloc _ _))
    have BN7 : Hid (Below W6.heap.size W6 w7) := Lib.hid hb7
    have HW7 := Lib.hid hW7
    clear hW7 hb7
    cases hnf : (name.toList == f.name.toList)
    · skip
      have hne : name.toList ≠ f.name.toList := by intro e; rw [e] at hnf; simp at hnf
      have HSM := Lib.hid (HPO.out name hne)
      clear hne
      have C := shelf_Get _ m name W7 (HVM.out.below (two BT6.out BT7.out)) hm8 HPF.out.rises
      unfold RetFile File.val at C
      rw [HSM.out, ← ha.out, ← hai.out] at C
      replace C := Lib.hid C
      go_wp2_with fail
      rw [← HW7.out]
      refine C.out.mono ?_
      rintro e w8 ⟨rfl, hb8⟩
      clear C
      obtain ⟨W8, hW8⟩ : ∃ W8, W8 = w8.alloc (.cells #[.string (a).name, .string (a).text, .int .i64 (a).times] 57) := ⟨_, rfl⟩
      have HB8 : Hid (Below w.heap.size w W8) := Lib.hid (by rw [hW8]; exact two (two HB7.out hb8) (below_alloc _ _))
      have BXb : Hid (BoxF w8.heap.size (a) W8) := Lib.hid (by rw [hW8]; exact box_new w8 _)
      have BT8 : Hid (Below W7.heap.size W7 W8) := Lib.hid (by rw [hW8]; exact two hb8 (below_alloc _ _))
      have BN8 : Hid (Below W7.heap.size W7 w8) := Lib.hid hb8
      have HW8 := Lib.hid hW8
      clear hW8 hb8
      have C := shelf_Check _ m W8 (HVM.out.below (two (two BT6.out BT7.out) BT8.out)) (fine_ok HPF.out)
      rw [(fine_iff m).2 HPF.out, errV_zero] at C
      replace C := Lib.hid C
      obtain ⟨zF0, zF1, zF2⟩ := BXF.out _ (two (two (two (two (two (two BT2.out BT3.out) BT4.out) BT5.out) BT6.out) BT7.out) BT8.out)
      rw [HW8.out] at zF0 zF1 zF2
      obtain ⟨zg0, zg1, zg2⟩ := BXg.out _ (two BT7.out BT8.out)
      rw [HW8.out] at zg0 zg1 zg2
      have hff2 : fileSame f.name f.text f.times f.name f.text f.times = true := by simp [fileSame]
      go_wp2_with fail
      rw [← HW8.out]
      refine C.out.mono ?_
      clear zF0 zF1 zF2 zg0 zg1 zg2
      rintro e W9 ⟨rfl, hb9⟩
      clear C
      have BT9 := Lib.hid hb9
      have BN9 := Lib.hid hb9
      have HB9 := Lib.hid (two HB8.out hb9)
      clear hb9
      obtain ⟨zF0, zF1, zF2⟩ := BXF.out _ (two (two (two (two (two (two (two BT2.out BT3.out) BT4.out) BT5.out) BT6.out) BT7.out) BT8.out) BT9.out)
      obtain ⟨za0, za1, za2⟩ := BXa.out _ (two BT8.out BT9.out)
      obtain ⟨zb0, zb1, zb2⟩ := BXb.out _ BT9.out
      have hss : fileSame a.name a.text a.times a.name a.text a.times = true := by simp [fileSame]
      cases hdi : (getAt l name).isSome
      · skip
        have HAI : Hid (ai = false) := Lib.hid (by rw [hai.out, hdi])
        have HDR := Lib.hid (drop_isnt hdi)
        have HDN : Hid (getAt [] name = none) := Lib.hid rfl
        clear hdi
        have C := shelf_Drop (.slice ao l.length ca) l name W9 (HA.out.below HB9.out) hl8 HFI.out.rises
        unfold RetFilesE at C
        rw [HDR.out, show errV (([], 5) : List File × Nat).2 = .iface 91 (.int .i64 5) from rfl] at C
        replace C := Lib.hid C
        go_wp2_with fail
        refine C.out.mono ?_
        rintro e W10 ⟨vn, rfl, hvn, hb10⟩
        clear C
        have BT10 := Lib.hid hb10
        have BN10 := Lib.hid hb10
        have HB10 := Lib.hid (two HB9.out hb10)
        clear hb10
        obtain ⟨no, nc, rfl, _, _⟩ := hvn.parts
        have HVN := Lib.hid hvn
        clear hvn
        have C := shelf_Get (.slice ao l.length ca) l name W10 (HA.out.below HB10.out) hl8 HFI.out.rises
        unfold RetFile File.val at C
        rw [← ha.out, ← hai.out, HAI.out] at C
        replace C := Lib.hid C
        go_wp2_with fail
        refine C.out.mono ?_
        rintro e w11 ⟨rfl, hb11⟩
        clear C
        obtain ⟨W11, hW11⟩ : ∃ W11, W11 = w11.alloc (.cells #[.string (a).name, .string (a).text, .int .i64 (a).times] 57) := ⟨_, rfl⟩
        have HB11 : Hid (Below w.heap.size w W11) := Lib.hid (by rw [hW11]; exact two (two HB10.out hb11) (below_alloc _ _))
        have BXa2 : Hid (BoxF w11.heap.size (a) W11) := Lib.hid (by rw [hW11]; exact box_new w11 _)
        have BT11 : Hid (Below W10.heap.size W10 W11) := Lib.hid (by rw [hW11]; exact two hb11 (below_alloc _ _))
        have BN11 : Hid (Below W10.heap.size W10 w11) := Lib.hid hb11
        have HW11 := Lib.hid hW11
        clear hW11 hb11
        have C := shelf_Get _ [] name W11 (HVN.out.below BT11.out) (by decide) List.Pairwise.nil
        unfold RetFile File.val at C
        rw [HDN.out, show fileOr none = noFile from rfl, show (none : Option File).isSome = false from rfl] at C
        replace C := Lib.hid C
        go_wp2_with fail
        rw [← HW11.out]
        refine C.out.mono ?_
        rintro e w12 ⟨rfl, hb12⟩
        clear C
        obtain ⟨W12, hW12⟩ : ∃ W12, W12 = w12.alloc (.cells #[.string (noFile).name, .string (noFile).text, .int .i64 (noFile).times] 57) := ⟨_, rfl⟩
        have HB12 : Hid (Below w.heap.size w W12) := Lib.hid (by rw [hW12]; exact two (two HB11.out hb12) (below_alloc _ _))
        have BXn2 : Hid (BoxF w12.heap.size (noFile) W12) := Lib.hid (by rw [hW12]; exact box_new w12 _)
        have BT12 : Hid (Below W11.heap.size W11 W12) := Lib.hid (by rw [hW12]; exact two hb12 (below_alloc _ _))
        have BN12 : Hid (Below W11.heap.size W11 w12) := Lib.hid hb12
        have HW12 := Lib.hid hW12
        clear hW12 hb12
        go_wp2_with fail
        go_ret
        exact ⟨rfl, by first | exact HB12.out | (rw [← HW12.out]; exact HB12.out)⟩
      · skip
        have HAI : Hid (ai = true) := Lib.hid (by rw [hai.out, hdi])
        have HDR := Lib.hid (drop_is hdi)
        have HDN := Lib.hid (get_drop_same l name)
        have hdl := dropL_len HFI.out.rises name hdi
        have HDF : Hid (Fine (dropL l name)) := Lib.hid (by have h := drop_fine HFI.out name; rw [drop_is hdi] at h; exact h)
        obtain ⟨n, hnn⟩ : ∃ n, n = dropL l name := ⟨_, rfl⟩
        rw [← hnn] at HDR HDN hdl HDF
        have hn8 := HDF.out.len
        clear hnn hdi
        have C := shelf_Drop (.slice ao l.length ca) l name W9 (HA.out.below HB9.out) hl8 HFI.out.rises
        unfold RetFilesE at C
        rw [HDR.out, show errV ((n, 0) : List File × Nat).2 = .nilIface from rfl] at C
        replace C := Lib.hid C
        go_wp2_with fail
        refine C.out.mono ?_
        rintro e W10 ⟨vn, rfl, hvn, hb10⟩
        clear C
        have BT10 := Lib.hid hb10
        have BN10 := Lib.hid hb10
        have HB10 := Lib.hid (two HB9.out hb10)
        clear hb10
        obtain ⟨no, nc, rfl, _, _⟩ := hvn.parts
        have HVN := Lib.hid hvn
        clear hvn
        have C := shelf_Get (.slice ao l.length ca) l name W10 (HA.out.below HB10.out) hl8 HFI.out.rises
        unfold RetFile File.val at C
        rw [← ha.out, ← hai.out, HAI.out] at C
        replace C := Lib.hid C
        go_wp2_with fail
        refine C.out.mono ?_
        rintro e w11 ⟨rfl, hb11⟩
        clear C
        obtain ⟨W11, hW11⟩ : ∃ W11, W11 = w11.alloc (.cells #[.string (a).name, .string (a).text, .int .i64 (a).times] 57) := ⟨_, rfl⟩
        have HB11 : Hid (Below w.heap.size w W11) := Lib.hid (by rw [hW11]; exact two (two HB10.out hb11) (below_alloc _ _))
        have BXa2 : Hid (BoxF w11.heap.size (a) W11) := Lib.hid (by rw [hW11]; exact box_new w11 _)
        have BT11 : Hid (Below W10.heap.size W10 W11) := Lib.hid (by rw [hW11]; exact two hb11 (below_alloc _ _))
        have BN11 : Hid (Below W10.heap.size W10 w11) := Lib.hid hb11
        have HW11 := Lib.hid hW11
        clear hW11 hb11
        have C := shelf_Get _ n name W11 (HVN.out.below BT11.out) (by omega) HDF.out.rises
        unfold RetFile File.val at C
        rw [HDN.out, show fileOr none = noFile from rfl, show (none : Option File).isSome = false from rfl] at C
        replace C := Lib.hid C
        go_wp2_with fail
        rw [← HW11.out]
        refine C.out.mono ?_
        rintro e w12 ⟨rfl, hb12⟩
        clear C
        obtain ⟨W12, hW12⟩ : ∃ W12, W12 = w12.alloc (.cells #[.string (noFile).name, .string (noFile).text, .int .i64 (noFile).times] 57) := ⟨_, rfl⟩
        have HB12 : Hid (Below w.heap.size w W12) := Lib.hid (by rw [hW12]; exact two (two HB11.out hb12) (below_alloc _ _))
        have BXn2 : Hid (BoxF w12.heap.size (noFile) W12) := Lib.hid (by rw [hW12]; exact box_new w12 _)
        have BT12 : Hid (Below W11.heap.size W11 W12) := Lib.hid (by rw [hW12]; exact two hb12 (below_alloc _ _))
        have BN12 : Hid (Below W11.heap.size W11 w12) := Lib.hid hb12
        have HW12 := Lib.hid hW12
        clear hW12 hb12
        have C := shelf_Check _ n W12 (HVN.out.below (two BT11.out BT12.out)) (fine_ok HDF.out)
        rw [(fine_iff n).2 HDF.out, errV_zero] at C
        replace C := Lib.hid C
        have hq : (n.length : Int) = (l.length : Int) - 1 := by omega
        go_wp2_with fail
        rw [← HW12.out]
        refine C.out.mono ?_
        rintro e Wz ⟨rfl, hbz⟩
        have HBZ := Lib.hid (two HB12.out hbz)
        clear hbz C
        go_wp2_with fail
        go_ret
        exact ⟨by first | rfl | exact ret_bool (by simp; omega), HBZ.out⟩
    · skip
      obtain ⟨b, hb⟩ : ∃ b, b = fileOr (getAt m name) := ⟨_, rfl⟩
      obtain ⟨bi, hbi⟩ : ∃ b, b = (getAt m name).isSome := ⟨_, rfl⟩
      have C := shelf_Get _ m name W7 (HVM.out.below (two BT6.out BT7.out)) hm8 HPF.out.rises
      unfold RetFile File.val at C
      rw [← hb, ← hbi] at C
      replace C := Lib.hid C
      go_wp2_with fail
      rw [← HW7.out]
      refine C.out.mono ?_
      rintro e w8 ⟨rfl, hb8⟩
      clear C
      obtain ⟨W8, hW8⟩ : ∃ W8, W8 = w8.alloc (.cells #[.string (b).name, .string (b).text, .int .i64 (b).times] 57) := ⟨_, rfl⟩
      have HB8 : Hid (Below w.heap.size w W8) := Lib.hid (by rw [hW8]; exact two (two HB7.out hb8) (below_alloc _ _))
      have BXb : Hid (BoxF w8.heap.size (b) W8) := Lib.hid (by rw [hW8]; exact box_new w8 _)
      have BT8 : Hid (Below W7.heap.size W7 W8) := Lib.hid (by rw [hW8]; exact two hb8 (below_alloc _ _))
      have BN8 : Hid (Below W7.heap.size W7 w8) := Lib.hid hb8
      have HW8 := Lib.hid hW8
      clear hW8 hb8
      clear hb hbi
      have C := shelf_Check _ m W8 (HVM.out.below (two (two BT6.out BT7.out) BT8.out)) (fine_ok HPF.out)
      rw [(fine_iff m).2 HPF.out, errV_zero] at C
      replace C := Lib.hid C
      obtain ⟨zF0, zF1, zF2⟩ := BXF.out _ (two (two (two (two (two (two BT2.out BT3.out) BT4.out) BT5.out) BT6.out) BT7.out) BT8.out)
      rw [HW8.out] at zF0 zF1 zF2
      obtain ⟨zg0, zg1, zg2⟩ := BXg.out _ (two BT7.out BT8.out)
      rw [HW8.out] at zg0 zg1 zg2
      have hff2 : fileSame f.name f.text f.times f.name f.text f.times = true := by simp [fileSame]
      go_wp2_with fail
      rw [← HW8.out]
      refine C.out.mono ?_
      clear zF0 zF1 zF2 zg0 zg1 zg2
      rintro e W9 ⟨rfl, hb9⟩
      clear C
      have BT9 := Lib.hid hb9
      have BN9 := Lib.hid hb9
      have HB9 := Lib.hid (two HB8.out hb9)
      clear hb9
      obtain ⟨zF0, zF1, zF2⟩ := BXF.out _ (two (two (two (two (two (two (two BT2.out BT3.out) BT4.out) BT5.out) BT6.out) BT7.out) BT8.out) BT9.out)
      obtain ⟨za0, za1, za2⟩ := BXa.out _ (two BT8.out BT9.out)
      obtain ⟨zb0, zb1, zb2⟩ := BXb.out _ BT9.out
      cases hdi : (getAt l name).isSome
      · skip
        have HAI : Hid (ai = false) := Lib.hid (by rw [hai.out, hdi])
        have HDR := Lib.hid (drop_isnt hdi)
        have HDN : Hid (getAt [] name = none) := Lib.hid rfl
        clear hdi
        have C := shelf_Drop (.slice ao l.length ca) l name W9 (HA.out.below HB9.out) hl8 HFI.out.rises
        unfold RetFilesE at C
        rw [HDR.out, show errV (([], 5) : List File × Nat).2 = .iface 91 (.int .i64 5) from rfl] at C
        replace C := Lib.hid C
        go_wp2_with fail
        refine C.out.mono ?_
        rintro e W10 ⟨vn, rfl, hvn, hb10⟩
        clear C
        have BT10 := Lib.hid hb10
        have BN10 := Lib.hid hb10
        have HB10 := Lib.hid (two HB9.out hb10)
        clear hb10
        obtain ⟨no, nc, rfl, _, _⟩ := hvn.parts
        have HVN := Lib.hid hvn
        clear hvn
        have C := shelf_Get (.slice ao l.length ca) l name W10 (HA.out.below HB10.out) hl8 HFI.out.rises
        unfold RetFile File.val at C
        rw [← ha.out, ← hai.out, HAI.out] at C
        replace C := Lib.hid C
        go_wp2_with fail
        refine C.out.mono ?_
        rintro e w11 ⟨rfl, hb11⟩
        clear C
        obtain ⟨W11, hW11⟩ : ∃ W11, W11 = w11.alloc (.cells #[.string (a).name, .string (a).text, .int .i64 (a).times] 57) := ⟨_, rfl⟩
        have HB11 : Hid (Below w.heap.size w W11) := Lib.hid (by rw [hW11]; exact two (two HB10.out hb11) (below_alloc _ _))
        have BXa2 : Hid (BoxF w11.heap.size (a) W11) := Lib.hid (by rw [hW11]; exact box_new w11 _)
        have BT11 : Hid (Below W10.heap.size W10 W11) := Lib.hid (by rw [hW11]; exact two hb11 (below_alloc _ _))
        have BN11 : Hid (Below W10.heap.size W10 w11) := Lib.hid hb11
        have HW11 := Lib.hid hW11
        clear hW11 hb11
        have C := shelf_Get _ [] name W11 (HVN.out.below BT11.out) (by decide) List.Pairwise.nil
        unfold RetFile File.val at C
        rw [HDN.out, show fileOr none = noFile from rfl, show (none : Option File).isSome = false from rfl] at C
        replace C := Lib.hid C
        go_wp2_with fail
        rw [← HW11.out]
        refine C.out.mono ?_
        rintro e w12 ⟨rfl, hb12⟩
        clear C
        obtain ⟨W12, hW12⟩ : ∃ W12, W12 = w12.alloc (.cells #[.string (noFile).name, .string (noFile).text, .int .i64 (noFile).times] 57) := ⟨_, rfl⟩
        have HB12 : Hid (Below w.heap.size w W12) := Lib.hid (by rw [hW12]; exact two (two HB11.out hb12) (below_alloc _ _))
        have BXn2 : Hid (BoxF w12.heap.size (noFile) W12) := Lib.hid (by rw [hW12]; exact box_new w12 _)
        have BT12 : Hid (Below W11.heap.size W11 W12) := Lib.hid (by rw [hW12]; exact two hb12 (below_alloc _ _))
        have BN12 : Hid (Below W11.heap.size W11 w12) := Lib.hid hb12
        have HW12 := Lib.hid hW12
        clear hW12 hb12
        go_wp2_with fail
        go_ret
        exact ⟨rfl, by first | exact HB12.out | (rw [← HW12.out]; exact HB12.out)⟩
      · skip
        have HAI : Hid (ai = true) := Lib.hid (by rw [hai.out, hdi])
        have HDR := Lib.hid (drop_is hdi)
        have HDN := Lib.hid (get_drop_same l name)
        have hdl := dropL_len HFI.out.rises name hdi
        have HDF : Hid (Fine (dropL l name)) := Lib.hid (by have h := drop_fine HFI.out name; rw [drop_is hdi] at h; exact h)
        obtain ⟨n, hnn⟩ : ∃ n, n = dropL l name := ⟨_, rfl⟩
        rw [← hnn] at HDR HDN hdl HDF
        have hn8 := HDF.out.len
        clear hnn hdi
        have C := shelf_Drop (.slice ao l.length ca) l name W9 (HA.out.below HB9.out) hl8 HFI.out.rises
        unfold RetFilesE at C
        rw [HDR.out, show errV ((n, 0) : List File × Nat).2 = .nilIface from rfl] at C
        replace C := Lib.hid C
        go_wp2_with fail
        refine C.out.mono ?_
        rintro e W10 ⟨vn, rfl, hvn, hb10⟩
        clear C
        have BT10 := Lib.hid hb10
        have BN10 := Lib.hid hb10
        have HB10 := Lib.hid (two HB9.out hb10)
        clear hb10
        obtain ⟨no, nc, rfl, _, _⟩ := hvn.parts
        have HVN := Lib.hid hvn
        clear hvn
        have C := shelf_Get (.slice ao l.length ca) l name W10 (HA.out.below HB10.out) hl8 HFI.out.rises
        unfold RetFile File.val at C
        rw [← ha.out, ← hai.out, HAI.out] at C
        replace C := Lib.hid C
        go_wp2_with fail
        refine C.out.mono ?_
        rintro e w11 ⟨rfl, hb11⟩
        clear C
        obtain ⟨W11, hW11⟩ : ∃ W11, W11 = w11.alloc (.cells #[.string (a).name, .string (a).text, .int .i64 (a).times] 57) := ⟨_, rfl⟩
        have HB11 : Hid (Below w.heap.size w W11) := Lib.hid (by rw [hW11]; exact two (two HB10.out hb11) (below_alloc _ _))
        have BXa2 : Hid (BoxF w11.heap.size (a) W11) := Lib.hid (by rw [hW11]; exact box_new w11 _)
        have BT11 : Hid (Below W10.heap.size W10 W11) := Lib.hid (by rw [hW11]; exact two hb11 (below_alloc _ _))
        have BN11 : Hid (Below W10.heap.size W10 w11) := Lib.hid hb11
        have HW11 := Lib.hid hW11
        clear hW11 hb11
        have C := shelf_Get _ n name W11 (HVN.out.below BT11.out) (by omega) HDF.out.rises
        unfold RetFile File.val at C
        rw [HDN.out, show fileOr none = noFile from rfl, show (none : Option File).isSome = false from rfl] at C
        replace C := Lib.hid C
        go_wp2_with fail
        rw [← HW11.out]
        refine C.out.mono ?_
        rintro e w12 ⟨rfl, hb12⟩
        clear C
        obtain ⟨W12, hW12⟩ : ∃ W12, W12 = w12.alloc (.cells #[.string (noFile).name, .string (noFile).text, .int .i64 (noFile).times] 57) := ⟨_, rfl⟩
        have HB12 : Hid (Below w.heap.size w W12) := Lib.hid (by rw [hW12]; exact two (two HB11.out hb12) (below_alloc _ _))
        have BXn2 : Hid (BoxF w12.heap.size (noFile) W12) := Lib.hid (by rw [hW12]; exact box_new w12 _)
        have BT12 : Hid (Below W11.heap.size W11 W12) := Lib.hid (by rw [hW12]; exact two hb12 (below_alloc _ _))
        have BN12 : Hid (Below W11.heap.size W11 w12) := Lib.hid hb12
        have HW12 := Lib.hid hW12
        clear hW12 hb12
        have C := shelf_Check _ n W12 (HVN.out.below (two BT11.out BT12.out)) (fine_ok HDF.out)
        rw [(fine_iff n).2 HDF.out, errV_zero] at C
        replace C := Lib.hid C
        have hq : (n.length : Int) = (l.length : Int) - 1 := by omega
        go_wp2_with fail
        rw [← HW12.out]
        refine C.out.mono ?_
        rintro e Wz ⟨rfl, hbz⟩
        have HBZ := Lib.hid (two HB12.out hbz)
        clear hbz C
        go_wp2_with fail
        go_ret
        exact ⟨by first | rfl | exact ret_bool (by simp; omega), HBZ.out⟩
  · have hev := errV_pos h0
    obtain ⟨pe, hpe⟩ : ∃ n, n = (putAt l f).2 := ⟨_, rfl⟩
    obtain ⟨m, hm⟩ : ∃ n, n = (putAt l f).1 := ⟨_, rfl⟩
    have HPE : Hid (putAt l f = (m, pe)) := Lib.hid (by rw [hm, hpe])
    rw [← hpe] at hev
    clear h0 hm hpe
    go_enter Try.func5, Try.ntmps5
    go_wp2_with fail
    rw [← HW1.out]
    refine (C0.out _).mono ?_
    rintro e W2 ⟨v1, rfl, hv1, hb2⟩
    obtain ⟨o1, q1, rfl, _, _⟩ := hv1.parts
    have BT2 := Lib.hid hb2
    have BN2 := Lib.hid hb2
    have HB2 := Lib.hid (two HB1.out hb2)
    clear hb2 hv1
    go_wp2_with fail
    refine (CL.out _ HB2.out).mono ?_
    rintro e w3 ⟨rfl, rfl⟩
    rw [HLF.out]
    obtain ⟨z0, z1, z2⟩ := BXF.out _ BT2.out
    have BT3 : Hid (Below W2.heap.size W2 (W2.alloc (.cells #[.string f.name, .string f.text, .int .i64 f.times] 57))) := Lib.hid (below_alloc _ _)
    go_wp2_with fail
    refine (CL1.out _ _ (one_file f (by simp) (by simp) (by simp))).mono ?_
    rintro e w3 ⟨rfl, rfl⟩
    rw [HLF1.out]
    clear z0 z1 z2
    obtain ⟨W3, hW3⟩ : ∃ W3, W3 = W2.alloc (.cells #[.string f.name, .string f.text, .int .i64 f.times] 57) := ⟨_, rfl⟩
    rw [← hW3] at BT3 ⊢
    have BN3 := BT3
    have HB3 := Lib.hid (two HB2.out BT3.out)
    clear hW3
    go_wp2_with fail
    refine (CK.out _ HB3.out).mono ?_
    rintro e W4 ⟨rfl, hb4⟩
    have BT4 := Lib.hid hb4
    have BN4 := Lib.hid hb4
    have HB4 := Lib.hid (two HB3.out hb4)
    clear hb4
    have C := shelf_Put (.slice ao l.length ca) l f W4 (HA.out.below HB4.out) HFO.out hl8 HFI.out.rises
    unfold RetFilesE File.val at C
    rw [HPE.out, show errV ((m, pe) : List File × Nat).2 = errV pe from rfl, hev] at C
    replace C := Lib.hid C
    obtain ⟨zF0, zF1, zF2⟩ := BXF.out _ (two (two BT2.out BT3.out) BT4.out)
    go_wp2_with fail
    refine C.out.mono ?_
    clear zF0 zF1 zF2
    rintro e W5 ⟨vm, rfl, hvm, hb5⟩
    clear C
    have BT5 := Lib.hid hb5
    have BN5 := Lib.hid hb5
    have HB5 := Lib.hid (two HB4.out hb5)
    clear hb5
    obtain ⟨mo, mc, rfl, _, _⟩ := hvm.parts
    clear hvm hev
    cases hdi : (getAt l name).isSome
    · skip
      have HAI : Hid (ai = false) := Lib.hid (by rw [hai.out, hdi])
      have HDR := Lib.hid (drop_isnt hdi)
      have HDN : Hid (getAt [] name = none) := Lib.hid rfl
      clear hdi
      have C := shelf_Drop (.slice ao l.length ca) l name W5 (HA.out.below HB5.out) hl8 HFI.out.rises
      unfold RetFilesE at C
      rw [HDR.out, show errV (([], 5) : List File × Nat).2 = .iface 91 (.int .i64 5) from rfl] at C
      replace C := Lib.hid C
      go_wp2_with fail
      refine C.out.mono ?_
      rintro e W6 ⟨vn, rfl, hvn, hb6⟩
      clear C
      have BT6 := Lib.hid hb6
      have BN6 := Lib.hid hb6
      have HB6 := Lib.hid (two HB5.out hb6)
      clear hb6
      obtain ⟨no, nc, rfl, _, _⟩ := hvn.parts
      have HVN := Lib.hid hvn
      clear hvn
      have C := shelf_Get (.slice ao l.length ca) l name W6 (HA.out.below HB6.out) hl8 HFI.out.rises
      unfold RetFile File.val at C
      rw [← ha.out, ← hai.out, HAI.out] at C
      replace C := Lib.hid C
      go_wp2_with fail
      refine C.out.mono ?_
      rintro e w7 ⟨rfl, hb7⟩
      clear C
      obtain ⟨W7, hW7⟩ : ∃ W7, W7 = w7.alloc (.cells #[.string (a).name, .string (a).text, .int .i64 (a).times] 57) := ⟨_, rfl⟩
      have HB7 : Hid (Below w.heap.size w W7) := Lib.hid (by rw [hW7]; exact two (two HB6.out hb7) (below_alloc _ _))
      have BXa2 : Hid (BoxF w7.heap.size (a) W7) := Lib.hid (by rw [hW7]; exact box_new w7 _)
      have BT7 : Hid (Below W6.heap.size W6 W7) := Lib.hid (by rw [hW7]; exact two hb7 (below_alloc _ _))
      have BN7 : Hid (Below W6.heap.size W6 w7) := Lib.hid hb7
      have HW7 := Lib.hid hW7
      clear hW7 hb7
      have C := shelf_Get _ [] name W7 (HVN.out.below BT7.out) (by decide) List.Pairwise.nil
      unfold RetFile File.val at C
      rw [HDN.out, show fileOr none = noFile from rfl, show (none : Option File).isSome = false from rfl] at C
      replace C := Lib.hid C
      go_wp2_with fail
      rw [← HW7.out]
      refine C.out.mono ?_
      rintro e w8 ⟨rfl, hb8⟩
      clear C
      obtain ⟨W8, hW8⟩ : ∃ W8, W8 = w8.alloc (.cells #[.string (noFile).name, .string (noFile).text, .int .i64 (noFile).times] 57) := ⟨_, rfl⟩
      have HB8 : Hid (Below w.heap.size w W8) := Lib.hid (by rw [hW8]; exact two (two HB7.out hb8) (below_alloc _ _))
      have BXn2 : Hid (BoxF w8.heap.size (noFile) W8) := Lib.hid (by rw [hW8]; exact box_new w8 _)
      have BT8 : Hid (Below W7.heap.size W7 W8) := Lib.hid (by rw [hW8]; exact two hb8 (below_alloc _ _))
      have BN8 : Hid (Below W7.heap.size W7 w8) := Lib.hid hb8
      have HW8 := Lib.hid hW8
      clear hW8 hb8
      go_wp2_with fail
      go_ret
      exact ⟨rfl, by first | exact HB8.out | (rw [← HW8.out]; exact HB8.out)⟩
    · skip
      have HAI : Hid (ai = true) := Lib.hid (by rw [hai.out, hdi])
      have HDR := Lib.hid (drop_is hdi)
      have HDN := Lib.hid (get_drop_same l name)
      have hdl := dropL_len HFI.out.rises name hdi
      have HDF : Hid (Fine (dropL l name)) := Lib.hid (by have h := drop_fine HFI.out name; rw [drop_is hdi] at h; exact h)
      obtain ⟨n, hnn⟩ : ∃ n, n = dropL l name := ⟨_, rfl⟩
      rw [← hnn] at HDR HDN hdl HDF
      have hn8 := HDF.out.len
      clear hnn hdi
      have C := shelf_Drop (.slice ao l.length ca) l name W5 (HA.out.below HB5.out) hl8 HFI.out.rises
      unfold RetFilesE at C
      rw [HDR.out, show errV ((n, 0) : List File × Nat).2 = .nilIface from rfl] at C
      replace C := Lib.hid C
      go_wp2_with fail
      refine C.out.mono ?_
      rintro e W6 ⟨vn, rfl, hvn, hb6⟩
      clear C
      have BT6 := Lib.hid hb6
      have BN6 := Lib.hid hb6
      have HB6 := Lib.hid (two HB5.out hb6)
      clear hb6
      obtain ⟨no, nc, rfl, _, _⟩ := hvn.parts
      have HVN := Lib.hid hvn
      clear hvn
      have C := shelf_Get (.slice ao l.length ca) l name W6 (HA.out.below HB6.out) hl8 HFI.out.rises
      unfold RetFile File.val at C
      rw [← ha.out, ← hai.out, HAI.out] at C
      replace C := Lib.hid C
      go_wp2_with fail
      refine C.out.mono ?_
      rintro e w7 ⟨rfl, hb7⟩
      clear C
      obtain ⟨W7, hW7⟩ : ∃ W7, W7 = w7.alloc (.cells #[.string (a).name, .string (a).text, .int .i64 (a).times] 57) := ⟨_, rfl⟩
      have HB7 : Hid (Below w.heap.size w W7) := Lib.hid (by rw [hW7]; exact two (two HB6.out hb7) (below_alloc _ _))
      have BXa2 : Hid (BoxF w7.heap.size (a) W7) := Lib.hid (by rw [hW7]; exact box_new w7 _)
      have BT7 : Hid (Below W6.heap.size W6 W7) := Lib.hid (by rw [hW7]; exact two hb7 (below_alloc _ _))
      have BN7 : Hid (Below W6.heap.size W6 w7) := Lib.hid hb7
      have HW7 := Lib.hid hW7
      clear hW7 hb7
      have C := shelf_Get _ n name W7 (HVN.out.below BT7.out) (by omega) HDF.out.rises
      unfold RetFile File.val at C
      rw [HDN.out, show fileOr none = noFile from rfl, show (none : Option File).isSome = false from rfl] at C
      replace C := Lib.hid C
      go_wp2_with fail
      rw [← HW7.out]
      refine C.out.mono ?_
      rintro e w8 ⟨rfl, hb8⟩
      clear C
      obtain ⟨W8, hW8⟩ : ∃ W8, W8 = w8.alloc (.cells #[.string (noFile).name, .string (noFile).text, .int .i64 (noFile).times] 57) := ⟨_, rfl⟩
      have HB8 : Hid (Below w.heap.size w W8) := Lib.hid (by rw [hW8]; exact two (two HB7.out hb8) (below_alloc _ _))
      have BXn2 : Hid (BoxF w8.heap.size (noFile) W8) := Lib.hid (by rw [hW8]; exact box_new w8 _)
      have BT8 : Hid (Below W7.heap.size W7 W8) := Lib.hid (by rw [hW8]; exact two hb8 (below_alloc _ _))
      have BN8 : Hid (Below W7.heap.size W7 w8) := Lib.hid hb8
      have HW8 := Lib.hid hW8
      clear hW8 hb8
      have C := shelf_Check _ n W8 (HVN.out.below (two BT7.out BT8.out)) (fine_ok HDF.out)
      rw [(fine_iff n).2 HDF.out, errV_zero] at C
      replace C := Lib.hid C
      have hq : (n.length : Int) = (l.length : Int) - 1 := by omega
      go_wp2_with fail
      rw [← HW8.out]
      refine C.out.mono ?_
      rintro e Wz ⟨rfl, hbz⟩
      have HBZ := Lib.hid (two HB8.out hbz)
      clear hbz C
      go_wp2_with fail
      go_ret
      exact ⟨by first | rfl | exact ret_bool (by simp; omega), HBZ.out⟩
end Go.Proofs.Ytggpodlecljcbab
