/- The law of chapter 2: ShelfSays, walked. -/
import Derived.Test.YtggpodlecljcbaaWalkG6
import Derived.Test.YtggpodlecljcbaaWalkB
namespace Go.Proofs.Ytggpodlecljcbaa
open Go.RowKit Go.Sort
set_option linter.unusedSimpArgs false
set_option linter.unusedVariables false
theorem same_eq (n : Nat) (w : World) :
    Calls Try.prog 14 #[errV n, .int .i64 n] w fun e w' => e = .returned (.bool true) ∧ Below w.heap.size w w' :=
  (law_same n n w).mono fun e w' ⟨h1, h2⟩ => ⟨by rw [h1]; exact ret_bool (by simp), h2 ▸ Below.refl _ _⟩
/-- A box of one file, in all later worlds. -/
def BoxF (b : Nat) (f : File) (w0 : World) : Prop := ∀ W, Below w0.heap.size w0 W → W.cell? ⟨b, 0, none⟩ = some (.string f.name) ∧ W.cell? ⟨b, 1, none⟩ = some (.string f.text) ∧ W.cell? ⟨b, 2, none⟩ = some (.int .i64 f.times)
theorem box_of {b : Nat} {f : File} {w0 : World} (hb : b < w0.heap.size) (c0 : w0.cell? ⟨b, 0, none⟩ = some (.string f.name)) (c1 : w0.cell? ⟨b, 1, none⟩ = some (.string f.text)) (c2 : w0.cell? ⟨b, 2, none⟩ = some (.int .i64 f.times)) : BoxF b f w0 := fun W h => by
  obtain ⟨hc, _⟩ := bcell h
  exact ⟨(hc _ _ hb).trans c0, (hc _ _ hb).trans c1, (hc _ _ hb).trans c2⟩
theorem box_new (w : World) (f : File) : BoxF w.heap.size f (w.alloc (.cells #[.string f.name, .string f.text, .int .i64 f.times] 23)) :=
  box_of (by simp) (by simp) (by simp) (by simp)
theorem BoxF.later {b : Nat} {f : File} {w0 w1 : World} (h : BoxF b f w0) (hb : Below w0.heap.size w0 w1) : BoxF b f w1 := fun W hW => h W (two hb hW)
theorem BoxF.now {b : Nat} {f : File} {w0 : World} (h : BoxF b f w0) : w0.cell? ⟨b, 0, none⟩ = some (.string f.name) ∧ w0.cell? ⟨b, 1, none⟩ = some (.string f.text) ∧ w0.cell? ⟨b, 2, none⟩ = some (.int .i64 f.times) := h _ (Below.refl _ _)

def fileA : File := ⟨⟨#[97]⟩, ⟨#[120]⟩, 1⟩
theorem fileA_ok : fileA.ok := ⟨by decide, by decide⟩
theorem fileA_put : putAt [] fileA = ([fileA], 0) := put_new [] fileA (by decide) List.Pairwise.nil 0 rfl rfl (by decide)
theorem fileA_get : getAt [fileA] fileA.name = some fileA := by unfold getAt; simp
theorem fileA_rises : Rises [fileA] := List.pairwise_singleton _ _

set_option maxHeartbeats 1000000 in
theorem law_shelves (w : World) : Calls Try.prog 62 #[] w fun e w' => e = .returned (.bool true) ∧ Below w.heap.size w w' := by
  have C := fun W => shelf_Put (.slice none 0 0) [] fileA W (Rd.nil _) fileA_ok (by decide) List.Pairwise.nil
  have G := fun v W h => shelf_Get v [fileA] fileA.name W h (by decide) fileA_rises
  rw [fileA_put] at C
  rw [fileA_get] at G
  unfold RetFilesE File.val at C
  unfold RetFile fileOr File.val at G
  replace C := Lib.hid C
  replace G := Lib.hid G
  go_enter Try.func62, Try.ntmps62
  go_wp2_with fail
  refine (C.out _).mono ?_
  rintro e w1 ⟨v, rfl, hv, hb1⟩
  have HV := Lib.hid hv
  have HB1 := Lib.hid hb1
  clear hv hb1
  go_wp2_with fail
  refine (G.out _ _ HV.out).mono ?_
  rintro e w2 ⟨rfl, hb2⟩
  have BX := Lib.hid (box_new w2 fileA)
  have HB2 := Lib.hid (two HB1.out (two hb2 (below_alloc w2 (.cells #[.string fileA.name, .string fileA.text, .int .i64 fileA.times] 23))))
  clear hb2
  go_wp2_with fail
  refine (same_eq 0 _).mono ?_
  rintro e w3 ⟨rfl, hb3⟩
  obtain ⟨z0, z1, z2⟩ := BX.out _ hb3
  replace z1 : w3.cell? ⟨w2.heap.size, 1, none⟩ = some (.string ⟨#[120]⟩) := z1
  have HB3 := Lib.hid (two HB2.out hb3)
  clear hb3
  go_wp2_with fail
  go_ret
  exact ⟨rfl, HB3.out⟩

theorem fault_same (l : List File) (va : Value) (w : World) (ha : Files w va l) (hok : ∀ f ∈ l, f.ok) :
    Calls Try.prog 64 #[va] w fun e w' => e = .returned (errV (filesFault l)) ∧ Below w.heap.size w w' := shelf_Check va l w ha hok
theorem fault_len {l : List File} (h : filesFault l = 0) : l.length ≤ 8 := by
  unfold filesFault at h
  split at h
  · cases h
  · omega
theorem fault_rises {l : List File} (h : filesFault l = 0) : Rises l := by
  have hl := fault_len h
  unfold filesFault at h
  rw [if_neg (by omega)] at h
  exact (rises_of l none h).1
theorem one_file {w : World} {b : Nat} (f : File) (h0 : w.cell? ⟨b, 0, none⟩ = some (.string f.name)) (h1 : w.cell? ⟨b, 1, none⟩ = some (.string f.text)) (h2 : w.cell? ⟨b, 2, none⟩ = some (.int .i64 f.times)) : Files w (.slice (some ⟨b, 0, none⟩) 1 1) [f] := by
  refine read_list rfl (Nat.le_refl _) (by decide) fun j u hj => ?_
  match j, hj with
  | 0, hj => simp [File.cells] at hj; subst hj; exact h0
  | 1, hj => simp [File.cells] at hj; subst hj; exact h1
  | 2, hj => simp [File.cells] at hj; subst hj; exact h2
  | j + 3, hj => simp [File.cells] at hj

set_option maxRecDepth 100000 in
set_option maxHeartbeats 4000000 in
theorem law_ShelfSays (va : Value) (l : List File) (f : File) (name : ByteArray) (w : World) (ha : Files w va l) (hlok : ∀ x ∈ l, x.ok) (hf : f.ok) (hn : name.size ≤ maxLen) :
    Calls Try.prog 8 #[va, f.val, .string name] w fun e w' => e = .returned (.bool true) ∧ Below w.heap.size w w' := by
  have CL := Lib.hid fun W hb => law_LightFiles va l W (Rd.below ha hb) hlok
  have CL1 := Lib.hid fun v W h => law_LightFiles v [f] W h (by simpa using hf)
  have CK := Lib.hid fun W hb => shelf_Check va l W (Rd.below ha hb) hlok
  have CR := Lib.hid fun W hb => ref_FilesFault va l W (Rd.below ha hb) hlok
  have HA := Lib.hid ha
  obtain ⟨ao, ca, rfl, hca, hca'⟩ := ha.parts
  unfold File.val
  unfold maxLen at hn
  obtain ⟨W1, hW1⟩ : ∃ W1, W1 = w.alloc (.cells #[.string f.name, .string f.text, .int .i64 f.times] 23) := ⟨_, rfl⟩
  have HB1 : Hid (Below w.heap.size w W1) := Lib.hid (by rw [hW1]; exact below_alloc w _)
  have BF : Hid (BoxF w.heap.size f W1) := Lib.hid (by rw [hW1]; exact box_new w f)
  have HW1 := Lib.hid hW1
  clear hW1 ha
  have CS := Lib.hid fun W => law_shelves W
  cases hlf : lightFiles l
  · have HLF := Lib.hid hlf
    clear hlf
    go_enter Try.func8, Try.ntmps8
    go_wp2_with fail
    rw [← HW1.out]
    refine (CS.out _).mono ?_
    rintro e w2 ⟨rfl, hb2⟩
    have HB2 := Lib.hid hb2
    clear hb2
    go_wp2_with fail
    refine (CL.out _ (two HB1.out HB2.out)).mono ?_
    rintro e w3 ⟨rfl, rfl⟩
    rw [HLF.out]
    go_wp2_with fail
    go_ret
    exact ⟨rfl, two HB1.out HB2.out⟩
  · have HLF := Lib.hid hlf
    clear hlf
    cases hlf1 : lightFiles [f]
    · have HLF1 := Lib.hid hlf1
      clear hlf1
      go_enter Try.func8, Try.ntmps8
      go_wp2_with fail
      rw [← HW1.out]
      refine (CS.out _).mono ?_
      rintro e w2 ⟨rfl, hb2⟩
      have HB2 := Lib.hid hb2
      clear hb2
      go_wp2_with fail
      refine (CL.out _ (two HB1.out HB2.out)).mono ?_
      rintro e w3 ⟨rfl, rfl⟩
      rw [HLF.out]
      obtain ⟨z0, z1, z2⟩ := BF.out _ HB2.out
      have HB3 := Lib.hid (two HB2.out (below_alloc w2 (.cells #[.string f.name, .string f.text, .int .i64 f.times] 23)))
      go_wp2_with fail
      refine (CL1.out _ _ (one_file f (by simp) (by simp) (by simp))).mono ?_
      rintro e w3 ⟨rfl, rfl⟩
      rw [HLF1.out]
      clear z0 z1 z2
      go_wp2_with fail
      go_ret
      exact ⟨rfl, two HB1.out HB3.out⟩
    · have HLF1 := Lib.hid hlf1
      clear hlf1
      by_cases hnm : name.size ≤ 20
      · by_cases hff : filesFault l = 0
        · have hl := fault_len hff
          have hr := fault_rises hff
          have CG := fun W hb => shelf_Get (.slice ao l.length ca) l name W (HA.out.below hb) hl hr
          have CH := fun W hb => ref_GetFile (.slice ao l.length ca) l name W (HA.out.below hb)
          have CP := fun W hb => shelf_Put (.slice ao l.length ca) l f W (HA.out.below hb) hf hl hr
          have CQ := fun W hb => ref_PutFile (.slice ao l.length ca) l f W (HA.out.below hb) hf hl
          have CX := fun W hb => shelf_Drop (.slice ao l.length ca) l name W (HA.out.below hb) hl hr
          have CY := fun W hb => ref_DropFile (.slice ao l.length ca) l name W (HA.out.below hb) hl
          obtain ⟨p1, hp1⟩ : ∃ p, p = putAt l f := ⟨_, rfl⟩
          obtain ⟨p2, hp2⟩ : ∃ p, p = dropAt l name := ⟨_, rfl⟩
          rw [← hp1] at CP CQ
          rw [← hp2] at CX CY
          unfold RetFilesE File.val at CP
          unfold RetFiles File.val at CQ
          unfold RetFilesE at CX
          unfold RetFiles at CY
          unfold RetFile File.val at CG CH
          obtain ⟨g, hg⟩ : ∃ g, g = fileOr (getAt l name) := ⟨_, rfl⟩
          obtain ⟨b, hb⟩ : ∃ b, b = (getAt l name).isSome := ⟨_, rfl⟩
          rw [← hg, ← hb] at CG CH
          replace CG := Lib.hid CG
          replace CH := Lib.hid CH
          replace CP := Lib.hid CP
          replace CQ := Lib.hid CQ
          replace CX := Lib.hid CX
          replace CY := Lib.hid CY
          rw [hff] at CK CR
          clear hg hb hp1 hp2 hff hl hr
          go_enter Try.func8, Try.ntmps8
          go_wp2_with fail
          rw [← HW1.out]
          refine (CS.out _).mono ?_
          rintro e w2 ⟨rfl, hb2⟩
          have HB2 := Lib.hid hb2
          clear hb2
          go_wp2_with fail
          refine (CL.out _ (two HB1.out HB2.out)).mono ?_
          rintro e w3 ⟨rfl, rfl⟩
          rw [HLF.out]
          obtain ⟨z0, z1, z2⟩ := BF.out _ HB2.out
          have HB3 := Lib.hid (two HB2.out (below_alloc w2 (.cells #[.string f.name, .string f.text, .int .i64 f.times] 23)))
          go_wp2_with fail
          refine (CL1.out _ _ (one_file f (by simp) (by simp) (by simp))).mono ?_
          rintro e w3 ⟨rfl, rfl⟩
          rw [HLF1.out]
          clear z0 z1 z2
          go_wp2_with fail
          refine (CK.out _ (two HB1.out HB3.out)).mono ?_
          rintro e w4 ⟨rfl, hb4⟩
          have HB4 := Lib.hid (two HB3.out hb4)
          clear hb4
          go_wp2_with fail
          refine (CR.out _ (two HB1.out HB4.out)).mono ?_
          rintro e w5 ⟨rfl, hb5⟩
          have HB5 := Lib.hid (two HB4.out hb5)
          clear hb5
          go_wp2_with fail
          refine (same_eq _ _).mono ?_
          rintro e w6 ⟨rfl, hb6⟩
          have HB6 := Lib.hid (two HB5.out hb6)
          clear hb6
          go_wp2_with fail
          refine (CR.out _ (two HB1.out HB6.out)).mono ?_
          rintro e w7 ⟨rfl, hb7⟩
          have HB7 := Lib.hid (two HB6.out hb7)
          clear hb7
          go_wp2_with fail
          refine (CG.out _ (two HB1.out HB7.out)).mono ?_
          rintro e w8 ⟨rfl, hb8⟩
          have HB8 := Lib.hid (two HB7.out (two hb8 (below_alloc w8 (.cells #[.string g.name, .string g.text, .int .i64 g.times] 23))))
          have BX := Lib.hid (box_new w8 g)
          clear hb8
          go_wp2_with fail
          refine (CH.out _ (two HB1.out HB8.out)).mono ?_
          rintro e w9 ⟨rfl, hb9⟩
          have HB9 := Lib.hid (two HB8.out (two hb9 (below_alloc w9 (.cells #[.string g.name, .string g.text, .int .i64 g.times] 23))))
          have BX9 := Lib.hid (BX.out.later (two hb9 (below_alloc w9 (.cells #[.string g.name, .string g.text, .int .i64 g.times] 23))))
          have BY := Lib.hid (box_new w9 g)
          obtain ⟨z0, z1, z2⟩ := BF.out _ HB9.out
          clear hb9
          go_wp2_with fail
          refine (CP.out _ (two HB1.out HB9.out)).mono ?_
          rintro e w10 ⟨v1, rfl, hv1, hb10⟩
          have HB10 := Lib.hid (two HB9.out hb10)
          have BX10 := Lib.hid (BX9.out.later hb10)
          have BY10 := Lib.hid (BY.out.later hb10)
          have HV1 := Lib.hid hv1
          clear hb10 hv1 z0 z1 z2
          obtain ⟨z0, z1, z2⟩ := BF.out _ HB10.out
          go_wp2_with fail
          refine (CQ.out _ (two HB1.out HB10.out)).mono ?_
          rintro e w11 ⟨v2, rfl, hv2, hb11⟩
          have HB11 := Lib.hid (two HB10.out hb11)
          have BX11 := Lib.hid (BX10.out.later hb11)
          have BY11 := Lib.hid (BY10.out.later hb11)
          have HV11 := Lib.hid (HV1.out.below hb11)
          have HV2 := Lib.hid hv2
          clear hb11 hv2 z0 z1 z2
          go_wp2_with fail
          refine (CX.out _ (two HB1.out HB11.out)).mono ?_
          rintro e w12 ⟨v3, rfl, hv3, hb12⟩
          have HB12 := Lib.hid (two HB11.out hb12)
          have BX12 := Lib.hid (BX11.out.later hb12)
          have BY12 := Lib.hid (BY11.out.later hb12)
          have HV12 := Lib.hid (HV11.out.below hb12)
          have HV22 := Lib.hid (HV2.out.below hb12)
          have HV3 := Lib.hid hv3
          clear hb12 hv3
          go_wp2_with fail
          refine (CY.out _ (two HB1.out HB12.out)).mono ?_
          rintro e w13 ⟨v4, rfl, hv4, hb13⟩
          have HB13 := Lib.hid (two HB12.out hb13)
          have HV13 := Lib.hid (HV12.out.below hb13)
          have HV23 := Lib.hid (HV22.out.below hb13)
          have HV33 := Lib.hid (HV3.out.below hb13)
          have HV4 := Lib.hid hv4
          obtain ⟨x0, x1, x2⟩ := BX12.out _ hb13
          obtain ⟨y0, y1, y2⟩ := BY12.out _ hb13
          clear hb13 hv4
          have hfs : fileSame g.name g.text g.times g.name g.text g.times = true := by simp [fileSame]
          go_wp2_with fail
          refine (ref_SameFiles _ _ _ _ _ HV13.out HV23.out).mono ?_
          rintro e w14 ⟨rfl, hb14⟩
          have HB14 := Lib.hid (two HB13.out hb14)
          have HV34 := Lib.hid (HV33.out.below hb14)
          have HV44 := Lib.hid (HV4.out.below hb14)
          rw [decide_eq_true (rfl : p1.1 = p1.1)]
          clear hb14 x0 x1 x2 y0 y1 y2
          go_wp2_with fail
          refine (same_eq _ _).mono ?_
          rintro e w15 ⟨rfl, hb15⟩
          have HB15 := Lib.hid (two HB14.out hb15)
          have HV35 := Lib.hid (HV34.out.below hb15)
          have HV45 := Lib.hid (HV44.out.below hb15)
          clear hb15
          go_wp2_with fail
          refine (ref_SameFiles _ _ _ _ _ HV35.out HV45.out).mono ?_
          rintro e w16 ⟨rfl, hb16⟩
          have HB16 := Lib.hid (two HB15.out hb16)
          rw [decide_eq_true (rfl : p2.1 = p2.1)]
          clear hb16
          go_wp2_with fail
          refine (same_eq _ _).mono ?_
          rintro e w17 ⟨rfl, hb17⟩
          have HB17 := Lib.hid (two HB16.out hb17)
          clear hb17
          go_wp2_with fail
          go_ret
          exact ⟨rfl, two HB1.out HB17.out⟩
        · have hpos : 0 < (filesFault l : Int) := by omega
          go_enter Try.func8, Try.ntmps8
          go_wp2_with fail
          rw [← HW1.out]
          refine (CS.out _).mono ?_
          rintro e w2 ⟨rfl, hb2⟩
          have HB2 := Lib.hid hb2
          clear hb2
          go_wp2_with fail
          refine (CL.out _ (two HB1.out HB2.out)).mono ?_
          rintro e w3 ⟨rfl, rfl⟩
          rw [HLF.out]
          obtain ⟨z0, z1, z2⟩ := BF.out _ HB2.out
          have HB3 := Lib.hid (two HB2.out (below_alloc w2 (.cells #[.string f.name, .string f.text, .int .i64 f.times] 23)))
          go_wp2_with fail
          refine (CL1.out _ _ (one_file f (by simp) (by simp) (by simp))).mono ?_
          rintro e w3 ⟨rfl, rfl⟩
          rw [HLF1.out]
          clear z0 z1 z2
          go_wp2_with fail
          refine (CK.out _ (two HB1.out HB3.out)).mono ?_
          rintro e w4 ⟨rfl, hb4⟩
          have HB4 := Lib.hid (two HB3.out hb4)
          clear hb4
          go_wp2_with fail
          refine (CR.out _ (two HB1.out HB4.out)).mono ?_
          rintro e w5 ⟨rfl, hb5⟩
          have HB5 := Lib.hid (two HB4.out hb5)
          clear hb5
          go_wp2_with fail
          refine (same_eq _ _).mono ?_
          rintro e w6 ⟨rfl, hb6⟩
          have HB6 := Lib.hid (two HB5.out hb6)
          clear hb6
          go_wp2_with fail
          refine (CR.out _ (two HB1.out HB6.out)).mono ?_
          rintro e w7 ⟨rfl, hb7⟩
          have HB7 := Lib.hid (two HB6.out hb7)
          clear hb7
          go_wp2_with fail
          go_ret
          exact ⟨rfl, two HB1.out HB7.out⟩
      · have hgt : 20 < name.size := by omega
        go_enter Try.func8, Try.ntmps8
        go_wp2_with fail
        rw [← HW1.out]
        refine (CS.out _).mono ?_
        rintro e w2 ⟨rfl, hb2⟩
        have HB2 := Lib.hid hb2
        clear hb2
        go_wp2_with fail
        refine (CL.out _ (two HB1.out HB2.out)).mono ?_
        rintro e w3 ⟨rfl, rfl⟩
        rw [HLF.out]
        obtain ⟨z0, z1, z2⟩ := BF.out _ HB2.out
        have HB3 := Lib.hid (two HB2.out (below_alloc w2 (.cells #[.string f.name, .string f.text, .int .i64 f.times] 23)))
        go_wp2_with fail
        refine (CL1.out _ _ (one_file f (by simp) (by simp) (by simp))).mono ?_
        rintro e w3 ⟨rfl, rfl⟩
        rw [HLF1.out]
        clear z0 z1 z2
        go_wp2_with fail
        go_ret
        exact ⟨rfl, two HB1.out HB3.out⟩
end Go.Proofs.Ytggpodlecljcbaa
