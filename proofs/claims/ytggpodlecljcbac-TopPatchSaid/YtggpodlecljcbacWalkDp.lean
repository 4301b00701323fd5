/- The walk of diff.Patch. -/
import Derived.Test.YtggpodlecljcbacSpecDp
import Derived.Test.YtggpodlecljcbacLawQ
namespace Go.Proofs.Ytggpodlecljcbac
open Go.RowKit Go.Sort
set_option linter.unusedSimpArgs false
set_option linter.unusedVariables false
set_option maxRecDepth 100000 in
set_option maxHeartbeats 8000000 in
theorem diff_Patch (va vb vn : Value) (a b : Quilt) (names : List ByteArray) (w : World) (ha : Files w va a.files) (hb : Files w vb b.files) (hn : Texts w vn names) (hfa : Fine a.files) (hfb : Fine b.files) :
    Calls Try.prog 29 #[.agg #[va, .int .i64 a.turn], .agg #[vb, .int .i64 b.turn], vn] w (RetQE (patchedQ a b names) w) := by
  have CG : Hid (∀ (v : Value) (l : List File) (n : ByteArray) (W : World), Files W v l → Fine l → Calls Try.prog 36 #[v, .string n] W (RetFile (getAt l n) W)) := Lib.hid fun v l n W h hf => shelf_Get v l n W h hf.len hf.rises
  have CD : Hid (∀ (v : Value) (l : List File) (n : ByteArray) (W : World), Files W v l → Fine l → Calls Try.prog 59 #[v, .string n] W (RetFilesE (dropAt l n) W)) := Lib.hid fun v l n W h hf => shelf_Drop v l n W h hf.len hf.rises
  have CP : Hid (∀ (v : Value) (l : List File) (f : File) (W : World), Files W v l → Fine l → f.ok → Calls Try.prog 60 #[v, f.val] W (RetFilesE (putAt l f) W)) := Lib.hid fun v l f W h hf hfo => shelf_Put v l f W h hfo hf.len hf.rises
  have CC := Lib.hid fun W hw => files_Clone va a.files W (Rd.below ha hw) hfa.len
  obtain ⟨ao, ca, rfl, hca, hca'⟩ := ha.parts
  obtain ⟨bo, cb, rfl, hcb, hcb'⟩ := hb.parts
  obtain ⟨no, cn, rfl, hcn, hcn'⟩ := hn.parts
  obtain ⟨W1, hW1⟩ : ∃ W1, W1 = w.alloc (.cells #[.slice ao a.files.length ca, .int .i64 a.turn] 27) := ⟨_, rfl⟩
  have B1 : Below w.heap.size w W1 := by rw [hW1]; exact below_alloc _ _
  have Q1 : QAt W1 w.heap.size (.slice ao a.files.length ca) a.turn := by rw [hW1]; exact QAt.new w _ _ (fun s h => by cases h)
  have hz1 : W1.heap.size = w.heap.size + 1 := by rw [hW1]; simp
  obtain ⟨W2, hW2⟩ : ∃ W2, W2 = W1.alloc (.cells #[.slice bo b.files.length cb, .int .i64 b.turn] 27) := ⟨_, rfl⟩
  have B2 : Below W1.heap.size W1 W2 := by rw [hW2]; exact below_alloc _ _
  have Q2 : QAt W2 (w.heap.size + 1) (.slice bo b.files.length cb) b.turn := by rw [hW2, ← hz1]; exact QAt.new W1 _ _ (fun s h => by cases h)
  have hz2 : W2.heap.size = w.heap.size + 2 := by rw [hW2]; simp [hz1]
  obtain ⟨W3, hW3⟩ : ∃ W3, W3 = W2.alloc (.cells #[.slice none 0 0, .int .i64 0] 27) := ⟨_, rfl⟩
  have B3 : Below W2.heap.size W2 W3 := by rw [hW3]; exact below_alloc _ _
  have Q3 : QAt W3 (w.heap.size + 2) (.slice none 0 0) 0 := by rw [hW3, ← hz2]; exact QAt.new W2 _ _ (fun s h => by cases h)
  have HQ1 := Lib.hid ((Q1.below B2).below B3)
  have HQ2 := Lib.hid (Q2.below B3)
  have HQ3 := Lib.hid Q3
  have HB := Lib.hid (two (two B1 B2) B3)
  have HW1 := Lib.hid hW1
  have HW2 := Lib.hid hW2
  have HW3 := Lib.hid hW3
  have HA := Lib.hid (ha.below HB.out)
  have HBF := Lib.hid (hb.below HB.out)
  have HN := Lib.hid (hn.below HB.out)
  have HFA := Lib.hid hfa
  have HFB := Lib.hid hfb
  have HZ : Hid (w.heap.size ≤ w.heap.size + 2) := Lib.hid (by omega)
  clear hW1 hW2 hW3 B1 B2 B3 Q1 Q2 Q3 hz1 hz2 ha hb hn hfa hfb
  go_enter Try.func29, Try.ntmps29
  have q0 := HQ1.out.c0
  rw [HW3.out, HW2.out, HW1.out] at q0
  go_wp2_with fail
  rw [← HW1.out, ← HW2.out, ← HW3.out]
  clear q0
  refine (CC.out W3 HB.out).mono ?_
  rintro e w4 ⟨v4, rfl, ho4, hb4⟩
  have HF4 : Hid (Files w4 v4 (dropsTo a.files names 0)) := Lib.hid (SL.of_own ho4)
  have HB4 := Lib.hid hb4
  clear ho4 hb4
  go_wp2_with fail
  go_loopw [8, 24] (fun v i wr => ∃ k : Nat, k ≤ names.length ∧ i = .int .i64 k ∧ Files wr v (dropsTo a.files names k) ∧ Below W3.heap.size W3 wr) (fun _ i _ => names.length - (intOf i).toNat)
  case atStart => exact ⟨0, Nat.zero_le _, rfl, HF4.out, HB4.out⟩
  case round =>
    obtain ⟨k, hk, rfl, hf, hbw⟩ := hrel
    have HF := Lib.hid hf
    have HBW := Lib.hid hbw
    have HFI := Lib.hid (dropsTo_fine HFA.out names k hk)
    obtain ⟨lo, lc, rfl, _, _⟩ := hf.parts
    clear hf hbw
    by_cases hlt : k < names.length
    · obtain ⟨nb, nof, rfl, hlb, x0⟩ := Texts.cell HN.out k hlt
      have HXN : Hid (∀ W, Below W3.heap.size W3 W → W.cell? ⟨nb, nof + k, none⟩ = some (.string names[k])) := Lib.hid fun W hb => by
        obtain ⟨kc, _⟩ := bcell hb
        exact (kc _ _ hlb).trans x0
      clear hlb x0
      have x0 := HXN.out _ HBW.out
      have HNX := Lib.hid (dropsTo_next a.files names k hlt)
      obtain ⟨l, hl⟩ : ∃ l, l = dropsTo a.files names k := ⟨_, rfl⟩
      rw [← hl] at HF HFI HNX ⊢
      clear hl
      have C1 := CG.out _ l names[k] wr HF.out HFI.out
      unfold RetFile File.val at C1
      obtain ⟨g, hg⟩ : ∃ g, g = fileOr (getAt l names[k]) := ⟨_, rfl⟩
      rw [← hg] at C1
      clear hg
      cases hso : (getAt l names[k]).isSome
      · have HNY : Hid (dropsTo a.files names (k + 1) = l) := Lib.hid (by rw [HNX.out]; unfold dropStep; rw [if_neg (by simp [hso])])
        rw [hso] at C1
        replace C1 := Lib.hid C1
        clear hso
        go_wp2_with fail
        refine C1.out.mono ?_
        rintro e w5 ⟨rfl, hb5⟩
        have HF6 := Lib.hid ((HF.out.below hb5).below (below_alloc w5 (.cells #[.string g.name, .string g.text, .int .i64 g.times] 41)))
        have HB6 := Lib.hid (two HBW.out (two hb5 (below_alloc w5 (.cells #[.string g.name, .string g.text, .int .i64 g.times] 41))))
        clear hb5
        go_wp2_with fail
        go_roundw
        case rel => exact ⟨k + 1, by omega, by go_num, by rw [HNY.out]; exact HF6.out, HB6.out⟩
        case measure => simp [intOf]; omega
      · have HNY : Hid (dropsTo a.files names (k + 1) = (dropAt l names[k]).1) := Lib.hid (by rw [HNX.out]; unfold dropStep; rw [if_pos hso])
        rw [hso] at C1
        replace C1 := Lib.hid C1
        clear hso
        go_wp2_with fail
        refine C1.out.mono ?_
        rintro e w5 ⟨rfl, hb5⟩
        obtain ⟨W6, hW6⟩ : ∃ W6, W6 = w5.alloc (.cells #[.string g.name, .string g.text, .int .i64 g.times] 41) := ⟨_, rfl⟩
        have HF6 : Hid (Files W6 (.slice lo l.length lc) l) := Lib.hid (by rw [hW6]; exact (HF.out.below hb5).below (below_alloc _ _))
        have HB6 : Hid (Below W3.heap.size W3 W6) := Lib.hid (by rw [hW6]; exact two HBW.out (two hb5 (below_alloc _ _)))
        have HW6 := Lib.hid hW6
        clear hb5 hW6
        have C2 := CD.out _ l names[k] W6 HF6.out HFI.out
        unfold RetFilesE at C2
        replace C2 := Lib.hid C2
        go_wp2_with fail
        rw [← HW6.out]
        refine C2.out.mono ?_
        rintro e w7 ⟨v7, rfl, hf7, hb7⟩
        have HF7 := Lib.hid hf7
        have HB7 := Lib.hid (two HB6.out hb7)
        clear hf7 hb7
        go_wp2_with fail
        go_roundw
        case rel => exact ⟨k + 1, by omega, by go_num, by rw [HNY.out]; exact HF7.out, HB7.out⟩
        case measure => simp [intOf]; omega
    · have hkn : k = names.length := by omega
      subst hkn
      obtain ⟨l0, hl0⟩ : ∃ l, l = dropsTo a.files names names.length := ⟨_, rfl⟩
      have HPD : Hid (patchedQ a b names = if (putsFrom b.files l0 names).2 = 0 then (⟨(putsFrom b.files l0 names).1, b.turn⟩, 0) else (noQuilt, (putsFrom b.files l0 names).2)) := Lib.hid (by rw [hl0]; rfl)
      rw [← hl0] at HF HFI ⊢
      have HF0 := HF
      have HFI0 := HFI
      have HBW0 := HBW
      clear HF HFI HBW hl0
      go_wp2_with fail
      go_loopw [8, 44] (fun v i wr => ∃ (k : Nat) (l : List File), k ≤ names.length ∧ i = .int .i64 k ∧ Files wr v l ∧ Fine l ∧ putsFrom b.files l0 names = putsFrom b.files l (names.drop k) ∧ Below W3.heap.size W3 wr) (fun _ i _ => names.length - (intOf i).toNat)
      case atStart => exact ⟨0, l0, Nat.zero_le _, rfl, HF0.out, HFI0.out, rfl, HBW0.out⟩
      case round =>
        obtain ⟨k, l, hk, rfl, hf, hfi, hpf, hbw⟩ := hrel
        have HF := Lib.hid hf
        have HFI := Lib.hid hfi
        have HPF := Lib.hid hpf
        have HBW := Lib.hid hbw
        obtain ⟨lo, lc, rfl, _, _⟩ := hf.parts
        clear hf hfi hpf hbw
        have q0 := (HQ2.out.below HBW.out).c0
        by_cases hlt : k < names.length
        · obtain ⟨nb, nof, rfl, hlb, x0⟩ := Texts.cell HN.out k hlt
          have HXN : Hid (∀ W, Below W3.heap.size W3 W → W.cell? ⟨nb, nof + k, none⟩ = some (.string names[k])) := Lib.hid fun W hb => by
            obtain ⟨kc, _⟩ := bcell hb
            exact (kc _ _ hlb).trans x0
          clear hlb x0
          have x0 := HXN.out _ HBW.out
          have C1 := CG.out _ b.files names[k] wr (HBF.out.below HBW.out) HFB.out
          unfold RetFile File.val fileOr at C1
          cases hgo : getAt b.files names[k] with
          | none =>
            have HPN : Hid (putsFrom b.files l0 names = putsFrom b.files l (names.drop (k + 1))) := Lib.hid (HPF.out.trans (puts_none hlt hgo))
            rw [hgo] at C1
            obtain ⟨g, hg⟩ : ∃ g, g = (none : Option File).getD noFile := ⟨_, rfl⟩
            rw [← hg] at C1
            rw [show (none : Option File).isSome = false from rfl] at C1
            replace C1 := Lib.hid C1
            clear hg hgo
            go_wp2_with fail
            refine C1.out.mono ?_
            rintro e w5 ⟨rfl, hb5⟩
            have HF6 := Lib.hid ((HF.out.below hb5).below (below_alloc w5 (.cells #[.string g.name, .string g.text, .int .i64 g.times] 41)))
            have HB6 := Lib.hid (two HBW.out (two hb5 (below_alloc w5 (.cells #[.string g.name, .string g.text, .int .i64 g.times] 41))))
            clear hb5
            go_wp2_with fail
            go_roundw
            case rel => exact ⟨k + 1, l, by omega, by go_num, HF6.out, HFI.out, HPN.out, HB6.out⟩
            case measure => simp [intOf]; omega
          | some g =>
            have HFO : Hid g.ok := Lib.hid (fine_files HFB.out g (HFB.out.mem hgo).1)
            have HPS : Hid ((putAt l g).2 = 0 → putsFrom b.files l0 names = putsFrom b.files (putAt l g).1 (names.drop (k + 1))) := Lib.hid fun h => HPF.out.trans (puts_some hlt hgo h)
            have HPB : Hid ((putAt l g).2 ≠ 0 → putsFrom b.files l0 names = ([], (putAt l g).2)) := Lib.hid fun h => HPF.out.trans (puts_bad hlt hgo h)
            rw [hgo] at C1
            rw [show (some g).isSome = true from rfl, show (some g).getD noFile = g from rfl] at C1
            replace C1 := Lib.hid C1
            clear hgo
            go_wp2_with fail
            refine C1.out.mono ?_
            rintro e w5 ⟨rfl, hb5⟩
            obtain ⟨W6, hW6⟩ : ∃ W6, W6 = w5.alloc (.cells #[.string g.name, .string g.text, .int .i64 g.times] 41) := ⟨_, rfl⟩
            have HF6 : Hid (Files W6 (.slice lo l.length lc) l) := Lib.hid (by rw [hW6]; exact (HF.out.below hb5).below (below_alloc _ _))
            have HB6 : Hid (Below W3.heap.size W3 W6) := Lib.hid (by rw [hW6]; exact two HBW.out (two hb5 (below_alloc _ _)))
            have HW6 := Lib.hid hW6
            clear hb5 hW6
            have C2 := CP.out _ l g W6 HF6.out HFI.out HFO.out
            unfold RetFilesE File.val at C2
            have HFI2 := Lib.hid (put_fine HFI.out g)
            obtain ⟨p, hp⟩ : ∃ p, p = putAt l g := ⟨_, rfl⟩
            rw [← hp] at C2 HPS HPB HFI2
            replace C2 := Lib.hid C2
            clear hp
            go_wp2_with fail
            rw [← HW6.out]
            refine C2.out.mono ?_
            rintro e w7 ⟨v7, rfl, hf7, hb7⟩
            have HF7 := Lib.hid hf7
            have HB7 := Lib.hid (two HB6.out hb7)
            obtain ⟨po, pc, rfl, _, _⟩ := hf7.parts
            clear hf7 hb7 q0
            by_cases hp0 : p.2 = 0
            · have hev : errV p.2 = .nilIface := by rw [hp0]; rfl
              have HPN := Lib.hid (HPS.out hp0)
              clear hp0
              go_wp2_with fail
              clear hev
              go_roundw
              case rel => exact ⟨k + 1, p.1, by omega, by go_num, HF7.out, HFI2.out, HPN.out, HB7.out⟩
              case measure => simp [intOf]; omega
            · have hev : errV p.2 = .iface 70 (.int .i64 p.2) := errV_pos hp0
              have HPN := Lib.hid (HPB.out hp0)
              have HD : Hid (patchedQ a b names = (noQuilt, p.2)) := Lib.hid (by rw [HPD.out, HPN.out]; rw [if_neg hp0])
              have HQ7 := Lib.hid (HQ3.out.below HB7.out)
              have z0 := HQ7.out.c0
              have z1 := HQ7.out.c1
              have z2 := HQ7.out.f0
              have z3 := HQ7.out.f1
              go_wp2_with fail
              have HBZ := ((two HB.out HB7.out).setCell (p := ⟨w.heap.size + 2, 0, none⟩) HZ.out (.slice none 0 0)).setCell (p := ⟨w.heap.size + 2, 1, none⟩) HZ.out (.int .i64 0)
              refine bodyPost_ret (v := .tuple #[.agg #[.slice none 0 0, .int .i64 0], errV p.2]) (by simp [results, Try.results29, go_sem, z0, z1, z2, z3, hev]) rfl ?_
              exact ⟨_, by rw [HD.out], by rw [HD.out]; exact ⟨_, rfl, Rd.nil _⟩, HBZ⟩
        · have HPN := Lib.hid (HPF.out.trans (puts_end hlt))
          have HD : Hid (patchedQ a b names = (⟨l, b.turn⟩, 0)) := Lib.hid (by rw [HPD.out, HPN.out]; rfl)
          have q1 := (HQ2.out.below HBW.out).c1
          have HQ7 := Lib.hid (HQ3.out.below HBW.out)
          have z0 := HQ7.out.c0
          have z1 := HQ7.out.c1
          have z2 := HQ7.out.f0
          have z3 := HQ7.out.f1
          go_wp2_with fail
          have HBZ := ((two HB.out HBW.out).setCell (p := ⟨w.heap.size + 2, 0, none⟩) HZ.out (.slice lo l.length lc)).setCell (p := ⟨w.heap.size + 2, 1, none⟩) HZ.out (.int .i64 b.turn)
          refine bodyPost_ret (v := .tuple #[.agg #[.slice lo l.length lc, .int .i64 b.turn], .nilIface]) (by simp [results, Try.results29, go_sem, z0, z1, z2, z3]) rfl ?_
          exact ⟨_, by rw [HD.out]; rfl, by rw [HD.out]; exact ⟨_, rfl, files_set_box HF.out HQ7.out.ns _ (files_not_str HF.out) _⟩, HBZ⟩
end Go.Proofs.Ytggpodlecljcbac
