/- The walk of the document's Patched. -/
import Derived.Test.YtggpodlecljcbaaSpecDp
import Derived.Test.YtggpodlecljcbaaLawQ
import Derived.Deep.RegionHeld3
namespace Go.Proofs.Ytggpodlecljcbaa
open Go.RowKit Go.Sort
set_option linter.unusedSimpArgs false
set_option linter.unusedVariables false
/-- A box of a file. -/
structure FAt (w : World) (b : Nat) (f : File) : Prop where
  c0 : w.cell? ⟨b, 0, none⟩ = some (.string f.name)
  c1 : w.cell? ⟨b, 1, none⟩ = some (.string f.text)
  c2 : w.cell? ⟨b, 2, none⟩ = some (.int .i64 f.times)
  f0 : w.frozen? ⟨b, 0, none⟩ = false
  f1 : w.frozen? ⟨b, 1, none⟩ = false
  f2 : w.frozen? ⟨b, 2, none⟩ = false
  lt : b < w.heap.size
theorem FAt.new (w : World) (f : File) : FAt (w.alloc (.cells #[.string f.name, .string f.text, .int .i64 f.times] 23)) w.heap.size f := ⟨by simp, by simp, by simp, by simp, by simp, by simp, by simp⟩
theorem FAt.below {w w' : World} {b : Nat} {f : File} (h : FAt w b f) (hb : Below w.heap.size w w') : FAt w' b f := by
  obtain ⟨k, fr⟩ := bcell hb
  exact ⟨(k _ _ h.lt).trans h.c0, (k _ _ h.lt).trans h.c1, (k _ _ h.lt).trans h.c2, (fr _ _ h.lt).trans h.f0, (fr _ _ h.lt).trans h.f1, (fr _ _ h.lt).trans h.f2, Nat.lt_of_lt_of_le h.lt hb.size⟩
theorem FAt.set {w : World} {b : Nat} {f : File} (h : FAt w b f) (g : File) : FAt (((w.setCell ⟨b, 0, none⟩ (.string g.name)).setCell ⟨b, 1, none⟩ (.string g.text)).setCell ⟨b, 2, none⟩ (.int .i64 g.times)) b g := by
  have o1 : ∀ (W : World) (v : Value) (i j : Nat), i ≠ j → (W.setCell ⟨b, i, none⟩ v).cell? ⟨b, j, none⟩ = W.cell? ⟨b, j, none⟩ := fun W v i j hij => World.cell?_setCell_other _ _ _ _ (by intro h; cases h; exact hij rfl)
  refine ⟨?_, ?_, ?_, ?_, ?_, ?_, by rw [setCell_size, setCell_size, setCell_size]; exact h.lt⟩
  · rw [o1 _ _ 2 0 (by decide), o1 _ _ 1 0 (by decide)]; exact World.cell?_setCell_same _ _ _ h.c0
  · rw [o1 _ _ 2 1 (by decide)]; exact World.cell?_setCell_same _ _ _ ((o1 _ _ 0 1 (by decide)).trans h.c1)
  · exact World.cell?_setCell_same _ _ _ ((o1 _ _ 1 2 (by decide)).trans ((o1 _ _ 0 2 (by decide)).trans h.c2))
  · rw [World.frozen?_setCell, World.frozen?_setCell, World.frozen?_setCell]; exact h.f0
  · rw [World.frozen?_setCell, World.frozen?_setCell, World.frozen?_setCell]; exact h.f1
  · rw [World.frozen?_setCell, World.frozen?_setCell, World.frozen?_setCell]; exact h.f2
theorem below_set3 {B : Nat} {w0 w : World} (h : Below B w0 w) (b : Nat) (hb : B ≤ b) (x y z : Value) : Below B w0 (((w.setCell ⟨b, 0, none⟩ x).setCell ⟨b, 1, none⟩ y).setCell ⟨b, 2, none⟩ z) := ((h.setCell (p := ⟨b, 0, none⟩) hb x).setCell (p := ⟨b, 1, none⟩) hb y).setCell (p := ⟨b, 2, none⟩) hb z
def zeroF : File := ⟨⟨#[]⟩, ⟨#[]⟩, 0⟩
theorem dropStep_two (l : List File) (n : ByteArray) : dropStep l n = if (dropAt l n).2 = 0 then (dropAt l n).1 else l := by
  unfold dropStep
  rw [dropAt_two]
  by_cases h : (getAt l n).isSome = true
  · rw [if_pos h, if_pos h, if_pos rfl]
  · rw [if_neg h, if_neg h, if_neg (by decide)]
set_option maxRecDepth 100000 in
set_option maxHeartbeats 8000000 in
theorem ref_Patched (va vb vn : Value) (a b : Quilt) (names : List ByteArray) (w : World) (ha : Files w va a.files) (hb : Files w vb b.files) (hn : Texts w vn names) (hfa : Fine a.files) (hfb : Fine b.files) :
    Calls Try.prog 90 #[.agg #[va, .int .i64 a.turn], .agg #[vb, .int .i64 b.turn], vn] w (RetQN (patchedQ a b names) w) := by
  have CG : Hid (∀ (v : Value) (l : List File) (n : ByteArray) (W : World), Files W v l → Fine l → Calls Try.prog 67 #[v, .string n] W (RetFile (getAt l n) W)) := Lib.hid fun v l n W h hf => ref_GetFile v l n W h
  have CD : Hid (∀ (v : Value) (l : List File) (n : ByteArray) (W : World), Files W v l → Fine l → Calls Try.prog 71 #[v, .string n] W (RetFiles (dropAt l n) W)) := Lib.hid fun v l n W h hf => ref_DropFile v l n W h hf.len
  have CP : Hid (∀ (v : Value) (l : List File) (f : File) (W : World), Files W v l → Fine l → f.ok → Calls Try.prog 69 #[v, f.val] W (RetFiles (putAt l f) W)) := Lib.hid fun v l f W h hf hfo => ref_PutFile v l f W h hfo hf.len
  obtain ⟨ao, ca, rfl, hca, hca'⟩ := ha.parts
  obtain ⟨bo, cb, rfl, hcb, hcb'⟩ := hb.parts
  obtain ⟨no, cn, rfl, hcn, hcn'⟩ := hn.parts
  obtain ⟨W1, hW1⟩ : ∃ W1, W1 = w.alloc (.cells #[.slice ao a.files.length ca, .int .i64 a.turn] 34) := ⟨_, rfl⟩
  have B1 : Below w.heap.size w W1 := by rw [hW1]; exact below_alloc _ _
  have Q1 : QAt W1 w.heap.size (.slice ao a.files.length ca) a.turn := by rw [hW1]; exact QAt.new w _ _ (fun s h => by cases h)
  have hz1 : W1.heap.size = w.heap.size + 1 := by rw [hW1]; simp
  obtain ⟨W2, hW2⟩ : ∃ W2, W2 = W1.alloc (.cells #[.slice bo b.files.length cb, .int .i64 b.turn] 34) := ⟨_, rfl⟩
  have B2 : Below W1.heap.size W1 W2 := by rw [hW2]; exact below_alloc _ _
  have Q2 : QAt W2 (w.heap.size + 1) (.slice bo b.files.length cb) b.turn := by rw [hW2, ← hz1]; exact QAt.new W1 _ _ (fun s h => by cases h)
  have hz2 : W2.heap.size = w.heap.size + 2 := by rw [hW2]; simp [hz1]
  obtain ⟨W3, hW3⟩ : ∃ W3, W3 = W2.alloc (.cells #[.slice none 0 0, .int .i64 0] 34) := ⟨_, rfl⟩
  have B3 : Below W2.heap.size W2 W3 := by rw [hW3]; exact below_alloc _ _
  have Q3 : QAt W3 (w.heap.size + 2) (.slice none 0 0) 0 := by rw [hW3, ← hz2]; exact QAt.new W2 _ _ (fun s h => by cases h)
  have HQ1 := Lib.hid ((Q1.below B2).below B3)
  have HQ2 := Lib.hid (Q2.below B3)
  have HQ3 := Lib.hid Q3
  have HB := Lib.hid (two (two B1 B2) B3)
  have HW1 := Lib.hid hW1
  have HW2 := Lib.hid hW2
  have HW3 := Lib.hid hW3
  have HA := Lib.hid (ha.below HB.out)
  have HBF := Lib.hid (hb.below HB.out)
  have HN := Lib.hid (hn.below HB.out)
  have HFA := Lib.hid hfa
  have HFB := Lib.hid hfb
  have HZ : Hid (w.heap.size ≤ w.heap.size + 2) := Lib.hid (by omega)
  clear hW1 hW2 hW3 B1 B2 B3 Q1 Q2 Q3 hz1 hz2 ha hb hn hfa hfb
  go_enter Try.func90, Try.ntmps90
  have q0 := HQ1.out.c0
  rw [HW3.out, HW2.out, HW1.out] at q0
  go_wp2_with fail
  rw [← HW1.out, ← HW2.out, ← HW3.out]
  clear q0
  go_loopw [8, 9] (fun v i wr => ∃ k : Nat, k ≤ names.length ∧ i = .int .i64 k ∧ Files wr v (dropsTo a.files names k) ∧ Below W3.heap.size W3 wr) (fun _ i _ => names.length - (intOf i).toNat)
  case atStart => exact ⟨0, Nat.zero_le _, rfl, HA.out, Below.refl _ _⟩
  case round =>
    obtain ⟨k, hk, rfl, hf, hbw⟩ := hrel
    have HF := Lib.hid hf
    have HBW := Lib.hid hbw
    have HFI := Lib.hid (dropsTo_fine HFA.out names k hk)
    obtain ⟨lo, lc, rfl, _, _⟩ := hf.parts
    clear hf hbw
    by_cases hlt : k < names.length
    · obtain ⟨nb, nof, rfl, hlb, x0⟩ := Texts.cell HN.out k hlt
      have HXN : Hid (∀ W, Below W3.heap.size W3 W → W.cell? ⟨nb, nof + k, none⟩ = some (.string names[k])) := Lib.hid fun W hb => by
        obtain ⟨kc, _⟩ := bcell hb
        exact (kc _ _ hlb).trans x0
      clear hlb x0
      have x0 := HXN.out _ HBW.out
      have HNX := Lib.hid ((dropsTo_next a.files names k hlt).trans (dropStep_two _ _))
      obtain ⟨l, hl⟩ : ∃ l, l = dropsTo a.files names k := ⟨_, rfl⟩
      rw [← hl] at HF HFI HNX ⊢
      clear hl
      have C2 := CD.out _ l names[k] wr HF.out HFI.out
      unfold RetFiles at C2
      obtain ⟨p, hp⟩ : ∃ p, p = dropAt l names[k] := ⟨_, rfl⟩
      rw [← hp] at C2 HNX
      replace C2 := Lib.hid C2
      clear hp
      go_wp2_with fail
      refine C2.out.mono ?_
      rintro e w7 ⟨v7, rfl, hf7, hb7⟩
      have HF7 := Lib.hid hf7
      have HB7 := Lib.hid (two HBW.out hb7)
      have HFF := Lib.hid (HF.out.below hb7)
      clear hf7 hb7
      by_cases hp0 : p.2 = 0
      · have HNY : Hid (dropsTo a.files names (k + 1) = p.1) := Lib.hid (by rw [HNX.out, if_pos hp0])
        have hpe : ((p.2 : Int) == 0) = true := by rw [hp0]; rfl
        clear hp0
        go_wp2_with fail
        go_roundw
        case rel => exact ⟨k + 1, by omega, by go_num, by rw [HNY.out]; exact HF7.out, HB7.out⟩
        case measure => simp [intOf]; omega
      · have HNY : Hid (dropsTo a.files names (k + 1) = l) := Lib.hid (by rw [HNX.out, if_neg hp0])
        have hpe : ((p.2 : Int) == 0) = false := by rw [beq_eq_false_iff_ne]; omega
        clear hp0
        go_wp2_with fail
        go_roundw
        case rel => exact ⟨k + 1, by omega, by go_num, by rw [HNY.out]; exact HFF.out, HB7.out⟩
        case measure => simp [intOf]; omega
    · have hkn : k = names.length := by omega
      subst hkn
      obtain ⟨l0, hl0⟩ : ∃ l, l = dropsTo a.files names names.length := ⟨_, rfl⟩
      have HPD : Hid (patchedQ a b names = if (putsFrom b.files l0 names).2 = 0 then (⟨(putsFrom b.files l0 names).1, b.turn⟩, 0) else (noQuilt, (putsFrom b.files l0 names).2)) := Lib.hid (by rw [hl0]; rfl)
      rw [← hl0] at HF HFI ⊢
      have HF0 := HF
      have HFI0 := HFI
      have HBW0 := HBW
      clear HF HFI HBW hl0
      go_wp2_with fail
      go_loopw [8, 12] (fun v i wr => ∃ (k : Nat) (l : List File), k ≤ names.length ∧ i = .int .i64 k ∧ Files wr v l ∧ Fine l ∧ putsFrom b.files l0 names = putsFrom b.files l (names.drop k) ∧ Below W3.heap.size W3 wr) (fun _ i _ => names.length - (intOf i).toNat)
      case atStart => exact ⟨0, l0, Nat.zero_le _, rfl, HF0.out, HFI0.out, rfl, HBW0.out⟩
      case round =>
        obtain ⟨k, l, hk, rfl, hf, hfi, hpf, hbw⟩ := hrel
        have HF := Lib.hid hf
        have HFI := Lib.hid hfi
        have HPF := Lib.hid hpf
        have HBW := Lib.hid hbw
        obtain ⟨lo, lc, rfl, _, _⟩ := hf.parts
        clear hf hfi hpf hbw
        have q0 := (HQ2.out.below HBW.out).c0
        by_cases hlt : k < names.length
        · obtain ⟨nb, nof, rfl, hlb, x0⟩ := Texts.cell HN.out k hlt
          have HXN : Hid (∀ W, Below W3.heap.size W3 W → W.cell? ⟨nb, nof + k, none⟩ = some (.string names[k])) := Lib.hid fun W hb => by
            obtain ⟨kc, _⟩ := bcell hb
            exact (kc _ _ hlb).trans x0
          clear hlb x0
          have x0 := HXN.out _ HBW.out
          have HSK : Hid (∀ W, Below wr.heap.size wr W → W.cell? ⟨w.heap.size + 1, 0, none⟩ = some (.slice bo b.files.length cb) ∧ W.cell? ⟨nb, nof + k, none⟩ = some (.string names[k])) := Lib.hid fun W hb => ⟨(HQ2.out.below (two HBW.out hb)).c0, HXN.out W (two HBW.out hb)⟩
          have ED := Lib.hid (Below.refl wr.heap.size wr).drew
          have XE : Hid (FAt (wr.alloc (.cells #[.string zeroF.name, .string zeroF.text, .int .i64 zeroF.times] 23)).drew wr.heap.size zeroF) := Lib.hid ((FAt.new wr zeroF).below (Below.refl _ _).drew)
          have C1 := fun W (hw : Below wr.heap.size wr W) => CG.out _ b.files names[k] W (HBF.out.below (two HBW.out hw)) HFB.out
          unfold RetFile File.val fileOr at C1
          cases hgo : getAt b.files names[k] with
          | none =>
            have HPN : Hid (putsFrom b.files l0 names = putsFrom b.files l (names.drop (k + 1))) := Lib.hid (HPF.out.trans (puts_none hlt hgo))
            rw [hgo] at C1
            obtain ⟨g, hg⟩ : ∃ g, g = (none : Option File).getD noFile := ⟨_, rfl⟩
            rw [← hg] at C1
            rw [show (none : Option File).isSome = false from rfl] at C1
            replace C1 := Lib.hid C1
            clear hg hgo
            go_wp2_with fail
            go_region_held3 (fun W => W.cell? ⟨w.heap.size + 1, 0, none⟩ = some (.slice bo b.files.length cb) ∧ W.cell? ⟨nb, nof + k, none⟩ = some (.string names[k]))
              (first
                | exact HSK.out _ ED.out
                | exact HSK.out _ (HE5 : Hid _).out
                | exact HSK.out _ (below_alloc _ _).drew
                | exact HSK.out _ (two (HE5 : Hid _).out (below_alloc _ _))
                | exact HSK.out _ (below_set3 (HE5 : Hid _).out _ (Nat.le_refl _) _ _ _))
              (first | (go_at_call 67; refine (C1.out _ (by first | exact ED.out | exact (below_alloc _ _).drew)).mono ?_; rintro e w5 ⟨rfl, hb5⟩; have HE5 := Lib.hid (two (by first | exact ED.out | exact (below_alloc _ _).drew) hb5); (try (have XF := Lib.hid (XE.out.below hb5); have b0 := XF.out.c0; have b1 := XF.out.c1; have b2 := XF.out.c2; have b3 := XF.out.f0; have b4 := XF.out.f1; have b5 := XF.out.f2)); clear hb5))
            all_goals
              first
                | (obtain ⟨W6, bx, hW6, hbx, hX6, hE6⟩ : ∃ W6 bx, W6 = w5.alloc (.cells #[.string g.name, .string g.text, .int .i64 g.times] 23) ∧ bx = w5.heap.size ∧ FAt W6 bx g ∧ Below wr.heap.size wr W6 := ⟨_, _, rfl, rfl, FAt.new w5 g, two HE5.out (below_alloc _ _)⟩
                   rw [← hW6, ← hbx])
                | (obtain ⟨W6, bx, hW6, hbx, hX6, hE6⟩ : ∃ W6 bx, W6 = ((w5.setCell ⟨wr.heap.size, 0, none⟩ (.string g.name)).setCell ⟨wr.heap.size, 1, none⟩ (.string g.text)).setCell ⟨wr.heap.size, 2, none⟩ (.int .i64 g.times) ∧ bx = wr.heap.size ∧ FAt W6 bx g ∧ Below wr.heap.size wr W6 := ⟨_, _, rfl, rfl, XF.out.set g, below_set3 HE5.out _ (Nat.le_refl _) _ _ _⟩
                   rw [← hW6, ← hbx])
            all_goals
              have HX6 := Lib.hid hX6
              have HF6 := Lib.hid (HF.out.below hE6)
              have HB6 := Lib.hid (two HBW.out hE6)
              clear hW6 hbx hX6 hE6
              (try clear XF)
              (try clear b0 b1 b2 b3 b4 b5)
              go_wp2_with fail
              go_roundw
              case rel => exact ⟨k + 1, l, by omega, by go_num, HF6.out, HFI.out, HPN.out, HB6.out⟩
              case measure => simp [intOf]; omega
          | some g =>
            have HFO : Hid g.ok := Lib.hid (fine_files HFB.out g (HFB.out.mem hgo).1)
            have HPS : Hid ((putAt l g).2 = 0 → putsFrom b.files l0 names = putsFrom b.files (putAt l g).1 (names.drop (k + 1))) := Lib.hid fun h => HPF.out.trans (puts_some hlt hgo h)
            have HPB : Hid ((putAt l g).2 ≠ 0 → putsFrom b.files l0 names = ([], (putAt l g).2)) := Lib.hid fun h => HPF.out.trans (puts_bad hlt hgo h)
            rw [hgo] at C1
            rw [show (some g).isSome = true from rfl, show (some g).getD noFile = g from rfl] at C1
            replace C1 := Lib.hid C1
            clear hgo
            go_wp2_with fail
            go_region_held3 (fun W => W.cell? ⟨w.heap.size + 1, 0, none⟩ = some (.slice bo b.files.length cb) ∧ W.cell? ⟨nb, nof + k, none⟩ = some (.string names[k]))
              (first
                | exact HSK.out _ ED.out
                | exact HSK.out _ (HE5 : Hid _).out
                | exact HSK.out _ (below_alloc _ _).drew
                | exact HSK.out _ (two (HE5 : Hid _).out (below_alloc _ _))
                | exact HSK.out _ (below_set3 (HE5 : Hid _).out _ (Nat.le_refl _) _ _ _))
              (first | (go_at_call 67; refine (C1.out _ (by first | exact ED.out | exact (below_alloc _ _).drew)).mono ?_; rintro e w5 ⟨rfl, hb5⟩; have HE5 := Lib.hid (two (by first | exact ED.out | exact (below_alloc _ _).drew) hb5); (try (have XF := Lib.hid (XE.out.below hb5); have b0 := XF.out.c0; have b1 := XF.out.c1; have b2 := XF.out.c2; have b3 := XF.out.f0; have b4 := XF.out.f1; have b5 := XF.out.f2)); clear hb5))
            all_goals
              first
                | (obtain ⟨W6, bx, hW6, hbx, hX6, hE6⟩ : ∃ W6 bx, W6 = w5.alloc (.cells #[.string g.name, .string g.text, .int .i64 g.times] 23) ∧ bx = w5.heap.size ∧ FAt W6 bx g ∧ Below wr.heap.size wr W6 := ⟨_, _, rfl, rfl, FAt.new w5 g, two HE5.out (below_alloc _ _)⟩
                   rw [← hW6, ← hbx])
                | (obtain ⟨W6, bx, hW6, hbx, hX6, hE6⟩ : ∃ W6 bx, W6 = ((w5.setCell ⟨wr.heap.size, 0, none⟩ (.string g.name)).setCell ⟨wr.heap.size, 1, none⟩ (.string g.text)).setCell ⟨wr.heap.size, 2, none⟩ (.int .i64 g.times) ∧ bx = wr.heap.size ∧ FAt W6 bx g ∧ Below wr.heap.size wr W6 := ⟨_, _, rfl, rfl, XF.out.set g, below_set3 HE5.out _ (Nat.le_refl _) _ _ _⟩
                   rw [← hW6, ← hbx])
            all_goals
              have HX6 := Lib.hid hX6
              have HF6 := Lib.hid (HF.out.below hE6)
              have HB6 := Lib.hid (two HBW.out hE6)
              clear hW6 hbx hX6 hE6
              (try clear XF)
              (try clear b0 b1 b2 b3 b4 b5)
              have x0' := HX6.out.c0
              have x1' := HX6.out.c1
              have x2' := HX6.out.c2
              have C2 := CP.out _ l g W6 HF6.out HFI.out HFO.out
              unfold RetFiles File.val at C2
              have HFI2 := Lib.hid (put_fine HFI.out g)
              obtain ⟨p, hp⟩ : ∃ p, p = putAt l g := ⟨_, rfl⟩
              rw [← hp] at C2 HPS HPB HFI2
              replace C2 := Lib.hid C2
              clear hp
              go_wp2_with fail
              refine C2.out.mono ?_
              rintro e w7 ⟨v7, rfl, hf7, hb7⟩
              clear x0' x1' x2'
              have HF7 := Lib.hid hf7
              have HB7 := Lib.hid (two HB6.out hb7)
              obtain ⟨po, pc, rfl, _, _⟩ := hf7.parts
              clear hf7 hb7 q0
              by_cases hp0 : p.2 = 0
              · have hpe : ¬ ((0 : Int) < (p.2 : Int)) := by omega
                have HPN := Lib.hid (HPS.out hp0)
                clear hp0
                go_wp2_with fail
                clear hpe
                go_roundw
                case rel => exact ⟨k + 1, p.1, by omega, by go_num, HF7.out, HFI2.out, HPN.out, HB7.out⟩
                case measure => simp [intOf]; omega
              · have hpe : (0 : Int) < (p.2 : Int) := by omega
                have HPN := Lib.hid (HPB.out hp0)
                have HD : Hid (patchedQ a b names = (noQuilt, p.2)) := Lib.hid (by rw [HPD.out, HPN.out]; rw [if_neg hp0])
                have HQ7 := Lib.hid (HQ3.out.below HB7.out)
                have z0 := HQ7.out.c0
                have z1 := HQ7.out.c1
                have z2 := HQ7.out.f0
                have z3 := HQ7.out.f1
                clear hp0
                go_wp2_with fail
                have HBZ := ((two HB.out HB7.out).setCell (p := ⟨w.heap.size + 2, 0, none⟩) HZ.out (.slice none 0 0)).setCell (p := ⟨w.heap.size + 2, 1, none⟩) HZ.out (.int .i64 0)
                refine bodyPost_ret (v := .tuple #[.agg #[.slice none 0 0, .int .i64 0], .int .i64 p.2]) (by simp [results, Try.results90, go_sem, z0, z1, z2, z3]) rfl ?_
                exact ⟨_, by rw [HD.out], by rw [HD.out]; exact ⟨_, rfl, Rd.nil _⟩, HBZ⟩
        · have HPN := Lib.hid (HPF.out.trans (puts_end hlt))
          have HD : Hid (patchedQ a b names = (⟨l, b.turn⟩, 0)) := Lib.hid (by rw [HPD.out, HPN.out]; rfl)
          have q1 := (HQ2.out.below HBW.out).c1
          have HQ7 := Lib.hid (HQ3.out.below HBW.out)
          have z0 := HQ7.out.c0
          have z1 := HQ7.out.c1
          have z2 := HQ7.out.f0
          have z3 := HQ7.out.f1
          go_wp2_with fail
          have HBZ := ((two HB.out HBW.out).setCell (p := ⟨w.heap.size + 2, 0, none⟩) HZ.out (.slice lo l.length lc)).setCell (p := ⟨w.heap.size + 2, 1, none⟩) HZ.out (.int .i64 b.turn)
          refine bodyPost_ret (v := .tuple #[.agg #[.slice lo l.length lc, .int .i64 b.turn], .int .i64 0]) (by simp [results, Try.results90, go_sem, z0, z1, z2, z3]) rfl ?_
          exact ⟨_, by rw [HD.out]; rfl, by rw [HD.out]; exact ⟨_, rfl, files_set_box HF.out HQ7.out.ns _ (files_not_str HF.out) _⟩, HBZ⟩
end Go.Proofs.Ytggpodlecljcbaa
