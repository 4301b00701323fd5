/- A disk that may fall while it is laid anew: whatever is left of it can be opened and laid anew behind a restart. Looking at a disk that is armed, and laying a quilt on it anew: it may fall. Printed by wip/mk_tm.py. Who opens three disks, one of which may fall while it is laid anew: that one may be left anyhow, the others stay. Printed by wip/mk_tm.py. -/
import Derived.Test.YtggpodlecljcbadGreatDoorMST
import Derived.Test.YtggpodlecljcbadGreatDoorMT1
import Derived.Test.YtggpodlecljcbadGreatDoorMT7
namespace Go.Proofs.YtggpodlecljcbadGreatDoor
set_option linter.unusedSimpArgs false
set_option linter.unusedVariables false
open Go.RowKit Go.Sort
/-- all sectors of a disk have 40 bytes, kept, now, and waiting. -/
structure F40 (D : DiskS) : Prop where
  kept : ∀ s ∈ D.kept, s.size = 40
  now : ∀ s ∈ D.now, s.size = 40
  wait : ∀ t ∈ D.wait, t.data.size = 40
  len : D.now.length = 50
theorem F40.step {D : DiskS} (h : F40 D) : F40 (stepD D).1 := by
  obtain ⟨h1, h2, h3⟩ := stepD_same D
  exact ⟨by rw [h1]; exact h.kept, by rw [h2]; exact h.now, by rw [h3]; exact h.wait, by rw [h2]; exact h.len⟩
theorem F40.write {D : DiskS} (h : F40 D) (p : Int) (s : ByteArray) : F40 (writeD D p s).1 := by
  unfold writeD; split
  · exact h
  · rename_i h0
    split
    · exact h.step
    · obtain ⟨h1, h2, h3⟩ := stepD_same D
      have hs : (fullS s).size = 40 := fullS_size s (by omega)
      refine ⟨by show ∀ x ∈ (stepD D).1.kept, _; rw [h1]; exact h.kept, fun x hx => ?_, fun t ht => ?_, by show (D.now.set _ _).length = 50; rw [List.length_set]; exact h.len⟩
      · rcases List.mem_or_eq_of_mem_set hx with h4 | h4
        · exact h.now x h4
        · rw [h4]; exact hs
      · rcases List.mem_append.1 ht with h4 | h4
        · exact h.wait t h4
        · rw [List.mem_singleton.1 h4]; exact hs
theorem F40.flush {D : DiskS} (h : F40 D) : F40 (flushD D).1 := by
  unfold flushD; split
  · exact h.step
  · obtain ⟨h1, h2, h3⟩ := stepD_same D
    exact ⟨h.now, by show ∀ x ∈ (stepD D).1.now, _; rw [h2]; exact h.now, fun t ht => (by cases ht), by show (stepD D).1.now.length = 50; rw [h2]; exact h.len⟩
theorem keptF_40 : KeptY F40 := ⟨fun _ p s h => h.write p s, fun _ h => h.flush⟩
theorem F40.keep {D : DiskS} (h : F40 D) (keep : Int) : ∀ k, k ≤ D.wait.length → ∀ s ∈ keepTo' keep D.wait k D.kept, s.size = 40
  | 0, _ => by rw [keepTo_zero]; exact h.kept
  | k + 1, hk => fun s hs => by
    rw [keepTo_next keep D.wait k D.kept (by omega)] at hs
    split at hs
    · rcases List.mem_or_eq_of_mem_set hs with h4 | h4
      · exact F40.keep h keep k (by omega) s h4
      · rw [h4]; exact h.wait _ (List.getElem_mem _)
    · exact F40.keep h keep k (by omega) s hs
/-- behind a restart it can be opened, and laid anew. -/
theorem F40.back {D : DiskS} (h : F40 D) (hok : D.ok) (keep : Int) : Sound (restartD D keep) :=
  ⟨hok.restart keep, ⟨rfl, rfl⟩, h.keep keep _ (Nat.le_refl _), by show (keepTo' keep D.wait D.wait.length D.kept).length = 50; rw [keepTo_length keep D.wait D.kept _ (Nat.le_refl _), hok.same]; exact h.len, by show ([] : List Turn).length ≤ 900000; decide⟩
/-- a disk that is there, armed or not. -/
structure Firm (D : DiskS) : Prop where
  ok : D.ok
  up : D.down = false
  f40 : F40 D
  wait : D.wait = []
theorem Sound.firm {D : DiskS} (h : Sound D) (hw : D.wait = []) (hk : D.kept = D.now) (n : Int) (hn : n ≤ 9223372036854775807) : Firm (armD D n) :=
  ⟨h.ok.arm n hn, h.calm.1, ⟨by show ∀ s ∈ D.kept, _; rw [hk]; exact h.s40, h.s40, fun t ht => by (have h1 : t ∈ D.wait := ht; rw [hw] at h1; cases h1), h.len⟩, hw⟩
/-- two disks that are the same, but for the fuse of the first. -/
structure Like (D C : DiskS) : Prop where
  kept : D.kept = C.kept
  now : D.now = C.now
  wait : D.wait = C.wait
  up : D.down = false
  calm : Calm C
def OK2 (x y : DiskS × Nat) : Prop := x.2 = 8 ∨ (x.2 = y.2 ∧ Like x.1 y.1)
theorem like_step {D : DiskS} (h : D.down = false) : (stepD D).2 = 8 ∨ ((stepD D).2 = 0 ∧ (stepD D).1.down = false) := by
  unfold stepD
  rw [if_neg (by rw [h]; decide)]
  split
  · exact Or.inl rfl
  · exact Or.inr ⟨rfl, h⟩
theorem like_write {D C : DiskS} (h : Like D C) (p : Int) (s : ByteArray) : OK2 (writeD D p s) (writeD C p s) := by
  unfold writeD
  rw [h.now]
  by_cases h0 : p < 0 ∨ (C.now.length : Int) ≤ p ∨ 40 < s.size
  · rw [if_pos h0, if_pos h0]; exact Or.inr ⟨rfl, h⟩
  · rw [if_neg h0, if_neg h0, h.calm.step, if_neg (fun e : ((C, 0) : DiskS × Nat).2 ≠ 0 => e rfl)]
    obtain ⟨h1, h2, h3⟩ := stepD_same D
    rcases like_step h.up with e | ⟨e, hd⟩
    · rw [if_pos (by rw [e]; decide)]; exact Or.inl e
    · rw [if_neg (by rw [e]; decide)]
      refine Or.inr ⟨rfl, ⟨h1.trans h.kept, rfl, by show D.wait ++ _ = C.wait ++ _; rw [h.wait], hd, ⟨h.calm.1, h.calm.2⟩⟩⟩
theorem like_flush {D C : DiskS} (h : Like D C) : OK2 (flushD D) (flushD C) := by
  unfold flushD
  rw [h.calm.step, if_neg (fun e : ((C, 0) : DiskS × Nat).2 ≠ 0 => e rfl)]
  obtain ⟨h1, h2, h3⟩ := stepD_same D
  rcases like_step h.up with e | ⟨e, hd⟩
  · rw [if_pos (by rw [e]; decide)]; exact Or.inl e
  · rw [if_neg (by rw [e]; decide)]
    exact Or.inr ⟨rfl, ⟨h.now, h2.trans h.now, rfl, hd, ⟨h.calm.1, h.calm.2⟩⟩⟩
theorem OK2.thenD {x y : DiskS × Nat} {f g : DiskS → DiskS × Nat} (h : OK2 x y) (hf : ∀ D C, Like D C → OK2 (f D) (g C)) : OK2 (Go.Proofs.YtggpodlecljcbadGreatDoor.thenD x f) (Go.Proofs.YtggpodlecljcbadGreatDoor.thenD y g) := by
  rcases h with e | ⟨e, hl⟩
  · rw [thenD_bad (by rw [e]; decide)]; exact Or.inl e
  · by_cases h0 : x.2 = 0
    · rw [thenD_good h0, thenD_good (e.symm.trans h0)]; exact hf _ _ hl
    · rw [thenD_bad h0, thenD_bad (by rw [← e]; exact h0)]; exact Or.inr ⟨e, hl⟩
theorem like_blanks : ∀ (k i : Nat) (D C : DiskS), Like D C → OK2 (blanksD i k D) (blanksD i k C)
  | 0, _, _, _, h => Or.inr ⟨rfl, h⟩
  | k + 1, i, D, C, h => by
    unfold blanksD
    exact (like_write h _ _).thenD (fun D' C' h' => like_blanks k (i + 1) D' C' h')
theorem like_format {D C : DiskS} (h : Like D C) : OK2 (formatD D) (formatD C) := by
  unfold formatD
  rw [h.now]
  split
  · exact Or.inr ⟨rfl, h⟩
  · exact ((((like_write h _ _).thenD (fun D' C' h' => like_blanks _ _ D' C' h')).thenD (fun _ _ h' => like_flush h')).thenD (fun _ _ h' => like_write h' _ _)).thenD (fun _ _ h' => like_flush h')
theorem waits_write (D : DiskS) (p : Int) (s : ByteArray) : (writeD D p s).1.wait.length ≤ D.wait.length + 1 := by
  unfold writeD; split
  · exact Nat.le_succ _
  · split
    · rw [(stepD_same D).2.2]; exact Nat.le_succ _
    · show (D.wait ++ _).length ≤ _
      rw [List.length_append]
      exact Nat.le_refl _
theorem waits_flush (D : DiskS) : (flushD D).1.wait.length ≤ D.wait.length := by
  unfold flushD; split
  · rw [(stepD_same D).2.2]; exact Nat.le_refl _
  · exact Nat.zero_le _
theorem waits_then {p : DiskS × Nat} {f : DiskS → DiskS × Nat} {n m : Nat} (h : p.1.wait.length ≤ n) (hf : ∀ D, (f D).1.wait.length ≤ D.wait.length + m) : (thenD p f).1.wait.length ≤ n + m := by
  by_cases h0 : p.2 = 0
  · rw [thenD_good h0]
    have := hf p.1
    omega
  · rw [thenD_bad h0]
    omega
theorem waits_blanks : ∀ (k i : Nat) (D : DiskS), (blanksD i k D).1.wait.length ≤ D.wait.length + k
  | 0, _, _ => Nat.le_refl _
  | k + 1, i, D => by
    unfold blanksD
    have := waits_then (f := blanksD (i + 1) k) (m := k) (waits_write D (i : Nat) ⟨#[]⟩) (fun E => waits_blanks k (i + 1) E)
    omega
theorem waits_format (D : DiskS) : (formatD D).1.wait.length ≤ D.wait.length + D.now.length + 2 := by
  unfold formatD
  split
  · show D.wait.length ≤ _; omega
  · rename_i h0
    have h1 := waits_then (f := blanksD 26 (D.now.length - 26)) (m := D.now.length - 26) (waits_write D ((0 : Nat) : Int) ⟨#[]⟩) (fun E => waits_blanks (D.now.length - 26) 26 E)
    have h2 := waits_then (f := flushD) (m := 0) h1 (fun E => waits_flush E)
    have h3 := waits_then (m := 1) h2 (fun E => waits_write E ((1 : Nat) : Int) (headText ⟨1, 0, 0, 1⟩))
    have h4 := waits_then (f := flushD) (m := 0) h3 (fun E => waits_flush E)
    omega
/-- what may be left of a disk. -/
structure Left (D : DiskS) : Prop where
  ok : D.ok
  f40 : F40 D
  wait : D.wait.length ≤ 1000
/-- a quilt laid on a disk that may fall. -/
theorem lay_left {D : DiskS} (h : Firm D) {q : Quilt} (hq : quiltFault q = 0) :
    (∃ E n, formatD D = (E, n) ∧ n ≠ 0 ∧ Left E) ∨
    (∃ E, formatD D = (E, 0) ∧ E.ok ∧ InvZ 24 E ⟨firstH, 0, []⟩ ∧ Left (commitZ 24 ⟨firstH, 0, []⟩ (rowsQ q) E).1) := by
  obtain ⟨C, hC⟩ : ∃ C : DiskS, C = ⟨D.kept, D.now, D.wait, -1, false⟩ := ⟨_, rfl⟩
  have hl : Like D C := ⟨by rw [hC], by rw [hC], by rw [hC], h.up, by rw [hC]; exact ⟨rfl, rfl⟩⟩
  have hok := keep_format keptY_ok D h.ok
  have h40 := keep_format keptF_40 D h.f40
  have hwt := waits_format D
  rw [h.wait, h.f40.len] at hwt
  obtain ⟨E, e1, e2, e3⟩ := format_inv C hl.calm (by rw [← hl.now]; exact h.f40.now) (by rw [← hl.now, h.f40.len]; decide) (by rw [← hl.now, h.f40.len]; decide)
  rw [← hl.now, h.f40.len] at e3
  have ho := like_format hl
  rw [e1] at ho
  by_cases h0 : (formatD D).2 = 0
  · right
    rcases ho with h8 | ⟨_, hlk⟩
    · rw [h0] at h8; cases h8
    · have hE : (formatD D).1 = { E with fuse := (formatD D).1.fuse } := by
        obtain ⟨k1, n1, w1, u1, c1⟩ := hlk
        have hd : E.down = false := e2.1
        cases hF : (formatD D).1 with
        | mk a b c d e =>
          rw [hF] at k1 n1 w1 u1
          cases E with
          | mk a' b' c' d' e' =>
            dsimp only at k1 n1 w1 u1 hd ⊢
            rw [k1, n1, w1, u1, hd]
      have hinv : InvZ 24 (formatD D).1 ⟨firstH, 0, []⟩ := by
        rw [hE]; exact e3.fuse _
      refine ⟨(formatD D).1, Prod.ext rfl h0, hok, hinv, keep_commit keptY_ok 24 _ _ _ hok, keep_commit keptF_40 24 _ _ _ h40, ?_⟩
      have := wait_commitZ (rowsQ q) hinv
      omega
  · exact Or.inl ⟨(formatD D).1, (formatD D).2, rfl, h0, hok, h40, by simp only [List.length_nil] at hwt; omega⟩
end Go.Proofs.YtggpodlecljcbadGreatDoor
namespace Go.Proofs.YtggpodlecljcbadGreatDoor
set_option linter.unusedSimpArgs false
set_option linter.unusedVariables false
open Go.RowKit Go.Sort
/-- a disk that can be looked at. -/
structure Upright (D : DiskS) : Prop where
  ok : D.ok
  up : D.down = false
  s40 : ∀ s ∈ D.now, s.size = 40
  len : D.now.length = 50
theorem Sound.upright {D : DiskS} (h : Sound D) : Upright D := ⟨h.ok, h.calm.1, h.s40, h.len⟩
theorem Firm.upright {D : DiskS} (h : Firm D) : Upright D := ⟨h.ok, h.up, h.f40.now, h.f40.len⟩
set_option maxRecDepth 100000 in
set_option maxHeartbeats 4000000 in
theorem trio_look_f (L : Dk) (D : DiskS) (w : World) (h : DiskAt w L D) (hs : Upright D) (hg : GlobI w) :
    Calls Tryz.prog 32 #[.pointer (some ⟨L.b, 0, none⟩)] w fun e w' => ∃ sp cv, e = .returned (.tuple #[.pointer sp, cv.val]) ∧ IsCopy w' cv (copyC D) ∧ Fresh w.heap.size cv.v ∧ LookR w L D sp w' ∧ Below w.heap.size w w' := by
  obtain ⟨W1, hW1⟩ : ∃ W1, W1 = w.alloc (.cells #[.bool false, .slice none 0 0, .int .i64 0] 74) := ⟨_, rfl⟩
  have hb0 : Below w.heap.size w W1 := by rw [hW1]; exact below_alloc _ _
  have HW1 := Lib.hid hW1
  have HB0 := Lib.hid hb0
  have HZ1 : Hid (W1.heap.size = w.heap.size + 1) := Lib.hid (by rw [hW1]; simp)
  have HRB : Hid (∀ W, Below W1.heap.size W1 W → W.heap[w.heap.size]? = some (.cells #[.bool false, .slice none 0 0, .int .i64 0] 74 (0, 0))) := Lib.hid (fun W hW => by
    rw [hW.block _ (by rw [hW1]; simp), hW1]
    show (w.heap.push _)[w.heap.size]? = _
    simp)
  have HFT : Hid (∀ x, L.foot x → x < w.heap.size) := Lib.hid h.lt
  have CO := store_Open L D W1 (h.below hb0) hs.up hs.ok hs.s40 (by rw [hs.len]; decide)
  rw [hs.len] at CO
  obtain ⟨b, hb⟩ : ∃ b, b = L.b := ⟨_, rfl⟩
  rw [← hb] at CO ⊢
  have HCO := Lib.hid CO
  have HG := Lib.hid (hg.below hb0)
  have HFINE : Hid (∀ S, openZ D = some S → (∀ c ∈ S.rows, changeFault c = 0) ∧ S.rows.length ≤ 200) := Lib.hid (fun S e => open_fine e (by rw [hs.len]; decide) (by rw [hs.len]; decide))
  clear CO h hs hg hb hW1 hb0
  go_enter Tryz.func32, Tryz.ntmps32
  go_wp2_with fail
  rw [← HW1.out]
  refine HCO.out.mono ?_
  rintro e w1 ⟨hc, hb1⟩
  rcases hc with ⟨ho, rfl⟩ | ⟨S, sb, lb, rv, ho, rfl, hst, hsb, hlb, hrv⟩
  · have HO := Lib.hid ho
    have HB1 := Lib.hid hb1
    clear ho hb1
    obtain ⟨z0, z1, z2, zf⟩ := arr3_cells (HRB.out _ HB1.out)
    rw [errV_pos (by decide)]
    go_wp2_with fail
    refine bodyPost_ret (v := .tuple #[.pointer none, .agg #[.bool false, .slice none 0 0, .int .i64 0]]) (by simp [results, Tryz.results32, go_sem, z0, z1, z2, zf]) rfl ?_
    exact ⟨none, ⟨false, .slice none 0 0, 0⟩, rfl, no_copy _ (copy_none HO.out), fresh_nil _, fun S q e => by (rw [copy_none HO.out] at e; cases e), ((two HB0.out HB1.out).setCell (p := ⟨w.heap.size, 0, none⟩) (Nat.le_refl _) _ |>.setCell (p := ⟨w.heap.size, 1, none⟩) (Nat.le_refl _) _).setCell (p := ⟨w.heap.size, 2, none⟩) (Nat.le_refl _) _⟩
  · have HO := Lib.hid ho
    have HB1 := Lib.hid hb1
    have HST := Lib.hid hst
    have HSB := Lib.hid (And.intro hsb (And.intro hlb hrv))
    obtain ⟨hf1, hf2⟩ := HFINE.out S ho
    have HF1 := Lib.hid hf1
    have HF2 := Lib.hid hf2
    have CR := Lib.hid (store_Rows sb lb L S 24 rv w1 hst (by omega))
    clear ho hb1 hst hsb hlb hrv hf1 hf2
    go_wp2_with fail
    refine CR.out.mono ?_
    rintro e w2 ⟨v2, rfl, ho2, hb2⟩
    have HB2 := Lib.hid (two HB1.out hb2)
    have HST2 := Lib.hid (HST.out.below hb2)
    have CP := Lib.hid (image_Parse v2 S.rows w2 (SL.of_own ho2) (HG.out.below HB2.out) (by have := HF2.out; omega) (fun c hc => ok_fine (HF1.out c hc)))
    obtain ⟨ao2, ac2, rfl, _, _⟩ := own_slice ho2
    clear ho2 hb2
    go_wp2_with fail
    refine CP.out.mono ?_
    rintro e w3 ⟨qv, rfl, hq, hb3⟩
    have HB3 := Lib.hid (two HB2.out hb3)
    have HST3 := Lib.hid (HST2.out.below hb3)
    cases hp : parseQ S.rows with
    | none =>
      have e4 : faultI S.rows = 4 := by unfold faultI; rw [hp]; rfl
      have HC := Lib.hid (copy_bad HO.out hp)
      rw [e4, errV_pos (by decide)]
      obtain ⟨v3, rfl, hv3⟩ := hq
      obtain ⟨ao3, ac3, rfl, _, _⟩ := own_slice hv3
      generalize (quiltI S.rows).files.length = n3, (quiltI S.rows).turn = t3 at *
      clear hb3 hp e4 hv3
      have HB4 := Lib.hid (two HB3.out (below_alloc w3 (.cells #[.slice ao3 n3 ac3, .int .i64 t3] 36)))
      obtain ⟨z0, z1, z2, zf⟩ := arr3_cells (HRB.out _ HB4.out)
      go_wp2_with fail
      refine bodyPost_ret (v := .tuple #[.pointer none, .agg #[.bool false, .slice none 0 0, .int .i64 0]]) (by simp [results, Tryz.results32, go_sem, z0, z1, z2, zf]) rfl ?_
      exact ⟨none, ⟨false, .slice none 0 0, 0⟩, rfl, no_copy _ HC.out, fresh_nil _, fun S q e => by (rw [HC.out] at e; cases e), ((two HB0.out HB4.out).setCell (p := ⟨w.heap.size, 0, none⟩) (Nat.le_refl _) _ |>.setCell (p := ⟨w.heap.size, 1, none⟩) (Nat.le_refl _) _).setCell (p := ⟨w.heap.size, 2, none⟩) (Nat.le_refl _) _⟩
    | some q =>
      have e4 : faultI S.rows = 0 := by unfold faultI; rw [hp]; rfl
      have eq4 : quiltI S.rows = q := by unfold quiltI; rw [hp]; rfl
      have HC := Lib.hid (copy_intro HO.out hp)
      rw [e4, errV_zero]
      rw [eq4] at hq
      obtain ⟨v3, rfl, ho3⟩ := hq
      have HO3 := Lib.hid ho3
      have hz2 := HB2.out.size
      obtain ⟨ao3, ac3, rfl, _, _⟩ := own_slice ho3
      clear hb3 hp e4 eq4 ho3
      have HB4 := Lib.hid (two HB3.out (below_alloc w3 (.cells #[.slice ao3 q.files.length ac3, .int .i64 q.turn] 36)))
      obtain ⟨z0, z1, z2, zf⟩ := arr3_cells (HRB.out _ HB4.out)
      go_wp2_with fail
      go_region
      go_wp2_with fail
      refine bodyPost_ret (v := .tuple #[.pointer (some ⟨sb, 0, none⟩), .agg #[.bool true, .slice ao3 q.files.length ac3, .int .i64 q.turn]]) (by simp [results, Tryz.results32, go_sem, z0, z1, z2, zf]) rfl ?_
      have hzz := HZ1.out
      obtain ⟨W5, hW5⟩ : ∃ W5, W5 = (w3.alloc (.cells #[.slice ao3 q.files.length ac3, .int .i64 q.turn] 36)) := ⟨_, rfl⟩
      have hb5 : Below w3.heap.size w3 W5 := by rw [hW5]; exact below_alloc _ _
      rw [← hW5]
      have hic : IsCopy W5 ⟨true, .slice ao3 q.files.length ac3, q.turn⟩ (copyC D) ∧ Fresh W1.heap.size (.slice ao3 q.files.length ac3) := by
        rw [copyC_some HC.out]
        exact ⟨⟨rfl, rfl, Rd.below (SL.of_own HO3.out) hb5⟩, (fresh_own HO3.out).mono hz2⟩
      have hlk : LookR W1 L D (some ⟨sb, 0, none⟩) W5 := fun S' q' e => by
        rw [HC.out] at e
        simp only [Option.some.injEq, Prod.mk.injEq] at e
        obtain ⟨rfl, rfl⟩ := e
        exact ⟨sb, lb, rv, rfl, HST3.out.below hb5, HSB.out.1, HSB.out.2.1, HSB.out.2.2⟩
      have hic3 := copy_set (copy_set (copy_set hic (lb := w.heap.size) (by omega) 0 (.bool true)) (lb := w.heap.size) (by omega) 1 (.slice ao3 q.files.length ac3)) (lb := w.heap.size) (by omega) 2 (.int .i64 q.turn)
      have hlk3 := ((hlk.set (rb := w.heap.size) (Nat.le_refl _) (by omega) HFT.out 0 (.bool true)).set (rb := w.heap.size) (Nat.le_refl _) (by omega) HFT.out 1 (.slice ao3 q.files.length ac3)).set (rb := w.heap.size) (Nat.le_refl _) (by omega) HFT.out 2 (.int .i64 q.turn)
      exact ⟨some ⟨sb, 0, none⟩, ⟨true, .slice ao3 q.files.length ac3, q.turn⟩, rfl, hic3.1.below (Below.refl _ _).drew, hic3.2.mono (by omega), (hlk3.mono (w0 := w) (by omega)).below (Below.refl _ _).drew, (((two HB0.out (two HB3.out hb5)).setCell (p := ⟨w.heap.size, 0, none⟩) (Nat.le_refl _) _ |>.setCell (p := ⟨w.heap.size, 1, none⟩) (Nat.le_refl _) _).setCell (p := ⟨w.heap.size, 2, none⟩) (Nat.le_refl _) _).drew⟩
/-- what laying a disk leaves that may fall. -/
structure LayR (w : World) (L : Dk) (w' : World) (L' : Dk) (D' : DiskS) : Prop where
  eq : L'.b = L.b
  d : DiskAt w' L' D'
  off : Off L.foot w w'
  grow : ∀ x, L'.foot x → L.foot x ∨ w.heap.size ≤ x
  left : Left D'
set_option maxRecDepth 100000 in
set_option maxHeartbeats 4000000 in
theorem trio_lay_bad (w0 : World) (L : Dk) (D : DiskS) (v : Value) (q : Quilt) (w : World) (h : DiskAt w L D) (hs : Firm D) (hlow : ∀ x, L.foot x → w0.heap.size ≤ x) (hg : GlobI w0) (hbw : Below w0.heap.size w0 w) (hq : FilesF L.foot w v q.files) (hgood : quiltFault q = 0) (E : DiskS) (n : Nat) (e1 : formatD D = (E, n)) (hn : n ≠ 0) (hleft : Left E) :
    Calls Tryz.prog 33 #[.pointer (some ⟨L.b, 0, none⟩), .agg #[v, .int .i64 q.turn]] w fun e w' => ∃ sp n L' D', e = .returned (.tuple #[.pointer sp, errV n]) ∧ LayR w L w' L' D' := by
  obtain ⟨ao, ac, rfl, _, _⟩ := hq.rd.parts
  obtain ⟨W0, hW0⟩ : ∃ W0, W0 = w.alloc (.cells #[.slice ao q.files.length ac, .int .i64 q.turn] 36) := ⟨_, rfl⟩
  have HW0 := Lib.hid hW0
  have hbw0 : Below w.heap.size w W0 := by rw [hW0]; exact below_alloc _ _
  have HZ0 : Hid (W0.heap.size = w.heap.size + 1) := Lib.hid (by rw [hW0]; simp)
  have HBX : Hid (W0.heap[w.heap.size]? = some (.cells #[.slice ao q.files.length ac, .int .i64 q.turn] 36 (0, 0))) := Lib.hid (by rw [hW0]; show (w.heap.push _)[w.heap.size]? = _; simp)
  have HFT : Hid (∀ x, L.foot x → x < w.heap.size) := Lib.hid h.lt
  have HB00 := Lib.hid hbw0
  have CF := store_Format L D W0 (h.below hbw0) hs.ok (by rw [hs.wait]; decide)
  rw [e1] at CF
  dsimp only at CF
  rw [errV_pos hn] at CF
  obtain ⟨b, hb⟩ : ∃ b, b = L.b := ⟨_, rfl⟩
  rw [← hb] at CF ⊢
  have HCF := Lib.hid CF
  have HN := Lib.hid hn
  have HLF := Lib.hid hleft
  clear CF hb hg hbw hq hlow e1 hn hleft h hs hgood hW0 hbw0
  go_enter Tryz.func33, Tryz.ntmps33
  go_wp2_with fail
  rw [← HW0.out]
  refine HCF.out.mono ?_
  rintro e w1 ⟨rfl, L1, eL, d1, o1, g1⟩
  have HR1 := Lib.hid (And.intro eL (And.intro d1 (And.intro o1 g1)))
  clear eL d1 o1 g1
  go_wp2_with fail
  refine bodyPost_ret (v := .tuple #[.pointer none, .iface 100 (.int .i64 n)]) (by simp [results, Tryz.results33, go_sem]) rfl ?_
  obtain ⟨eL, d1, o1, g1⟩ := HR1.out
  refine ⟨none, n, L1, E, by rw [errV_pos HN.out], eL, d1, (off_below HB00.out L.foot).trans o1 (fun _ _ h => h), fun x hx => ?_, HLF.out⟩
  rcases g1 x hx with h | h
  · exact Or.inl h
  · have := HZ0.out
    exact Or.inr (by omega)
set_option maxRecDepth 100000 in
set_option maxHeartbeats 4000000 in
theorem trio_lay_good (w0 : World) (L : Dk) (D : DiskS) (v : Value) (q : Quilt) (w : World) (h : DiskAt w L D) (hs : Firm D) (hlow : ∀ x, L.foot x → w0.heap.size ≤ x) (hg : GlobI w0) (hbw : Below w0.heap.size w0 w) (hq : FilesF L.foot w v q.files) (hgood : quiltFault q = 0) (E : DiskS) (e1 : formatD D = (E, 0)) (e2 : E.ok) (e3 : InvZ 24 E ⟨firstH, 0, []⟩) (hleft : Left (commitZ 24 ⟨firstH, 0, []⟩ (rowsQ q) E).1) :
    Calls Tryz.prog 33 #[.pointer (some ⟨L.b, 0, none⟩), .agg #[v, .int .i64 q.turn]] w fun e w' => ∃ sp n L' D', e = .returned (.tuple #[.pointer sp, errV n]) ∧ LayR w L w' L' D' := by
  obtain ⟨ao, ac, rfl, _, _⟩ := hq.rd.parts
  obtain ⟨W0, hW0⟩ : ∃ W0, W0 = w.alloc (.cells #[.slice ao q.files.length ac, .int .i64 q.turn] 36) := ⟨_, rfl⟩
  have HW0 := Lib.hid hW0
  have hbw0 : Below w.heap.size w W0 := by rw [hW0]; exact below_alloc _ _
  have HZ0 : Hid (W0.heap.size = w.heap.size + 1) := Lib.hid (by rw [hW0]; simp)
  have HBX : Hid (W0.heap[w.heap.size]? = some (.cells #[.slice ao q.files.length ac, .int .i64 q.turn] 36 (0, 0))) := Lib.hid (by rw [hW0]; show (w.heap.push _)[w.heap.size]? = _; simp)
  have HFT : Hid (∀ x, L.foot x → x < w.heap.size) := Lib.hid h.lt
  have HB00 := Lib.hid hbw0
  have CF := store_Format L D W0 (h.below hbw0) hs.ok (by rw [hs.wait]; decide)
  rw [e1] at CF
  dsimp only at CF
  rw [errV_zero] at CF
  obtain ⟨b, hb⟩ : ∃ b, b = L.b := ⟨_, rfl⟩
  rw [← hb] at CF ⊢
  have HCF := Lib.hid CF
  have HB := Lib.hid hb
  have HG := Lib.hid hg
  have HBW := Lib.hid (two hbw hbw0)
  have HQ := Lib.hid (hq.below hbw0)
  have HLOW := Lib.hid hlow
  have HE := Lib.hid (And.intro e2 (And.intro e3 hleft))
  have HGD := Lib.hid hgood
  clear CF hb hg hbw hq hlow e1 e2 e3 hleft h hs hgood hW0 hbw0
  go_enter Tryz.func33, Tryz.ntmps33
  go_wp2_with fail
  rw [← HW0.out]
  refine HCF.out.mono ?_
  rintro e w1 ⟨rfl, L1, eL, d1, o1, g1⟩
  have hz := o1.size
  have hB0 := HBW.out.size
  have hlow1 : ∀ x, L1.foot x → w0.heap.size ≤ x := fun x hx => by
    rcases g1 x hx with h | h
    · exact HLOW.out x h
    · omega
  have heb : L1.b = b := eL.trans HB.out.symm
  have CO := Lib.hid (open_std w1 w0.heap.size b 24 L1 E ⟨firstH, 0, []⟩ d1 heb HE.out.2.1 HE.out.1 hlow1 (by omega))
  have HQ1 := Lib.hid (HQ.out.off o1)
  have HB1 : Hid (Below w0.heap.size w0 w1) := Lib.hid (HBW.out.trans (o1.below _ hB0 HLOW.out))
  have HO1 := Lib.hid o1
  have HG1 := Lib.hid g1
  have HZ1 := Lib.hid hz
  have HEL := Lib.hid eL
  have HX1 : Hid (w1.heap[w.heap.size]? = some (.cells #[.slice ao q.files.length ac, .int .i64 q.turn] 36 (0, 0))) := Lib.hid (by
    rw [o1.block _ (by have := HZ0.out; omega) (fun hx => by have := HFT.out _ hx; omega)]
    exact HBX.out)
  clear eL d1 o1 g1 hlow1 heb hz
  go_wp2_with fail
  refine CO.out.mono ?_
  rintro e w2 ⟨sb, lb, rv, rfl, hst, hb2, hsb, hlb, hrv⟩
  have HST := Lib.hid hst
  have HB2 := Lib.hid hb2
  have HSB := Lib.hid (And.intro hsb (And.intro hlb hrv))
  have CR := Lib.hid (image_RowsH (.agg #[.slice ao q.files.length ac, .int .i64 q.turn]) q w2 ⟨_, rfl, HQ1.out.rd.below hb2⟩ (HG.out.below (two HB1.out hb2)) HGD.out)
  have hx2 : w2.heap[w.heap.size]? = some (.cells #[.slice ao q.files.length ac, .int .i64 q.turn] 36 (0, 0)) := by
    rw [hb2.block _ (Array.getElem?_eq_some_iff.1 HX1.out).1]
    exact HX1.out
  have y0 : w2.cell? ⟨w.heap.size, 0, none⟩ = some (.slice ao q.files.length ac) := by simp [World.cell?, hx2]
  have y1 : w2.cell? ⟨w.heap.size, 1, none⟩ = some (.int .i64 q.turn) := by simp [World.cell?, hx2]
  clear hst hb2 hsb hlb hrv hx2
  go_wp2_with fail
  refine CR.out.mono ?_
  rintro e w3 ⟨v3, rfl, ho3, hb3⟩
  have hs3 := HST.out.below hb3
  have hrf := rows_few HGD.out
  have CC := store_Commit sb lb L1 E ⟨firstH, 0, []⟩ 24 rv v3 (rowsQ q) w3 hs3.s hs3.d hs3.ok hs3.inv (by decide) (rows_far HST.out ho3 (Nat.le_refl _)) hrf.2 hrf.1
  obtain ⟨F, hF⟩ : ∃ F, F = commitZ 24 ⟨firstH, 0, []⟩ (rowsQ q) E := ⟨_, rfl⟩
  rw [← hF] at CC
  have HFL : Hid (Left F.1) := Lib.hid (by rw [hF]; exact HE.out.2.2)
  have HCC := Lib.hid CC
  have HB3 := Lib.hid hb3
  obtain ⟨ao3, ac3, rfl, _, _⟩ := own_slice ho3
  clear hs3 ho3 hb3 CC hrf y0 y1 hF
  go_wp2_with fail
  refine HCC.out.mono ?_
  rintro e w4 ⟨rfl, L4, lb4, rv4, e4, d4, s4, o4, g4, f4⟩
  have HD4 := Lib.hid (And.intro e4 (And.intro d4 s4))
  have HO4 := Lib.hid (And.intro o4 (And.intro g4 f4))
  clear e4 d4 s4 o4 g4 f4
  go_wp2_with fail
  refine bodyPost_ret (v := .tuple #[.pointer (some ⟨sb, 0, none⟩), errV F.2.2]) (by simp [results, Tryz.results33, go_sem]) rfl ?_
  obtain ⟨e4, d4, s4⟩ := HD4.out
  obtain ⟨o4, g4, f4⟩ := HO4.out
  obtain ⟨hsb, hlb, hrv⟩ := HSB.out
  have z0 := HZ0.out
  have z1 := HZ1.out
  have z2 := HB2.out.size
  have z3 := HB3.out.size
  refine ⟨_, F.2.2, L4, F.1, rfl, e4.trans HEL.out, d4, ?_, fun x hx => ?_, HFL.out⟩
  · refine ((off_below HB00.out L.foot).trans HO1.out (fun _ _ h => h)).trans (off_below (two HB2.out HB3.out) L.foot) (fun _ _ h => h) |>.trans o4 (fun x hx hG => ?_)
    rcases hG with hG | hG | hG
    · rcases HG1.out x hG with h | h
      · exact h
      · omega
    · omega
    · omega
  · rcases g4 x (Or.inl hx) with hG | h
    · rcases hG with hG | hG | hG
      · rcases HG1.out x hG with h | h
        · exact Or.inl h
        · right; omega
      · right; omega
      · right; omega
    · right; omega
set_option maxRecDepth 100000 in
set_option maxHeartbeats 4000000 in
theorem trio_lay_f (w0 : World) (L : Dk) (D : DiskS) (v : Value) (q : Quilt) (w : World) (h : DiskAt w L D) (hs : Firm D) (hlow : ∀ x, L.foot x → w0.heap.size ≤ x) (hg : GlobI w0) (hbw : Below w0.heap.size w0 w) (hq : FilesF L.foot w v q.files) (hgood : quiltFault q = 0) :
    Calls Tryz.prog 33 #[.pointer (some ⟨L.b, 0, none⟩), .agg #[v, .int .i64 q.turn]] w fun e w' => ∃ sp n L' D', e = .returned (.tuple #[.pointer sp, errV n]) ∧ LayR w L w' L' D' := by
  rcases lay_left hs hgood with ⟨E, n, e1, hn, hleft⟩ | ⟨E, e1, e2, e3, hleft⟩
  · exact trio_lay_bad w0 L D v q w h hs hlow hg hbw hq hgood E n e1 hn hleft
  · exact trio_lay_good w0 L D v q w h hs hlow hg hbw hq hgood E e1 e2 e3 hleft
/-- looking at disks, one of which is armed. -/
theorem looks_f {B : Nat} {b : Nat → Nat} {L : Nat → Dk} {D : Nat → DiskS} {w : World} (h : Disks3 B b w L D) (hs : ∀ k, k < 3 → Upright (D k)) (hg : GlobI w) : Looks b L D w := fun k hk W hb => by
  have := trio_look_f (L k) (D k) W ((h.d k hk).below hb) (hs k hk) (hg.below hb)
  rw [h.eq k hk] at this
  exact this
end Go.Proofs.YtggpodlecljcbadGreatDoor
namespace Go.Proofs.YtggpodlecljcbadGreatDoor
set_option linter.unusedSimpArgs false
set_option linter.unusedVariables false
open Go.RowKit Go.Sort
/-- the disk k may be left anyhow, the others are as they were. -/
def MendR (B : Nat) (b : Nat → Nat) (L : Nat → Dk) (D : Nat → DiskS) (k : Nat) (w w' : World) : Prop := ∃ L' D', Disks3 B b w' L' D' ∧ (∀ i, i < 3 → i ≠ k → D' i = D i) ∧ Left (D' k) ∧ Steps (DF L) w w' (DF L')
theorem mend_of {P : Nat → Prop} {B : Nat} {b : Nat → Nat} {w0 w w1 : World} {tb : Nat} {L : Nat → Dk} {D : Nat → DiskS} {lb sb : Nat → Nat} {rv : Nat → Value} {sp : Nat → Option Addr} {v : Value} {q : Quilt} (h : PreT P B b w tb L D lb sb rv sp v q) {k : Nat} (hk : k < 3) (hB : B ≤ w.heap.size) {L' : Dk} {D' : DiskS} (hr : LayR w (L k) w1 L' D') (hO : Off (DF L) w0 w) :
    MendR B b L D k w0 w1 ∧ Below B w w1 := by
  have hd := h.ds.turned hk hB hr.eq hr.d hr.off hr.grow
  have hs := steps_disk (L := L) hk hr.off hr.grow
  refine ⟨⟨upd L k L', upd D k D', hd, fun i hi hne => upd_ne _ _ hne, by rw [upd_same]; exact hr.left, (⟨hO, fun x hx => Or.inl hx⟩ : Steps (DF L) w0 w (DF L)).trans hs⟩, hr.off.below B hB (h.ds.low k hk)⟩
theorem mend_set {P : Nat → Prop} {B : Nat} {b : Nat → Nat} {w0 w w1 : World} {tb : Nat} {L : Nat → Dk} {D : Nat → DiskS} {lb sb : Nat → Nat} {rv : Nat → Value} {sp : Nat → Option Addr} {v : Value} {q : Quilt} (h : PreT P B b w tb L D lb sb rv sp v q) {k : Nat} (hk : k < 3) (hB : B ≤ w.heap.size) {L' : Dk} {D' : DiskS} (hr : LayR w (L k) w1 L' D') (hO : Off (DF L) w0 w) (hn : w0.heap.size ≤ tb) (o : Nat) (x : Value) :
    MendR B b L D k w0 (w1.setCell ⟨tb, o, none⟩ x) ∧ Below B w (w1.setCell ⟨tb, o, none⟩ x) := by
  have hd := h.ds.turned hk hB hr.eq hr.d hr.off hr.grow
  have hs := steps_disk (L := L) hk hr.off hr.grow
  have hof : Off (fun x => x = tb) w1 (w1.setCell ⟨tb, o, none⟩ x) := off_setCell (F := fun x => x = tb) w1 ⟨tb, o, none⟩ rfl _
  have hnt : ∀ i, i < 3 → ∀ y, (upd L k L' i).foot y → ¬ y = tb := fun i hi y hy e => by
    subst e
    by_cases e : i = k
    · subst e
      rw [upd_same] at hy
      rcases hr.grow y hy with h1 | h1
      · exact h.nt i hi (Or.inl h1)
      · have := h.tlt; omega
    · rw [upd_ne _ _ e] at hy
      exact h.nt i hi (Or.inl hy)
  have hdd : Disks3 B b (w1.setCell ⟨tb, o, none⟩ x) (upd L k L') (upd D k D') := ⟨fun i hi => (hd.d i hi).off hof (hnt i hi), hd.eq, hd.low, hd.ap⟩
  have hz0 := hO.size
  have hz1 := hr.off.size
  refine ⟨⟨upd L k L', upd D k D', hdd, fun i hi hne => upd_ne _ _ hne, by rw [upd_same]; exact hr.left, ⟨(hO.trans hs.off (fun _ _ h => h)).trans hof (fun y hy hG => ?_), fun y hy => ?_⟩⟩, (hr.off.below B hB (h.ds.low k hk)).setCell (p := ⟨tb, o, none⟩) h.tB _⟩
  · have h1 : y = tb := hG
    omega
  · rcases hs.grow y hy with h1 | h1
    · exact Or.inl h1
    · exact Or.inr (by omega)
/-- what a call of lay hands back. -/
theorem errV_or (n : Nat) : errV n = .nilIface ∨ ∃ m : Nat, errV n = .iface 100 (.int .i64 m) := by
  by_cases h : n = 0
  · rw [h, errV_zero]; exact Or.inl rfl
  · rw [errV_pos h]; exact Or.inr ⟨n, rfl⟩
theorem trio_lay_v (w0 : World) (L : Dk) (D : DiskS) (v : Value) (q : Quilt) (w : World) (h : DiskAt w L D) (hs : Firm D) (hlow : ∀ x, L.foot x → w0.heap.size ≤ x) (hg : GlobI w0) (hbw : Below w0.heap.size w0 w) (hq : FilesF L.foot w v q.files) (hgood : quiltFault q = 0) :
    Calls Tryz.prog 33 #[.pointer (some ⟨L.b, 0, none⟩), .agg #[v, .int .i64 q.turn]] w fun e w' => ∃ sp er L' D', e = .returned (.tuple #[.pointer sp, er]) ∧ (er = .nilIface ∨ ∃ m : Nat, er = .iface 100 (.int .i64 m)) ∧ LayR w L w' L' D' := by
  refine (trio_lay_f w0 L D v q w h hs hlow hg hbw hq hgood).mono ?_
  rintro e w' ⟨sp, n, L', D', rfl, hr⟩
  exact ⟨sp, errV n, L', D', rfl, errV_or n, hr⟩
set_option maxRecDepth 100000 in
set_option maxHeartbeats 16000000 in
theorem trio_Open_f (k : Nat) (hk : k < 3) (w0 : World) (b : Nat → Nat) (L : Nat → Dk) (D : Nat → DiskS) (q : Quilt) (w : World) (h : Disks3 w0.heap.size b w L D) (hs : ∀ k, k < 3 → Upright (D k)) (hfirm : Firm (D k)) (hone : wrongs (trioC D) q = [(k : Int)]) (hg : GlobI w0) (hbw : Below w0.heap.size w0 w) (hvq : votedQ (trioC D) = q) (hve : votedE (trioC D) = 0) (hgood : quiltFault q = 0) :
    Calls Tryz.prog 15 #[.agg #[.pointer (some ⟨b 0, 0, none⟩), .pointer (some ⟨b 1, 0, none⟩), .pointer (some ⟨b 2, 0, none⟩)]] w fun e w' => ∃ tp n er, e = .returned (.tuple #[.pointer tp, .int .i64 n, er]) ∧ MendR w0.heap.size b L D k w w' ∧ Below w0.heap.size w0 w' := by
  have hgw := hg.below hbw
  obtain ⟨W1, hW1⟩ : ∃ W1, W1 = w.alloc (.cells #[.pointer (some ⟨b 0, 0, none⟩), .pointer (some ⟨b 1, 0, none⟩), .pointer (some ⟨b 2, 0, none⟩)] 29) := ⟨_, rfl⟩
  have HW1 := Lib.hid hW1
  have hb1 : Below w.heap.size w W1 := by rw [hW1]; exact below_alloc _ _
  have HPX : Hid (W1.heap[w.heap.size]? = some (.cells #[.pointer (some ⟨b 0, 0, none⟩), .pointer (some ⟨b 1, 0, none⟩), .pointer (some ⟨b 2, 0, none⟩)] 29 (0, 0))) := Lib.hid (by rw [hW1]; show (w.heap.push _)[w.heap.size]? = _; simp)
  have HD1 := Lib.hid (h.below hb1)
  have HB1 := Lib.hid hb1
  have HBW1 := Lib.hid (two hbw hb1)
  have HZ1 : Hid (W1.heap.size = w.heap.size + 1) := Lib.hid (by rw [hW1]; simp)
  have HLT : Hid (∀ k, k < 3 → ∀ x, (L k).foot x → x < w.heap.size) := Lib.hid (fun k hk x hx => h.lt hk hx)
  have CC := Lib.hid (trio_Copies b L D W1 (looks_f (h.below hb1) hs (hgw.below hb1)))
  have HS := Lib.hid hs
  have HFM := Lib.hid hfirm
  have HONE := Lib.hid hone
  have HK := Lib.hid hk
  obtain ⟨km, hkm⟩ : ∃ km, km = k := ⟨_, rfl⟩
  rw [← hkm] at HFM HONE HK ⊢
  have HG := Lib.hid hg
  have HQ := Lib.hid hvq
  have HE := Lib.hid hve
  have HGD := Lib.hid hgood
  clear hkm hk hfirm hone hW1 hb1 h hs hg hbw hvq hve hgood hgw
  go_enter Tryz.func15, Tryz.ntmps15
  go_wp2_with fail
  rw [← HW1.out]
  refine CC.out.mono ?_
  rintro e w2 ⟨tv, rfl, ht, hfr, hb2⟩
  have hpc := arr3_cells (show w2.heap[w.heap.size]? = _ by rw [hb2.block _ (by rw [HZ1.out]; omega)]; exact HPX.out)
  obtain ⟨W3, hW3⟩ : ∃ W3, W3 = w2.alloc (.cells tv.arr 75) := ⟨_, rfl⟩
  have hb3 : Below w2.heap.size w2 W3 := by rw [hW3]; exact below_alloc _ _
  have hlx : W3.heap[w2.heap.size]? = some (.cells tv.arr 75 (0, 0)) := by rw [hW3]; show (w2.heap.push _)[w2.heap.size]? = _; simp
  have CV := vote_Of_f W1.heap.size W3 tv (trioC D) W3 (ht.below hb3) (Below.refl _ _) hfr
  unfold RetQV at CV
  rw [HQ.out, HE.out, errV_zero] at CV
  have HT3 := Lib.hid (ht.below hb3)
  obtain ⟨⟨a0, av, a2⟩, ⟨b0, bv, b2⟩, ⟨d0, dv, d2⟩⟩ := tv
  obtain ⟨a3, a5, e, _, _⟩ := ht.1.2.2.parts
  dsimp only at e
  subst e
  obtain ⟨b3, b5, e, _, _⟩ := ht.2.1.2.2.parts
  dsimp only at e
  subst e
  obtain ⟨d3, d5, e, _, _⟩ := ht.2.2.2.2.parts
  dsimp only at e
  subst e
  generalize (trioC D).a.quilt.files.length = a4, (trioC D).b.quilt.files.length = b4, (trioC D).c.quilt.files.length = d4 at *
  simp only [TrioV.val, TrioV.arr] at CV hW3 hlx ⊢
  obtain ⟨x0, x1, x2, x3, x4, x5, x6, x7, x8, xf⟩ := arr_cells hlx
  have HCV := Lib.hid CV
  have HW3 := Lib.hid hW3
  have HB3 := Lib.hid (two hb2 hb3)
  have HLX := Lib.hid hlx
  have HZ3 : Hid (W3.heap.size = w2.heap.size + 1) := Lib.hid (by rw [hW3]; simp)
  have HZ2 : Hid (W1.heap.size ≤ w2.heap.size) := Lib.hid hb2.size
  obtain ⟨p0, p1, p2, pf⟩ := hpc
  clear CV hW3 hlx hb2 hb3 ht hfr
  go_wp2_with fail
  rw [← HW3.out]
  refine HCV.out.mono ?_
  rintro e w4 ⟨qv, rfl, ⟨v, rfl, hv, hvf⟩, hb4⟩
  obtain ⟨vo, vc, rfl, hvc1, hvc2⟩ := hv.parts
  obtain ⟨W6, hW6⟩ : ∃ W6, W6 = (w4.alloc (.cells #[.slice vo q.files.length vc, .int .i64 q.turn] 36)).alloc (.cells #[.pointer (some ⟨b 0, 0, none⟩), .pointer (some ⟨b 1, 0, none⟩), .pointer (some ⟨b 2, 0, none⟩), .pointer none, .pointer none, .pointer none, .slice vo q.files.length vc, .int .i64 q.turn] 63) := ⟨_, rfl⟩
  have hb6 : Below w4.heap.size w4 W6 := by rw [hW6]; exact two (below_alloc _ _) (below_alloc _ _)
  have CW := Lib.hid (vote_Wrong_f ⟨⟨a0, .slice a3 a4 a5, a2⟩, ⟨b0, .slice b3 b4 b5, b2⟩, ⟨d0, .slice d3 d4 d5, d2⟩⟩ (trioC D) (.agg #[.slice vo q.files.length vc, .int .i64 q.turn]) q W6 (HT3.out.below (two hb4 hb6)) ⟨_, rfl, hv.below (two hb4 hb6)⟩)
  have HW6 := Lib.hid hW6
  have HZ6 : Hid (W6.heap.size = w4.heap.size + 2) := Lib.hid (by rw [hW6]; simp)
  have HB6 := Lib.hid (two HB3.out (two hb4 hb6))
  have HB46 := Lib.hid (two hb4 hb6)
  have HQX : Hid (W6.heap[w4.heap.size]? = some (.cells #[.slice vo q.files.length vc, .int .i64 q.turn] 36 (0, 0))) := Lib.hid (by rw [hW6]; show ((w4.heap.push _).push _)[w4.heap.size]? = _; simp [Array.getElem?_push, Array.getElem_push])
  have HTX : Hid (W6.heap[w4.heap.size + 1]? = some (.cells #[.pointer (some ⟨b 0, 0, none⟩), .pointer (some ⟨b 1, 0, none⟩), .pointer (some ⟨b 2, 0, none⟩), .pointer none, .pointer none, .pointer none, .slice vo q.files.length vc, .int .i64 q.turn] 63 (0, 0))) := Lib.hid (by rw [hW6]; show ((w4.heap.push _).push _)[w4.heap.size + 1]? = _; simp [Array.getElem?_push, Array.getElem_push])
  have HV := Lib.hid (And.intro hv hvf)
  have HZ4 : Hid (W3.heap.size ≤ w4.heap.size) := Lib.hid hb4.size
  obtain ⟨W5, hW5⟩ : ∃ W5, W5 = w4.alloc (.cells #[.slice vo q.files.length vc, .int .i64 q.turn] 36) := ⟨_, rfl⟩
  have hb5 : Below w4.heap.size w4 W5 := by rw [hW5]; exact below_alloc _ _
  have hb56 : Below W5.heap.size W5 W6 := by rw [hW6, hW5]; exact below_alloc _ _
  obtain ⟨r0, r1, r2, rf⟩ := arr3_cells (show W5.heap[w.heap.size]? = _ by rw [(two HB3.out (two hb4 hb5)).block _ (by rw [HZ1.out]; omega)]; exact HPX.out)
  obtain ⟨z0, z1, z2, z3, z4, z5, z6, z7, z8, zf⟩ := arr_cells (show W6.heap[w2.heap.size]? = _ by rw [(two hb4 hb6).block _ (by rw [HZ3.out]; omega)]; exact HLX.out)
  have s0 : W5.cell? ⟨w4.heap.size, 0, none⟩ = some (.slice vo q.files.length vc) := by rw [hW5]; simp
  have s1 : W5.cell? ⟨w4.heap.size, 1, none⟩ = some (.int .i64 q.turn) := by rw [hW5]; simp
  have s2 := cell_on' hb56 s0
  have s3 := cell_on' hb56 s1
  have HW5 := Lib.hid hW5
  have HW65 : Hid (W6 = W5.alloc (.cells #[.pointer (some ⟨b 0, 0, none⟩), .pointer (some ⟨b 1, 0, none⟩), .pointer (some ⟨b 2, 0, none⟩), .pointer none, .pointer none, .pointer none, .slice vo q.files.length vc, .int .i64 q.turn] 63)) := Lib.hid (by rw [hW6, hW5])
  rw [hW5] at r0 r1 r2 s0 s1
  rw [hW6] at z0 z1 z2 z3 z4 z5 z6 z7 z8 s2 s3
  clear hW5 hb5 hb56
  clear hb4 hb6 hv hvf hW6 x0 x1 x2 x3 x4 x5 x6 x7 x8 xf p0 p1 p2 pf
  go_wp2_with fail
  rw [← HW6.out]
  refine CW.out.mono ?_
  rintro e w7 ⟨nv, rfl, hn, hb7, hnf⟩
  obtain ⟨no, nc, rfl, hnc1, hnc2⟩ := hn.parts
  have HN := Lib.hid (And.intro hn hnf)
  obtain ⟨ws, hws⟩ : ∃ ws, ws = wrongs (trioC D) q := ⟨_, rfl⟩
  rw [← hws] at HN ⊢
  have HWS := Lib.hid hws
  rw [← hws] at hnc1
  clear hws
  have HB7 := Lib.hid hb7
  have HB17 := Lib.hid (two HB6.out hb7)
  have hpre : PreT (fun _ => False) w0.heap.size b w7 (w4.heap.size + 1) L D (fun k => (L k).b) (fun k => (L k).b) (fun _ => .slice none 0 0) (fun _ => none) (.slice vo q.files.length vc) q := by
    have e1 := HZ1.out
    have e2 := HZ2.out
    have e3 := HZ3.out
    have e4 := HZ4.out
    have e6 := HZ6.out
    have ef : ∀ k, k < 3 → ∀ x, stF (L k) (L k).b (L k).b x → (L k).foot x := fun k hk x hx => by
      rcases hx with hx | hx | hx
      · exact hx
      · rw [hx]; exact Or.inl rfl
      · rw [hx]; exact Or.inl rfl
    have hw0 := HBW1.out.size
    refine ⟨?_, (HD1.out.below HB6.out).below hb7, fun k hk hp => hp.elim, fun k hk x hx => ?_, fun i j hi hj hij x hx hx' => HD1.out.ap i j hi hj hij x (ef i hi x hx) (ef j hj x hx'), fun i j hi hj hij a n c e => (by cases e), fun k hk a n c e => (by cases e), fun k hk hx => ?_, fun k hk a n c e => (by cases e), by omega, (HV.out.1.below HB46.out).below hb7, fun k hk => ?_, ?_, fun k hk a n c e => (by cases e), fresh_far HV.out.2 (fun x hx => by have h1 : x < w0.heap.size := hx; omega)⟩
    · rw [hb7.block _ (by omega)]; exact HTX.out
    · have h1 := HLT.out k hk x (ef k hk x hx)
      have h2 := hb7.size
      exact ⟨by omega, HD1.out.low k hk x (ef k hk x hx)⟩
    · have h1 := HLT.out k hk _ (ef k hk _ hx)
      omega
    · exact fresh_far HV.out.2 (fun x hx => by have h1 := HLT.out k hk x (ef k hk x hx); omega)
    · exact fun a n c e hn hx => rd_lt HV.out.1 (by decide) a n c e hn (by have h1 : a.block = w4.heap.size + 1 := hx; show W3.heap.size ≤ a.block; omega)
  have HPRE := Lib.hid hpre
  have HPA : Hid (∀ W, Below (w4.heap.size + 1) w7 W → W.heap[w.heap.size]? = some (.cells #[.pointer (some ⟨b 0, 0, none⟩), .pointer (some ⟨b 1, 0, none⟩), .pointer (some ⟨b 2, 0, none⟩)] 29 (0, 0)) ∧ W.heap[w4.heap.size]? = some (.cells #[.slice vo q.files.length vc, .int .i64 q.turn] 36 (0, 0))) := Lib.hid (fun W hW => by
    have e1 := HZ1.out
    have e2 := HZ2.out
    have e3 := HZ3.out
    have e4 := HZ4.out
    have e6 := HZ6.out
    exact ⟨by rw [hW.block _ (by omega), HB17.out.block _ (by omega)]; exact HPX.out, by rw [hW.block _ (by omega), HB7.out.block _ (by omega)]; exact HQX.out⟩)
  obtain ⟨r0, r1, r2, rf⟩ := arr3_cells (HPA.out w7 (Below.refl _ _)).1
  have HLK : Hid (Looks b L D W1) := Lib.hid (looks_f HD1.out HS.out (HG.out.below HBW1.out))
  clear hn hb7 hnf hpre z0 z1 z2 z3 z4 z5 z6 z7 z8 zf
  go_wp2_with fail
  go_loopw [32] (fun iv wr => ∃ (k : Nat) (lb sb : Nat → Nat) (rv : Nat → Value) (sp : Nat → Option Addr), k ≤ 3 ∧ iv = .int .i64 k ∧ PreT (fun i => i < k) w0.heap.size b wr (w4.heap.size + 1) L D lb sb rv sp (.slice vo q.files.length vc) q ∧ (∀ i, i < 3 → ∀ x, stF (L i) (lb i) (sb i) x → (L i).foot x ∨ w7.heap.size ≤ x) ∧ Off (fun x => x = w4.heap.size + 1) w7 wr) (fun iv _ => 3 - (intOf iv).toNat)
  case atStart =>
    refine ⟨0, _, _, _, _, by omega, rfl, HPRE.out.mono (fun k _ h => by omega), fun i hi x hx => ?_, Off.refl _ _⟩
    rcases hx with hx | hx | hx
    · exact Or.inl hx
    · exact Or.inl (by rw [hx]; exact Or.inl rfl)
    · exact Or.inl (by rw [hx]; exact Or.inl rfl)
  case round =>
    obtain ⟨k, lb, sb, rv, sp, hk, rfl, hpre, hclr, hof⟩ := hrel
    have hbw : Below (w4.heap.size + 1) w7 wr := hof.below _ (by have := HB7.out.size; have := HZ6.out; omega) (fun x hx => by rw [hx]; exact Nat.le_refl _)
    have HOF := Lib.hid hof
    have HPK := Lib.hid hpre
    have HCL := Lib.hid hclr
    have HBW := Lib.hid hbw
    have HBK : Hid (Below W1.heap.size W1 wr) := Lib.hid (HB17.out.trans (hbw.mono (by have := HZ2.out; have := HZ3.out; have := HZ4.out; omega)))
    clear hpre hclr hbw hof
    obtain rfl | rfl | rfl | rfl : k = 0 ∨ k = 1 ∨ k = 2 ∨ k = 3 := by omega
    · have CK := Lib.hid (HLK.out 0 (by decide) wr.drew HBK.out.drew)
      rw [show ((0 : Nat) : Int) = 0 from rfl]
      go_wp2_with fail
      go_region_with (first | (go_at_call 32; refine CK.out.mono ?_; rintro e w8 ⟨sq, cv, rfl, _, _, hl, hb8⟩; have HL8 := Lib.hid hl; have HB8 := Lib.hid hb8; obtain ⟨t0, t1, t2, t3, t4, t5, t6, t7, tf⟩ := ((HPK.out.below (Below.refl _ _).drew).below hb8).cell; clear hl hb8))
      all_goals
        obtain ⟨lb', sb', rv', hp', hg'⟩ := (HPK.out.below (Below.refl _ _).drew).looked (k := 0) (by decide) (by have h1 := HBW1.out.size; have h2 := HBK.out.size; show w0.heap.size ≤ wr.heap.size; omega) HB8.out HL8.out
        have HP' := Lib.hid hp'
        have HG' := Lib.hid hg'
        clear hp' hg' t0 t1 t2 t3 t4 t5 t6 t7 tf
        go_wp2_with fail
        go_roundw
        case rel =>
          refine ⟨1, lb', sb', rv', _, by omega, rfl, HP'.out.mono (fun i _ h => by omega), fun i hi x hx => ?_, (HOF.out.trans (off_below (two (Below.refl _ _).drew HB8.out) _) (fun _ _ h => h)).trans (off_setCell (F := fun x => x = w4.heap.size + 1) w8 ⟨w4.heap.size + 1, 3, none⟩ rfl _) (fun _ _ h => h)⟩
          rcases HG'.out i hi x hx with h1 | h1
          · exact HCL.out i hi x h1
          · exact Or.inr (by have := HBW.out.size; have h2 : wr.heap.size ≤ x := h1; omega)
        case measure => simp [intOf]
    · have CK := Lib.hid (HLK.out 1 (by decide) wr.drew HBK.out.drew)
      rw [show ((1 : Nat) : Int) = 1 from rfl]
      go_wp2_with fail
      go_region_with (first | (go_at_call 32; refine CK.out.mono ?_; rintro e w8 ⟨sq, cv, rfl, _, _, hl, hb8⟩; have HL8 := Lib.hid hl; have HB8 := Lib.hid hb8; obtain ⟨t0, t1, t2, t3, t4, t5, t6, t7, tf⟩ := ((HPK.out.below (Below.refl _ _).drew).below hb8).cell; clear hl hb8))
      all_goals
        obtain ⟨lb', sb', rv', hp', hg'⟩ := (HPK.out.below (Below.refl _ _).drew).looked (k := 1) (by decide) (by have h1 := HBW1.out.size; have h2 := HBK.out.size; show w0.heap.size ≤ wr.heap.size; omega) HB8.out HL8.out
        have HP' := Lib.hid hp'
        have HG' := Lib.hid hg'
        clear hp' hg' t0 t1 t2 t3 t4 t5 t6 t7 tf
        go_wp2_with fail
        go_roundw
        case rel =>
          refine ⟨2, lb', sb', rv', _, by omega, rfl, HP'.out.mono (fun i _ h => by omega), fun i hi x hx => ?_, (HOF.out.trans (off_below (two (Below.refl _ _).drew HB8.out) _) (fun _ _ h => h)).trans (off_setCell (F := fun x => x = w4.heap.size + 1) w8 ⟨w4.heap.size + 1, 4, none⟩ rfl _) (fun _ _ h => h)⟩
          rcases HG'.out i hi x hx with h1 | h1
          · exact HCL.out i hi x h1
          · exact Or.inr (by have := HBW.out.size; have h2 : wr.heap.size ≤ x := h1; omega)
        case measure => simp [intOf]
    · have CK := Lib.hid (HLK.out 2 (by decide) wr.drew HBK.out.drew)
      rw [show ((2 : Nat) : Int) = 2 from rfl]
      go_wp2_with fail
      go_region_with (first | (go_at_call 32; refine CK.out.mono ?_; rintro e w8 ⟨sq, cv, rfl, _, _, hl, hb8⟩; have HL8 := Lib.hid hl; have HB8 := Lib.hid hb8; obtain ⟨t0, t1, t2, t3, t4, t5, t6, t7, tf⟩ := ((HPK.out.below (Below.refl _ _).drew).below hb8).cell; clear hl hb8))
      all_goals
        obtain ⟨lb', sb', rv', hp', hg'⟩ := (HPK.out.below (Below.refl _ _).drew).looked (k := 2) (by decide) (by have h1 := HBW1.out.size; have h2 := HBK.out.size; show w0.heap.size ≤ wr.heap.size; omega) HB8.out HL8.out
        have HP' := Lib.hid hp'
        have HG' := Lib.hid hg'
        clear hp' hg' t0 t1 t2 t3 t4 t5 t6 t7 tf
        go_wp2_with fail
        go_roundw
        case rel =>
          refine ⟨3, lb', sb', rv', _, by omega, rfl, HP'.out.mono (fun i _ h => by omega), fun i hi x hx => ?_, (HOF.out.trans (off_below (two (Below.refl _ _).drew HB8.out) _) (fun _ _ h => h)).trans (off_setCell (F := fun x => x = w4.heap.size + 1) w8 ⟨w4.heap.size + 1, 5, none⟩ rfl _) (fun _ _ h => h)⟩
          rcases HG'.out i hi x hx with h1 | h1
          · exact HCL.out i hi x h1
          · exact Or.inr (by have := HBW.out.size; have h2 : wr.heap.size ≤ x := h1; omega)
        case measure => simp [intOf]
    · rw [show ((3 : Nat) : Int) = 3 from rfl]
      have HP3 : Hid (PreT (fun _ => True) w0.heap.size b wr (w4.heap.size + 1) L D lb sb rv sp (.slice vo q.files.length vc) q) := Lib.hid (HPK.out.mono (fun k hk _ => hk))
      have HNF : Hid (∀ i, i < 3 → RdF (stF (L i) (lb i) (sb i)) 1 intCells wr (.slice no ws.length nc) ws) := Lib.hid (fun i hi => by
        have hnr : Rd 1 intCells wr (.slice no ws.length nc) ws := (RdF.off (F := fun x => x = w4.heap.size + 1) (w' := wr) ⟨HN.out.1, fun a n c e hn hx => by
          have h1 := HN.out.2 a.block (by rw [e]; rfl)
          have h2 : a.block = w4.heap.size + 1 := hx
          have := HZ6.out
          omega⟩ HOF.out).rd
        refine ⟨hnr, fun a n c e hn hx => ?_⟩
        rcases HCL.out i hi _ hx with h1 | h1
        · have h2 := HLT.out i hi _ h1
          have h3 := HN.out.2 a.block (by rw [e]; rfl)
          have := HZ6.out
          have := HZ1.out
          have := HZ2.out
          have := HZ3.out
          have := HZ4.out
          omega
        · exact rd_lt HN.out.1 (by decide) a n c e hn h1)
      have HC1 : Hid (Clear L lb sb w.heap.size ∧ Clear L lb sb w4.heap.size) := Lib.hid (by
        have := HZ6.out
        have := HZ1.out
        have := HZ2.out
        have := HZ3.out
        have := HZ4.out
        have := HB7.out.size
        refine ⟨fun k hk hx => ?_, fun k hk hx => ?_⟩
        · rcases HCL.out k hk _ hx with h1 | h1
          · have h2 := HLT.out k hk _ h1; omega
          · omega
        · rcases HCL.out k hk _ hx with h1 | h1
          · have h2 := HLT.out k hk _ h1; omega
          · omega)
      have HPB := Lib.hid (HPA.out wr HBW.out)
      have HNT : Hid (far (fun x => x = w4.heap.size + 1) (.slice no ws.length nc)) := Lib.hid (fun a n c e hn hx => by
        have h1 := HN.out.2 a.block (by rw [e]; rfl)
        have h2 : a.block = w4.heap.size + 1 := hx
        have := HZ6.out
        omega)
      have HW41 : Hid (w.heap.size + 1 ≤ w4.heap.size) := Lib.hid (by
        have := HZ1.out
        have := HZ2.out
        have := HZ3.out
        have := HZ4.out
        omega)
      have HB0 : Hid (Below w0.heap.size w0 wr) := Lib.hid (two HBW1.out HBK.out)
      have HOW : Hid (Off (DF L) w wr) := Lib.hid (off_below (two HB1.out HBK.out) _)
      have HZW : Hid (w.heap.size ≤ w7.heap.size) := Lib.hid (by
        have := HZ1.out
        have := HB17.out.size
        omega)
      obtain ⟨wy, hwy⟩ : ∃ wy : World, wy = wr := ⟨_, rfl⟩
      subst hwy
      go_wp2_with fail
      have HEQ : Hid (ws = [(km : Int)]) := Lib.hid (HWS.out.trans HONE.out)
      have hl1 : (0 : Int) < (ws.length : Int) := by rw [HEQ.out]; simp
      have hl2 : ¬ (1 : Int) < (ws.length : Int) := by rw [HEQ.out]; simp
      go_loopw [49] (fun iv wx => (iv = .int .i64 0 ∧ wx = wy) ∨ (iv = .int .i64 1 ∧ MendR w0.heap.size b L D km w wx ∧ Below w0.heap.size w0 wx)) (fun iv _ => 1 - (intOf iv).toNat)
      case atStart => exact Or.inl ⟨rfl, rfl⟩
      case round =>
        rcases hrel with ⟨rfl, hww⟩ | ⟨rfl, hmd, hb0⟩
        · subst hww
          obtain ⟨nb, nf, rfl, hnb, x0⟩ := ints_cell (HNF.out 0 (by decide)).rd 0 (by rw [HEQ.out]; simp)
          have hkw : ws[0]'(by rw [HEQ.out]; simp) = (km : Int) := by simp [HEQ.out]
          rw [hkw, Nat.add_zero] at x0
          obtain ⟨r0, r1, r2, rf⟩ := arr3_cells HPB.out.1
          have s0 : wr.cell? ⟨w4.heap.size, 0, none⟩ = some (.slice vo q.files.length vc) := by simp [World.cell?, HPB.out.2]
          have s1 : wr.cell? ⟨w4.heap.size, 1, none⟩ = some (.int .i64 q.turn) := by simp [World.cell?, HPB.out.2]
          have r0' : wr.drew.cell? ⟨w.heap.size, 0, none⟩ = some (.pointer (some ⟨b 0, 0, none⟩)) := r0
          have r1' : wr.drew.cell? ⟨w.heap.size, 1, none⟩ = some (.pointer (some ⟨b 1, 0, none⟩)) := r1
          have r2' : wr.drew.cell? ⟨w.heap.size, 2, none⟩ = some (.pointer (some ⟨b 2, 0, none⟩)) := r2
          have s0' : wr.drew.cell? ⟨w4.heap.size, 0, none⟩ = some (.slice vo q.files.length vc) := s0
          have s1' : wr.drew.cell? ⟨w4.heap.size, 1, none⟩ = some (.int .i64 q.turn) := s1
          have hdr : Below wr.heap.size wr wr.drew := (Below.refl _ _).drew
          have CL := trio_lay_v w0 (L km) (D km) (.slice vo q.files.length vc) q wr.drew ((HP3.out.ds.d km HK.out).below hdr) HFM.out (HP3.out.ds.low km HK.out) HG.out (two HB0.out hdr) ⟨HP3.out.qv.below hdr, fun a n c e hn hx => HP3.out.qf km HK.out a n c e hn (Or.inl hx)⟩ HGD.out
          rw [HP3.out.ds.eq km HK.out] at CL
          have HCL2 := Lib.hid CL
          have hk3 := HK.out
          clear CL hkw hnb hdr
          obtain rfl | rfl | rfl : km = 0 ∨ km = 1 ∨ km = 2 := by omega
          · rw [show ((0 : Nat) : Int) = 0 from rfl] at x0
            clear hk3
            go_wp2_with fail
            go_region_with (first | (go_at_call 33; refine HCL2.out.mono ?_; rintro e w8 ⟨sq, er, L8, D8, rfl, her, hr⟩; have HER := Lib.hid her; have HR := Lib.hid hr; have hbt := (hr.off.block (w4.heap.size + 1) (by have := HP3.out.tlt; show w4.heap.size + 1 < wr.heap.size; omega) (fun hx => HP3.out.nt 0 (by decide) (Or.inl hx))).trans HP3.out.box; have t3 : w8.cell? ⟨w4.heap.size + 1, 3, none⟩ = some (.pointer (sp 0)) := (by simp [World.cell?, hbt]); have tf : ∀ o, w8.frozen? ⟨w4.heap.size + 1, o, none⟩ = false := (fun o => by simp [World.frozen?, hbt]); clear hr hbt her))
            all_goals
              have hbd : w0.heap.size ≤ wr.drew.heap.size := by have h1 := HB0.out.size; show w0.heap.size ≤ wr.heap.size; omega
              obtain ⟨hm1, hm2⟩ := mend_set (w0 := w) (HP3.out.below (Below.refl _ _).drew) (k := 0) (by decide) hbd HR.out (HOW.out.trans (off_drew (DF L) wr) (fun _ _ h => h)) (by have := HW41.out; omega) 3 (.pointer sq)
              have HM := Lib.hid hm1
              have HMB : Hid (Below w0.heap.size w0 _) := Lib.hid ((HB0.out.drew).trans hm2)
              clear hm1 hm2 hbd x0 r0 r1 r2 rf s0 s1 r0' r1' r2' s0' s1' t3 tf
              obtain rfl | ⟨m, rfl⟩ := HER.out
              · go_wp2_with fail
                go_roundw
                case rel => exact Or.inr ⟨by go_num, HM.out, HMB.out⟩
                case measure => simp [intOf]
              · go_wp2_with fail
                refine bodyPost_ret (v := .tuple #[.pointer none, .int .i64 0, .iface 100 (.int .i64 m)]) (by simp [results, Tryz.results15, go_sem]) rfl ?_
                exact ⟨none, 0, _, rfl, HM.out, HMB.out⟩
          · rw [show ((1 : Nat) : Int) = 1 from rfl] at x0
            clear hk3
            go_wp2_with fail
            go_region_with (first | (go_at_call 33; refine HCL2.out.mono ?_; rintro e w8 ⟨sq, er, L8, D8, rfl, her, hr⟩; have HER := Lib.hid her; have HR := Lib.hid hr; have hbt := (hr.off.block (w4.heap.size + 1) (by have := HP3.out.tlt; show w4.heap.size + 1 < wr.heap.size; omega) (fun hx => HP3.out.nt 1 (by decide) (Or.inl hx))).trans HP3.out.box; have t3 : w8.cell? ⟨w4.heap.size + 1, 4, none⟩ = some (.pointer (sp 1)) := (by simp [World.cell?, hbt]); have tf : ∀ o, w8.frozen? ⟨w4.heap.size + 1, o, none⟩ = false := (fun o => by simp [World.frozen?, hbt]); clear hr hbt her))
            all_goals
              have hbd : w0.heap.size ≤ wr.drew.heap.size := by have h1 := HB0.out.size; show w0.heap.size ≤ wr.heap.size; omega
              obtain ⟨hm1, hm2⟩ := mend_set (w0 := w) (HP3.out.below (Below.refl _ _).drew) (k := 1) (by decide) hbd HR.out (HOW.out.trans (off_drew (DF L) wr) (fun _ _ h => h)) (by have := HW41.out; omega) 4 (.pointer sq)
              have HM := Lib.hid hm1
              have HMB : Hid (Below w0.heap.size w0 _) := Lib.hid ((HB0.out.drew).trans hm2)
              clear hm1 hm2 hbd x0 r0 r1 r2 rf s0 s1 r0' r1' r2' s0' s1' t3 tf
              obtain rfl | ⟨m, rfl⟩ := HER.out
              · go_wp2_with fail
                go_roundw
                case rel => exact Or.inr ⟨by go_num, HM.out, HMB.out⟩
                case measure => simp [intOf]
              · go_wp2_with fail
                refine bodyPost_ret (v := .tuple #[.pointer none, .int .i64 0, .iface 100 (.int .i64 m)]) (by simp [results, Tryz.results15, go_sem]) rfl ?_
                exact ⟨none, 0, _, rfl, HM.out, HMB.out⟩
          · rw [show ((2 : Nat) : Int) = 2 from rfl] at x0
            clear hk3
            go_wp2_with fail
            go_region_with (first | (go_at_call 33; refine HCL2.out.mono ?_; rintro e w8 ⟨sq, er, L8, D8, rfl, her, hr⟩; have HER := Lib.hid her; have HR := Lib.hid hr; have hbt := (hr.off.block (w4.heap.size + 1) (by have := HP3.out.tlt; show w4.heap.size + 1 < wr.heap.size; omega) (fun hx => HP3.out.nt 2 (by decide) (Or.inl hx))).trans HP3.out.box; have t3 : w8.cell? ⟨w4.heap.size + 1, 5, none⟩ = some (.pointer (sp 2)) := (by simp [World.cell?, hbt]); have tf : ∀ o, w8.frozen? ⟨w4.heap.size + 1, o, none⟩ = false := (fun o => by simp [World.frozen?, hbt]); clear hr hbt her))
            all_goals
              have hbd : w0.heap.size ≤ wr.drew.heap.size := by have h1 := HB0.out.size; show w0.heap.size ≤ wr.heap.size; omega
              obtain ⟨hm1, hm2⟩ := mend_set (w0 := w) (HP3.out.below (Below.refl _ _).drew) (k := 2) (by decide) hbd HR.out (HOW.out.trans (off_drew (DF L) wr) (fun _ _ h => h)) (by have := HW41.out; omega) 5 (.pointer sq)
              have HM := Lib.hid hm1
              have HMB : Hid (Below w0.heap.size w0 _) := Lib.hid ((HB0.out.drew).trans hm2)
              clear hm1 hm2 hbd x0 r0 r1 r2 rf s0 s1 r0' r1' r2' s0' s1' t3 tf
              obtain rfl | ⟨m, rfl⟩ := HER.out
              · go_wp2_with fail
                go_roundw
                case rel => exact Or.inr ⟨by go_num, HM.out, HMB.out⟩
                case measure => simp [intOf]
              · go_wp2_with fail
                refine bodyPost_ret (v := .tuple #[.pointer none, .int .i64 0, .iface 100 (.int .i64 m)]) (by simp [results, Tryz.results15, go_sem]) rfl ?_
                exact ⟨none, 0, _, rfl, HM.out, HMB.out⟩
        · have HMD := Lib.hid (And.intro hmd hb0)
          clear hmd hb0
          go_wp2_with fail
          refine bodyPost_ret (v := .tuple #[.pointer (some ⟨w4.heap.size + 1, 0, none⟩), .int .i64 ws.length, .nilIface]) (by simp [results, Tryz.results15, go_sem]) rfl ?_
          exact ⟨⟨some ⟨w4.heap.size + 1, 0, none⟩, ws.length, .nilIface, rfl⟩, HMD.out.1, HMD.out.2⟩
end Go.Proofs.YtggpodlecljcbadGreatDoor
