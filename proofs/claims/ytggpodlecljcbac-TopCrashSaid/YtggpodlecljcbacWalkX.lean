/- The walks of chapter 7: row.Check, the document's ChangeFault. The walks of chapter 7: bytes of a change, and back. The walks of chapter 7: a change of bytes. -/
import Derived.Test.YtggpodlecljcbacSpecX2
import Derived.Laws.IdiomStrings
namespace Go.Proofs.Ytggpodlecljcbac
open Go.RowKit Go.Sort
set_option linter.unusedSimpArgs false
set_option linter.unusedVariables false
theorem cf_key {k v : ByteArray} {g : Bool} (h : k.toList = []) : changeFault ⟨k, v, g⟩ = 3 := by simp [changeFault, h]
theorem cf_gone {k v : ByteArray} (h : ¬ k.toList = []) (h2 : ¬ v.toList = []) : changeFault ⟨k, v, true⟩ = 3 := by simp [changeFault, h, h2]
theorem cf_long {k v : ByteArray} {g : Bool} (h : ¬ k.toList = []) (h2 : g = false ∨ v.toList = []) (h3 : 8 < k.size ∨ 16 < v.size) : changeFault ⟨k, v, g⟩ = 2 := by
  rcases h2 with rfl | h2 <;> simp [changeFault, h, h3, *]
theorem cf_good {k v : ByteArray} {g : Bool} (h : ¬ k.toList = []) (h2 : g = false ∨ v.toList = []) (h3 : ¬ (8 < k.size ∨ 16 < v.size)) : changeFault ⟨k, v, g⟩ = 0 := by
  rcases h2 with rfl | h2 <;> simp [changeFault, h, h3, *]
set_option maxHeartbeats 2000000 in
theorem row_Check (k v : ByteArray) (g : Bool) (w : World) (hk : k.size ≤ maxLen) (hv : v.size ≤ maxLen) :
    Calls Try.prog 49 #[.agg #[.string k, .string v, .bool g]] w fun e w' => e = .returned (errV (changeFault ⟨k, v, g⟩)) ∧ Below w.heap.size w w' := by
  unfold maxLen at hk hv
  have B1 := Lib.hid (below_alloc w (.cells #[.string k, .string v, .bool g] 75))
  by_cases hk0 : k.toList = []
  · have hF := Lib.hid (cf_key (v := v) (g := g) hk0)
    have he : k.toList.isEmpty = true := by rw [hk0]; rfl
    go_enter Try.func49, Try.ntmps49
    go_wp2_with fail
    go_ret
    exact ⟨by rw [hF.out]; rfl, B1.out⟩
  have he : k.toList.isEmpty = false := by cases hh : k.toList with | nil => exact absurd hh hk0 | cons a r => rfl
  by_cases hgv : g = true ∧ ¬ v.toList = []
  · obtain ⟨rfl, hv0⟩ := hgv
    have hF := Lib.hid (cf_gone hk0 hv0)
    have hve : v.toList.isEmpty = false := by cases hh : v.toList with | nil => exact absurd hh hv0 | cons a r => rfl
    go_enter Try.func49, Try.ntmps49
    go_wp2_with fail
    go_ret
    exact ⟨by rw [hF.out]; rfl, B1.out⟩
  have hgv2 : g = false ∨ v.toList = [] := by
    cases g
    · exact Or.inl rfl
    · exact Or.inr (Classical.byContradiction fun h => hgv ⟨rfl, h⟩)
  clear hgv
  have key : changeFault ⟨k, v, g⟩ = if 8 < k.size ∨ 16 < v.size then 2 else 0 := by
    by_cases h3 : 8 < k.size ∨ 16 < v.size
    · rw [if_pos h3]; exact cf_long hk0 hgv2 h3
    · rw [if_neg h3]; exact cf_good hk0 hgv2 h3
  have HK := Lib.hid key
  clear key
  rcases hgv2 with rfl | hv0
  rotate_left
  · have hve : v.toList.isEmpty = true := by rw [hv0]; rfl
    cases g
    all_goals
      by_cases h8 : 8 < k.size
      · have h8' : (8 : Int) < (k.size : Int) := by omega
        have hF := Lib.hid (HK.out.trans (if_pos (Or.inl h8)))
        clear h8
        go_enter Try.func49, Try.ntmps49
        go_wp2_with fail
        go_ret
        exact ⟨by rw [hF.out]; rfl, B1.out⟩
      · have h8' : ¬ (8 : Int) < (k.size : Int) := by omega
        by_cases h16 : 16 < v.size
        · have h16' : (16 : Int) < (v.size : Int) := by omega
          have hF := Lib.hid (HK.out.trans (if_pos (Or.inr h16)))
          clear h8 h16
          go_enter Try.func49, Try.ntmps49
          go_wp2_with fail
          go_ret
          exact ⟨by rw [hF.out]; rfl, B1.out⟩
        · have h16' : ¬ (16 : Int) < (v.size : Int) := by omega
          have hF := Lib.hid (HK.out.trans (if_neg (by omega)))
          clear h8 h16
          go_enter Try.func49, Try.ntmps49
          go_wp2_with fail
          go_ret
          exact ⟨by rw [hF.out]; rfl, B1.out⟩
  · by_cases h8 : 8 < k.size
    · have h8' : (8 : Int) < (k.size : Int) := by omega
      have hF := Lib.hid (HK.out.trans (if_pos (Or.inl h8)))
      clear h8
      go_enter Try.func49, Try.ntmps49
      go_wp2_with fail
      go_ret
      exact ⟨by rw [hF.out]; rfl, B1.out⟩
    · have h8' : ¬ (8 : Int) < (k.size : Int) := by omega
      by_cases h16 : 16 < v.size
      · have h16' : (16 : Int) < (v.size : Int) := by omega
        have hF := Lib.hid (HK.out.trans (if_pos (Or.inr h16)))
        clear h8 h16
        go_enter Try.func49, Try.ntmps49
        go_wp2_with fail
        go_ret
        exact ⟨by rw [hF.out]; rfl, B1.out⟩
      · have h16' : ¬ (16 : Int) < (v.size : Int) := by omega
        have hF := Lib.hid (HK.out.trans (if_neg (by omega)))
        clear h8 h16
        go_enter Try.func49, Try.ntmps49
        go_wp2_with fail
        go_ret
        exact ⟨by rw [hF.out]; rfl, B1.out⟩
end Go.Proofs.Ytggpodlecljcbac
namespace Go.Proofs.Ytggpodlecljcbac
open Go.RowKit Go.Sort
set_option linter.unusedSimpArgs false
set_option linter.unusedVariables false
theorem cf_sizes {c : Change} (h : changeFault c = 0) : c.key.size ≤ 8 ∧ c.val.size ≤ 16 := by
  unfold changeFault at h
  split at h
  · cases h
  · split at h
    · cases h
    · omega
theorem conv_gone0 (n : Nat) (hn : n ≤ 255) (w : World) : (convert 93 9 (.slice (some ⟨w.heap.size, 0, none⟩) 2 2)).run Try.prog (w.alloc (.cells #[.int .u8 0, .int .u8 (n : Int)] 5)) = .ok (.string ⟨#[0, n.toUInt8]⟩) (w.alloc (.cells #[.int .u8 0, .int .u8 (n : Int)] 5)) := by
  refine run_convert_bytes_back (P := Try.prog) (w.alloc (.cells #[.int .u8 0, .int .u8 (n : Int)] 5)) 93 9 5 ⟨w.heap.size, 0, none⟩ 2 [0, n.toUInt8] Try.underlying93 Try.underlying5 Try.underlying9 (fun j hj => ?_)
  rw [Addr.add_lit]
  match j, hj with
  | 0, _ => simp
  | 1, _ => simp; omega
theorem conv_gone1 (n : Nat) (hn : n ≤ 255) (w : World) : (convert 93 9 (.slice (some ⟨w.heap.size, 0, none⟩) 2 2)).run Try.prog (w.alloc (.cells #[.int .u8 1, .int .u8 (n : Int)] 5)) = .ok (.string ⟨#[1, n.toUInt8]⟩) (w.alloc (.cells #[.int .u8 1, .int .u8 (n : Int)] 5)) := by
  refine run_convert_bytes_back (P := Try.prog) (w.alloc (.cells #[.int .u8 1, .int .u8 (n : Int)] 5)) 93 9 5 ⟨w.heap.size, 0, none⟩ 2 [1, n.toUInt8] Try.underlying93 Try.underlying5 Try.underlying9 (fun j hj => ?_)
  rw [Addr.add_lit]
  match j, hj with
  | 0, _ => simp
  | 1, _ => simp; omega
set_option maxRecDepth 100000 in
set_option maxHeartbeats 2000000 in
theorem row_Bytes (c : Change) (w : World) (hk : c.key.size ≤ maxLen) (hv : c.val.size ≤ maxLen) :
    Calls Try.prog 111 #[.agg #[.string c.key, .string c.val, .bool c.gone]] w fun e w' => e = .returned (.tuple #[.string (changeBytes c).1, errV (changeBytes c).2]) ∧ Below w.heap.size w w' := by
  obtain ⟨k, v, g⟩ := c
  dsimp only at hk hv ⊢
  have C := Lib.hid fun W => row_Check k v g W hk hv
  unfold maxLen at hk hv
  obtain ⟨W1, hW1⟩ : ∃ W1, W1 = w.alloc (.cells #[.string k, .string v, .bool g] 75) := ⟨_, rfl⟩
  have B1 : Hid (Below w.heap.size w W1) := Lib.hid (by rw [hW1]; exact below_alloc w _)
  have CE : Hid (∀ W, Below W1.heap.size W1 W → W.cell? ⟨w.heap.size, 0, none⟩ = some (.string k) ∧ W.cell? ⟨w.heap.size, 1, none⟩ = some (.string v) ∧ W.cell? ⟨w.heap.size, 2, none⟩ = some (.bool g)) := Lib.hid fun W hb => ⟨cell_on' hb (by rw [hW1]; simp), cell_on' hb (by rw [hW1]; simp), cell_on' hb (by rw [hW1]; simp)⟩
  have HW1 := Lib.hid hW1
  clear hW1
  go_enter Try.func111, Try.ntmps111
  go_wp2_with fail
  rw [← HW1.out]
  refine (C.out _).mono ?_
  rintro e w2 ⟨rfl, hb2⟩
  have HB2 := Lib.hid hb2
  obtain ⟨c0, c1, c2⟩ := CE.out _ hb2
  clear hb2
  by_cases hf : changeFault ⟨k, v, g⟩ = 0
  rotate_left
  · have he : errV (changeFault ⟨k, v, g⟩) = .iface 70 (.int .i64 (changeFault ⟨k, v, g⟩)) := errV_pos hf
    have hcb : Hid (changeBytes ⟨k, v, g⟩ = (⟨#[]⟩, changeFault ⟨k, v, g⟩)) := Lib.hid (by unfold changeBytes; rw [if_pos hf])
    clear hf
    go_wp2_with fail
    refine bodyPost_ret (v := .tuple #[.string ⟨#[]⟩, errV (changeFault ⟨k, v, g⟩)]) (by simp [results, Try.results111, go_sem, he]) rfl ?_
    exact ⟨by rw [hcb.out], two B1.out HB2.out⟩
  have he : errV (changeFault ⟨k, v, g⟩) = .nilIface := by rw [hf]; rfl
  have HF := Lib.hid hf
  obtain ⟨hk8, hv16⟩ := cf_sizes hf
  dsimp only at hk8 hv16
  clear hf hk hv
  cases g
  · have hcv := conv_gone0 k.size (by omega) w2
    have hcb : Hid (changeBytes ⟨k, v, false⟩ = ((⟨#[0, k.size.toUInt8]⟩ : ByteArray) ++ k ++ v, 0)) := Lib.hid (by unfold changeBytes; rw [if_neg (by simp [HF.out])]; rfl)
    have HB3 := Lib.hid (two B1.out (two HB2.out (below_alloc w2 (.cells #[.int .u8 0, .int .u8 (k.size : Int)] 5))))
    obtain ⟨e0, e1, e2⟩ := CE.out _ (two HB2.out (below_alloc w2 (.cells #[.int .u8 0, .int .u8 (k.size : Int)] 5)))
    go_wp2_with fail
    refine bodyPost_ret (v := .tuple #[.string ((⟨#[0, k.size.toUInt8]⟩ : ByteArray) ++ k ++ v), .nilIface]) (by simp [results, Try.results111, go_sem, he]) rfl ?_
    exact ⟨by rw [hcb.out]; rfl, HB3.out⟩
  · have hcv := conv_gone1 k.size (by omega) w2
    have hcb : Hid (changeBytes ⟨k, v, true⟩ = ((⟨#[1, k.size.toUInt8]⟩ : ByteArray) ++ k ++ v, 0)) := Lib.hid (by unfold changeBytes; rw [if_neg (by simp [HF.out])]; rfl)
    have HB3 := Lib.hid (two B1.out (two HB2.out (below_alloc w2 (.cells #[.int .u8 1, .int .u8 (k.size : Int)] 5))))
    obtain ⟨e0, e1, e2⟩ := CE.out _ (two HB2.out (below_alloc w2 (.cells #[.int .u8 1, .int .u8 (k.size : Int)] 5)))
    go_wp2_with fail
    refine bodyPost_ret (v := .tuple #[.string ((⟨#[1, k.size.toUInt8]⟩ : ByteArray) ++ k ++ v), .nilIface]) (by simp [results, Try.results111, go_sem, he]) rfl ?_
    exact ⟨by rw [hcb.out]; rfl, HB3.out⟩
end Go.Proofs.Ytggpodlecljcbac
namespace Go.Proofs.Ytggpodlecljcbac
open Go.RowKit Go.Sort
set_option linter.unusedSimpArgs false
set_option linter.unusedVariables false
/-- A box of a change. -/
structure QXAt (w : World) (b : Nat) (c : Change) : Prop where
  c0 : w.cell? ⟨b, 0, none⟩ = some (.string c.key)
  c1 : w.cell? ⟨b, 1, none⟩ = some (.string c.val)
  c2 : w.cell? ⟨b, 2, none⟩ = some (.bool c.gone)
  f0 : w.frozen? ⟨b, 0, none⟩ = false
  f1 : w.frozen? ⟨b, 1, none⟩ = false
  f2 : w.frozen? ⟨b, 2, none⟩ = false
  lt : b < w.heap.size
theorem QXAt.new (w : World) (c : Change) : QXAt (w.alloc (.cells #[.string c.key, .string c.val, .bool c.gone] 75)) w.heap.size c := ⟨by simp, by simp, by simp, by simp, by simp, by simp, by simp⟩
theorem QXAt.below {w w' : World} {b : Nat} {c : Change} (h : QXAt w b c) (hb : Below w.heap.size w w') : QXAt w' b c := by
  obtain ⟨k, fr⟩ := bcell hb
  exact ⟨(k _ _ h.lt).trans h.c0, (k _ _ h.lt).trans h.c1, (k _ _ h.lt).trans h.c2, (fr _ _ h.lt).trans h.f0, (fr _ _ h.lt).trans h.f1, (fr _ _ h.lt).trans h.f2, Nat.lt_of_lt_of_le h.lt hb.size⟩
set_option maxRecDepth 100000 in
set_option maxHeartbeats 4000000 in
theorem row_Parse (s : ByteArray) (w : World) (hs : s.size ≤ 1000) :
    Calls Try.prog 78 #[.string s] w fun e w' => e = .returned (.tuple #[(changeOf s).1.val', errV (changeOf s).2]) ∧ Below w.heap.size w w' := by
  obtain ⟨W1, hW1⟩ : ∃ W1, W1 = w.alloc (.cells #[.string ⟨#[]⟩, .string ⟨#[]⟩, .bool false] 75) := ⟨_, rfl⟩
  have B1 : Hid (Below w.heap.size w W1) := Lib.hid (by rw [hW1]; exact below_alloc w _)
  have HW1 := Lib.hid hW1
  clear hW1
  have HQ : Hid (QXAt W1 w.heap.size zeroX) := Lib.hid (by rw [HW1.out]; exact QXAt.new w zeroX)
  have hend : ∀ (b : Nat) (n : Nat), True := fun _ _ => trivial
  by_cases h2 : s.size < 2
  · have HC : Hid (changeOf s = (zeroX, 4)) := Lib.hid (by unfold changeOf; rw [dif_pos h2])
    go_enter Try.func78, Try.ntmps78
    go_wp2_with fail
    have HBF := (((below_alloc w (.cells #[.string ⟨#[]⟩, .string ⟨#[]⟩, .bool false] 75)).setCell (p := ⟨w.heap.size, 0, none⟩) (Nat.le_refl _) (.string ⟨#[]⟩)).setCell (p := ⟨w.heap.size, 1, none⟩) (Nat.le_refl _) (.string ⟨#[]⟩)).setCell (p := ⟨w.heap.size, 2, none⟩) (Nat.le_refl _) (.bool false)
    refine bodyPost_ret (v := .tuple #[.agg #[.string ⟨#[]⟩, .string ⟨#[]⟩, .bool false], .iface 70 (.int .i64 4)]) (by simp [results, Try.results78, go_sem]) rfl ?_
    exact ⟨by rw [HC.out]; rfl, by first | exact HBF | exact below_alloc _ _⟩
  have h0 : 0 < s.size := by omega
  have h1 : 1 < s.size := by omega
  have hy : s[1].toNat ≤ 255 := by have := s[1].toNat_lt; omega
  have HC0 : Hid (changeOf s = changeFrom s s[0] s[1]) := Lib.hid (by unfold changeOf; rw [dif_neg h2])
  by_cases hg : 1 < s[0].toNat
  · have HC : Hid (changeOf s = (zeroX, 4)) := Lib.hid (by rw [HC0.out]; unfold changeFrom; rw [if_pos (Or.inl hg)])
    go_enter Try.func78, Try.ntmps78
    go_wp2_with fail
    have HBF := (((below_alloc w (.cells #[.string ⟨#[]⟩, .string ⟨#[]⟩, .bool false] 75)).setCell (p := ⟨w.heap.size, 0, none⟩) (Nat.le_refl _) (.string ⟨#[]⟩)).setCell (p := ⟨w.heap.size, 1, none⟩) (Nat.le_refl _) (.string ⟨#[]⟩)).setCell (p := ⟨w.heap.size, 2, none⟩) (Nat.le_refl _) (.bool false)
    refine bodyPost_ret (v := .tuple #[.agg #[.string ⟨#[]⟩, .string ⟨#[]⟩, .bool false], .iface 70 (.int .i64 4)]) (by simp [results, Try.results78, go_sem]) rfl ?_
    exact ⟨by rw [HC.out]; rfl, by first | exact HBF | exact below_alloc _ _⟩
  by_cases hn : s.size < 2 + s[1].toNat
  · have HC : Hid (changeOf s = (zeroX, 4)) := Lib.hid (by rw [HC0.out]; unfold changeFrom; rw [if_pos (Or.inr hn)])
    have hn' : (s.size : Int) < 2 + (s[1].toNat : Int) := by omega
    go_enter Try.func78, Try.ntmps78
    go_wp2_with fail
    have HBF := (((below_alloc w (.cells #[.string ⟨#[]⟩, .string ⟨#[]⟩, .bool false] 75)).setCell (p := ⟨w.heap.size, 0, none⟩) (Nat.le_refl _) (.string ⟨#[]⟩)).setCell (p := ⟨w.heap.size, 1, none⟩) (Nat.le_refl _) (.string ⟨#[]⟩)).setCell (p := ⟨w.heap.size, 2, none⟩) (Nat.le_refl _) (.bool false)
    refine bodyPost_ret (v := .tuple #[.agg #[.string ⟨#[]⟩, .string ⟨#[]⟩, .bool false], .iface 70 (.int .i64 4)]) (by simp [results, Try.results78, go_sem]) rfl ?_
    exact ⟨by rw [HC.out]; rfl, by first | exact HBF | exact below_alloc _ _⟩
  have HC : Hid (changeOf s = if changeFault (changeAt s s[0] s[1]) ≠ 0 then (zeroX, 4) else (changeAt s s[0] s[1], 0)) := Lib.hid (by rw [HC0.out]; unfold changeFrom; rw [if_neg (by omega)])
  have hn' : ¬ (s.size : Int) < 2 + (s[1].toNat : Int) := by omega
  clear HC0
  go_enter Try.func78, Try.ntmps78
  go_wp2_with fail
  go_region
  obtain ⟨k, hk⟩ : ∃ k, k = s.extract 2 (2 + s[1].toNat) := ⟨_, rfl⟩
  obtain ⟨v, hv⟩ : ∃ k, k = s.extract (2 + s[1].toNat) s.size := ⟨_, rfl⟩
  obtain ⟨g, hgn⟩ : ∃ k, k = ((s[0].toNat : Int) == 1) := ⟨_, rfl⟩
  have hcc : changeAt s s[0] s[1] = ⟨k, v, g⟩ := by rw [hk, hv, hgn]; rfl
  have hks : k.size ≤ maxLen := by rw [hk, ByteArray.size_extract]; unfold maxLen; omega
  have hvs : v.size ≤ maxLen := by rw [hv, ByteArray.size_extract]; unfold maxLen; omega
  rw [hcc] at HC
  rw [← hk, ← hv, ← hgn]
  obtain ⟨W2, hW2⟩ : ∃ W2, W2 = ((w.alloc (.cells #[.string ⟨#[]⟩, .string ⟨#[]⟩, .bool false] 75)).alloc (.cells #[.string k, .string v, .bool g] 75)).drew := ⟨_, rfl⟩
  have z1 : W1.heap.size = w.heap.size + 1 := by rw [HW1.out]; simp
  have X2 : QXAt W2 (w.heap.size + 1) ⟨k, v, g⟩ := by
    rw [hW2, ← HW1.out, ← z1]
    exact (QXAt.new W1 ⟨k, v, g⟩).below (Below.refl _ _).drew
  have B2 : Below W1.heap.size W1 W2 := by rw [hW2, ← HW1.out]; exact (below_alloc _ _).drew
  have HX2 := Lib.hid X2
  have HR2 := Lib.hid (HQ.out.below B2)
  have HB2 := Lib.hid (two B1.out B2)
  have CC := Lib.hid fun W => row_Check k v g W hks hvs
  have HW2 := Lib.hid hW2
  have q0 := HX2.out.c0
  have q1 := HX2.out.c1
  have q2 := HX2.out.c2
  dsimp only at q0 q1 q2
  rw [← HW2.out]
  clear hk hv hgn hcc hW2 X2 B2 z1 hks hvs hg hn hn' hy
  go_wp2_with fail
  refine (CC.out _).mono ?_
  rintro e w3 ⟨rfl, hb3⟩
  have HR3 := Lib.hid (HR2.out.below hb3)
  have HX3 := Lib.hid (HX2.out.below hb3)
  have HB3 := Lib.hid (two HB2.out hb3)
  clear hb3 q0 q1 q2
  have r0 := HR3.out.c0
  have r1 := HR3.out.c1
  have r2 := HR3.out.c2
  have r3 := HR3.out.f0
  have r4 := HR3.out.f1
  have r5 := HR3.out.f2
  by_cases hf : changeFault ⟨k, v, g⟩ = 0
  · have he : errV (changeFault ⟨k, v, g⟩) = .nilIface := by rw [hf]; rfl
    have HC2 : Hid (changeOf s = (⟨k, v, g⟩, 0)) := Lib.hid (by rw [HC.out, if_neg (by simp [hf])])
    have q0 := HX3.out.c0
    have q1 := HX3.out.c1
    have q2 := HX3.out.c2
    dsimp only at q0 q1 q2
    clear hf
    go_wp2_with fail
    have HBF := ((HB3.out.setCell (p := ⟨w.heap.size, 0, none⟩) (Nat.le_refl _) (.string k)).setCell (p := ⟨w.heap.size, 1, none⟩) (Nat.le_refl _) (.string v)).setCell (p := ⟨w.heap.size, 2, none⟩) (Nat.le_refl _) (.bool g)
    refine bodyPost_ret (v := .tuple #[.agg #[.string k, .string v, .bool g], .nilIface]) (by simp [results, Try.results78, go_sem, r0, r1, r2, r3, r4, r5]) rfl ?_
    exact ⟨by rw [HC2.out]; rfl, HBF⟩
  · have he : errV (changeFault ⟨k, v, g⟩) = .iface 70 (.int .i64 (changeFault ⟨k, v, g⟩)) := errV_pos hf
    have HC2 : Hid (changeOf s = (zeroX, 4)) := Lib.hid (by rw [HC.out, if_pos hf])
    clear hf
    go_wp2_with fail
    have HBF := ((HB3.out.setCell (p := ⟨w.heap.size, 0, none⟩) (Nat.le_refl _) (.string ⟨#[]⟩)).setCell (p := ⟨w.heap.size, 1, none⟩) (Nat.le_refl _) (.string ⟨#[]⟩)).setCell (p := ⟨w.heap.size, 2, none⟩) (Nat.le_refl _) (.bool false)
    refine bodyPost_ret (v := .tuple #[.agg #[.string ⟨#[]⟩, .string ⟨#[]⟩, .bool false], .iface 70 (.int .i64 4)]) (by simp [results, Try.results78, go_sem, r0, r1, r2, r3, r4, r5]) rfl ?_
    exact ⟨by rw [HC2.out]; rfl, HBF⟩
end Go.Proofs.Ytggpodlecljcbac
