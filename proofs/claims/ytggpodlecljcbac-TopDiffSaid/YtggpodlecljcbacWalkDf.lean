/- The walks of chapter 4: slices.Sort on names, diff.Of. -/
import Derived.Test.YtggpodlecljcbacSpecDf
import Derived.Test.YtggpodlecljcbacLawQ
import Derived.Test.YtggpodlecljcbacFoot
import Derived.Test.YtggpodlecljcbacShelfSort
import Derived.Lib.SortBridge
namespace Go.Proofs.Ytggpodlecljcbac
open Go.RowKit Go.Sort
set_option linter.unusedSimpArgs false
set_option linter.unusedVariables false
theorem I_textsD : ElemInfo Try.prog 42 9 1 16 := elemInfo_of (z := .string ⟨#[]⟩) Try.underlying42 (by kernel_rfl) rfl (by decide) (by decide)
theorem grow_os_below (w : World) (os : Array Obj) : Below w.heap.size w (grow w os) := below_regrown w w.drawn os
theorem texts_Sort_nil (w : World) : Calls Try.prog 37 #[.slice none 0 0] w fun e w' => e = .returned (.tuple #[]) ∧ w' = w := Try.slices_Sort_string_none none 0 w
theorem texts_Sort (base g cap : Nat) (l m : List ByteArray) (w : World) (ho : w.ownsRow base 9 1 (.slice (some ⟨g, 0, none⟩) l.length cap) l.length (l.map .string)) (hp : l.Perm m) (hm : UpL m) (hl : l.length ≤ 1000000) :
    Calls Try.prog 37 #[.slice (some ⟨g, 0, none⟩) l.length cap] w fun e w' => e = .returned (.tuple #[]) ∧ w'.ownsRow base 9 1 (.slice (some ⟨g, 0, none⟩) m.length cap) m.length (m.map .string) ∧ Below base w w' := by
  have hlt := ho.lt g rfl
  have hH : Holds encStr w g 0 (l.map bts_of).toArray := by
    intro j hj
    have hj' : j < l.length := by simpa using hj
    have hc := owns_cell ho j (by simpa using hj')
    refine ⟨?_, owns_frozen ho _⟩
    rw [Nat.zero_add, hc]
    simp [hj', encStr, bts_of_mk]
  have hlen : m.length = l.length := hp.length_eq.symm
  have C := Try.slices_Sort_string g 0 cap (l.map bts_of) w hH hlt.2 (by simp; omega)
  rw [List.length_map] at C
  refine C.mono ?_
  rintro e w' ⟨rfl, n, os, rfl⟩
  refine ⟨rfl, ?_⟩
  rw [sort_up hp hm, Go.Lib.sorted_world encStr w g 0 n (l.map bts_of).toArray (m.map bts_of) os hH (by simp [hlen])]
  have hmm : (m.map bts_of).map encStr = m.map .string := by
    rw [List.map_map]
    refine List.map_congr_left ?_
    intro s _
    show Value.string _ = _
    rw [bts_of_mk]
  rw [hmm]
  have h0 : (w.drewN n).ownsRow base 9 1 (.slice (some ⟨g, 0, none⟩) l.length cap) l.length (l.map .string) := ho
  have h1 := owns_sets h0 (m.map .string) (by simp [hlen])
  rw [hlen]
  have hb : Below ((w.drewN n).setCells g 0 (m.map .string)).heap.size ((w.drewN n).setCells g 0 (m.map .string)) (grow ((w.drewN n).setCells g 0 (m.map .string)) os) := grow_os_below _ os
  refine ⟨owns_of_block h1 (fun k hk => hb.block k (h1.lt k hk).2), ?_⟩
  have hbase : base ≤ g := hlt.1
  exact (below_cells hbase (m.map .string) 0 (w.drewN n) (B := base) (a := w) ⟨rfl, rfl, rfl, Nat.le_refl _, fun _ _ => rfl⟩).trans (hb.mono (by have := (h1.lt g rfl); omega))
theorem fileSame_is (f g : File) : fileSame f.name f.text f.times g.name g.text g.times = decide (f = g) := rfl
theorem raw1_len (a b : List File) : (raw1 a b).length ≤ a.length := by unfold raw1; rw [List.length_map]; exact List.length_filter_le _ _
theorem raw2_len (a b : List File) : (raw2 a b).length ≤ b.length := by unfold raw2; rw [List.length_map]; exact List.length_filter_le _ _
theorem raw1_next (a b : List File) (k : Nat) (h : k < a.length) : raw1 (a.take (k + 1)) b = if sameIn b a[k] = true then raw1 (a.take k) b else raw1 (a.take k) b ++ [a[k].name] := by
  unfold raw1
  rw [List.take_succ_eq_append_getElem h, List.filter_append, List.map_append]
  by_cases hs : sameIn b a[k] = true
  · rw [if_pos hs]; simp [hs]
  · rw [if_neg hs]; simp [hs]
theorem raw2_next (a b : List File) (k : Nat) (h : k < b.length) : raw2 a (b.take (k + 1)) = if (getAt a b[k].name).isNone = true then raw2 a (b.take k) ++ [b[k].name] else raw2 a (b.take k) := by
  unfold raw2
  rw [List.take_succ_eq_append_getElem h, List.filter_append, List.map_append]
  by_cases hs : (getAt a b[k].name).isNone = true
  · rw [if_pos hs]; simp [hs]
  · rw [if_neg hs]; simp [hs]
def strs' (l : List ByteArray) : List Value := l.map .string
theorem strs_snoc (l : List ByteArray) (s : ByteArray) : strs' l ++ [.string s] = strs' (l ++ [s]) := by simp [strs']
theorem texts_Sort' (base : Nat) (v : Value) (l m : List ByteArray) (w : World) (ho : w.ownsRow base 9 1 v l.length (strs' l)) (hp : l.Perm m) (hm : UpL m) (hl : l.length ≤ 1000000) (hb : base ≤ w.heap.size) :
    Calls Try.prog 37 #[v] w fun e w' => e = .returned (.tuple #[]) ∧ w'.ownsRow base 9 1 v m.length (strs' m) ∧ Below base w w' := by
  have hlen : m.length = l.length := hp.length_eq.symm
  rcases ho.2 with ⟨rfl, h0⟩ | ⟨g, cap, cur, rfl, _⟩
  · have hm0 : m = [] := List.eq_nil_of_length_eq_zero (by omega)
    refine (texts_Sort_nil w).mono ?_
    rintro e w' ⟨rfl, rfl⟩
    exact ⟨rfl, by rw [hm0]; exact World.ownsRow_nil _ _ _ _, Below.refl _ _⟩
  · refine (texts_Sort base g cap l m w ho hp hm hl).mono ?_
    rintro e w' ⟨rfl, h1, h2⟩
    exact ⟨rfl, hlen ▸ h1, h2⟩
theorem flat_strs : ∀ l : List ByteArray, l.flatMap strCells = strs' l
  | [] => rfl
  | x :: r => by rw [List.flatMap_cons, flat_strs r]; rfl
theorem SL_texts {w : World} {base : Nat} {v : Value} {l : List ByteArray} (h : w.ownsRow base 9 1 v l.length (strs' l)) : Texts w v l := by
  have h2 : l.flatMap strCells = strs' l := flat_strs l
  show SL w 1 v l.length (l.flatMap strCells)
  rw [h2]
  exact SL.of_own h
theorem one_text (s : ByteArray) : ∀ u ∈ [Value.string s], u.oneCell' = true := by intro u hu; simp at hu; subst hu; rfl
set_option maxRecDepth 100000 in
set_option maxHeartbeats 4000000 in
theorem diff_Of (va vb : Value) (a b : List File) (ta tb : Int) (w : World) (ha : Files w va a) (hb : Files w vb b) (hra : Rises a) (hrb : Rises b) (hla : a.length ≤ 8) (hlb : b.length ≤ 8) :
    Calls Try.prog 13 #[.agg #[va, .int .i64 ta], .agg #[vb, .int .i64 tb]] w fun e w' => ∃ v, e = .returned v ∧ Texts w' v (mergeD a b) ∧ Below w.heap.size w w' := by
  have CB := Lib.hid fun W hw n => shelf_Get vb b n W (Rd.below hb hw) hlb hrb
  have CA := Lib.hid fun W hw n => shelf_Get va a n W (Rd.below ha hw) hla hra
  obtain ⟨ao, ca, rfl, hca, hca'⟩ := ha.parts
  obtain ⟨bo, cb, rfl, hcb, hcb'⟩ := hb.parts
  obtain ⟨W1, hW1⟩ : ∃ W1, W1 = w.alloc (.cells #[.slice ao a.length ca, .int .i64 ta] 27) := ⟨_, rfl⟩
  have B1 : Below w.heap.size w W1 := by rw [hW1]; exact below_alloc _ _
  have Q1 : QAt W1 w.heap.size (.slice ao a.length ca) ta := by rw [hW1]; exact QAt.new w _ _ (fun s h => by cases h)
  have hz1 : W1.heap.size = w.heap.size + 1 := by rw [hW1]; simp
  obtain ⟨W2, hW2⟩ : ∃ W2, W2 = W1.alloc (.cells #[.slice bo b.length cb, .int .i64 tb] 27) := ⟨_, rfl⟩
  have B2 : Below W1.heap.size W1 W2 := by rw [hW2]; exact below_alloc _ _
  have Q2 : QAt W2 (w.heap.size + 1) (.slice bo b.length cb) tb := by rw [hW2, ← hz1]; exact QAt.new W1 _ _ (fun s h => by cases h)
  have HQ1 := Lib.hid (Q1.below B2)
  have HQ2 := Lib.hid Q2
  have HB := Lib.hid (two B1 B2)
  have HW1 := Lib.hid hW1
  have HW2 := Lib.hid hW2
  have HA := Lib.hid ha
  have HBF := Lib.hid hb
  have HRA := Lib.hid hra
  have HRB := Lib.hid hrb
  clear hW1 hW2 B1 B2 Q1 Q2 hz1 ha hb hra hrb
  go_enter Try.func13, Try.ntmps13
  have c0 := HQ1.out.c0
  go_wp2_with fail
  rw [← HW1.out, ← HW2.out]
  go_wp2_with fail
  clear c0
  go_loopw [5, 17] (fun v i wr => ∃ k : Nat, k ≤ a.length ∧ i = .int .i64 k ∧ wr.ownsRow W2.heap.size 9 1 v (raw1 (a.take k) b).length (strs' (raw1 (a.take k) b)) ∧ Below W2.heap.size W2 wr) (fun _ i _ => a.length - (intOf i).toNat)
  case atStart => exact ⟨0, Nat.zero_le _, rfl, World.ownsRow_nil _ _ _ _, Below.refl _ _⟩
  case round =>
    obtain ⟨k, hk, rfl, hown, hbw⟩ := hrel
    have HO := Lib.hid hown
    have HBW := Lib.hid hbw
    clear hown hbw
    by_cases hlt : k < a.length
    · obtain ⟨ba, oa, rfl, hlb, x0, x1, x2⟩ := Files.cell (HA.out.below HB.out) k hlt
      obtain ⟨kc, _⟩ := bcell HBW.out
      replace x0 := (kc _ _ hlb).trans x0
      replace x1 := (kc _ _ hlb).trans x1
      replace x2 := (kc _ _ hlb).trans x2
      clear kc hlb
      have HN := Lib.hid (raw1_next a b k hlt)
      obtain ⟨R, hR⟩ : ∃ R, R = raw1 (a.take k) b := ⟨_, rfl⟩
      have HRL : Hid (R.length ≤ 8) := Lib.hid (by rw [hR]; have h1 := raw1_len (a.take k) b; have h2 : (a.take k).length ≤ a.length := List.length_take_le' _ _; omega)
      rw [← hR] at HO HN
      clear hR
      obtain ⟨f, hf⟩ : ∃ f, f = a[k] := ⟨_, rfl⟩
      rw [← hf] at x0 x1 x2 HN
      have C := CB.out
      have HC := Lib.hid fun W hw => CB.out W hw f.name
      obtain ⟨o, ho⟩ : ∃ o, o = getAt b f.name := ⟨_, rfl⟩
      have HS : Hid (sameIn b f = decide (o = some f)) := Lib.hid (by rw [ho]; rfl)
      rw [← ho] at HC
      unfold RetFile fileOr File.val at HC
      have HBX := Lib.hid (two HB.out HBW.out)
      have BF := Lib.hid (box_new wr f)
      obtain ⟨W4, hW4⟩ : ∃ W4, W4 = wr.alloc (.cells #[.string f.name, .string f.text, .int .i64 f.times] 41) := ⟨_, rfl⟩
      have HB4 : Hid (Below wr.heap.size wr W4) := Lib.hid (by rw [hW4]; exact below_alloc _ _)
      rw [← hW4] at BF
      have HW4 := Lib.hid hW4
      obtain ⟨g, hg⟩ : ∃ g, g = o.getD noFile := ⟨_, rfl⟩
      rw [← hg] at HC
      clear C hf ho hW4
      cases hso : o.isSome
      · rw [hso] at HC
        have HNX : Hid (raw1 (a.take (k + 1)) b = R ++ [f.name]) := Lib.hid (by
          rw [HN.out, if_neg]
          rw [HS.out]
          cases o with
          | none => simp
          | some x => simp at hso)
        clear hg
        clear hso
        have q0 := (HQ2.out.below (two HBW.out HB4.out)).c0
        rw [HW4.out] at q0
        go_wp2_with fail
        rw [← HW4.out]
        rw [← HW4.out] at q0
        refine (HC.out W4 (two HBX.out HB4.out)).mono ?_
        rintro e w5 ⟨rfl, hb5⟩
        obtain ⟨W6, hW6⟩ : ∃ W6, W6 = w5.alloc (.cells #[.string g.name, .string g.text, .int .i64 g.times] 41) := ⟨_, rfl⟩
        have HB6 : Hid (Below wr.heap.size wr W6) := Lib.hid (by rw [hW6]; exact two HB4.out (two hb5 (below_alloc _ _)))
        have HG6 : Hid (W6.cell? ⟨w5.heap.size, 0, none⟩ = some (.string g.name) ∧ W6.cell? ⟨w5.heap.size, 1, none⟩ = some (.string g.text) ∧ W6.cell? ⟨w5.heap.size, 2, none⟩ = some (.int .i64 g.times)) := Lib.hid (by rw [hW6]; simp)
        have HF6 : Hid (W6.cell? ⟨wr.heap.size, 0, none⟩ = some (.string f.name) ∧ W6.cell? ⟨wr.heap.size, 1, none⟩ = some (.string f.text) ∧ W6.cell? ⟨wr.heap.size, 2, none⟩ = some (.int .i64 f.times)) := Lib.hid (BF.out _ (by rw [hW6]; exact two hb5 (below_alloc _ _)))
        have HW6 := Lib.hid hW6
        clear hb5 q0 hW6
        obtain ⟨z0, z1, z2⟩ := HF6.out
        obtain ⟨g0, g1, g2⟩ := HG6.out
        rw [HW6.out] at z0 z1 z2 g0 g1 g2
        have HO6 := Lib.hid (HO.out.kept (⟨HB6.out.os, HB6.out.tape, HB6.out.output, HB6.out.size, fun j hj _ => HB6.out.block j hj⟩ : World.grownBy _ _ none) (by cases h : Value.ownBlock _ <;> simp))
        go_upto_region 7 with (fail)
        rw [← HW6.out] at z0 z1 z2 g0 g1 g2 ⊢
        go_wp2_with (at_builtin; refine wpList_app I_textsD rfl _ _ rfl W2.heap.size _ _ _ rfl (HO6.out.alloc _) ⟨W6.heap.size, 0, none⟩ 1 1 [.string f.name] rfl rfl ?c1 ?c2 ?c3 ?c4 ?_)
        case c1 => exact one_new
        case c2 => exact one_text _
        case c3 => have := HRL.out; omega
        case c4 => have := (two HBW.out HB6.out).size; simp; omega
        intro v7 w7 hown7 hg7
        have HW7 := Lib.hid (grown_below ((two HBW.out HB6.out).trans ((below_alloc W6 (.cells #[.string f.name] 9)).mono (two HBW.out HB6.out).size)) (HO6.out.alloc _) hg7 (Nat.le_refl _))
        have HO7 : Hid (w7.ownsRow W2.heap.size 9 1 v7 (R ++ [f.name]).length (strs' (R ++ [f.name]))) := Lib.hid (by rw [← strs_snoc, List.length_append]; exact hown7)
        clear hown7 hg7
        go_wp2_with fail
        go_roundw
        case rel => exact ⟨k + 1, by omega, by go_num, by rw [HNX.out]; exact HO7.out, HW7.out⟩
        case measure => simp [intOf]; omega
      · rw [hso] at HC
        have hog : o = some g := by
          cases o with
          | none => simp at hso
          | some x => simp at hg; rw [hg]
        by_cases hfg : f = g
        · have HNX : Hid (raw1 (a.take (k + 1)) b = R) := Lib.hid (by
            rw [HN.out, if_pos]
            rw [HS.out, hog, hfg]
            simp)
          have hsame : fileSame f.name f.text f.times g.name g.text g.times = true := by rw [fileSame_is, decide_eq_true_eq]; exact hfg
          clear hog hg hfg
          clear hso
          have q0 := (HQ2.out.below (two HBW.out HB4.out)).c0
          rw [HW4.out] at q0
          go_wp2_with fail
          rw [← HW4.out]
          rw [← HW4.out] at q0
          refine (HC.out W4 (two HBX.out HB4.out)).mono ?_
          rintro e w5 ⟨rfl, hb5⟩
          obtain ⟨W6, hW6⟩ : ∃ W6, W6 = w5.alloc (.cells #[.string g.name, .string g.text, .int .i64 g.times] 41) := ⟨_, rfl⟩
          have HB6 : Hid (Below wr.heap.size wr W6) := Lib.hid (by rw [hW6]; exact two HB4.out (two hb5 (below_alloc _ _)))
          have HG6 : Hid (W6.cell? ⟨w5.heap.size, 0, none⟩ = some (.string g.name) ∧ W6.cell? ⟨w5.heap.size, 1, none⟩ = some (.string g.text) ∧ W6.cell? ⟨w5.heap.size, 2, none⟩ = some (.int .i64 g.times)) := Lib.hid (by rw [hW6]; simp)
          have HF6 : Hid (W6.cell? ⟨wr.heap.size, 0, none⟩ = some (.string f.name) ∧ W6.cell? ⟨wr.heap.size, 1, none⟩ = some (.string f.text) ∧ W6.cell? ⟨wr.heap.size, 2, none⟩ = some (.int .i64 f.times)) := Lib.hid (BF.out _ (by rw [hW6]; exact two hb5 (below_alloc _ _)))
          have HW6 := Lib.hid hW6
          clear hb5 q0 hW6
          obtain ⟨z0, z1, z2⟩ := HF6.out
          obtain ⟨g0, g1, g2⟩ := HG6.out
          rw [HW6.out] at z0 z1 z2 g0 g1 g2
          have HO6 := Lib.hid (HO.out.kept (⟨HB6.out.os, HB6.out.tape, HB6.out.output, HB6.out.size, fun j hj _ => HB6.out.block j hj⟩ : World.grownBy _ _ none) (by cases h : Value.ownBlock _ <;> simp))
          go_wp2_with fail
          rw [← HW6.out]
          go_wp2_with fail
          go_roundw
          case rel => exact ⟨k + 1, by omega, by go_num, by rw [HNX.out]; exact HO6.out, two HBW.out HB6.out⟩
          case measure => simp [intOf]; omega
        · have HNX : Hid (raw1 (a.take (k + 1)) b = R ++ [f.name]) := Lib.hid (by
            rw [HN.out, if_neg]
            rw [HS.out, hog]
            simp
            exact fun h => hfg h.symm)
          have hsame : fileSame f.name f.text f.times g.name g.text g.times = false := by rw [fileSame_is, decide_eq_false_iff_not]; exact hfg
          clear hog hg hfg
          clear hso
          have q0 := (HQ2.out.below (two HBW.out HB4.out)).c0
          rw [HW4.out] at q0
          go_wp2_with fail
          rw [← HW4.out]
          rw [← HW4.out] at q0
          refine (HC.out W4 (two HBX.out HB4.out)).mono ?_
          rintro e w5 ⟨rfl, hb5⟩
          obtain ⟨W6, hW6⟩ : ∃ W6, W6 = w5.alloc (.cells #[.string g.name, .string g.text, .int .i64 g.times] 41) := ⟨_, rfl⟩
          have HB6 : Hid (Below wr.heap.size wr W6) := Lib.hid (by rw [hW6]; exact two HB4.out (two hb5 (below_alloc _ _)))
          have HG6 : Hid (W6.cell? ⟨w5.heap.size, 0, none⟩ = some (.string g.name) ∧ W6.cell? ⟨w5.heap.size, 1, none⟩ = some (.string g.text) ∧ W6.cell? ⟨w5.heap.size, 2, none⟩ = some (.int .i64 g.times)) := Lib.hid (by rw [hW6]; simp)
          have HF6 : Hid (W6.cell? ⟨wr.heap.size, 0, none⟩ = some (.string f.name) ∧ W6.cell? ⟨wr.heap.size, 1, none⟩ = some (.string f.text) ∧ W6.cell? ⟨wr.heap.size, 2, none⟩ = some (.int .i64 f.times)) := Lib.hid (BF.out _ (by rw [hW6]; exact two hb5 (below_alloc _ _)))
          have HW6 := Lib.hid hW6
          clear hb5 q0 hW6
          obtain ⟨z0, z1, z2⟩ := HF6.out
          obtain ⟨g0, g1, g2⟩ := HG6.out
          rw [HW6.out] at z0 z1 z2 g0 g1 g2
          have HO6 := Lib.hid (HO.out.kept (⟨HB6.out.os, HB6.out.tape, HB6.out.output, HB6.out.size, fun j hj _ => HB6.out.block j hj⟩ : World.grownBy _ _ none) (by cases h : Value.ownBlock _ <;> simp))
          go_upto_region 7 with (fail)
          rw [← HW6.out] at z0 z1 z2 g0 g1 g2 ⊢
          go_wp2_with (at_builtin; refine wpList_app I_textsD rfl _ _ rfl W2.heap.size _ _ _ rfl (HO6.out.alloc _) ⟨W6.heap.size, 0, none⟩ 1 1 [.string f.name] rfl rfl ?c1 ?c2 ?c3 ?c4 ?_)
          case c1 => exact one_new
          case c2 => exact one_text _
          case c3 => have := HRL.out; omega
          case c4 => have := (two HBW.out HB6.out).size; simp; omega
          intro v7 w7 hown7 hg7
          have HW7 := Lib.hid (grown_below ((two HBW.out HB6.out).trans ((below_alloc W6 (.cells #[.string f.name] 9)).mono (two HBW.out HB6.out).size)) (HO6.out.alloc _) hg7 (Nat.le_refl _))
          have HO7 : Hid (w7.ownsRow W2.heap.size 9 1 v7 (R ++ [f.name]).length (strs' (R ++ [f.name]))) := Lib.hid (by rw [← strs_snoc, List.length_append]; exact hown7)
          clear hown7 hg7
          go_wp2_with fail
          go_roundw
          case rel => exact ⟨k + 1, by omega, by go_num, by rw [HNX.out]; exact HO7.out, HW7.out⟩
          case measure => simp [intOf]; omega
    · have hka : k = a.length := by omega
      subst hka
      rw [List.take_length] at HO
      have q0 := (HQ2.out.below HBW.out).c0
      go_wp2_with fail
      clear q0
      have HO1 := HO
      have HBW1 := HBW
      have HL1 := Lib.hid (raw1_len a b)
      obtain ⟨R1, hR1⟩ : ∃ R, R = raw1 a b := ⟨_, rfl⟩
      rw [← hR1] at HO1 HL1
      have HR1 := Lib.hid hR1
      clear HO HBW hR1
      go_loopw [5, 45] (fun v i wr => ∃ k : Nat, k ≤ b.length ∧ i = .int .i64 k ∧ wr.ownsRow W2.heap.size 9 1 v (R1 ++ raw2 a (b.take k)).length (strs' (R1 ++ raw2 a (b.take k))) ∧ Below W2.heap.size W2 wr) (fun _ i _ => b.length - (intOf i).toNat)
      case atStart => exact ⟨0, Nat.zero_le _, rfl, by simpa [raw2] using HO1.out, HBW1.out⟩
      case round =>
        obtain ⟨k, hk, rfl, hown, hbw⟩ := hrel
        have HO := Lib.hid hown
        have HBW := Lib.hid hbw
        clear hown hbw HO1 HBW1
        by_cases hlt : k < b.length
        · obtain ⟨bb, ob, rfl, hlb, x0, x1, x2⟩ := Files.cell (HBF.out.below HB.out) k hlt
          obtain ⟨kc, _⟩ := bcell HBW.out
          replace x0 := (kc _ _ hlb).trans x0
          replace x1 := (kc _ _ hlb).trans x1
          replace x2 := (kc _ _ hlb).trans x2
          clear kc hlb
          have HN := Lib.hid (raw2_next a b k hlt)
          obtain ⟨R2, hR2⟩ : ∃ R, R = raw2 a (b.take k) := ⟨_, rfl⟩
          have HRL : Hid ((R1 ++ R2).length ≤ 16) := Lib.hid (by rw [hR2, List.length_append]; have h0 := HL1.out; have h1 := raw2_len a (b.take k); have h2 : (b.take k).length ≤ b.length := List.length_take_le' _ _; omega)
          rw [← hR2] at HO HN
          clear hR2
          obtain ⟨R, hR⟩ : ∃ R, R = R1 ++ R2 := ⟨_, rfl⟩
          rw [← hR] at HO HRL
          obtain ⟨f, hf⟩ : ∃ f, f = b[k] := ⟨_, rfl⟩
          rw [← hf] at x0 x1 x2 HN
          have HC := Lib.hid fun W hw => CA.out W hw f.name
          obtain ⟨o, ho⟩ : ∃ o, o = getAt a f.name := ⟨_, rfl⟩
          rw [← ho] at HC HN
          unfold RetFile fileOr File.val at HC
          have HBX := Lib.hid (two HB.out HBW.out)
          have BF := Lib.hid (box_new wr f)
          obtain ⟨W4, hW4⟩ : ∃ W4, W4 = wr.alloc (.cells #[.string f.name, .string f.text, .int .i64 f.times] 41) := ⟨_, rfl⟩
          have HB4 : Hid (Below wr.heap.size wr W4) := Lib.hid (by rw [hW4]; exact below_alloc _ _)
          rw [← hW4] at BF
          have HW4 := Lib.hid hW4
          obtain ⟨g, hg⟩ : ∃ g, g = o.getD noFile := ⟨_, rfl⟩
          rw [← hg] at HC
          clear hf ho hW4 hg
          cases hso : o.isSome
          · rw [hso] at HC
            have HNX : Hid (R1 ++ raw2 a (b.take (k + 1)) = R ++ [f.name]) := Lib.hid (by
              rw [HN.out, if_pos (by cases o with | none => rfl | some x => simp at hso), hR, List.append_assoc])
            clear hR
            clear hso
            have q0 := (HQ1.out.below (two HBW.out HB4.out)).c0
            rw [HW4.out] at q0
            go_wp2_with fail
            rw [← HW4.out]
            rw [← HW4.out] at q0
            refine (HC.out W4 (two HBX.out HB4.out)).mono ?_
            rintro e w5 ⟨rfl, hb5⟩
            obtain ⟨W6, hW6⟩ : ∃ W6, W6 = w5.alloc (.cells #[.string g.name, .string g.text, .int .i64 g.times] 41) := ⟨_, rfl⟩
            have HB6 : Hid (Below wr.heap.size wr W6) := Lib.hid (by rw [hW6]; exact two HB4.out (two hb5 (below_alloc _ _)))
            have HG6 : Hid (W6.cell? ⟨w5.heap.size, 0, none⟩ = some (.string g.name) ∧ W6.cell? ⟨w5.heap.size, 1, none⟩ = some (.string g.text) ∧ W6.cell? ⟨w5.heap.size, 2, none⟩ = some (.int .i64 g.times)) := Lib.hid (by rw [hW6]; simp)
            have HF6 : Hid (W6.cell? ⟨wr.heap.size, 0, none⟩ = some (.string f.name) ∧ W6.cell? ⟨wr.heap.size, 1, none⟩ = some (.string f.text) ∧ W6.cell? ⟨wr.heap.size, 2, none⟩ = some (.int .i64 f.times)) := Lib.hid (BF.out _ (by rw [hW6]; exact two hb5 (below_alloc _ _)))
            have HW6 := Lib.hid hW6
            clear hb5 q0 hW6
            obtain ⟨z0, z1, z2⟩ := HF6.out
            obtain ⟨g0, g1, g2⟩ := HG6.out
            rw [HW6.out] at z0 z1 z2 g0 g1 g2
            have HO6 := Lib.hid (HO.out.kept (⟨HB6.out.os, HB6.out.tape, HB6.out.output, HB6.out.size, fun j hj _ => HB6.out.block j hj⟩ : World.grownBy _ _ none) (by cases h : Value.ownBlock _ <;> simp))
            go_upto_region 14 with (fail)
            rw [← HW6.out] at z0 z1 z2 g0 g1 g2 ⊢
            go_wp2_with (at_builtin; refine wpList_app I_textsD rfl _ _ rfl W2.heap.size _ _ _ rfl (HO6.out.alloc _) ⟨W6.heap.size, 0, none⟩ 1 1 [.string f.name] rfl rfl ?c1 ?c2 ?c3 ?c4 ?_)
            case c1 => exact one_new
            case c2 => exact one_text _
            case c3 => have := HRL.out; omega
            case c4 => have := (two HBW.out HB6.out).size; simp; omega
            intro v7 w7 hown7 hg7
            have HW7 := Lib.hid (grown_below ((two HBW.out HB6.out).trans ((below_alloc W6 (.cells #[.string f.name] 9)).mono (two HBW.out HB6.out).size)) (HO6.out.alloc _) hg7 (Nat.le_refl _))
            have HO7 : Hid (w7.ownsRow W2.heap.size 9 1 v7 (R ++ [f.name]).length (strs' (R ++ [f.name]))) := Lib.hid (by rw [← strs_snoc, List.length_append]; exact hown7)
            clear hown7 hg7
            go_wp2_with fail
            go_roundw
            case rel => exact ⟨k + 1, by omega, by go_num, by rw [HNX.out]; exact HO7.out, HW7.out⟩
            case measure => simp [intOf]; omega
          · rw [hso] at HC
            have HNX : Hid (R1 ++ raw2 a (b.take (k + 1)) = R) := Lib.hid (by
              rw [HN.out, if_neg (by cases o with | none => simp at hso | some x => simp), hR])
            clear hR
            clear hso
            have q0 := (HQ1.out.below (two HBW.out HB4.out)).c0
            rw [HW4.out] at q0
            go_wp2_with fail
            rw [← HW4.out]
            rw [← HW4.out] at q0
            refine (HC.out W4 (two HBX.out HB4.out)).mono ?_
            rintro e w5 ⟨rfl, hb5⟩
            obtain ⟨W6, hW6⟩ : ∃ W6, W6 = w5.alloc (.cells #[.string g.name, .string g.text, .int .i64 g.times] 41) := ⟨_, rfl⟩
            have HB6 : Hid (Below wr.heap.size wr W6) := Lib.hid (by rw [hW6]; exact two HB4.out (two hb5 (below_alloc _ _)))
            have HG6 : Hid (W6.cell? ⟨w5.heap.size, 0, none⟩ = some (.string g.name) ∧ W6.cell? ⟨w5.heap.size, 1, none⟩ = some (.string g.text) ∧ W6.cell? ⟨w5.heap.size, 2, none⟩ = some (.int .i64 g.times)) := Lib.hid (by rw [hW6]; simp)
            have HF6 : Hid (W6.cell? ⟨wr.heap.size, 0, none⟩ = some (.string f.name) ∧ W6.cell? ⟨wr.heap.size, 1, none⟩ = some (.string f.text) ∧ W6.cell? ⟨wr.heap.size, 2, none⟩ = some (.int .i64 f.times)) := Lib.hid (BF.out _ (by rw [hW6]; exact two hb5 (below_alloc _ _)))
            have HW6 := Lib.hid hW6
            clear hb5 q0 hW6
            obtain ⟨z0, z1, z2⟩ := HF6.out
            obtain ⟨g0, g1, g2⟩ := HG6.out
            rw [HW6.out] at z0 z1 z2 g0 g1 g2
            have HO6 := Lib.hid (HO.out.kept (⟨HB6.out.os, HB6.out.tape, HB6.out.output, HB6.out.size, fun j hj _ => HB6.out.block j hj⟩ : World.grownBy _ _ none) (by cases h : Value.ownBlock _ <;> simp))
            go_wp2_with fail
            rw [← HW6.out]
            go_wp2_with fail
            go_roundw
            case rel => exact ⟨k + 1, by omega, by go_num, by rw [HNX.out]; exact HO6.out, two HBW.out HB6.out⟩
            case measure => simp [intOf]; omega
        · have hkb : k = b.length := by omega
          subst hkb
          rw [List.take_length] at HO
          have HP : Hid ((R1 ++ raw2 a b).Perm (mergeD a b)) := Lib.hid (by rw [HR1.out]; exact merge_perm HRA.out HRB.out)
          have CS := texts_Sort' W2.heap.size _ _ (mergeD a b) wr HO.out HP.out (up_mergeD a b HRA.out HRB.out) (by rw [List.length_append]; have h0 := HL1.out; have h1 := raw2_len a b; omega) HBW.out.size
          replace CS := Lib.hid CS
          go_wp2_with fail
          refine CS.out.mono ?_
          rintro e w8 ⟨rfl, ho8, hb8⟩
          have HO8 := Lib.hid ho8
          have HB8 := Lib.hid (HBW.out.trans hb8)
          clear ho8 hb8
          go_wp2_with fail
          go_ret
          exact ⟨_, rfl, SL_texts HO8.out, two HB.out HB8.out⟩
end Go.Proofs.Ytggpodlecljcbac
