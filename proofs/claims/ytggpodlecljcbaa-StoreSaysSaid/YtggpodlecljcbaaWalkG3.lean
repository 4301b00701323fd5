/- The walks of chapter 2: slices.Clone of files. The walks of chapter 2: putting a file, the reference's way. Plain: dropping and putting, at the place of a name. The walks of chapter 2: slices.Clone on files. -/
import Derived.Test.YtggpodlecljcbaaWalkG
import Derived.Test.YtggpodlecljcbaaBase2
import Derived.Test.YtggpodlecljcbaaShelfClone
namespace Go.Proofs.Ytggpodlecljcbaa
set_option linter.unusedSimpArgs false
set_option linter.unusedVariables false
open Go.RowKit Go.Sort

theorem I_files : ElemInfo Try.prog 32 23 3 40 := elemInfo_of (z := .agg #[.string ⟨#[]⟩, .string ⟨#[]⟩, .int .i64 0]) Try.underlying32 (by kernel_rfl) rfl (by decide) (by decide)
theorem three_new {w : World} {a b c : Value} {t : TypeId} : ∀ (j : Nat) (x : Value), [a, b, c][j]? = some x → (w.alloc (.cells #[a, b, c] t)).cell? ((⟨w.heap.size, 0, none⟩ : Addr).add j) = some x := by
  intro j x h
  match j, h with
  | 0, h => simp at h; subst h; rw [Addr.add_lit]; simp
  | 1, h => simp at h; subst h; rw [Addr.add_lit]; simp
  | 2, h => simp at h; subst h; rw [Addr.add_lit]; simp
  | j + 3, h => simp at h
theorem file_one (f : File) : ∀ u ∈ f.cells, u.oneCell' = true := by
  intro u hu
  simp [File.cells] at hu
  rcases hu with rfl | rfl | rfl <;> rfl
/-- A slice that lies in a block from B on, or nowhere. -/
def Fresh (B : Nat) (v : Value) : Prop := ∀ b, v.ownBlock = some b → B ≤ b
theorem fresh_nil (B : Nat) : Fresh B (.slice none 0 0) := fun _ h => by cases h
theorem Fresh.mono {B B' : Nat} {v : Value} (h : Fresh B v) (hb : B' ≤ B) : Fresh B' v := fun b hv => Nat.le_trans hb (h b hv)
theorem fresh_own {w : World} {base e k n : Nat} {v : Value} {xs : List Value} (h : w.ownsRow base e k v n xs) : Fresh base v := fun b hb => (h.lt b hb).1
def RetFilesF (p : List File × Nat) (w : World) (e : Ending) (w' : World) : Prop := ∃ v, e = .returned (.tuple #[v, .int .i64 p.2]) ∧ Files w' v p.1 ∧ Below w.heap.size w w' ∧ Fresh w.heap.size v
def RetFiles (p : List File × Nat) (w : World) (e : Ending) (w' : World) : Prop := ∃ v, e = .returned (.tuple #[v, .int .i64 p.2]) ∧ Files w' v p.1 ∧ Below w.heap.size w w'
def keepTo (l : List File) (name : ByteArray) (k : Nat) : List File := (l.take k).filter (fun f => f.name.toList != name.toList)
/-- B2, dropping. -/
def dropAt (l : List File) (name : ByteArray) : List File × Nat := if (getAt l name).isSome then (l.filter (fun f => f.name.toList != name.toList), 0) else ([], 5)
theorem keep_le (l : List File) (name : ByteArray) (k : Nat) : (keepTo l name k).length ≤ k := Nat.le_trans (List.length_filter_le _ _) (by rw [List.length_take]; omega)
theorem keep_yes (l : List File) (name : ByteArray) (k : Nat) (h : k < l.length) (h2 : (l[k].name.toList == name.toList) = false) : keepTo l name (k + 1) = keepTo l name k ++ [l[k]] := by
  unfold keepTo; rw [List.take_succ_eq_append_getElem h, List.filter_append]; simp [bne, h2]
theorem keep_no (l : List File) (name : ByteArray) (k : Nat) (h : k < l.length) (h2 : (l[k].name.toList == name.toList) = true) : keepTo l name (k + 1) = keepTo l name k := by
  unfold keepTo; rw [List.take_succ_eq_append_getElem h, List.filter_append]; simp [bne, h2]

set_option maxHeartbeats 1000000 in
theorem ref_DropFile_f (va : Value) (l : List File) (name : ByteArray) (w : World) (ha : Files w va l) (hl : l.length ≤ 8) :
    Calls Try.prog 71 #[va, .string name] w (RetFilesF (dropAt l name) w) := by
  have C := ref_GetFile va l name w ha
  obtain ⟨ao, ca, rfl, hca, hca'⟩ := ha.parts
  have HA := Lib.hid ha
  clear ha
  unfold RetFile fileOr File.val at C
  cases hg : getAt l name
  · rw [hg] at C
    replace C := Lib.hid C
    have HD : Hid (dropAt l name = ([], 5)) := by refine Lib.hid ?_; unfold dropAt; rw [hg]; rfl
    clear hg
    go_enter Try.func71, Try.ntmps71
    go_wp2_with fail
    refine C.out.mono ?_
    rintro e w2 ⟨rfl, hb2⟩
    have HB2 := Lib.hid hb2
    clear hb2
    go_wp2_with fail
    have HB3 := Lib.hid (two HB2.out (below_alloc w2 (.cells #[.string noFile.name, .string noFile.text, .int .i64 noFile.times] 23)))
    refine bodyPost_ret (v := .tuple #[.slice none 0 0, .int .i64 5]) (by simp [results, Try.results71, go_sem]) rfl ?_
    exact ⟨.slice none 0 0, by rw [HD.out]; rfl, by rw [HD.out]; exact Rd.nil _, HB3.out, fresh_nil _⟩
  · rename_i f
    rw [hg] at C
    replace C := Lib.hid C
    have HD : Hid (dropAt l name = (keepTo l name l.length, 0)) := by refine Lib.hid ?_; unfold dropAt keepTo; rw [hg, List.take_length]; rfl
    clear hg
    go_enter Try.func71, Try.ntmps71
    go_wp2_with fail
    refine C.out.mono ?_
    rintro e w2 ⟨rfl, hb2⟩
    have HB2 := Lib.hid hb2
    clear hb2
    go_wp2_with fail
    obtain ⟨W2, hW2⟩ : ∃ W2, W2 = w2.alloc (.cells #[.string f.name, .string f.text, .int .i64 f.times] 23) := ⟨_, rfl⟩
    have BW2 := Lib.hid (show Below w.heap.size w W2 by rw [hW2]; exact two HB2.out (below_alloc _ _))
    rw [← hW2]
    clear hW2 HB2
    go_loopw [8, 9] (fun o i wr => ∃ k : Nat, k ≤ l.length ∧ i = .int .i64 k ∧ wr.ownsRow W2.heap.size 23 3 o (keepTo l name k).length ((keepTo l name k).flatMap File.cells) ∧ Below W2.heap.size W2 wr) (fun _ i _ => l.length - (intOf i).toNat)
    case atStart => exact ⟨0, Nat.zero_le _, rfl, World.ownsRow_nil _ _ _ _, Below.refl _ _⟩
    case round =>
      obtain ⟨k, hk, rfl, hown, hbw⟩ := hrel
      have HO := Lib.hid hown
      have HW := Lib.hid hbw
      have HN := Lib.hid (keep_le l name k)
      by_cases hlt : k < l.length
      · obtain ⟨ba, oa, rfl, hlb, x0, x1, x2⟩ := Files.cell (HA.out.below (two BW2.out hbw)) k hlt
        clear hown hbw
        cases hn : (l[k].name.toList == name.toList)
        · have HK := Lib.hid (keep_yes l name k hlt hn)
          have hz2 := HW.out.size
          have hkl := HN.out
          go_wp2_with (at_builtin; refine wpList_app I_files rfl _ _ rfl W2.heap.size _ _ _ rfl (HO.out.alloc _) ⟨wr.heap.size, 0, none⟩ 1 1 [.string l[k].name, .string l[k].text, .int .i64 l[k].times] rfl rfl ?c1 ?c2 ?c3 ?c4 ?_)
          case c1 => exact three_new
          case c2 => exact file_one l[k]
          case c3 => omega
          case c4 => simp; omega
          intro v' w3 hown3 hg3
          have HB3 := Lib.hid (grown_below (HW.out.trans ((below_alloc wr (.cells #[.string l[k].name, .string l[k].text, .int .i64 l[k].times] 23)).mono hz2)) (HO.out.alloc _) hg3 (Nat.le_refl _))
          have HO3 := Lib.hid hown3
          clear hown3 hg3
          go_wp2_with fail
          go_roundw
          case rel =>
            refine ⟨k + 1, by omega, by go_num, ?_, HB3.out⟩
            rw [HK.out, flat_append, List.length_append]
            exact HO3.out
          case measure => simp [intOf]; omega
        · have HK := Lib.hid (keep_no l name k hlt hn)
          go_wp2_with fail
          go_roundw
          case rel => exact ⟨k + 1, by omega, by go_num, by rw [HK.out]; exact HO.out, HW.out⟩
          case measure => simp [intOf]; omega
      · have hkl : k = l.length := by omega
        subst hkl
        clear hown hbw
        go_wp2_with fail
        refine bodyPost_ret (v := .tuple #[u8, .int .i64 0]) (by simp [results, Try.results71, go_sem]) rfl ?_
        exact ⟨u8, by rw [HD.out]; rfl, by rw [HD.out]; exact SL.of_own HO.out, two BW2.out HW.out, (fresh_own HO.out).mono BW2.out.size⟩
theorem ref_DropFile (va : Value) (l : List File) (name : ByteArray) (w : World) (ha : Files w va l) (hl : l.length ≤ 8) :
    Calls Try.prog 71 #[va, .string name] w (RetFiles (dropAt l name) w) :=
  (ref_DropFile_f va l name w ha hl).mono fun _ _ ⟨v, h1, h2, h3, _⟩ => ⟨v, h1, h2, h3⟩
end Go.Proofs.Ytggpodlecljcbaa
namespace Go.Proofs.Ytggpodlecljcbaa
set_option linter.unusedSimpArgs false
set_option linter.unusedVariables false
open Go.RowKit Go.Sort

/-- B2, putting: one step, and the steps. -/
def putStep (f : File) (p : List File × Bool) (g : File) : List File × Bool :=
  let q := if p.2 = false ∧ bLe f.name g.name = true then (p.1 ++ [f], true) else p
  if (g.name.toList == f.name.toList) = true then q else (q.1 ++ [g], q.2)
def putTo (l : List File) (f : File) (k : Nat) : List File × Bool := (l.take k).foldl (putStep f) ([], false)
theorem putTo_succ (l : List File) (f : File) (k : Nat) (h : k < l.length) : putTo l f (k + 1) = putStep f (putTo l f k) l[k] := by
  unfold putTo; rw [List.take_succ_eq_append_getElem h, List.foldl_append]; rfl
theorem putStep_len (f : File) (p : List File × Bool) (g : File) : (putStep f p g).1.length ≤ p.1.length + 2 := by
  unfold putStep
  dsimp only
  split <;> split <;> simp <;> omega
theorem putTo_len (l : List File) (f : File) : ∀ k, k ≤ l.length → (putTo l f k).1.length ≤ 2 * k
  | 0, _ => by simp [putTo]
  | k + 1, h => by
    have := putTo_len l f k (by omega)
    have := putStep_len f (putTo l f k) l[k]
    rw [putTo_succ l f k (by omega)]; omega
def putAll (l : List File) (f : File) : List File := if (putTo l f l.length).2 = false then (putTo l f l.length).1 ++ [f] else (putTo l f l.length).1
def putAt (l : List File) (f : File) : List File × Nat := if fileFault f ≠ 0 then ([], fileFault f) else if (getAt l f.name).isSome = false ∧ 8 ≤ l.length then ([], 7) else (putAll l f, 0)

set_option maxHeartbeats 2000000 in
theorem ref_PutFile (va : Value) (l : List File) (f : File) (w : World) (ha : Files w va l) (hf : f.ok) (hl : l.length ≤ 8) :
    Calls Try.prog 69 #[va, f.val] w (RetFiles (putAt l f) w) := by
  have CF := fun W => ref_FileFault f W hf
  have CG := fun W hb => ref_GetFile va l f.name W (Rd.below ha hb)
  obtain ⟨ao, ca, rfl, hca, hca'⟩ := ha.parts
  have HA := Lib.hid ha
  clear ha
  unfold RetFile fileOr File.val at CG
  unfold File.val at CF ⊢
  have B1 := below_alloc w (.cells #[.string f.name, .string f.text, .int .i64 f.times] 23)
  by_cases hff : fileFault f = 0
  · rw [hff] at CF
    replace CF := Lib.hid CF
    obtain ⟨W1, hW1⟩ : ∃ W1, W1 = w.alloc (.cells #[.string f.name, .string f.text, .int .i64 f.times] 23) := ⟨_, rfl⟩
    rw [← hW1] at B1
    have hz : W1.heap.size = w.heap.size + 1 := by rw [hW1]; simp
    have c0 : W1.cell? ⟨w.heap.size, 0, none⟩ = some (.string f.name) := by rw [hW1]; simp
    have c1 : W1.cell? ⟨w.heap.size, 1, none⟩ = some (.string f.text) := by rw [hW1]; simp
    have c2 : W1.cell? ⟨w.heap.size, 2, none⟩ = some (.int .i64 f.times) := by rw [hW1]; simp
    have CB : Hid (∀ W, Below W1.heap.size W1 W → W.cell? ⟨w.heap.size, 0, none⟩ = some (.string f.name) ∧ W.cell? ⟨w.heap.size, 1, none⟩ = some (.string f.text) ∧ W.cell? ⟨w.heap.size, 2, none⟩ = some (.int .i64 f.times)) := by
      refine Lib.hid fun W hb => ?_
      obtain ⟨hc, _⟩ := bcell hb
      exact ⟨(hc _ _ (by omega)).trans c0, (hc _ _ (by omega)).trans c1, (hc _ _ (by omega)).trans c2⟩
    have HW1 := Lib.hid hW1
    have HB1 := Lib.hid B1
    clear hW1 hz c0 c1 c2 B1
    have HS : Hid (((getAt l f.name).isSome = false ∧ 8 ≤ l.length) → putAt l f = ([], 7)) := Lib.hid fun h => by unfold putAt; rw [if_neg (by simp [hff]), if_pos h]
    have HT : Hid (¬ ((getAt l f.name).isSome = false ∧ 8 ≤ l.length) → putAt l f = (putAll l f, 0)) := Lib.hid fun h => by unfold putAt; rw [if_neg (by simp [hff]), if_neg h]
    clear hff
    obtain ⟨g, hg⟩ : ∃ g, g = (getAt l f.name).getD noFile := ⟨_, rfl⟩
    rw [← hg] at CG
    clear hg
    obtain ⟨s, hs⟩ : ∃ s, s = (getAt l f.name).isSome := ⟨_, rfl⟩
    rw [← hs] at CG HS HT
    clear hs
    replace CG := Lib.hid CG
    by_cases hfull : s = false ∧ 8 ≤ l.length
    · have HD := Lib.hid (HS.out hfull)
      obtain ⟨rfl, h8⟩ := hfull
      go_enter Try.func69, Try.ntmps69
      go_wp2_with fail
      rw [← HW1.out]
      refine (CF.out _).mono ?_
      rintro e w2 ⟨rfl, hb2⟩
      obtain ⟨d0, d1, d2⟩ := CB.out w2 hb2
      have HB2 := Lib.hid hb2
      clear hb2
      go_wp2_with fail
      refine (CG.out _ (two HB1.out HB2.out)).mono ?_
      rintro e w3 ⟨rfl, hb3⟩
      have HB3 := Lib.hid (two HB2.out hb3)
      clear hb3
      go_wp2_with fail
      have HB4 := Lib.hid (two HB1.out (two HB3.out (below_alloc w3 (.cells #[.string g.name, .string g.text, .int .i64 g.times] 23))))
      refine bodyPost_ret (v := .tuple #[.slice none 0 0, .int .i64 7]) (by simp [results, Try.results69, go_sem]) rfl ?_
      exact ⟨.slice none 0 0, by rw [HD.out]; rfl, by rw [HD.out]; exact Rd.nil _, HB4.out⟩
    · have HD := Lib.hid (HT.out hfull)
      have hcs : s = true ∨ (s = false ∧ l.length < 8) := by cases s <;> simp_all
      clear hfull
      rcases hcs with rfl | ⟨rfl, h8⟩
      all_goals
        go_enter Try.func69, Try.ntmps69
        go_wp2_with fail
        rw [← HW1.out]
        refine (CF.out _).mono ?_
        rintro e w2 ⟨rfl, hb2⟩
        obtain ⟨d0, d1, d2⟩ := CB.out w2 hb2
        have HB2 := Lib.hid hb2
        clear hb2
        go_wp2_with fail
        refine (CG.out _ (two HB1.out HB2.out)).mono ?_
        rintro e w3 ⟨rfl, hb3⟩
        have HB3 := Lib.hid (two HB2.out hb3)
        clear hb3 d0 d1 d2
        go_wp2_with fail
        obtain ⟨W2, hW2⟩ : ∃ W2, W2 = w3.alloc (.cells #[.string g.name, .string g.text, .int .i64 g.times] 23) := ⟨_, rfl⟩
        have BW2 := Lib.hid (show Below W1.heap.size W1 W2 by rw [hW2]; exact two HB3.out (below_alloc _ _))
        rw [← hW2]
        clear hW2 HB2 HB3
        go_loopw [9, 10, 11] (fun o dn i wr => ∃ k : Nat, k ≤ l.length ∧ dn = .bool (putTo l f k).2 ∧ i = .int .i64 k ∧ wr.ownsRow W2.heap.size 23 3 o (putTo l f k).1.length ((putTo l f k).1.flatMap File.cells) ∧ Below W2.heap.size W2 wr) (fun _ _ i _ => l.length - (intOf i).toNat)
        case atStart => exact ⟨0, Nat.zero_le _, rfl, rfl, World.ownsRow_nil _ _ _ _, Below.refl _ _⟩
        case round =>
          obtain ⟨k, hk, rfl, rfl, hown, hbw⟩ := hrel
          have hlen := putTo_len l f k hk
          obtain ⟨R, d, hR⟩ : ∃ R d, putTo l f k = (R, d) := ⟨_, _, rfl⟩
          rw [hR] at hown hlen ⊢
          dsimp only at hown hlen ⊢
          have HO0 := Lib.hid hown
          have HW0 := Lib.hid hbw
          clear hown hbw
          by_cases hlt : k < l.length
          · obtain ⟨ba, oa, rfl, hlb, x0, x1, x2⟩ := Files.cell (HA.out.below (two HB1.out BW2.out)) k hlt
            have XC : Hid (∀ W, Below W2.heap.size W2 W → W.cell? ⟨ba, oa + k * 3, none⟩ = some (.string l[k].name) ∧ W.cell? ⟨ba, oa + k * 3 + 1, none⟩ = some (.string l[k].text) ∧ W.cell? ⟨ba, oa + k * 3 + 2, none⟩ = some (.int .i64 l[k].times) ∧ W.cell? ⟨w.heap.size, 0, none⟩ = some (.string f.name) ∧ W.cell? ⟨w.heap.size, 1, none⟩ = some (.string f.text) ∧ W.cell? ⟨w.heap.size, 2, none⟩ = some (.int .i64 f.times)) := by
              refine Lib.hid fun W hb => ?_
              obtain ⟨hc, _⟩ := bcell hb
              obtain ⟨d0, d1, d2⟩ := CB.out W (two BW2.out hb)
              exact ⟨(hc _ _ hlb).trans x0, (hc _ _ hlb).trans x1, (hc _ _ hlb).trans x2, d0, d1, d2⟩
            clear x0 x1 x2 hlb
            cases d
            · cases hle : (Op.bytesLess f.name.toList l[k].name.toList || f.name.toList == l[k].name.toList)
              · have hb2 : bLe f.name l[k].name = false := hle
                obtain ⟨x0, x1, x2, d0, d1, d2⟩ := XC.out _ HW0.out
                have y0 := regrown_cell x0
                have z0 := regrown_cell d0
                clear x0 x1 x2 d0 d1 d2
                go_wp2_with fail
                refine wp_region_q (by kernel_rfl) (by kernel_rfl) ?_
                repeat (go_big_quiet_step (fail))
                refine wpQuiet_nil ?_
                intro w4 hb4
                have HW4 := Lib.hid (two HW0.out hb4)
                have HO4 := Lib.hid (HO0.out.kept (⟨hb4.os, hb4.tape, hb4.output, hb4.size, fun j hj _ => hb4.block j hj⟩ : World.grownBy _ _ none) (by cases h : Value.ownBlock _ <;> simp))
                clear hb4 y0 z0
                cases hn : (l[k].name.toList == f.name.toList)
                · have HK : Hid (putTo l f (k + 1) = (R ++ [l[k]], false)) := Lib.hid (by rw [putTo_succ l f k hlt, hR, putStep]; simp [hb2, hn])
                  clear hR
                  obtain ⟨x0, x1, x2, d0, d1, d2⟩ := XC.out _ HW4.out
                  have y0 := regrown_cell x0
                  have z0 := regrown_cell d0
                  clear x0 x1 x2 d0 d1 d2
                  go_wp2_with fail
                  refine wp_region_q (by kernel_rfl) (by kernel_rfl) ?_
                  repeat (go_big_quiet_step (fail))
                  refine wpQuiet_nil ?_
                  intro w5 hb5
                  have HW5 := Lib.hid (two HW4.out hb5)
                  have HO5 := Lib.hid (HO4.out.kept (⟨hb5.os, hb5.tape, hb5.output, hb5.size, fun j hj _ => hb5.block j hj⟩ : World.grownBy _ _ none) (by cases h : Value.ownBlock _ <;> simp))
                  clear hb5 y0 z0
                  obtain ⟨x0, x1, x2, d0, d1, d2⟩ := XC.out _ HW5.out
                  have hz6 := HW5.out.size
                  go_wp2_with (at_builtin; refine wpList_app I_files rfl _ _ rfl W2.heap.size _ _ _ rfl (HO5.out.alloc _) ⟨w5.heap.size, 0, none⟩ 1 1 [.string l[k].name, .string l[k].text, .int .i64 l[k].times] rfl rfl ?c1 ?c2 ?c3 ?c4 ?_)
                  case c1 => exact three_new
                  case c2 => exact file_one l[k]
                  case c3 => first | omega | (simp only [List.length_append, List.length_cons, List.length_nil]; omega)
                  case c4 => simp; omega
                  intro v6 w6 hown6 hg6
                  have HW6 := Lib.hid (grown_below (HW5.out.trans ((below_alloc w5 (.cells #[.string l[k].name, .string l[k].text, .int .i64 l[k].times] 23)).mono hz6)) (HO5.out.alloc _) hg6 (Nat.le_refl _))
                  have HO6 : Hid (w6.ownsRow W2.heap.size 23 3 v6 (R ++ [l[k]]).length ((R ++ [l[k]]).flatMap File.cells)) := Lib.hid (by first | (rw [flat_append, List.length_append]; exact hown6) | (simp only [List.flatMap_append, List.length_append, List.append_assoc, List.flatMap_cons, List.flatMap_nil, List.append_nil, List.length_cons, List.length_nil]; exact hown6))
                  clear hown6 hg6 x0 x1 x2 d0 d1 d2
                  go_wp2_with fail
                  go_roundw
                  case rel => exact ⟨k + 1, by omega, by rw [HK.out], by go_num, by rw [HK.out]; exact HO6.out, HW6.out⟩
                  case measure => simp [intOf]; omega
                · have HK : Hid (putTo l f (k + 1) = (R, false)) := Lib.hid (by rw [putTo_succ l f k hlt, hR, putStep]; simp [hb2, hn])
                  clear hR
                  obtain ⟨x0, x1, x2, d0, d1, d2⟩ := XC.out _ HW4.out
                  have y0 := regrown_cell x0
                  have z0 := regrown_cell d0
                  clear x0 x1 x2 d0 d1 d2
                  go_wp2_with fail
                  refine wp_region_q (by kernel_rfl) (by kernel_rfl) ?_
                  repeat (go_big_quiet_step (fail))
                  refine wpQuiet_nil ?_
                  intro w5 hb5
                  have HW5 := Lib.hid (two HW4.out hb5)
                  have HO5 := Lib.hid (HO4.out.kept (⟨hb5.os, hb5.tape, hb5.output, hb5.size, fun j hj _ => hb5.block j hj⟩ : World.grownBy _ _ none) (by cases h : Value.ownBlock _ <;> simp))
                  clear hb5 y0 z0
                  go_wp2_with fail
                  go_roundw
                  case rel => exact ⟨k + 1, by omega, by rw [HK.out], by go_num, by rw [HK.out]; exact HO5.out, HW5.out⟩
                  case measure => simp [intOf]; omega
              · have hb2 : bLe f.name l[k].name = true := hle
                obtain ⟨x0, x1, x2, d0, d1, d2⟩ := XC.out _ HW0.out
                have y0 := regrown_cell x0
                have z0 := regrown_cell d0
                clear x0 x1 x2 d0 d1 d2
                go_wp2_with fail
                refine wp_region_q (by kernel_rfl) (by kernel_rfl) ?_
                repeat (go_big_quiet_step (fail))
                refine wpQuiet_nil ?_
                intro w4 hb4
                have HW4 := Lib.hid (two HW0.out hb4)
                have HO4 := Lib.hid (HO0.out.kept (⟨hb4.os, hb4.tape, hb4.output, hb4.size, fun j hj _ => hb4.block j hj⟩ : World.grownBy _ _ none) (by cases h : Value.ownBlock _ <;> simp))
                clear hb4 y0 z0
                obtain ⟨x0, x1, x2, d0, d1, d2⟩ := XC.out _ HW4.out
                have hz5 := HW4.out.size
                go_wp2_with (at_builtin; refine wpList_app I_files rfl _ _ rfl W2.heap.size _ _ _ rfl (HO4.out.alloc _) ⟨w4.heap.size, 0, none⟩ 1 1 [.string f.name, .string f.text, .int .i64 f.times] rfl rfl ?c1 ?c2 ?c3 ?c4 ?_)
                case c1 => exact three_new
                case c2 => exact file_one f
                case c3 => first | omega | (simp only [List.length_append, List.length_cons, List.length_nil]; omega)
                case c4 => simp; omega
                intro v5 w5 hown5 hg5
                have HW5 := Lib.hid (grown_below (HW4.out.trans ((below_alloc w4 (.cells #[.string f.name, .string f.text, .int .i64 f.times] 23)).mono hz5)) (HO4.out.alloc _) hg5 (Nat.le_refl _))
                have HO5 : Hid (w5.ownsRow W2.heap.size 23 3 v5 (R ++ [f]).length ((R ++ [f]).flatMap File.cells)) := Lib.hid (by first | (rw [flat_append, List.length_append]; exact hown5) | (simp only [List.flatMap_append, List.length_append, List.append_assoc, List.flatMap_cons, List.flatMap_nil, List.append_nil, List.length_cons, List.length_nil]; exact hown5))
                clear hown5 hg5 x0 x1 x2 d0 d1 d2
                go_wp2_with fail
                cases hn : (l[k].name.toList == f.name.toList)
                · have HK : Hid (putTo l f (k + 1) = (R ++ [f] ++ [l[k]], true)) := Lib.hid (by rw [putTo_succ l f k hlt, hR, putStep]; simp [hb2, hn])
                  clear hR
                  obtain ⟨x0, x1, x2, d0, d1, d2⟩ := XC.out _ HW5.out
                  have y0 := regrown_cell x0
                  have z0 := regrown_cell d0
                  clear x0 x1 x2 d0 d1 d2
                  go_wp2_with fail
                  refine wp_region_q (by kernel_rfl) (by kernel_rfl) ?_
                  repeat (go_big_quiet_step (fail))
                  refine wpQuiet_nil ?_
                  intro w6 hb6
                  have HW6 := Lib.hid (two HW5.out hb6)
                  have HO6 := Lib.hid (HO5.out.kept (⟨hb6.os, hb6.tape, hb6.output, hb6.size, fun j hj _ => hb6.block j hj⟩ : World.grownBy _ _ none) (by cases h : Value.ownBlock _ <;> simp))
                  clear hb6 y0 z0
                  obtain ⟨x0, x1, x2, d0, d1, d2⟩ := XC.out _ HW6.out
                  have hz7 := HW6.out.size
                  go_wp2_with (at_builtin; refine wpList_app I_files rfl _ _ rfl W2.heap.size _ _ _ rfl (HO6.out.alloc _) ⟨w6.heap.size, 0, none⟩ 1 1 [.string l[k].name, .string l[k].text, .int .i64 l[k].times] rfl rfl ?c1 ?c2 ?c3 ?c4 ?_)
                  case c1 => exact three_new
                  case c2 => exact file_one l[k]
                  case c3 => first | omega | (simp only [List.length_append, List.length_cons, List.length_nil]; omega)
                  case c4 => simp; omega
                  intro v7 w7 hown7 hg7
                  have HW7 := Lib.hid (grown_below (HW6.out.trans ((below_alloc w6 (.cells #[.string l[k].name, .string l[k].text, .int .i64 l[k].times] 23)).mono hz7)) (HO6.out.alloc _) hg7 (Nat.le_refl _))
                  have HO7 : Hid (w7.ownsRow W2.heap.size 23 3 v7 (R ++ [f] ++ [l[k]]).length ((R ++ [f] ++ [l[k]]).flatMap File.cells)) := Lib.hid (by first | (rw [flat_append, List.length_append]; exact hown7) | (simp only [List.flatMap_append, List.length_append, List.append_assoc, List.flatMap_cons, List.flatMap_nil, List.append_nil, List.length_cons, List.length_nil]; exact hown7))
                  clear hown7 hg7 x0 x1 x2 d0 d1 d2
                  go_wp2_with fail
                  go_roundw
                  case rel => exact ⟨k + 1, by omega, by rw [HK.out], by go_num, by rw [HK.out]; exact HO7.out, HW7.out⟩
                  case measure => simp [intOf]; omega
                · have HK : Hid (putTo l f (k + 1) = (R ++ [f], true)) := Lib.hid (by rw [putTo_succ l f k hlt, hR, putStep]; simp [hb2, hn])
                  clear hR
                  obtain ⟨x0, x1, x2, d0, d1, d2⟩ := XC.out _ HW5.out
                  have y0 := regrown_cell x0
                  have z0 := regrown_cell d0
                  clear x0 x1 x2 d0 d1 d2
                  go_wp2_with fail
                  refine wp_region_q (by kernel_rfl) (by kernel_rfl) ?_
                  repeat (go_big_quiet_step (fail))
                  refine wpQuiet_nil ?_
                  intro w6 hb6
                  have HW6 := Lib.hid (two HW5.out hb6)
                  have HO6 := Lib.hid (HO5.out.kept (⟨hb6.os, hb6.tape, hb6.output, hb6.size, fun j hj _ => hb6.block j hj⟩ : World.grownBy _ _ none) (by cases h : Value.ownBlock _ <;> simp))
                  clear hb6 y0 z0
                  go_wp2_with fail
                  go_roundw
                  case rel => exact ⟨k + 1, by omega, by rw [HK.out], by go_num, by rw [HK.out]; exact HO6.out, HW6.out⟩
                  case measure => simp [intOf]; omega
            · have hb2 : (true = false ∧ bLe f.name l[k].name = true) = False := by simp
              obtain ⟨x0, x1, x2, d0, d1, d2⟩ := XC.out _ HW0.out
              have y0 := regrown_cell x0
              have z0 := regrown_cell d0
              clear x0 x1 x2 d0 d1 d2
              go_wp2_with fail
              refine wp_region_q (by kernel_rfl) (by kernel_rfl) ?_
              repeat (go_big_quiet_step (fail))
              refine wpQuiet_nil ?_
              intro w4 hb4
              have HW4 := Lib.hid (two HW0.out hb4)
              have HO4 := Lib.hid (HO0.out.kept (⟨hb4.os, hb4.tape, hb4.output, hb4.size, fun j hj _ => hb4.block j hj⟩ : World.grownBy _ _ none) (by cases h : Value.ownBlock _ <;> simp))
              clear hb4 y0 z0
              cases hn : (l[k].name.toList == f.name.toList)
              · have HK : Hid (putTo l f (k + 1) = (R ++ [l[k]], true)) := Lib.hid (by rw [putTo_succ l f k hlt, hR, putStep]; simp [hb2, hn])
                clear hR
                obtain ⟨x0, x1, x2, d0, d1, d2⟩ := XC.out _ HW4.out
                have y0 := regrown_cell x0
                have z0 := regrown_cell d0
                clear x0 x1 x2 d0 d1 d2
                go_wp2_with fail
                refine wp_region_q (by kernel_rfl) (by kernel_rfl) ?_
                repeat (go_big_quiet_step (fail))
                refine wpQuiet_nil ?_
                intro w5 hb5
                have HW5 := Lib.hid (two HW4.out hb5)
                have HO5 := Lib.hid (HO4.out.kept (⟨hb5.os, hb5.tape, hb5.output, hb5.size, fun j hj _ => hb5.block j hj⟩ : World.grownBy _ _ none) (by cases h : Value.ownBlock _ <;> simp))
                clear hb5 y0 z0
                obtain ⟨x0, x1, x2, d0, d1, d2⟩ := XC.out _ HW5.out
                have hz6 := HW5.out.size
                go_wp2_with (at_builtin; refine wpList_app I_files rfl _ _ rfl W2.heap.size _ _ _ rfl (HO5.out.alloc _) ⟨w5.heap.size, 0, none⟩ 1 1 [.string l[k].name, .string l[k].text, .int .i64 l[k].times] rfl rfl ?c1 ?c2 ?c3 ?c4 ?_)
                case c1 => exact three_new
                case c2 => exact file_one l[k]
                case c3 => first | omega | (simp only [List.length_append, List.length_cons, List.length_nil]; omega)
                case c4 => simp; omega
                intro v6 w6 hown6 hg6
                have HW6 := Lib.hid (grown_below (HW5.out.trans ((below_alloc w5 (.cells #[.string l[k].name, .string l[k].text, .int .i64 l[k].times] 23)).mono hz6)) (HO5.out.alloc _) hg6 (Nat.le_refl _))
                have HO6 : Hid (w6.ownsRow W2.heap.size 23 3 v6 (R ++ [l[k]]).length ((R ++ [l[k]]).flatMap File.cells)) := Lib.hid (by first | (rw [flat_append, List.length_append]; exact hown6) | (simp only [List.flatMap_append, List.length_append, List.append_assoc, List.flatMap_cons, List.flatMap_nil, List.append_nil, List.length_cons, List.length_nil]; exact hown6))
                clear hown6 hg6 x0 x1 x2 d0 d1 d2
                go_wp2_with fail
                go_roundw
                case rel => exact ⟨k + 1, by omega, by rw [HK.out], by go_num, by rw [HK.out]; exact HO6.out, HW6.out⟩
                case measure => simp [intOf]; omega
              · have HK : Hid (putTo l f (k + 1) = (R, true)) := Lib.hid (by rw [putTo_succ l f k hlt, hR, putStep]; simp [hb2, hn])
                clear hR
                obtain ⟨x0, x1, x2, d0, d1, d2⟩ := XC.out _ HW4.out
                have y0 := regrown_cell x0
                have z0 := regrown_cell d0
                clear x0 x1 x2 d0 d1 d2
                go_wp2_with fail
                refine wp_region_q (by kernel_rfl) (by kernel_rfl) ?_
                repeat (go_big_quiet_step (fail))
                refine wpQuiet_nil ?_
                intro w5 hb5
                have HW5 := Lib.hid (two HW4.out hb5)
                have HO5 := Lib.hid (HO4.out.kept (⟨hb5.os, hb5.tape, hb5.output, hb5.size, fun j hj _ => hb5.block j hj⟩ : World.grownBy _ _ none) (by cases h : Value.ownBlock _ <;> simp))
                clear hb5 y0 z0
                go_wp2_with fail
                go_roundw
                case rel => exact ⟨k + 1, by omega, by rw [HK.out], by go_num, by rw [HK.out]; exact HO5.out, HW5.out⟩
                case measure => simp [intOf]; omega
          · have hkl : k = l.length := by omega
            subst hkl
            cases d
            · have HE : Hid (putAll l f = R ++ [f]) := Lib.hid (by unfold putAll; rw [hR]; rfl)
              clear hR
              obtain ⟨d0, d1, d2⟩ := CB.out _ (two BW2.out HW0.out)
              have hz4 := HW0.out.size
              go_wp2_with (at_builtin; refine wpList_app I_files rfl _ _ rfl W2.heap.size _ _ _ rfl (HO0.out.alloc _) ⟨wr.heap.size, 0, none⟩ 1 1 [.string f.name, .string f.text, .int .i64 f.times] rfl rfl ?c1 ?c2 ?c3 ?c4 ?_)
              case c1 => exact three_new
              case c2 => exact file_one f
              case c3 => omega
              case c4 => simp; omega
              intro v4 w4 hown4 hg4
              have HW4 := Lib.hid (grown_below (HW0.out.trans ((below_alloc wr (.cells #[.string f.name, .string f.text, .int .i64 f.times] 23)).mono hz4)) (HO0.out.alloc _) hg4 (Nat.le_refl _))
              have HO4 : Hid (w4.ownsRow W2.heap.size 23 3 v4 (R ++ [f]).length ((R ++ [f]).flatMap File.cells)) := Lib.hid (by first | (rw [flat_append, List.length_append]; exact hown4) | (simp only [List.flatMap_append, List.length_append, List.append_assoc, List.flatMap_cons, List.flatMap_nil, List.append_nil, List.length_cons, List.length_nil]; exact hown4))
              clear hown4 hg4
              go_wp2_with fail
              refine bodyPost_ret (v := .tuple #[v4, .int .i64 0]) (by simp [results, Try.results69, go_sem]) rfl ?_
              exact ⟨v4, by rw [HD.out]; rfl, by rw [HD.out, HE.out]; exact SL.of_own HO4.out, two HB1.out (two BW2.out HW4.out)⟩
            · have HE : Hid (putAll l f = R) := Lib.hid (by unfold putAll; rw [hR]; rfl)
              clear hR
              go_wp2_with fail
              refine bodyPost_ret (v := .tuple #[u9, .int .i64 0]) (by simp [results, Try.results69, go_sem]) rfl ?_
              exact ⟨u9, by rw [HD.out]; rfl, by rw [HD.out, HE.out]; exact SL.of_own HO0.out, two HB1.out (two BW2.out HW0.out)⟩
  · have HD : Hid (putAt l f = ([], fileFault f)) := Lib.hid (by unfold putAt; rw [if_pos hff])
    have hpos : (0 : Int) < (fileFault f : Int) := by omega
    replace CF := Lib.hid CF
    have HB1 := Lib.hid B1
    clear hff B1
    go_enter Try.func69, Try.ntmps69
    go_wp2_with fail
    refine (CF.out _).mono ?_
    rintro e w2 ⟨rfl, hb2⟩
    have HB2 := Lib.hid (two HB1.out hb2)
    clear hb2
    go_wp2_with fail
    refine bodyPost_ret (v := .tuple #[.slice none 0 0, .int .i64 (fileFault f)]) (by simp [results, Try.results69, go_sem]) rfl ?_
    exact ⟨.slice none 0 0, by rw [HD.out], by rw [HD.out]; exact Rd.nil _, HB2.out⟩
end Go.Proofs.Ytggpodlecljcbaa
namespace Go.Proofs.Ytggpodlecljcbaa
set_option linter.unusedSimpArgs false
set_option linter.unusedVariables false
open Go.RowKit Go.Sort
theorem neq_of_gt {a b : ByteArray} (h : bLt b a = true) : (a.toList == b.toList) = false := by
  cases e : (a.toList == b.toList)
  · rfl
  · have : a.toList = b.toList := by simpa using e
    unfold bLt at h
    rw [this, less_irrefl] at h; cases h
theorem same_name_lt {a b c : ByteArray} (h : (a.toList == b.toList) = true) (h2 : bLt a c = true) : bLt b c = true := by
  have : a.toList = b.toList := by simpa using h
  unfold bLt at h2 ⊢; rwa [← this]
theorem drop_rises (l : List File) (name : ByteArray) (hr : Rises l) (r : Nat) (hk : r = rank l name) (h : isAt l name r = true) : l.filter (fun f => f.name.toList != name.toList) = l.take r ++ l.drop (r + 1) := by
  have hl := isAt_len h
  have e : l = l.take r ++ l[r] :: l.drop (r + 1) := by rw [← List.drop_eq_getElem_cons hl, List.take_append_drop]
  rw [isAt_lt l name r hl] at h
  have h1 : (l.take r).filter (fun f => f.name.toList != name.toList) = l.take r := by
    rw [List.filter_eq_self]
    intro x hx
    obtain ⟨t, ht, rfl⟩ := List.getElem_of_mem hx
    rw [List.getElem_take]
    rw [List.length_take] at ht
    have := not_eq_of_lt (rank_before name l t (by omega) (by omega))
    simp only [bne, this, Bool.not_false]
  have h2 : (l.drop (r + 1)).filter (fun f => f.name.toList != name.toList) = l.drop (r + 1) := by
    rw [List.filter_eq_self]
    intro x hx
    obtain ⟨t, ht, rfl⟩ := List.getElem_of_mem hx
    rw [List.getElem_drop]
    rw [List.length_drop] at ht
    have := neq_of_gt (same_name_lt h (hr.at r (r + 1 + t) (by omega) (by omega)))
    simp only [bne, this, Bool.not_false]
  calc l.filter (fun f => f.name.toList != name.toList) = (l.take r ++ l[r] :: l.drop (r + 1)).filter (fun f => f.name.toList != name.toList) := by rw [← e]
    _ = _ := by rw [List.filter_append, h1, List.filter_cons, h2]; simp [bne, h]
theorem not_le_of_lt {a b : ByteArray} (h : bLt b a = true) : bLe a b = false := by
  cases e : bLe a b
  · rfl
  · unfold bLe at e
    rw [Bool.or_eq_true] at e
    rcases e with e | e
    · have h3 : bLt a a = true := bLt_trans (show bLt a b = true from e) h
      rw [bLt_irrefl] at h3; cases h3
    · rw [neq_of_gt h] at e; cases e
theorem put_before (l : List File) (f : File) : ∀ k, k ≤ rank l f.name → k ≤ l.length → putTo l f k = (l.take k, false)
  | 0, _, _ => by simp [putTo]
  | k + 1, h, hl => by
    have hb := rank_before f.name l k (by omega) (by omega)
    rw [putTo_succ l f k (by omega), put_before l f k (by omega) (by omega), putStep]
    dsimp only
    rw [if_neg (by rw [not_eq_of_lt hb]; simp), if_neg (by rw [not_le_of_lt hb]; simp), List.take_succ_eq_append_getElem (show k < l.length by omega)]
theorem put_step_gt (l : List File) (f : File) (k : Nat) (h : k < l.length) (R : List File) (hp : putTo l f k = (R, true)) (hn : (l[k].name.toList == f.name.toList) = false) : putTo l f (k + 1) = (R ++ [l[k]], true) := by
  rw [putTo_succ l f k h, hp, putStep]; simp [hn]
theorem put_after (l : List File) (f : File) (r : Nat) (R : List File) (hp : putTo l f (r + 1) = (R, true)) (hn : ∀ t, (ht : t < l.length) → r < t → (l[t].name.toList == f.name.toList) = false) : ∀ k, r + 1 + k ≤ l.length → putTo l f (r + 1 + k) = (R ++ (l.drop (r + 1)).take k, true)
  | 0, _ => by simp [hp]
  | k + 1, h => by
    have h0 := put_after l f r R hp hn k (by omega)
    have hk : k < (l.drop (r + 1)).length := by rw [List.length_drop]; omega
    have := put_step_gt l f (r + 1 + k) (by omega) _ h0 (hn _ (by omega) (by omega))
    rw [show r + 1 + (k + 1) = r + 1 + k + 1 by omega, this, List.take_succ_eq_append_getElem hk, List.getElem_drop, List.append_assoc]
theorem put_rises (l : List File) (f : File) (hr : Rises l) (r : Nat) (hk : r = rank l f.name) : putAll l f = l.take r ++ f :: l.drop (if isAt l f.name r then r + 1 else r) := by
  have hrl : r ≤ l.length := by rw [hk]; exact rank_le _ _
  have h0 := put_before l f r (by omega) hrl
  by_cases hl : r < l.length
  · have hge := by have := rank_at f.name l (by rw [← hk]; exact hl); simpa [← hk] using this
    have hgt : ∀ t, (ht : t < l.length) → r < t → (l[t].name.toList == f.name.toList) = false := by
      intro t ht hrt
      have h1 := hr.at r t hrt ht
      cases e : (l[t].name.toList == f.name.toList)
      · rfl
      · have h2 : bLt l[r].name f.name = true := by
          have : l[t].name.toList = f.name.toList := by simpa using e
          unfold bLt at h1 ⊢; rwa [← this]
        rw [hge] at h2; cases h2
    have hle : bLe f.name l[r].name = true := by
      cases e : bLe f.name l[r].name
      · have := bLt_of_not_le e
        rw [hge] at this; cases this
      · rfl
    cases hi : isAt l f.name r
    · have hn := hi
      rw [isAt_lt l f.name r hl] at hn
      have h1 : putTo l f (r + 1) = (l.take r ++ [f] ++ [l[r]], true) := by
        rw [putTo_succ l f r hl, h0, putStep]
        dsimp only
        rw [if_neg (by rw [hn]; simp), if_pos ⟨rfl, hle⟩]
      have h2 := put_after l f r _ h1 hgt (l.length - (r + 1)) (by omega)
      rw [show r + 1 + (l.length - (r + 1)) = l.length by omega] at h2
      unfold putAll
      rw [h2, if_neg (by simp), List.take_of_length_le (l := l.drop (r + 1)) (by rw [List.length_drop]; omega), if_neg (by simp), List.drop_eq_getElem_cons hl]
      simp
    · have hn := hi
      rw [isAt_lt l f.name r hl] at hn
      have h1 : putTo l f (r + 1) = (l.take r ++ [f], true) := by
        rw [putTo_succ l f r hl, h0, putStep]
        dsimp only
        rw [if_pos hn, if_pos ⟨rfl, hle⟩]
      have h2 := put_after l f r _ h1 hgt (l.length - (r + 1)) (by omega)
      rw [show r + 1 + (l.length - (r + 1)) = l.length by omega] at h2
      unfold putAll
      rw [h2, if_neg (by simp), List.take_of_length_le (l := l.drop (r + 1)) (by rw [List.length_drop]; omega), if_pos rfl]
      simp
  · have e : r = l.length := by omega
    rw [isAt_ge l f.name r hl, if_neg (by simp), List.drop_of_length_le (by omega)]
    unfold putAll
    rw [← e, h0, if_pos rfl]
end Go.Proofs.Ytggpodlecljcbaa
namespace Go.Proofs.Ytggpodlecljcbaa
set_option linter.unusedSimpArgs false
set_option linter.unusedVariables false
open Go.RowKit Go.Sort
set_option maxRecDepth 100000 in
theorem files_Clone (va : Value) (l : List File) (w : World) (ha : Files w va l) (hl : l.length ≤ 8) :
    Calls Try.prog 119 #[va] w fun e w' => ∃ v, e = .returned v ∧ w'.ownsRow w.heap.size 23 3 v l.length (l.flatMap File.cells) ∧ Below w.heap.size w w' := by
  obtain ⟨h1, ao, cap, rfl, h2, h3, h4, h5⟩ := ha
  cases ao with
  | none =>
    have e1 : l = [] := by
      cases l with
      | nil => rfl
      | cons f r =>
        obtain ⟨b, off, e, _⟩ := h5 0 (.string f.name) rfl
        cases e
    subst e1
    refine (AnyE.slices_Clone_nil Try.cloneFiles 0 cap w).mono ?_
    rintro e w' ⟨rfl, rfl⟩
    exact ⟨_, rfl, World.ownsRow_nil _ _ _ _, Below.refl _ _⟩
  | some a =>
    have H5 : Hid (∀ j u, (l.flatMap File.cells)[j]? = some u → (w.alloc (.cells #[] 23)).cell? (a.add j) = some u) := by
      refine Lib.hid fun j u hj => ?_
      obtain ⟨b, off, e, hc⟩ := h5 j u hj
      cases e
      rw [Addr.add_lit]
      exact cell_on' (below_alloc w _) hc
    have H1 := Lib.hid h1
    replace h3 : cap ≤ 9223372036854775807 := h3
    clear h1 h4 h5
    have q22 : ∀ (w : World) (a : Option Addr) (n c n' c' : Nat), (binOp .eql 32 (.slice a n c) (.slice none n' c')).run Try.prog w = .ok (.bool a.isNone) w := fun w a n c n' c' => Lib.run_eql_slice_nil w _ _ a n c n' c' Try.underlying32
    go_enter Try.func119, Try.ntmps119
    go_wp2_with (at_builtin; refine wpList_app I_files rfl _ _ rfl w.heap.size _ 0 [] rfl (World.ownsRow_made w #[] 0 (Nat.le_refl _) (Nat.zero_le _) (by simp)) a l.length cap (l.flatMap File.cells) rfl H1.out ?c1 ?c2 ?c3 ?c4 ?_)
    case c1 => exact H5.out
    case c2 =>
      intro u hu
      obtain ⟨f, _, hf⟩ := List.mem_flatMap.mp hu
      exact file_one f u hf
    case c3 => omega
    case c4 => simp
    intro v' w3 hown3 hg3
    have HB3 := Lib.hid (grown_below (k := 3) (below_alloc w (.cells #[] 23)) (World.ownsRow_made w #[] 0 (Nat.le_refl _) (Nat.zero_le _) (by simp)) hg3 (Nat.le_refl _))
    have HO3 := Lib.hid hown3
    clear hown3 hg3
    go_wp2_with fail
    go_ret
    exact ⟨v', rfl, HO3.out, HB3.out⟩
end Go.Proofs.Ytggpodlecljcbaa
