/- The walks of chapter 2: slices.Clone of files. -/
import Derived.Test.YtggpodlecljcbaaWalkG
import Derived.Test.YtggpodlecljcbaaBase2
import Derived.Test.YtggpodlecljcbaaShelfClone
namespace Go.Proofs.Ytggpodlecljcbaa
set_option linter.unusedSimpArgs false
set_option linter.unusedVariables false
open Go.RowKit Go.Sort

theorem I_files : ElemInfo Try.prog 32 23 3 40 := elemInfo_of (z := .agg #[.string ⟨#[]⟩, .string ⟨#[]⟩, .int .i64 0]) Try.underlying32 (by kernel_rfl) rfl (by decide) (by decide)
theorem three_new {w : World} {a b c : Value} {t : TypeId} : ∀ (j : Nat) (x : Value), [a, b, c][j]? = some x → (w.alloc (.cells #[a, b, c] t)).cell? ((⟨w.heap.size, 0, none⟩ : Addr).add j) = some x := by
  intro j x h
  match j, h with
  | 0, h => simp at h; subst h; rw [Addr.add_lit]; simp
  | 1, h => simp at h; subst h; rw [Addr.add_lit]; simp
  | 2, h => simp at h; subst h; rw [Addr.add_lit]; simp
  | j + 3, h => simp at h
theorem file_one (f : File) : ∀ u ∈ f.cells, u.oneCell' = true := by
  intro u hu
  simp [File.cells] at hu
  rcases hu with rfl | rfl | rfl <;> rfl
/-- A slice that lies in a block from B on, or nowhere. -/
def Fresh (B : Nat) (v : Value) : Prop := ∀ b, v.ownBlock = some b → B ≤ b
theorem fresh_nil (B : Nat) : Fresh B (.slice none 0 0) := fun _ h => by cases h
theorem Fresh.mono {B B' : Nat} {v : Value} (h : Fresh B v) (hb : B' ≤ B) : Fresh B' v := fun b hv => Nat.le_trans hb (h b hv)
theorem fresh_own {w : World} {base e k n : Nat} {v : Value} {xs : List Value} (h : w.ownsRow base e k v n xs) : Fresh base v := fun b hb => (h.lt b hb).1
def RetFilesF (p : List File × Nat) (w : World) (e : Ending) (w' : World) : Prop := ∃ v, e = .returned (.tuple #[v, .int .i64 p.2]) ∧ Files w' v p.1 ∧ Below w.heap.size w w' ∧ Fresh w.heap.size v
def RetFiles (p : List File × Nat) (w : World) (e : Ending) (w' : World) : Prop := ∃ v, e = .returned (.tuple #[v, .int .i64 p.2]) ∧ Files w' v p.1 ∧ Below w.heap.size w w'
def keepTo (l : List File) (name : ByteArray) (k : Nat) : List File := (l.take k).filter (fun f => f.name.toList != name.toList)
/-- B2, dropping. -/
def dropAt (l : List File) (name : ByteArray) : List File × Nat := if (getAt l name).isSome then (l.filter (fun f => f.name.toList != name.toList), 0) else ([], 5)
theorem keep_le (l : List File) (name : ByteArray) (k : Nat) : (keepTo l name k).length ≤ k := Nat.le_trans (List.length_filter_le _ _) (by rw [List.length_take]; omega)
theorem keep_yes (l : List File) (name : ByteArray) (k : Nat) (h : k < l.length) (h2 : (l[k].name.toList == name.toList) = false) : keepTo l name (k + 1) = keepTo l name k ++ [l[k]] := by
  unfold keepTo; rw [List.take_succ_eq_append_getElem h, List.filter_append]; simp [bne, h2]
theorem keep_no (l : List File) (name : ByteArray) (k : Nat) (h : k < l.length) (h2 : (l[k].name.toList == name.toList) = true) : keepTo l name (k + 1) = keepTo l name k := by
  unfold keepTo; rw [List.take_succ_eq_append_getElem h, List.filter_append]; simp [bne, h2]

set_option maxHeartbeats 1000000 in
theorem ref_DropFile_f (va : Value) (l : List File) (name : ByteArray) (w : World) (ha : Files w va l) (hl : l.length ≤ 8) :
    Calls Try.prog 71 #[va, .string name] w (RetFilesF (dropAt l name) w) := by
  have C := ref_GetFile va l name w ha
  obtain ⟨ao, ca, rfl, hca, hca'⟩ := ha.parts
  have HA := Lib.hid ha
  clear ha
  unfold RetFile fileOr File.val at C
  cases hg : getAt l name
  · rw [hg] at C
    replace C := Lib.hid C
    have HD : Hid (dropAt l name = ([], 5)) := by refine Lib.hid ?_; unfold dropAt; rw [hg]; rfl
    clear hg
    go_enter Try.func71, Try.ntmps71
    go_wp2_with fail
    refine C.out.mono ?_
    rintro e w2 ⟨rfl, hb2⟩
    have HB2 := Lib.hid hb2
    clear hb2
    go_wp2_with fail
    have HB3 := Lib.hid (two HB2.out (below_alloc w2 (.cells #[.string noFile.name, .string noFile.text, .int .i64 noFile.times] 23)))
    refine bodyPost_ret (v := .tuple #[.slice none 0 0, .int .i64 5]) (by simp [results, Try.results71, go_sem]) rfl ?_
    exact ⟨.slice none 0 0, by rw [HD.out]; rfl, by rw [HD.out]; exact Rd.nil _, HB3.out, fresh_nil _⟩
  · rename_i f
    rw [hg] at C
    replace C := Lib.hid C
    have HD : Hid (dropAt l name = (keepTo l name l.length, 0)) := by refine Lib.hid ?_; unfold dropAt keepTo; rw [hg, List.take_length]; rfl
    clear hg
    go_enter Try.func71, Try.ntmps71
    go_wp2_with fail
    refine C.out.mono ?_
    rintro e w2 ⟨rfl, hb2⟩
    have HB2 := Lib.hid hb2
    clear hb2
    go_wp2_with fail
    obtain ⟨W2, hW2⟩ : ∃ W2, W2 = w2.alloc (.cells #[.string f.name, .string f.text, .int .i64 f.times] 23) := ⟨_, rfl⟩
    have BW2 := Lib.hid (show Below w.heap.size w W2 by rw [hW2]; exact two HB2.out (below_alloc _ _))
    rw [← hW2]
    clear hW2 HB2
    go_loopw [8, 9] (fun o i wr => ∃ k : Nat, k ≤ l.length ∧ i = .int .i64 k ∧ wr.ownsRow W2.heap.size 23 3 o (keepTo l name k).length ((keepTo l name k).flatMap File.cells) ∧ Below W2.heap.size W2 wr) (fun _ i _ => l.length - (intOf i).toNat)
    case atStart => exact ⟨0, Nat.zero_le _, rfl, World.ownsRow_nil _ _ _ _, Below.refl _ _⟩
    case round =>
      obtain ⟨k, hk, rfl, hown, hbw⟩ := hrel
      have HO := Lib.hid hown
      have HW := Lib.hid hbw
      have HN := Lib.hid (keep_le l name k)
      by_cases hlt : k < l.length
      · obtain ⟨ba, oa, rfl, hlb, x0, x1, x2⟩ := Files.cell (HA.out.below (two BW2.out hbw)) k hlt
        clear hown hbw
        cases hn : (l[k].name.toList == name.toList)
        · have HK := Lib.hid (keep_yes l name k hlt hn)
          have hz2 := HW.out.size
          have hkl := HN.out
          go_wp2_with (at_builtin; refine wpList_app I_files rfl _ _ rfl W2.heap.size _ _ _ rfl (HO.out.alloc _) ⟨wr.heap.size, 0, none⟩ 1 1 [.string l[k].name, .string l[k].text, .int .i64 l[k].times] rfl rfl ?c1 ?c2 ?c3 ?c4 ?_)
          case c1 => exact three_new
          case c2 => exact file_one l[k]
          case c3 => omega
          case c4 => simp; omega
          intro v' w3 hown3 hg3
          have HB3 := Lib.hid (grown_below (HW.out.trans ((below_alloc wr (.cells #[.string l[k].name, .string l[k].text, .int .i64 l[k].times] 23)).mono hz2)) (HO.out.alloc _) hg3 (Nat.le_refl _))
          have HO3 := Lib.hid hown3
          clear hown3 hg3
          go_wp2_with fail
          go_roundw
          case rel =>
            refine ⟨k + 1, by omega, by go_num, ?_, HB3.out⟩
            rw [HK.out, flat_append, List.length_append]
            exact HO3.out
          case measure => simp [intOf]; omega
        · have HK := Lib.hid (keep_no l name k hlt hn)
          go_wp2_with fail
          go_roundw
          case rel => exact ⟨k + 1, by omega, by go_num, by rw [HK.out]; exact HO.out, HW.out⟩
          case measure => simp [intOf]; omega
      · have hkl : k = l.length := by omega
        subst hkl
        clear hown hbw
        go_wp2_with fail
        refine bodyPost_ret (v := .tuple #[u8, .int .i64 0]) (by simp [results, Try.results71, go_sem]) rfl ?_
        exact ⟨u8, by rw [HD.out]; rfl, by rw [HD.out]; exact SL.of_own HO.out, two BW2.out HW.out, (fresh_own HO.out).mono BW2.out.size⟩
theorem ref_DropFile (va : Value) (l : List File) (name : ByteArray) (w : World) (ha : Files w va l) (hl : l.length ≤ 8) :
    Calls Try.prog 71 #[va, .string name] w (RetFiles (dropAt l name) w) :=
  (ref_DropFile_f va l name w ha hl).mono fun _ _ ⟨v, h1, h2, h3, _⟩ => ⟨v, h1, h2, h3⟩
end Go.Proofs.Ytggpodlecljcbaa
