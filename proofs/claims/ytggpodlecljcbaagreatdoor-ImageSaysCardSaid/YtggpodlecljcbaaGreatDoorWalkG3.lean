/- The walks of chapter 2: slices.Clone of files. The walks of chapter 2: putting a file, the reference's way. Plain: dropping and putting, at the place of a name. The walks of chapter 2: slices.Clone on files. -/
import Derived.Test.YtggpodlecljcbaaGreatDoorWalkG
import Derived.Test.YtggpodlecljcbaaGreatDoorBase2
import Derived.Test.YtggpodlecljcbaaGreatDoorShelfClone
namespace Go.Proofs.YtggpodlecljcbaaGreatDoor
set_option linter.unusedSimpArgs false
set_option linter.unusedVariables false
open Go.RowKit Go.Sort

theorem I_files : ElemInfo Tryz.prog 22 48 3 40 := elemInfo_of (z := .agg #[.string ⟨#[]⟩, .string ⟨#[]⟩, .int .i64 0]) Tryz.underlying22 (by kernel_rfl) rfl (by decide) (by decide)
theorem three_new {w : World} {a b c : Value} {t : TypeId} : ∀ (j : Nat) (x : Value), [a, b, c][j]? = some x → (w.alloc (.cells #[a, b, c] t)).cell? ((⟨w.heap.size, 0, none⟩ : Addr).add j) = some x := by
  intro j x h
  match j, h with
  | 0, h => simp at h; subst h; rw [Addr.add_lit]; simp
  | 1, h => simp at h; subst h; rw [Addr.add_lit]; simp
  | 2, h => simp at h; subst h; rw [Addr.add_lit]; simp
  | j + 3, h => simp at h
theorem file_one (f : File) : ∀ u ∈ f.cells, u.oneCell' = true := by
  intro u hu
  simp [File.cells] at hu
  rcases hu with rfl | rfl | rfl <;> rfl
/-- A slice that lies in a block from B on, or nowhere. -/
def Fresh (B : Nat) (v : Value) : Prop := ∀ b, v.ownBlock = some b → B ≤ b
theorem fresh_nil (B : Nat) : Fresh B (.slice none 0 0) := fun _ h => by cases h
theorem Fresh.mono {B B' : Nat} {v : Value} (h : Fresh B v) (hb : B' ≤ B) : Fresh B' v := fun b hv => Nat.le_trans hb (h b hv)
theorem fresh_own {w : World} {base e k n : Nat} {v : Value} {xs : List Value} (h : w.ownsRow base e k v n xs) : Fresh base v := fun b hb => (h.lt b hb).1
def RetFilesF (p : List File × Nat) (w : World) (e : Ending) (w' : World) : Prop := ∃ v, e = .returned (.tuple #[v, .int .i64 p.2]) ∧ Files w' v p.1 ∧ Below w.heap.size w w' ∧ Fresh w.heap.size v
def RetFiles (p : List File × Nat) (w : World) (e : Ending) (w' : World) : Prop := ∃ v, e = .returned (.tuple #[v, .int .i64 p.2]) ∧ Files w' v p.1 ∧ Below w.heap.size w w'
def keepTo (l : List File) (name : ByteArray) (k : Nat) : List File := (l.take k).filter (fun f => f.name.toList != name.toList)
/-- B2, dropping. -/
def dropAt (l : List File) (name : ByteArray) : List File × Nat := if (getAt l name).isSome then (l.filter (fun f => f.name.toList != name.toList), 0) else ([], 5)
theorem keep_le (l : List File) (name : ByteArray) (k : Nat) : (keepTo l name k).length ≤ k := Nat.le_trans (List.length_filter_le _ _) (by rw [List.length_take]; omega)
theorem keep_yes (l : List File) (name : ByteArray) (k : Nat) (h : k < l.length) (h2 : (l[k].name.toList == name.toList) = false) : keepTo l name (k + 1) = keepTo l name k ++ [l[k]] := by
  unfold keepTo; rw [List.take_succ_eq_append_getElem h, List.filter_append]; simp [bne, h2]
theorem keep_no (l : List File) (name : ByteArray) (k : Nat) (h : k < l.length) (h2 : (l[k].name.toList == name.toList) = true) : keepTo l name (k + 1) = keepTo l name k := by
  unfold keepTo; rw [List.take_succ_eq_append_getElem h, List.filter_append]; simp [bne, h2]

end Go.Proofs.YtggpodlecljcbaaGreatDoor
namespace Go.Proofs.YtggpodlecljcbaaGreatDoor
set_option linter.unusedSimpArgs false
set_option linter.unusedVariables false
open Go.RowKit Go.Sort

/-- B2, putting: one step, and the steps. -/
def putStep (f : File) (p : List File × Bool) (g : File) : List File × Bool :=
  let q := if p.2 = false ∧ bLe f.name g.name = true then (p.1 ++ [f], true) else p
  if (g.name.toList == f.name.toList) = true then q else (q.1 ++ [g], q.2)
def putTo (l : List File) (f : File) (k : Nat) : List File × Bool := (l.take k).foldl (putStep f) ([], false)
theorem putTo_succ (l : List File) (f : File) (k : Nat) (h : k < l.length) : putTo l f (k + 1) = putStep f (putTo l f k) l[k] := by
  unfold putTo; rw [List.take_succ_eq_append_getElem h, List.foldl_append]; rfl
theorem putStep_len (f : File) (p : List File × Bool) (g : File) : (putStep f p g).1.length ≤ p.1.length + 2 := by
  unfold putStep
  dsimp only
  split <;> split <;> simp <;> omega
theorem putTo_len (l : List File) (f : File) : ∀ k, k ≤ l.length → (putTo l f k).1.length ≤ 2 * k
  | 0, _ => by simp [putTo]
  | k + 1, h => by
    have := putTo_len l f k (by omega)
    have := putStep_len f (putTo l f k) l[k]
    rw [putTo_succ l f k (by omega)]; omega
def putAll (l : List File) (f : File) : List File := if (putTo l f l.length).2 = false then (putTo l f l.length).1 ++ [f] else (putTo l f l.length).1
def putAt (l : List File) (f : File) : List File × Nat := if fileFault f ≠ 0 then ([], fileFault f) else if (getAt l f.name).isSome = false ∧ 8 ≤ l.length then ([], 7) else (putAll l f, 0)

end Go.Proofs.YtggpodlecljcbaaGreatDoor
namespace Go.Proofs.YtggpodlecljcbaaGreatDoor
set_option linter.unusedSimpArgs false
set_option linter.unusedVariables false
open Go.RowKit Go.Sort
theorem neq_of_gt {a b : ByteArray} (h : bLt b a = true) : (a.toList == b.toList) = false := by
  cases e : (a.toList == b.toList)
  · rfl
  · have : a.toList = b.toList := by simpa using e
    unfold bLt at h
    rw [this, less_irrefl] at h; cases h
theorem same_name_lt {a b c : ByteArray} (h : (a.toList == b.toList) = true) (h2 : bLt a c = true) : bLt b c = true := by
  have : a.toList = b.toList := by simpa using h
  unfold bLt at h2 ⊢; rwa [← this]
theorem drop_rises (l : List File) (name : ByteArray) (hr : Rises l) (r : Nat) (hk : r = rank l name) (h : isAt l name r = true) : l.filter (fun f => f.name.toList != name.toList) = l.take r ++ l.drop (r + 1) := by
  have hl := isAt_len h
  have e : l = l.take r ++ l[r] :: l.drop (r + 1) := by rw [← List.drop_eq_getElem_cons hl, List.take_append_drop]
  rw [isAt_lt l name r hl] at h
  have h1 : (l.take r).filter (fun f => f.name.toList != name.toList) = l.take r := by
    rw [List.filter_eq_self]
    intro x hx
    obtain ⟨t, ht, rfl⟩ := List.getElem_of_mem hx
    rw [List.getElem_take]
    rw [List.length_take] at ht
    have := not_eq_of_lt (rank_before name l t (by omega) (by omega))
    simp only [bne, this, Bool.not_false]
  have h2 : (l.drop (r + 1)).filter (fun f => f.name.toList != name.toList) = l.drop (r + 1) := by
    rw [List.filter_eq_self]
    intro x hx
    obtain ⟨t, ht, rfl⟩ := List.getElem_of_mem hx
    rw [List.getElem_drop]
    rw [List.length_drop] at ht
    have := neq_of_gt (same_name_lt h (hr.at r (r + 1 + t) (by omega) (by omega)))
    simp only [bne, this, Bool.not_false]
  calc l.filter (fun f => f.name.toList != name.toList) = (l.take r ++ l[r] :: l.drop (r + 1)).filter (fun f => f.name.toList != name.toList) := by rw [← e]
    _ = _ := by rw [List.filter_append, h1, List.filter_cons, h2]; simp [bne, h]
theorem not_le_of_lt {a b : ByteArray} (h : bLt b a = true) : bLe a b = false := by
  cases e : bLe a b
  · rfl
  · unfold bLe at e
    rw [Bool.or_eq_true] at e
    rcases e with e | e
    · have h3 : bLt a a = true := bLt_trans (show bLt a b = true from e) h
      rw [bLt_irrefl] at h3; cases h3
    · rw [neq_of_gt h] at e; cases e
theorem put_before (l : List File) (f : File) : ∀ k, k ≤ rank l f.name → k ≤ l.length → putTo l f k = (l.take k, false)
  | 0, _, _ => by simp [putTo]
  | k + 1, h, hl => by
    have hb := rank_before f.name l k (by omega) (by omega)
    rw [putTo_succ l f k (by omega), put_before l f k (by omega) (by omega), putStep]
    dsimp only
    rw [if_neg (by rw [not_eq_of_lt hb]; simp), if_neg (by rw [not_le_of_lt hb]; simp), List.take_succ_eq_append_getElem (show k < l.length by omega)]
theorem put_step_gt (l : List File) (f : File) (k : Nat) (h : k < l.length) (R : List File) (hp : putTo l f k = (R, true)) (hn : (l[k].name.toList == f.name.toList) = false) : putTo l f (k + 1) = (R ++ [l[k]], true) := by
  rw [putTo_succ l f k h, hp, putStep]; simp [hn]
theorem put_after (l : List File) (f : File) (r : Nat) (R : List File) (hp : putTo l f (r + 1) = (R, true)) (hn : ∀ t, (ht : t < l.length) → r < t → (l[t].name.toList == f.name.toList) = false) : ∀ k, r + 1 + k ≤ l.length → putTo l f (r + 1 + k) = (R ++ (l.drop (r + 1)).take k, true)
  | 0, _ => by simp [hp]
  | k + 1, h => by
    have h0 := put_after l f r R hp hn k (by omega)
    have hk : k < (l.drop (r + 1)).length := by rw [List.length_drop]; omega
    have := put_step_gt l f (r + 1 + k) (by omega) _ h0 (hn _ (by omega) (by omega))
    rw [show r + 1 + (k + 1) = r + 1 + k + 1 by omega, this, List.take_succ_eq_append_getElem hk, List.getElem_drop, List.append_assoc]
theorem put_rises (l : List File) (f : File) (hr : Rises l) (r : Nat) (hk : r = rank l f.name) : putAll l f = l.take r ++ f :: l.drop (if isAt l f.name r then r + 1 else r) := by
  have hrl : r ≤ l.length := by rw [hk]; exact rank_le _ _
  have h0 := put_before l f r (by omega) hrl
  by_cases hl : r < l.length
  · have hge := by have := rank_at f.name l (by rw [← hk]; exact hl); simpa [← hk] using this
    have hgt : ∀ t, (ht : t < l.length) → r < t → (l[t].name.toList == f.name.toList) = false := by
      intro t ht hrt
      have h1 := hr.at r t hrt ht
      cases e : (l[t].name.toList == f.name.toList)
      · rfl
      · have h2 : bLt l[r].name f.name = true := by
          have : l[t].name.toList = f.name.toList := by simpa using e
          unfold bLt at h1 ⊢; rwa [← this]
        rw [hge] at h2; cases h2
    have hle : bLe f.name l[r].name = true := by
      cases e : bLe f.name l[r].name
      · have := bLt_of_not_le e
        rw [hge] at this; cases this
      · rfl
    cases hi : isAt l f.name r
    · have hn := hi
      rw [isAt_lt l f.name r hl] at hn
      have h1 : putTo l f (r + 1) = (l.take r ++ [f] ++ [l[r]], true) := by
        rw [putTo_succ l f r hl, h0, putStep]
        dsimp only
        rw [if_neg (by rw [hn]; simp), if_pos ⟨rfl, hle⟩]
      have h2 := put_after l f r _ h1 hgt (l.length - (r + 1)) (by omega)
      rw [show r + 1 + (l.length - (r + 1)) = l.length by omega] at h2
      unfold putAll
      rw [h2, if_neg (by simp), List.take_of_length_le (l := l.drop (r + 1)) (by rw [List.length_drop]; omega), if_neg (by simp), List.drop_eq_getElem_cons hl]
      simp
    · have hn := hi
      rw [isAt_lt l f.name r hl] at hn
      have h1 : putTo l f (r + 1) = (l.take r ++ [f], true) := by
        rw [putTo_succ l f r hl, h0, putStep]
        dsimp only
        rw [if_pos hn, if_pos ⟨rfl, hle⟩]
      have h2 := put_after l f r _ h1 hgt (l.length - (r + 1)) (by omega)
      rw [show r + 1 + (l.length - (r + 1)) = l.length by omega] at h2
      unfold putAll
      rw [h2, if_neg (by simp), List.take_of_length_le (l := l.drop (r + 1)) (by rw [List.length_drop]; omega), if_pos rfl]
      simp
  · have e : r = l.length := by omega
    rw [isAt_ge l f.name r hl, if_neg (by simp), List.drop_of_length_le (by omega)]
    unfold putAll
    rw [← e, h0, if_pos rfl]
end Go.Proofs.YtggpodlecljcbaaGreatDoor
namespace Go.Proofs.YtggpodlecljcbaaGreatDoor
set_option linter.unusedSimpArgs false
set_option linter.unusedVariables false
open Go.RowKit Go.Sort
end Go.Proofs.YtggpodlecljcbaaGreatDoor
