/- The walks of chapter 2: slices.Clone of files. -/
import Derived.Test.YtggpodlecljcbabWalkG
import Derived.Test.YtggpodlecljcbabBase2
import Derived.Test.YtggpodlecljcbabShelfClone
namespace Go.Proofs.Ytggpodlecljcbab
set_option linter.unusedSimpArgs false
set_option linter.unusedVariables false
open Go.RowKit Go.Sort

theorem I_files : ElemInfo Try.prog 22 57 3 40 := elemInfo_of (z := .agg #[.string ⟨#[]⟩, .string ⟨#[]⟩, .int .i64 0]) Try.underlying22 (by kernel_rfl) rfl (by decide) (by decide)
theorem three_new {w : World} {a b c : Value} {t : TypeId} : ∀ (j : Nat) (x : Value), [a, b, c][j]? = some x → (w.alloc (.cells #[a, b, c] t)).cell? ((⟨w.heap.size, 0, none⟩ : Addr).add j) = some x := by
  intro j x h
  match j, h with
  | 0, h => simp at h; subst h; rw [Addr.add_lit]; simp
  | 1, h => simp at h; subst h; rw [Addr.add_lit]; simp
  | 2, h => simp at h; subst h; rw [Addr.add_lit]; simp
  | j + 3, h => simp at h
theorem file_one (f : File) : ∀ u ∈ f.cells, u.oneCell' = true := by
  intro u hu
  simp [File.cells] at hu
  rcases hu with rfl | rfl | rfl <;> rfl
/-- A slice that lies in a block from B on, or nowhere. -/
def Fresh (B : Nat) (v : Value) : Prop := ∀ b, v.ownBlock = some b → B ≤ b
theorem fresh_nil (B : Nat) : Fresh B (.slice none 0 0) := fun _ h => by cases h
theorem Fresh.mono {B B' : Nat} {v : Value} (h : Fresh B v) (hb : B' ≤ B) : Fresh B' v := fun b hv => Nat.le_trans hb (h b hv)
theorem fresh_own {w : World} {base e k n : Nat} {v : Value} {xs : List Value} (h : w.ownsRow base e k v n xs) : Fresh base v := fun b hb => (h.lt b hb).1
def RetFilesF (p : List File × Nat) (w : World) (e : Ending) (w' : World) : Prop := ∃ v, e = .returned (.tuple #[v, .int .i64 p.2]) ∧ Files w' v p.1 ∧ Below w.heap.size w w' ∧ Fresh w.heap.size v
def RetFiles (p : List File × Nat) (w : World) (e : Ending) (w' : World) : Prop := ∃ v, e = .returned (.tuple #[v, .int .i64 p.2]) ∧ Files w' v p.1 ∧ Below w.heap.size w w'
def keepTo (l : List File) (name : ByteArray) (k : Nat) : List File := (l.take k).filter (fun f => f.name.toList != name.toList)
/-- B2, dropping. -/
def dropAt (l : List File) (name : ByteArray) : List File × Nat := if (getAt l name).isSome then (l.filter (fun f => f.name.toList != name.toList), 0) else ([], 5)
theorem keep_le (l : List File) (name : ByteArray) (k : Nat) : (keepTo l name k).length ≤ k := Nat.le_trans (List.length_filter_le _ _) (by rw [List.length_take]; omega)
theorem keep_yes (l : List File) (name : ByteArray) (k : Nat) (h : k < l.length) (h2 : (l[k].name.toList == name.toList) = false) : keepTo l name (k + 1) = keepTo l name k ++ [l[k]] := by
  unfold keepTo; rw [List.take_succ_eq_append_getElem h, List.filter_append]; simp [bne, h2]
theorem keep_no (l : List File) (name : ByteArray) (k : Nat) (h : k < l.length) (h2 : (l[k].name.toList == name.toList) = true) : keepTo l name (k + 1) = keepTo l name k := by
  unfold keepTo; rw [List.take_succ_eq_append_getElem h, List.filter_append]; simp [bne, h2]

end Go.Proofs.Ytggpodlecljcbab
