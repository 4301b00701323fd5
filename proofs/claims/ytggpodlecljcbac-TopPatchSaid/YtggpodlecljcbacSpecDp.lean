/- Plain: chapter 4: patching. -/
import Derived.Test.YtggpodlecljcbacSpecT
namespace Go.Proofs.Ytggpodlecljcbac
set_option linter.unusedSimpArgs false
set_option linter.unusedVariables false
theorem fine_files {l : List File} (h : Fine l) : ∀ f ∈ l, f.ok := fun f hf => by
  obtain ⟨h1, h2, _, _⟩ := file_good (h.each f hf)
  have h3 := name_good h1
  refine ⟨?_, ?_⟩ <;> unfold maxLen
  · have : f.name.size = f.name.data.toList.length := by rw [Array.length_toList]; rfl
    omega
  · omega
def dropStep (l : List File) (n : ByteArray) : List File := if (getAt l n).isSome = true then (dropAt l n).1 else l
def dropsTo (l : List File) (names : List ByteArray) (k : Nat) : List File := (names.take k).foldl dropStep l
theorem dropsTo_zero (l : List File) (names : List ByteArray) : dropsTo l names 0 = l := rfl
theorem dropsTo_next (l : List File) (names : List ByteArray) (k : Nat) (h : k < names.length) : dropsTo l names (k + 1) = dropStep (dropsTo l names k) names[k] := by
  unfold dropsTo; rw [List.take_succ_eq_append_getElem h, List.foldl_append]; rfl
theorem dropStep_fine {l : List File} (h : Fine l) (n : ByteArray) : Fine (dropStep l n) := by
  unfold dropStep; split
  · exact drop_fine h n
  · exact h
theorem dropsTo_fine {l : List File} (h : Fine l) (names : List ByteArray) : ∀ k, k ≤ names.length → Fine (dropsTo l names k)
  | 0, _ => h
  | k + 1, hk => by rw [dropsTo_next l names k (by omega)]; exact dropStep_fine (dropsTo_fine h names k (by omega)) _
theorem dropAt_two (l : List File) (n : ByteArray) : (dropAt l n).2 = if (getAt l n).isSome = true then 0 else 5 := by
  unfold dropAt; split <;> rfl
def putsFrom (b : List File) : List File → List ByteArray → List File × Nat
  | l, [] => (l, 0)
  | l, n :: r => match getAt b n with
    | none => putsFrom b l r
    | some f => if (putAt l f).2 = 0 then putsFrom b (putAt l f).1 r else ([], (putAt l f).2)
theorem puts_none {b l : List File} {names : List ByteArray} {k : Nat} (h : k < names.length) (hg : getAt b names[k] = none) : putsFrom b l (names.drop k) = putsFrom b l (names.drop (k + 1)) := by
  rw [List.drop_eq_getElem_cons h, putsFrom, hg]
theorem puts_some {b l : List File} {names : List ByteArray} {k : Nat} (h : k < names.length) {f : File} (hg : getAt b names[k] = some f) (h0 : (putAt l f).2 = 0) : putsFrom b l (names.drop k) = putsFrom b (putAt l f).1 (names.drop (k + 1)) := by
  rw [List.drop_eq_getElem_cons h, putsFrom, hg]; simp only [h0, if_true]
theorem puts_bad {b l : List File} {names : List ByteArray} {k : Nat} (h : k < names.length) {f : File} (hg : getAt b names[k] = some f) (h0 : (putAt l f).2 ≠ 0) : putsFrom b l (names.drop k) = ([], (putAt l f).2) := by
  rw [List.drop_eq_getElem_cons h, putsFrom, hg]; simp only [h0, if_false]
theorem puts_end {b l : List File} {names : List ByteArray} {k : Nat} (h : ¬ k < names.length) : putsFrom b l (names.drop k) = (l, 0) := by
  rw [List.drop_of_length_le (by omega), putsFrom]
/-- D2. -/
def patchedQ (a b : Quilt) (names : List ByteArray) : Quilt × Nat :=
  if (putsFrom b.files (dropsTo a.files names names.length) names).2 = 0 then (⟨(putsFrom b.files (dropsTo a.files names names.length) names).1, b.turn⟩, 0) else (noQuilt, (putsFrom b.files (dropsTo a.files names names.length) names).2)
end Go.Proofs.Ytggpodlecljcbac
