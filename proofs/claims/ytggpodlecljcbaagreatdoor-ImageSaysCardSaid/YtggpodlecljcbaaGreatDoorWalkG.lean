/- The walks of chapter 2: a file by its name. The walks of chapter 2: shelf.Get. -/
import Derived.Test.YtggpodlecljcbaaGreatDoorWalkF
import Derived.Test.YtggpodlecljcbaaGreatDoorShelf
namespace Go.Proofs.YtggpodlecljcbaaGreatDoor
set_option linter.unusedSimpArgs false
set_option linter.unusedVariables false
open Go.RowKit Go.Sort

def noFile : File := ⟨ByteArray.empty, ByteArray.empty, 0⟩
def fileOr (o : Option File) : File := o.getD noFile
def RetFile (o : Option File) (w : World) (e : Ending) (w' : World) : Prop := e = .returned (.tuple #[(fileOr o).val, .bool o.isSome]) ∧ Below w.heap.size w w'
theorem get_at (l : List File) (k : Nat) (h : k < l.length) (name : ByteArray) (h1 : (l.take k).find? (fun f => f.name.toList == name.toList) = none) (h2 : (l[k].name.toList == name.toList) = true) : getAt l name = some l[k] := by
  unfold getAt
  have e : l = l.take k ++ l[k] :: l.drop (k + 1) := by rw [← List.drop_eq_getElem_cons h, List.take_append_drop]
  calc l.find? (fun f => f.name.toList == name.toList) = (l.take k ++ l[k] :: l.drop (k + 1)).find? (fun f => f.name.toList == name.toList) := by rw [← e]
    _ = some l[k] := by rw [List.find?_append, h1, List.find?_cons, h2]; rfl
theorem get_next (l : List File) (k : Nat) (h : k < l.length) (name : ByteArray) (h1 : (l.take k).find? (fun f => f.name.toList == name.toList) = none) (h2 : (l[k].name.toList == name.toList) = false) : (l.take (k + 1)).find? (fun f => f.name.toList == name.toList) = none := by
  rw [List.take_succ_eq_append_getElem h, List.find?_append, h1]
  simp only [List.find?_cons, h2, Option.none_or, List.find?_nil]
theorem get_none (l : List File) (k : Nat) (h : ¬ k < l.length) (name : ByteArray) (h1 : (l.take k).find? (fun f => f.name.toList == name.toList) = none) : getAt l name = none := by
  rwa [List.take_of_length_le (by omega)] at h1

def RetFind (l : List File) (name : ByteArray) (w : World) (e : Ending) (w' : World) : Prop := e = .returned (.tuple #[.int .i64 (rank l name), .bool (isAt l name (rank l name))]) ∧ Below w.heap.size w w'
end Go.Proofs.YtggpodlecljcbaaGreatDoor
namespace Go.Proofs.YtggpodlecljcbaaGreatDoor
set_option linter.unusedSimpArgs false
set_option linter.unusedVariables false
open Go.RowKit Go.Sort

theorem rank_le (l : List File) (name : ByteArray) : rank l name ≤ l.length := List.Sublist.length_le (List.takeWhile_sublist _)
theorem rank_before (name : ByteArray) : ∀ (l : List File) (t : Nat) (h : t < l.length), t < rank l name → bLt l[t].name name = true
  | [], t, h, _ => by simp at h
  | f :: r, t, h, ht => by
    unfold rank at ht
    cases hf : bLt f.name name
    · simp [hf] at ht
    · cases t with
      | zero => exact hf
      | succ t =>
        simp [hf] at ht
        exact rank_before name r t (by simpa using h) (by unfold rank; omega)
theorem rank_at (name : ByteArray) : ∀ (l : List File) (h : rank l name < l.length), bLt l[rank l name].name name = false
  | [], h => by simp at h
  | f :: r, h => by
    cases hf : bLt f.name name
    · have e : rank (f :: r) name = 0 := by simp [rank, hf]
      simp only [e]; exact hf
    · have e : rank (f :: r) name = rank r name + 1 := by simp [rank, hf]
      have := rank_at name r (by rw [e] at h; simpa using h)
      simp only [e]; exact this
theorem not_eq_of_lt {a b : ByteArray} (h : bLt a b = true) : (a.toList == b.toList) = false := by
  cases e : (a.toList == b.toList)
  · rfl
  · have : a.toList = b.toList := by simpa using e
    unfold bLt at h
    rw [this, less_irrefl] at h; cases h
theorem take_rank_none (l : List File) (name : ByteArray) (k : Nat) (hk : k ≤ rank l name) : (l.take k).find? (fun f => f.name.toList == name.toList) = none := by
  rw [List.find?_eq_none]
  intro x hx
  obtain ⟨t, ht, rfl⟩ := List.getElem_of_mem hx
  rw [List.getElem_take]
  rw [List.length_take] at ht
  simp only [not_eq_of_lt (rank_before name l t (by omega) (by omega)), Bool.false_eq_true, not_false_eq_true]
theorem get_some (l : List File) (name : ByteArray) (h : rank l name < l.length) (h2 : isAt l name (rank l name) = true) : getAt l name = some l[rank l name] := by
  rw [isAt_lt l name _ h] at h2
  exact get_at l _ h name (take_rank_none l name _ (Nat.le_refl _)) h2
theorem isAt_len {l : List File} {name : ByteArray} {i : Nat} (h : isAt l name i = true) : i < l.length := by
  by_cases hh : i < l.length
  · exact hh
  · rw [isAt_ge l name i hh] at h; cases h
theorem get_noneR (l : List File) (name : ByteArray) (hr : Rises l) (h2 : isAt l name (rank l name) = false) : getAt l name = none := by
  unfold getAt
  rw [List.find?_eq_none]
  intro x hx
  obtain ⟨t, ht, rfl⟩ := List.getElem_of_mem hx
  by_cases h : t < rank l name
  · simp only [not_eq_of_lt (rank_before name l t ht h), Bool.false_eq_true, not_false_eq_true]
  · have hrk : rank l name < l.length := by omega
    have hge := rank_at name l hrk
    rw [isAt_lt l name _ hrk] at h2
    by_cases e : t = rank l name
    · subst e; simp [h2]
    · have := hr.at (rank l name) t (by omega) ht
      intro he
      have he' : l[t].name.toList = name.toList := by simpa using he
      have h3 : bLt l[rank l name].name name = true := by unfold bLt at this ⊢; rw [← he']; exact this
      rw [h3] at hge; cases hge

end Go.Proofs.YtggpodlecljcbaaGreatDoor
