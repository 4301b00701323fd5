/- What grown hands back, by whether its acts are light; small laws for the top statements. -/
import Derived.Test.YtggpodlecljcbacWalkT
namespace Go.Proofs.Ytggpodlecljcbac
open Go.RowKit Go.Sort
set_option linter.unusedSimpArgs false
set_option linter.unusedVariables false
theorem grown_fit {al : List Act} (hl : lightActs al 60 = true) : Good (grownQ al) ∧ (grownQ al).turn ≤ 61 := by
  obtain ⟨h1, h2⟩ := grown_all al
  have h3 : al.length ≤ 60 := by
    unfold lightActs at hl
    simp only [Bool.and_eq_true, decide_eq_true_eq] at hl
    omega
  exact ⟨h1, by omega⟩
theorem get_times {l : List File} (h : Fine l) (n : ByteArray) : 0 ≤ (fileOr (getAt l n)).times ∧ (fileOr (getAt l n)).times ≤ 9999 := by
  cases hg : getAt l n with
  | none => exact ⟨by decide, by decide⟩
  | some f =>
    obtain ⟨hm, _⟩ := h.mem hg
    obtain ⟨_, _, h1, h2⟩ := file_good (h.each f hm)
    exact ⟨by show 0 ≤ f.times; omega, h2⟩
theorem get_text {l : List File} (h : Fine l) (n : ByteArray) : (fileOr (getAt l n)).text.size ≤ 12 := by
  cases hg : getAt l n with
  | none => show (ByteArray.empty).size ≤ 12; decide
  | some f =>
    obtain ⟨hm, _⟩ := h.mem hg
    exact (file_good (h.each f hm)).2.1
theorem get_name {l : List File} {n : ByteArray} {f : File} (hg : getAt l n = some f) : f.name.toList = n.toList := by
  unfold getAt at hg
  simpa using List.find?_some hg
theorem fileOr_name {l : List File} {n : ByteArray} (h : (getAt l n).isSome = true) : (fileOr (getAt l n)).name.toList = n.toList := by
  cases hg : getAt l n with
  | none => rw [hg] at h; cases h
  | some f => exact get_name hg
theorem written_ok {q : Quilt} {n t : ByteArray} (h : Good q) (h0 : (writtenQ q n t).2 = 0) :
    (writtenQ q n t).1 = ⟨putAll q.files ⟨n, t, (fileOr (getAt q.files n)).times + 1⟩, q.turn + 1⟩ ∧ fileFault ⟨n, t, (fileOr (getAt q.files n)).times + 1⟩ = 0 ∧ ¬ ((getAt q.files n).isSome = false ∧ 8 ≤ q.files.length) := by
  unfold writtenQ at h0 ⊢
  obtain ⟨h1, h2, h3⟩ := next_ok h0
  obtain ⟨h4, h5, h6⟩ := put_ok h2
  rw [h1, h4]
  exact ⟨rfl, h5, h6⟩
theorem dropped_ok {q : Quilt} {n : ByteArray} (h : Good q) (h0 : (droppedQ q n).2 = 0) : (droppedQ q n).1 = ⟨dropL q.files n, q.turn + 1⟩ ∧ (getAt q.files n).isSome = true := by
  unfold droppedQ at h0 ⊢
  obtain ⟨h1, h2, h3⟩ := next_ok h0
  cases hi : (getAt q.files n).isSome
  · rw [drop_isnt hi] at h2; cases h2
  · rw [h1, drop_is hi]; exact ⟨rfl, rfl⟩
end Go.Proofs.Ytggpodlecljcbac
