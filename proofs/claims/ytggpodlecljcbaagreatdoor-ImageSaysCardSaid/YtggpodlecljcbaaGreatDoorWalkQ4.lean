/- The walks of chapter 3: swapping. -/
import Derived.Test.YtggpodlecljcbaaGreatDoorWalkQ3
import Derived.Test.YtggpodlecljcbaaGreatDoorSpecQ2
import Derived.RegionTactic
import Derived.ChangeAlike
import Derived.Deep.RegionHeld3
namespace Go.Proofs.YtggpodlecljcbaaGreatDoor
open Go.RowKit Go.Sort
set_option linter.unusedSimpArgs false
set_option linter.unusedVariables false
theorem own_setCell {w : World} {base e k g n cap : Nat} {xs : List Value} (ho : w.ownsRow base e k (.slice (some ⟨g, 0, none⟩) n cap) n xs) (j : Nat) (hj : j < xs.length) (u : Value) : (w.setCell ⟨g, j, none⟩ u).ownsRow base e k (.slice (some ⟨g, 0, none⟩) n cap) n (xs.set j u) := by
  obtain ⟨hl, h⟩ := ho
  refine ⟨by simpa using hl, ?_⟩
  rcases h with ⟨h, _⟩ | ⟨g', cap', cur, h, hb, hg, h1, h2, h3, h4⟩
  · cases h
  · simp only [Value.slice.injEq, Option.some.injEq, Addr.mk.injEq, and_true, true_and] at h
    obtain ⟨rfl, rfl⟩ := h
    refine Or.inr ⟨g, cap, cur.setIfInBounds j u, rfl, hb, ?_, h1, h2, by simpa using h3, ?_⟩
    · simp [World.setCell, Array.getElem?_modify, hg]
    · rw [← h4]
      have : j < n * k := by omega
      rw [Array.toList_setIfInBounds, List.take_set]
theorem flat_set : ∀ (l : List File) (k : Nat) (hk : k < l.length) (t : ByteArray) (n : Int), ((l.flatMap File.cells).set (k * 3 + 1) (.string t)).set (k * 3 + 2) (.int .i64 n) = (l.set k ⟨l[k].name, t, n⟩).flatMap File.cells
  | f :: r, 0, _, t, n => by simp [File.cells]
  | f :: r, k + 1, hk, t, n => by
    have ih := flat_set r k (by simpa using hk) t n
    simp only [List.flatMap_cons, List.set_cons_succ, List.getElem_cons_succ]
    rw [← ih, List.set_append_right _ _ (by rw [File.cells_len]; omega), List.set_append_right _ _ (by rw [File.cells_len]; omega), File.cells_len, show (k + 1) * 3 + 1 - 3 = k * 3 + 1 by omega, show (k + 1) * 3 + 2 - 3 = k * 3 + 2 by omega]
theorem own_text {w : World} {base g n cap : Nat} {l : List File} (ho : w.ownsRow base 48 3 (.slice (some ⟨g, 0, none⟩) n cap) n (l.flatMap File.cells)) (k : Nat) (hk : k < l.length) (t : ByteArray) (m : Int) :
    ((w.setCell ⟨g, k * 3 + 1, none⟩ (.string t)).setCell ⟨g, k * 3 + 2, none⟩ (.int .i64 m)).ownsRow base 48 3 (.slice (some ⟨g, 0, none⟩) n cap) n ((l.set k ⟨l[k].name, t, m⟩).flatMap File.cells) := by
  have hl : (l.flatMap File.cells).length = l.length * 3 := flat_length (k := 3) (enc := File.cells) (fun _ => rfl) _
  rw [← flat_set l k hk t m]
  exact own_setCell (own_setCell ho _ (by rw [hl]; omega) _) _ (by rw [List.length_set, hl]; omega) _
end Go.Proofs.YtggpodlecljcbaaGreatDoor
