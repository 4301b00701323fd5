/- The walks of chapter 7: slices.Delete of one change, of a row of one's own. -/
import Derived.Test.YtggpodlecljcbabWalkX4
import Derived.Test.YtggpodlecljcbabBase3
import Derived.Test.YtggpodlecljcbabBase
import Derived.Lib.SliceRun
namespace Go.Proofs.Ytggpodlecljcbab
set_option linter.unusedSimpArgs false
set_option linter.unusedVariables false
open Go.RowKit Go.Sort
/-- A block of cells, never frozen. -/
def Blk (w : World) (g e n : Nat) : Prop := ∃ c : Array Value, w.heap[g]? = some (.cells c e (0, 0)) ∧ c.size = n
theorem Blk.drew {w : World} {g e n : Nat} (h : Blk w g e n) : Blk w.drew g e n := h
theorem Blk.sets {g e n : Nat} : ∀ (vs : List Value) (o : Nat) {w : World}, Blk w g e n → Blk (w.setCells g o vs) g e n
  | [], _, _, h => h
  | v :: r, o, w, h => by
    rw [World.setCells]
    refine Blk.sets r (o + 1) ?_
    obtain ⟨c, h1, h2⟩ := h
    exact ⟨_, heap_set_self w g o v h1, by rw [Array.size_setIfInBounds]; exact h2⟩
theorem Blk.of_own {w : World} {base e k g n cap : Nat} {xs : List Value} (h : w.ownsRow base e k (.slice (some ⟨g, 0, none⟩) n cap) n xs) : Blk w g e (cap * k) := by
  obtain ⟨_, h⟩ := h
  rcases h with ⟨h, _⟩ | ⟨g', cap', cur, h, hb, hg, h1, h2, h3, h4⟩
  · simp only [Value.slice.injEq] at h; cases h.1
  · simp only [Value.slice.injEq, Option.some.injEq, Addr.mk.injEq, and_true, true_and] at h
    obtain ⟨rfl, rfl⟩ := h
    exact ⟨cur, hg, h3⟩
theorem own_retell {W : World} {base e k g m n cap : Nat} {ys : List Value} (hB : Blk W g e (cap * k)) (hb : base ≤ g) (hm : m = n) (hn : n ≤ cap) (hc : cap ≤ 9223372036854775807) (hl : ys.length = n * k) (hr : ∀ j u, ys[j]? = some u → W.cell? ⟨g, j, none⟩ = some u) :
    W.ownsRow base e k (.slice (some ⟨g, 0, none⟩) m cap) n ys := by
  subst hm
  obtain ⟨c, h1, h2⟩ := hB
  refine ⟨hl, Or.inr ⟨g, cap, c, rfl, hb, h1, hn, hc, h2, ?_⟩⟩
  have hmk : m * k ≤ cap * k := Nat.mul_le_mul_right k hn
  refine List.ext_getElem? fun j => ?_
  rw [List.getElem?_take]
  by_cases hj : j < m * k
  · rw [if_pos hj]
    have hy : ys[j]? = some (ys[j]'(by omega)) := List.getElem?_eq_getElem _
    have h3 := hr j _ hy
    rw [hy, ← h3]
    simp [World.cell?, h1]
  · rw [if_neg hj, List.getElem?_eq_none (by omega)]
theorem zero_change : (Builtin.zeroCells (Value.agg #[.string ⟨#[]⟩, .string ⟨#[]⟩, .bool false]).cells 1).toList = [.string ⟨#[]⟩, .string ⟨#[]⟩, .bool false] := by
  first | kernel_rfl | (simp [Builtin.zeroCells, Value.cells]; done) | (apply List.ext_getElem <;> simp [Builtin.zeroCells])
theorem flat_insertX (l : List Change) (f : Change) (i : Nat) : (l.take i ++ f :: l.drop i).flatMap Change.cells = (l.take i).flatMap Change.cells ++ f.cells ++ (l.drop i).flatMap Change.cells := by
  rw [List.flatMap_append, List.flatMap_cons, List.append_assoc]
theorem flat_splitX (l : List Change) (i : Nat) : l.flatMap Change.cells = (l.take i).flatMap Change.cells ++ (l.drop i).flatMap Change.cells := by
  rw [← List.flatMap_append, List.take_append_drop]
theorem flat_oneX {l : List Change} : ∀ u ∈ l.flatMap Change.cells, u.oneCell' = true := by
  intro u hu
  obtain ⟨f, _, hf⟩ := List.mem_flatMap.mp hu
  exact change_one f u hf
theorem info_sizeX : (Try.prog.info? 75).map (·.size) = some 3 := by
  obtain ⟨i0, z0, e1, e2, e3, e4, _⟩ := I_changes
  rw [e2]; simp [e4]
theorem take_cellsX (l : List Change) (i : Nat) (hi : i ≤ l.length) : ((l.take i).flatMap Change.cells).length = i * 3 := by rw [flat_length (k := 3) (fun _ => rfl), List.length_take, Nat.min_eq_left hi]
theorem drop_cellsX (l : List Change) (i : Nat) : ((l.drop i).flatMap Change.cells).length = (l.length - i) * 3 := by rw [flat_length (k := 3) (fun _ => rfl), List.length_drop]

end Go.Proofs.Ytggpodlecljcbab
