/- The walks of chapter 7: slices.Delete of one change, of a row of one's own. -/
import Derived.Test.YtggpodlecljcbaaWalkX4
import Derived.Test.YtggpodlecljcbaaBase3
import Derived.Test.YtggpodlecljcbaaBase
import Derived.Lib.SliceRun
namespace Go.Proofs.Ytggpodlecljcbaa
set_option linter.unusedSimpArgs false
set_option linter.unusedVariables false
open Go.RowKit Go.Sort
/-- A block of cells, never frozen. -/
def Blk (w : World) (g e n : Nat) : Prop := ∃ c : Array Value, w.heap[g]? = some (.cells c e (0, 0)) ∧ c.size = n
theorem Blk.drew {w : World} {g e n : Nat} (h : Blk w g e n) : Blk w.drew g e n := h
theorem Blk.sets {g e n : Nat} : ∀ (vs : List Value) (o : Nat) {w : World}, Blk w g e n → Blk (w.setCells g o vs) g e n
  | [], _, _, h => h
  | v :: r, o, w, h => by
    rw [World.setCells]
    refine Blk.sets r (o + 1) ?_
    obtain ⟨c, h1, h2⟩ := h
    exact ⟨_, heap_set_self w g o v h1, by rw [Array.size_setIfInBounds]; exact h2⟩
theorem Blk.of_own {w : World} {base e k g n cap : Nat} {xs : List Value} (h : w.ownsRow base e k (.slice (some ⟨g, 0, none⟩) n cap) n xs) : Blk w g e (cap * k) := by
  obtain ⟨_, h⟩ := h
  rcases h with ⟨h, _⟩ | ⟨g', cap', cur, h, hb, hg, h1, h2, h3, h4⟩
  · simp only [Value.slice.injEq] at h; cases h.1
  · simp only [Value.slice.injEq, Option.some.injEq, Addr.mk.injEq, and_true, true_and] at h
    obtain ⟨rfl, rfl⟩ := h
    exact ⟨cur, hg, h3⟩
theorem own_retell {W : World} {base e k g m n cap : Nat} {ys : List Value} (hB : Blk W g e (cap * k)) (hb : base ≤ g) (hm : m = n) (hn : n ≤ cap) (hc : cap ≤ 9223372036854775807) (hl : ys.length = n * k) (hr : ∀ j u, ys[j]? = some u → W.cell? ⟨g, j, none⟩ = some u) :
    W.ownsRow base e k (.slice (some ⟨g, 0, none⟩) m cap) n ys := by
  subst hm
  obtain ⟨c, h1, h2⟩ := hB
  refine ⟨hl, Or.inr ⟨g, cap, c, rfl, hb, h1, hn, hc, h2, ?_⟩⟩
  have hmk : m * k ≤ cap * k := Nat.mul_le_mul_right k hn
  refine List.ext_getElem? fun j => ?_
  rw [List.getElem?_take]
  by_cases hj : j < m * k
  · rw [if_pos hj]
    have hy : ys[j]? = some (ys[j]'(by omega)) := List.getElem?_eq_getElem _
    have h3 := hr j _ hy
    rw [hy, ← h3]
    simp [World.cell?, h1]
  · rw [if_neg hj, List.getElem?_eq_none (by omega)]
theorem zero_change : (Builtin.zeroCells (Value.agg #[.string ⟨#[]⟩, .string ⟨#[]⟩, .bool false]).cells 1).toList = [.string ⟨#[]⟩, .string ⟨#[]⟩, .bool false] := by
  first | kernel_rfl | (simp [Builtin.zeroCells, Value.cells]; done) | (apply List.ext_getElem <;> simp [Builtin.zeroCells])
theorem flat_insertX (l : List Change) (f : Change) (i : Nat) : (l.take i ++ f :: l.drop i).flatMap Change.cells = (l.take i).flatMap Change.cells ++ f.cells ++ (l.drop i).flatMap Change.cells := by
  rw [List.flatMap_append, List.flatMap_cons, List.append_assoc]
theorem flat_splitX (l : List Change) (i : Nat) : l.flatMap Change.cells = (l.take i).flatMap Change.cells ++ (l.drop i).flatMap Change.cells := by
  rw [← List.flatMap_append, List.take_append_drop]
theorem flat_oneX {l : List Change} : ∀ u ∈ l.flatMap Change.cells, u.oneCell' = true := by
  intro u hu
  obtain ⟨f, _, hf⟩ := List.mem_flatMap.mp hu
  exact change_one f u hf
theorem info_sizeX : (Try.prog.info? 78).map (·.size) = some 3 := by
  obtain ⟨i0, z0, e1, e2, e3, e4, _⟩ := I_changes
  rw [e2]; simp [e4]
theorem take_cellsX (l : List Change) (i : Nat) (hi : i ≤ l.length) : ((l.take i).flatMap Change.cells).length = i * 3 := by rw [flat_length (k := 3) (fun _ => rfl), List.length_take, Nat.min_eq_left hi]
theorem drop_cellsX (l : List Change) (i : Nat) : ((l.drop i).flatMap Change.cells).length = (l.length - i) * 3 := by rw [flat_length (k := 3) (fun _ => rfl), List.length_drop]

set_option maxRecDepth 100000 in
set_option maxHeartbeats 1000000 in
theorem changes_Delete (base : Nat) (v : Value) (l : List Change) (i : Nat) (w : World) (ho : w.ownsRow base 78 3 v l.length (l.flatMap Change.cells)) (hi : i < l.length) (hl : l.length ≤ 1000) :
    Calls Try.prog 109 #[v, .int .i64 i, .int .i64 ((i : Int) + 1)] w fun e w' => ∃ v', e = .returned v' ∧ w'.ownsRow base 78 3 v' (l.take i ++ l.drop (i + 1)).length ((l.take i ++ l.drop (i + 1)).flatMap Change.cells) ∧ Below base w w' := by
  obtain ⟨g, cap, rfl⟩ : ∃ g cap, v = .slice (some ⟨g, 0, none⟩) l.length cap := by
    rcases ho.2 with ⟨_, h⟩ | ⟨g, cap, _, h, _⟩
    · omega
    · exact ⟨g, cap, h⟩
  obtain ⟨hb, hgw, hnc, hc63, hlen, hcell, hsome, hfro, _⟩ := own_cells ho
  have hic : i ≤ cap := by omega
  have hjc : i + 1 ≤ cap := by omega
  have HC := Lib.hid hcell
  have HS := Lib.hid hsome
  have HF := Lib.hid hfro
  have HO := Lib.hid ho
  clear hcell hsome hfro ho hlen
  obtain ⟨news, hnews⟩ : ∃ news, news = (l.drop (i + 1)).flatMap Change.cells := ⟨_, rfl⟩
  have hnl : news.length = (l.length - (i + 1)) * 3 := by rw [hnews, flat_length (k := 3) (fun _ => rfl), List.length_drop]
  obtain ⟨A, hA, hsrc⟩ : ∃ A : Addr, (if cap = i + 1 then (some (⟨g, 0, none⟩ : Addr)) else some ⟨g, (i + 1) * 3, none⟩) = some A ∧ Hid (∀ t u, news[t]? = some u → w.drew.cell? (A.add t) = some u) := by
    by_cases h : cap = i + 1
    · refine ⟨⟨g, 0, none⟩, by simp [h], Lib.hid fun t u hu => ?_⟩
      have h0 : news.length = 0 := by rw [hnl]; omega
      rw [List.length_eq_zero_iff.1 h0] at hu
      simp at hu
    · refine ⟨⟨g, (i + 1) * 3, none⟩, by simp [h], Lib.hid fun t u hu => ?_⟩
      rw [Addr.add_lit]
      refine HC.out ((i + 1) * 3 + t) u ?_
      rw [hnews] at hu
      have e : l.flatMap Change.cells = (l.take (i + 1)).flatMap Change.cells ++ (l.drop (i + 1)).flatMap Change.cells := by rw [← List.flatMap_append, List.take_append_drop]
      have e2 : ((l.take (i + 1)).flatMap Change.cells).length = (i + 1) * 3 := by rw [flat_length (k := 3) (fun _ => rfl), List.length_take]; congr 1; omega
      rw [e, List.getElem?_append_right (by omega), e2, show (i + 1) * 3 + t - (i + 1) * 3 = t by omega]
      exact hu
  have s2 : Hid (∀ u ∈ news, u.oneCell' = true) := by
    refine Lib.hid fun u hu => ?_
    rw [hnews] at hu
    obtain ⟨f, _, hf⟩ := List.mem_flatMap.mp hu
    exact change_one f u hf
  have s3 : Hid (∀ t, t < news.length → (w.drew.cell? ⟨g, 0 + i * 3 + t, none⟩).isSome = true ∧ w.drew.frozen? ⟨g, 0 + i * 3 + t, none⟩ = false) := Lib.hid fun t ht => ⟨HS.out _ (by rw [hnl] at ht; omega), HF.out _⟩
  obtain ⟨W1, hW1⟩ : ∃ W1, W1 = w.drew.setCells g (0 + i * 3) news := ⟨_, rfl⟩
  have s1 := Lib.hid hnl
  have hW := Lib.hid hW1
  have HN := Lib.hid hnews
  clear hnl hnews hW1
  have S1 : Hid (∀ j, j < cap * 3 → (W1.cell? ⟨g, j, none⟩).isSome = true) := Lib.hid fun j hj => by rw [hW.out]; exact isSome_setCells g news _ _ (fun t ht => (s3.out t ht).1) j (HS.out j hj)
  have F1 : Hid (∀ j, W1.frozen? ⟨g, j, none⟩ = false) := Lib.hid fun j => by rw [hW.out, World.frozen?_setCells]; exact HF.out j
  obtain ⟨W2, hW2⟩ : ∃ W2, W2 = W1.setCells g ((i + (l.length - (i + 1))) * 3) [.string ⟨#[]⟩, .string ⟨#[]⟩, .bool false] := ⟨_, rfl⟩
  have hcl : ∀ ty, (Builtin.clear_ #[60] ty #[.slice (some ⟨g, (i + (l.length - (i + 1))) * 3, none⟩) (l.length - (i + (l.length - (i + 1)))) (cap - (i + (l.length - (i + 1))))]).run Try.prog W1 = .ok (.tuple #[]) W2 := by
    intro ty
    rw [hW2, show l.length - (i + (l.length - (i + 1))) = 1 by omega]
    refine run_clear_one W1 _ _ ty _ _ Try.underlying60 Try.zeroValue78 zero_change ?_ g _ _ ?_ ?_
    · intro u hu; simp at hu; rcases hu with rfl | rfl | rfl <;> rfl
    · intro j hj; simp at hj; exact S1.out _ (by omega)
    · intro j hj; exact F1.out _
  have HFIN : Hid (W2.ownsRow base 78 3 (.slice (some ⟨g, 0, none⟩) (i + (l.length - (i + 1))) cap) (l.take i ++ l.drop (i + 1)).length ((l.take i ++ l.drop (i + 1)).flatMap Change.cells) ∧ Below base w W2) := by
    refine Lib.hid ⟨?_, ?_⟩
    · refine own_retell (by rw [hW2, hW.out]; exact ((Blk.of_own HO.out).drew.sets _ _).sets _ _) hb (by simp; omega) (by simp; omega) hc63 (flat_length (k := 3) (fun _ => rfl) _) ?_
      rw [List.flatMap_append, ← HN.out, hW2]
      have hnl := s1.out
      intro j u hj
      have hj' := (List.getElem?_eq_some_iff.1 hj).1
      rw [List.length_append, take_cellsX l i (by omega), hnl] at hj'
      rw [cells_out _ _ _ (Or.inl (by omega)), hW.out]
      revert j u hj hj'
      have R := two_read (W := w.drew.setCells g (0 + i * 3) news) (g := g) ((l.take i).flatMap Change.cells) news ?_ ?_
      · intro j u hj _; exact R j u hj
      · intro j u hj
        have hj' := (List.getElem?_eq_some_iff.1 hj).1
        rw [take_cellsX l i (by omega)] at hj'
        rw [cells_out _ _ _ (Or.inl (by omega))]
        refine HC.out j u ?_
        rw [flat_splitX l i, List.getElem?_append_left (by rw [take_cellsX l i (by omega)]; omega)]
        exact hj
      · intro j u hj
        rw [take_cellsX l i (by omega), show i * 3 + j = 0 + i * 3 + j by omega]
        exact cells_in _ _ (fun t ht => (s3.out t ht).1) j u hj
    · rw [hW2, hW.out]
      exact below_cells hb _ _ _ (below_cells hb _ _ _ (Below.refl _ _).drew)
  clear hW2
  obtain ⟨i0, z0, e1, e2, e3, e4, e5, e6, e7, e8⟩ := I_changes
  have mixed : Try.prog.follows .mixedOrders = true := by kernel_rfl
  have hbd : 0 ≤ (i : Int) + 1 ∧ (i : Int) + 1 ≤ (l.length : Int) := ⟨by omega, by omega⟩
  have hbd1 : (0 : Int) ≤ (i : Int) + 1 := by omega
  have hbd2 : (i : Int) + 1 ≤ (l.length : Int) := by omega
  go_enter Try.func109, Try.ntmps109
  go_wp2_with fail
  go_region_law_o (refine step_append_room rfl (.tmp 22) (.tmp 25) 60 rfl 78 i0 3 e1 e2 e4 g 0 i cap (by simp [Act.eval, Act.put]) A (l.length - (i + 1)) (cap - (i + 1)) news (by simp [Act.eval, Act.put]) s1.out hsrc.out s2.out (by omega) s3.out ?_; rw [← hW.out])
  go_wp2_with fail
  go_ret
  exact ⟨_, rfl, HFIN.out⟩
end Go.Proofs.Ytggpodlecljcbaa
