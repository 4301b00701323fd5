/- The walks of chapter 2: slices.Delete of one file, of a row of one's own. -/
import Derived.Test.YtggpodlecljcbabLawG
import Derived.Test.YtggpodlecljcbabBase3
import Derived.Lib.SliceRun
namespace Go.Proofs.Ytggpodlecljcbab
set_option linter.unusedSimpArgs false
set_option linter.unusedVariables false
open Go.RowKit Go.Sort
theorem zero_file : (Builtin.zeroCells (Value.agg #[.string ⟨#[]⟩, .string ⟨#[]⟩, .int .i64 0]).cells 1).toList = [.string ⟨#[]⟩, .string ⟨#[]⟩, .int .i64 0] := by
  first | kernel_rfl | (simp [Builtin.zeroCells, Value.cells]; done) | (apply List.ext_getElem <;> simp [Builtin.zeroCells])
theorem flat_insert (l : List File) (f : File) (i : Nat) : (l.take i ++ f :: l.drop i).flatMap File.cells = (l.take i).flatMap File.cells ++ f.cells ++ (l.drop i).flatMap File.cells := by
  rw [List.flatMap_append, List.flatMap_cons, List.append_assoc]
theorem flat_split (l : List File) (i : Nat) : l.flatMap File.cells = (l.take i).flatMap File.cells ++ (l.drop i).flatMap File.cells := by
  rw [← List.flatMap_append, List.take_append_drop]
theorem flat_one {l : List File} : ∀ u ∈ l.flatMap File.cells, u.oneCell' = true := by
  intro u hu
  obtain ⟨f, _, hf⟩ := List.mem_flatMap.mp hu
  exact file_one f u hf
theorem info_size : (Try.prog.info? 57).map (·.size) = some 3 := by
  obtain ⟨i0, z0, e1, e2, e3, e4, _⟩ := I_files
  rw [e2]; simp [e4]
theorem read_list {w : World} {g n cap : Nat} {l : List File} (hn : n = l.length) (hc : n ≤ cap) (hm : cap ≤ 9223372036854775807) (h : ∀ j u, (l.flatMap File.cells)[j]? = some u → w.cell? ⟨g, j, none⟩ = some u) : Files w (.slice (some ⟨g, 0, none⟩) n cap) l := by
  subst hn
  refine ⟨flat_length (k := 3) (enc := File.cells) (fun _ => rfl) l, some ⟨g, 0, none⟩, cap, rfl, hc, hm, (fun _ h => by cases h), fun j u hj => ⟨g, 0, rfl, ?_⟩⟩
  rw [Nat.zero_add]; exact h j u hj
theorem take_cells (l : List File) (i : Nat) (hi : i ≤ l.length) : ((l.take i).flatMap File.cells).length = i * 3 := by rw [flat_length (k := 3) (fun _ => rfl), List.length_take, Nat.min_eq_left hi]
theorem drop_cells (l : List File) (i : Nat) : ((l.drop i).flatMap File.cells).length = (l.length - i) * 3 := by rw [flat_length (k := 3) (fun _ => rfl), List.length_drop]

set_option maxRecDepth 100000 in
set_option maxHeartbeats 1000000 in
theorem files_Delete (base : Nat) (v : Value) (l : List File) (i : Nat) (w : World) (ho : w.ownsRow base 57 3 v l.length (l.flatMap File.cells)) (hi : i < l.length) (hl : l.length ≤ 8) :
    Calls Try.prog 57 #[v, .int .i64 i, .int .i64 ((i : Int) + 1)] w fun e w' => ∃ v', e = .returned v' ∧ Files w' v' (l.take i ++ l.drop (i + 1)) ∧ Below base w w' ∧ Fresh base v' := by
  obtain ⟨g, cap, rfl⟩ : ∃ g cap, v = .slice (some ⟨g, 0, none⟩) l.length cap := by
    rcases ho.2 with ⟨_, h⟩ | ⟨g, cap, _, h, _⟩
    · omega
    · exact ⟨g, cap, h⟩
  obtain ⟨hb, hgw, hnc, hc63, hlen, hcell, hsome, hfro, _⟩ := own_cells ho
  have hic : i ≤ cap := by omega
  have hjc : i + 1 ≤ cap := by omega
  have HC := Lib.hid hcell
  have HS := Lib.hid hsome
  have HF := Lib.hid hfro
  have HO := Lib.hid ho
  clear hcell hsome hfro ho hlen
  obtain ⟨news, hnews⟩ : ∃ news, news = (l.drop (i + 1)).flatMap File.cells := ⟨_, rfl⟩
  have hnl : news.length = (l.length - (i + 1)) * 3 := by rw [hnews, flat_length (k := 3) (fun _ => rfl), List.length_drop]
  obtain ⟨A, hA, hsrc⟩ : ∃ A : Addr, (if cap = i + 1 then (some (⟨g, 0, none⟩ : Addr)) else some ⟨g, (i + 1) * 3, none⟩) = some A ∧ Hid (∀ t u, news[t]? = some u → w.drew.cell? (A.add t) = some u) := by
    by_cases h : cap = i + 1
    · refine ⟨⟨g, 0, none⟩, by simp [h], Lib.hid fun t u hu => ?_⟩
      have h0 : news.length = 0 := by rw [hnl]; omega
      rw [List.length_eq_zero_iff.1 h0] at hu
      simp at hu
    · refine ⟨⟨g, (i + 1) * 3, none⟩, by simp [h], Lib.hid fun t u hu => ?_⟩
      rw [Addr.add_lit]
      refine HC.out ((i + 1) * 3 + t) u ?_
      rw [hnews] at hu
      have e : l.flatMap File.cells = (l.take (i + 1)).flatMap File.cells ++ (l.drop (i + 1)).flatMap File.cells := by rw [← List.flatMap_append, List.take_append_drop]
      have e2 : ((l.take (i + 1)).flatMap File.cells).length = (i + 1) * 3 := by rw [flat_length (k := 3) (fun _ => rfl), List.length_take]; congr 1; omega
      rw [e, List.getElem?_append_right (by omega), e2, show (i + 1) * 3 + t - (i + 1) * 3 = t by omega]
      exact hu
  have s2 : Hid (∀ u ∈ news, u.oneCell' = true) := by
    refine Lib.hid fun u hu => ?_
    rw [hnews] at hu
    obtain ⟨f, _, hf⟩ := List.mem_flatMap.mp hu
    exact file_one f u hf
  have s3 : Hid (∀ t, t < news.length → (w.drew.cell? ⟨g, 0 + i * 3 + t, none⟩).isSome = true ∧ w.drew.frozen? ⟨g, 0 + i * 3 + t, none⟩ = false) := Lib.hid fun t ht => ⟨HS.out _ (by rw [hnl] at ht; omega), HF.out _⟩
  obtain ⟨W1, hW1⟩ : ∃ W1, W1 = w.drew.setCells g (0 + i * 3) news := ⟨_, rfl⟩
  have s1 := Lib.hid hnl
  have hW := Lib.hid hW1
  have HN := Lib.hid hnews
  clear hnl hnews hW1
  have S1 : Hid (∀ j, j < cap * 3 → (W1.cell? ⟨g, j, none⟩).isSome = true) := Lib.hid fun j hj => by rw [hW.out]; exact isSome_setCells g news _ _ (fun t ht => (s3.out t ht).1) j (HS.out j hj)
  have F1 : Hid (∀ j, W1.frozen? ⟨g, j, none⟩ = false) := Lib.hid fun j => by rw [hW.out, World.frozen?_setCells]; exact HF.out j
  obtain ⟨W2, hW2⟩ : ∃ W2, W2 = W1.setCells g ((i + (l.length - (i + 1))) * 3) [.string ⟨#[]⟩, .string ⟨#[]⟩, .int .i64 0] := ⟨_, rfl⟩
  have hcl : ∀ ty, (Builtin.clear_ #[22] ty #[.slice (some ⟨g, (i + (l.length - (i + 1))) * 3, none⟩) (l.length - (i + (l.length - (i + 1)))) (cap - (i + (l.length - (i + 1))))]).run Try.prog W1 = .ok (.tuple #[]) W2 := by
    intro ty
    rw [hW2, show l.length - (i + (l.length - (i + 1))) = 1 by omega]
    refine run_clear_one W1 _ _ ty _ _ Try.underlying22 Try.zeroValue57 zero_file ?_ g _ _ ?_ ?_
    · intro u hu; simp at hu; rcases hu with rfl | rfl | rfl <;> rfl
    · intro j hj; simp at hj; exact S1.out _ (by omega)
    · intro j hj; exact F1.out _
  have HFIN : Hid (Files W2 (.slice (some ⟨g, 0, none⟩) (i + (l.length - (i + 1))) cap) (l.take i ++ l.drop (i + 1)) ∧ Below base w W2 ∧ Fresh base (.slice (some ⟨g, 0, none⟩) (i + (l.length - (i + 1))) cap)) := by
    refine Lib.hid ⟨?_, ?_, fun b h => by cases h; exact hb⟩
    · refine read_list (by simp; omega) (by omega) hc63 ?_
      rw [List.flatMap_append, ← HN.out, hW2]
      have hnl := s1.out
      intro j u hj
      have hj' := (List.getElem?_eq_some_iff.1 hj).1
      rw [List.length_append, take_cells l i (by omega), hnl] at hj'
      rw [cells_out _ _ _ (Or.inl (by omega)), hW.out]
      revert j u hj hj'
      have R := two_read (W := w.drew.setCells g (0 + i * 3) news) (g := g) ((l.take i).flatMap File.cells) news ?_ ?_
      · intro j u hj _; exact R j u hj
      · intro j u hj
        have hj' := (List.getElem?_eq_some_iff.1 hj).1
        rw [take_cells l i (by omega)] at hj'
        rw [cells_out _ _ _ (Or.inl (by omega))]
        refine HC.out j u ?_
        rw [flat_split l i, List.getElem?_append_left (by rw [take_cells l i (by omega)]; omega)]
        exact hj
      · intro j u hj
        rw [take_cells l i (by omega), show i * 3 + j = 0 + i * 3 + j by omega]
        exact cells_in _ _ (fun t ht => (s3.out t ht).1) j u hj
    · rw [hW2, hW.out]
      exact below_cells hb _ _ _ (below_cells hb _ _ _ (Below.refl _ _).drew)
  clear hW2
  obtain ⟨i0, z0, e1, e2, e3, e4, e5, e6, e7, e8⟩ := I_files
  have mixed : Try.prog.follows .mixedOrders = true := by kernel_rfl
  have hbd : 0 ≤ (i : Int) + 1 ∧ (i : Int) + 1 ≤ (l.length : Int) := ⟨by omega, by omega⟩
  have hbd1 : (0 : Int) ≤ (i : Int) + 1 := by omega
  have hbd2 : (i : Int) + 1 ≤ (l.length : Int) := by omega
  go_enter Try.func57, Try.ntmps57
  go_wp2_with fail
  go_region_law_o (refine step_append_room rfl (.tmp 22) (.tmp 25) 22 rfl 57 i0 3 e1 e2 e4 g 0 i cap (by simp [Act.eval, Act.put]) A (l.length - (i + 1)) (cap - (i + 1)) news (by simp [Act.eval, Act.put]) s1.out hsrc.out s2.out (by omega) s3.out ?_; rw [← hW.out])
  go_wp2_with fail
  go_ret
  exact ⟨_, rfl, HFIN.out⟩
end Go.Proofs.Ytggpodlecljcbab
