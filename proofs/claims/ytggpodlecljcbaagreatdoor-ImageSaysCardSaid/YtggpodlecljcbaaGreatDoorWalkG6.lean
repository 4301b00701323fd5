/- The walks of chapter 2: slices.Delete of one file, of a row of one's own. The walks of chapter 2: slices.Insert of one file, into a row of one's own. The walks of chapter 2: shelf.Drop, shelf.Put. -/
import Derived.Test.YtggpodlecljcbaaGreatDoorWalkG3
import Derived.Test.YtggpodlecljcbaaGreatDoorBase3
import Derived.Lib.SliceRun
namespace Go.Proofs.YtggpodlecljcbaaGreatDoor
set_option linter.unusedSimpArgs false
set_option linter.unusedVariables false
open Go.RowKit Go.Sort
theorem zero_file : (Builtin.zeroCells (Value.agg #[.string ⟨#[]⟩, .string ⟨#[]⟩, .int .i64 0]).cells 1).toList = [.string ⟨#[]⟩, .string ⟨#[]⟩, .int .i64 0] := by
  first | kernel_rfl | (simp [Builtin.zeroCells, Value.cells]; done) | (apply List.ext_getElem <;> simp [Builtin.zeroCells])
theorem flat_insert (l : List File) (f : File) (i : Nat) : (l.take i ++ f :: l.drop i).flatMap File.cells = (l.take i).flatMap File.cells ++ f.cells ++ (l.drop i).flatMap File.cells := by
  rw [List.flatMap_append, List.flatMap_cons, List.append_assoc]
theorem flat_split (l : List File) (i : Nat) : l.flatMap File.cells = (l.take i).flatMap File.cells ++ (l.drop i).flatMap File.cells := by
  rw [← List.flatMap_append, List.take_append_drop]
theorem flat_one {l : List File} : ∀ u ∈ l.flatMap File.cells, u.oneCell' = true := by
  intro u hu
  obtain ⟨f, _, hf⟩ := List.mem_flatMap.mp hu
  exact file_one f u hf
theorem info_size : (Tryz.prog.info? 48).map (·.size) = some 3 := by
  obtain ⟨i0, z0, e1, e2, e3, e4, _⟩ := I_files
  rw [e2]; simp [e4]
theorem read_list {w : World} {g n cap : Nat} {l : List File} (hn : n = l.length) (hc : n ≤ cap) (hm : cap ≤ 9223372036854775807) (h : ∀ j u, (l.flatMap File.cells)[j]? = some u → w.cell? ⟨g, j, none⟩ = some u) : Files w (.slice (some ⟨g, 0, none⟩) n cap) l := by
  subst hn
  refine ⟨flat_length (k := 3) (enc := File.cells) (fun _ => rfl) l, some ⟨g, 0, none⟩, cap, rfl, hc, hm, (fun _ h => by cases h), fun j u hj => ⟨g, 0, rfl, ?_⟩⟩
  rw [Nat.zero_add]; exact h j u hj
theorem take_cells (l : List File) (i : Nat) (hi : i ≤ l.length) : ((l.take i).flatMap File.cells).length = i * 3 := by rw [flat_length (k := 3) (fun _ => rfl), List.length_take, Nat.min_eq_left hi]
theorem drop_cells (l : List File) (i : Nat) : ((l.drop i).flatMap File.cells).length = (l.length - i) * 3 := by rw [flat_length (k := 3) (fun _ => rfl), List.length_drop]

end Go.Proofs.YtggpodlecljcbaaGreatDoor
namespace Go.Proofs.YtggpodlecljcbaaGreatDoor
set_option linter.unusedSimpArgs false
set_option linter.unusedVariables false
open Go.RowKit Go.Sort
theorem insert_end (l : List File) (f : File) : l.take l.length ++ f :: l.drop l.length = l ++ [f] := by rw [List.take_length, List.drop_length]

end Go.Proofs.YtggpodlecljcbaaGreatDoor
namespace Go.Proofs.YtggpodlecljcbaaGreatDoor
open Go.RowKit Go.Sort
set_option linter.unusedSimpArgs false
set_option linter.unusedVariables false
def RetFilesE (p : List File × Nat) (w : World) (e : Ending) (w' : World) : Prop := ∃ v, e = .returned (.tuple #[v, errV p.2]) ∧ Files w' v p.1 ∧ Below w.heap.size w w'
def RetFilesG (p : List File × Nat) (w : World) (e : Ending) (w' : World) : Prop := ∃ v, e = .returned (.tuple #[v, errV p.2]) ∧ Files w' v p.1 ∧ Below w.heap.size w w' ∧ Fresh w.heap.size v
theorem drop_none (l : List File) (name : ByteArray) (h : getAt l name = none) : dropAt l name = ([], 5) := by unfold dropAt; rw [h]; rfl
theorem drop_some (l : List File) (name : ByteArray) (hr : Rises l) (r : Nat) (hk : r = rank l name) (h : isAt l name r = true) : dropAt l name = (l.take r ++ l.drop (r + 1), 0) := by
  have hl := isAt_len h
  subst hk
  unfold dropAt
  rw [get_some l name hl h, ← drop_rises l name hr _ rfl h]
  rfl

theorem own_below {w w' : World} {base e k n : Nat} {v : Value} {xs : List Value} (h : w.ownsRow base e k v n xs) (hb : Below w.heap.size w w') : w'.ownsRow base e k v n xs :=
  h.kept (⟨hb.os, hb.tape, hb.output, hb.size, fun j hj _ => hb.block j hj⟩ : World.grownBy _ _ none) (by cases h : Value.ownBlock _ <;> simp)
theorem heap_new (w : World) (o : Obj) : (w.alloc o).heap[w.heap.size]? = some o := by
  show (w.heap.push o)[w.heap.size]? = some o
  simp
theorem own_put {w : World} {base g n cap : Nat} {l : List File} (f : File) (k : Nat) (hk : k < l.length) (hn : n = l.length) (ho : w.ownsRow base 48 3 (.slice (some ⟨g, 0, none⟩) n cap) n (l.flatMap File.cells)) :
    Files (((w.setCell ⟨g, k * 3, none⟩ (.string f.name)).setCell ⟨g, k * 3 + 1, none⟩ (.string f.text)).setCell ⟨g, k * 3 + 2, none⟩ (.int .i64 f.times)) (.slice (some ⟨g, 0, none⟩) n cap) (l.take k ++ f :: l.drop (k + 1)) := by
  subst hn
  obtain ⟨hb, hgw, hnc, hc63, hlen, hcell, hsome, hfro, hsh⟩ := own_cells ho
  show Files (w.setCells g (k * 3) f.cells) _ _
  refine read_list (by simp; omega) hnc hc63 ?_
  have hq := take_cells l k (by omega)
  have hp : ((l.drop (k + 1)).flatMap File.cells).length = (l.length - (k + 1)) * 3 := drop_cells l (k + 1)
  have R := three_read (W := w.setCells g (k * 3) f.cells) (g := g) ((l.take k).flatMap File.cells) f.cells ((l.drop (k + 1)).flatMap File.cells) ?_ ?_ ?_
  · rw [List.flatMap_append, List.flatMap_cons, ← List.append_assoc]
    exact R
  · intro j u hj
    have hj' := (List.getElem?_eq_some_iff.1 hj).1
    rw [cells_out _ _ _ (Or.inl (by omega))]
    refine hcell j u ?_
    rw [flat_split l k, List.getElem?_append_left hj']
    exact hj
  · intro j u hj
    rw [hq]
    exact cells_in _ _ (fun t ht => hsome _ (by rw [File.cells_len] at ht; omega)) j u hj
  · intro j u hj
    have hj' := (List.getElem?_eq_some_iff.1 hj).1
    rw [hq, File.cells_len, cells_out _ _ _ (Or.inr (by rw [File.cells_len]; omega))]
    refine hcell _ u ?_
    rw [flat_split l (k + 1), List.getElem?_append_right (by rw [take_cells l (k + 1) (by omega)]; omega), take_cells l (k + 1) (by omega), show k * 3 + 3 + j - (k + 1) * 3 = j by omega]
    exact hj
theorem put_fault (l : List File) (f : File) (h : fileFault f ≠ 0) : putAt l f = ([], fileFault f) := by unfold putAt; rw [if_pos h]
theorem put_is (l : List File) (f : File) (hf : fileFault f = 0) (hr : Rises l) (r : Nat) (hk : r = rank l f.name) (h : isAt l f.name r = true) : putAt l f = (l.take r ++ f :: l.drop (r + 1), 0) := by
  have hg := get_some l f.name (by rw [← hk]; exact isAt_len h) (by rw [← hk]; exact h)
  unfold putAt
  rw [if_neg (by simp [hf]), if_neg (by simp [hg]), put_rises l f hr r hk, if_pos h]
theorem put_full (l : List File) (f : File) (hf : fileFault f = 0) (hr : Rises l) (h : isAt l f.name (rank l f.name) = false) (h8 : 8 ≤ l.length) : putAt l f = ([], 7) := by
  unfold putAt
  rw [if_neg (by simp [hf]), if_pos ⟨by rw [get_noneR l f.name hr h]; rfl, h8⟩]
theorem put_new (l : List File) (f : File) (hf : fileFault f = 0) (hr : Rises l) (r : Nat) (hk : r = rank l f.name) (h : isAt l f.name r = false) (h8 : ¬ 8 ≤ l.length) : putAt l f = (l.take r ++ f :: l.drop r, 0) := by
  unfold putAt
  rw [if_neg (by simp [hf]), if_neg (by intro hh; exact h8 hh.2), put_rises l f hr r hk, if_neg (by simp [h])]

end Go.Proofs.YtggpodlecljcbaaGreatDoor
