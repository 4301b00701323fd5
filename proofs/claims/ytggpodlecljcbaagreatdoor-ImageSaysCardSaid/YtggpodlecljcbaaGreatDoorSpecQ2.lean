/- Plain: swapping two texts is putting two files. -/
import Derived.Test.YtggpodlecljcbaaGreatDoorSpecQ
import Derived.Test.YtggpodlecljcbaaGreatDoorWalkG6
namespace Go.Proofs.YtggpodlecljcbaaGreatDoor
set_option linter.unusedSimpArgs false
set_option linter.unusedVariables false
def repl (f g : File) : File := if (g.name.toList == f.name.toList) = true then f else g
theorem repl_name (f g : File) : (repl f g).name.toList = g.name.toList := by
  unfold repl
  split
  · rename_i h; simpa using (beq_iff_eq.1 h).symm
  · rfl
theorem get_isSome (l : List File) (name : ByteArray) : (getAt l name).isSome = true ↔ ∃ g, g ∈ l ∧ g.name.toList = name.toList := by
  unfold getAt
  rw [List.find?_isSome]
  simp
theorem put_is_map (l : List File) (f : File) (hr : Rises l) (r : Nat) (hk : r = rank l f.name) (h : isAt l f.name r = true) : l.take r ++ f :: l.drop (r + 1) = l.map (repl f) := by
  have hl := isAt_len h
  have e : l.map (repl f) = (l.take r ++ l[r] :: l.drop (r + 1)).map (repl f) := by rw [← List.drop_eq_getElem_cons hl, List.take_append_drop]
  rw [isAt_lt l f.name r hl] at h
  have h1 : (l.take r).map (repl f) = l.take r := by
    conv => rhs; rw [← List.map_id (l.take r)]
    refine List.map_congr_left fun x hx => ?_
    obtain ⟨t, ht, rfl⟩ := List.getElem_of_mem hx
    rw [List.getElem_take]
    rw [List.length_take] at ht
    have := not_eq_of_lt (rank_before f.name l t (by omega) (by omega))
    unfold repl; rw [this]; simp
  have h2 : (l.drop (r + 1)).map (repl f) = l.drop (r + 1) := by
    conv => rhs; rw [← List.map_id (l.drop (r + 1))]
    refine List.map_congr_left fun x hx => ?_
    obtain ⟨t, ht, rfl⟩ := List.getElem_of_mem hx
    rw [List.getElem_drop]
    rw [List.length_drop] at ht
    have := neq_of_gt (same_name_lt h (hr.at r (r + 1 + t) (by omega) (by omega)))
    unfold repl; rw [this]; simp
  rw [e, List.map_append, List.map_cons, h1, h2]
  congr 2
  unfold repl; rw [h]; simp
theorem put_map (l : List File) (f : File) (hf : fileFault f = 0) (hr : Rises l) (hg : (getAt l f.name).isSome = true) : putAt l f = (l.map (repl f), 0) := by
  cases hi : isAt l f.name (rank l f.name)
  · rw [get_noneR l f.name hr hi] at hg; cases hg
  · rw [put_is l f hf hr _ rfl hi, put_is_map l f hr _ rfl hi]
theorem get_repl (l : List File) (f : File) (name : ByteArray) : (getAt (l.map (repl f)) name).isSome = (getAt l name).isSome := by
  rw [Bool.eq_iff_iff, get_isSome, get_isSome]
  constructor
  · rintro ⟨g, hg, e⟩
    obtain ⟨h, hh, rfl⟩ := List.mem_map.mp hg
    exact ⟨h, hh, by rw [← e, repl_name]⟩
  · rintro ⟨g, hg, e⟩
    exact ⟨_, List.mem_map.mpr ⟨g, hg, rfl⟩, by rw [repl_name]; exact e⟩
theorem swap_maps {l : List File} (h : Fine l) {a b : ByteArray} {x y : File} (hx : getAt l a = some x) (hy : getAt l b = some y) (hab : (a.toList == b.toList) = false) :
    (l.map (repl ⟨x.name, y.text, x.times + 1⟩)).map (repl ⟨y.name, x.text, y.times + 1⟩) = l.map (swapF a b x y) := by
  obtain ⟨mx, ex⟩ := h.mem hx
  obtain ⟨my, ey⟩ := h.mem hy
  rw [List.map_map]
  refine List.map_congr_left fun g hg => ?_
  show repl _ (repl _ g) = _
  unfold swapF
  have hne : a.toList ≠ b.toList := by simpa using hab
  by_cases e1 : g.name.toList = a.toList
  · have : g = x := name_inj h.rises hg mx (by rw [ex, e1])
    subst this
    have h1 : repl ⟨g.name, y.text, g.times + 1⟩ g = ⟨g.name, y.text, g.times + 1⟩ := by unfold repl; simp
    rw [h1, if_pos (by simpa using e1)]
    unfold repl
    rw [if_neg (by dsimp only; rw [e1, ey]; simpa using hne)]
  · rw [if_neg (by simpa using e1)]
    have h1 : repl ⟨x.name, y.text, x.times + 1⟩ g = g := by unfold repl; rw [if_neg (by dsimp only; rw [ex]; simpa using e1)]
    rw [h1]
    by_cases e2 : g.name.toList = b.toList
    · have : g = y := name_inj h.rises hg my (by rw [ey, e2])
      subst this
      rw [if_pos (by simpa using e2)]
      unfold repl; simp
    · rw [if_neg (by simpa using e2)]
      unfold repl; rw [if_neg (by dsimp only; rw [ey]; simpa using e2)]
/-- The two puts of a swap. -/
theorem swap_puts {l : List File} (h : Fine l) {a b : ByteArray} {x y : File} (hx : getAt l a = some x) (hy : getAt l b = some y) (hab : (a.toList == b.toList) = false) (h9 : ¬ (x.times = 9999 ∨ y.times = 9999)) :
    ∃ l1, putAt l ⟨x.name, y.text, x.times + 1⟩ = (l1, 0) ∧ Fine l1 ∧ putAt l1 ⟨y.name, x.text, y.times + 1⟩ = (l.map (swapF a b x y), 0) := by
  obtain ⟨mx, ex⟩ := h.mem hx
  obtain ⟨my, ey⟩ := h.mem hy
  have fx := file_good (h.each x mx)
  have fy := file_good (h.each y my)
  have f1 : fileFault ⟨x.name, y.text, x.times + 1⟩ = 0 := file_fault_of fx.1 fy.2.1 (by omega) (by omega)
  have f2 : fileFault ⟨y.name, x.text, y.times + 1⟩ = 0 := file_fault_of fy.1 fx.2.1 (by omega) (by omega)
  have p1 := put_map l ⟨x.name, y.text, x.times + 1⟩ f1 h.rises ((get_isSome _ _).2 ⟨x, mx, rfl⟩)
  have hf : Fine (l.map (repl ⟨x.name, y.text, x.times + 1⟩)) := by
    have := put_fine h ⟨x.name, y.text, x.times + 1⟩
    rw [p1] at this; exact this
  refine ⟨_, p1, hf, ?_⟩
  rw [put_map _ _ f2 hf.rises (by rw [get_repl]; exact (get_isSome _ _).2 ⟨y, my, rfl⟩), swap_maps h hx hy hab]
/-- After k rounds of the reference's loop. -/
def swapTo (a b : ByteArray) (x y : File) (l : List File) (k : Nat) : List File := (l.take k).map (swapF a b x y) ++ l.drop k
theorem swapTo_zero (a b : ByteArray) (x y : File) (l : List File) : swapTo a b x y l 0 = l := by simp [swapTo]
theorem swapTo_len (a b : ByteArray) (x y : File) (l : List File) (k : Nat) : (swapTo a b x y l k).length = l.length := by simp [swapTo]; omega
theorem swapTo_at (a b : ByteArray) (x y : File) (l : List File) (k : Nat) (h : k < l.length) : (swapTo a b x y l k)[k]'(by rw [swapTo_len]; exact h) = l[k] := by
  unfold swapTo
  rw [List.getElem_append_right (by simp; omega)]
  simp only [List.length_map, List.length_take, List.getElem_drop]
  congr 1
  omega
theorem swapTo_next (a b : ByteArray) (x y : File) (l : List File) (k : Nat) (h : k < l.length) : swapTo a b x y l (k + 1) = (swapTo a b x y l k).set k (swapF a b x y l[k]) := by
  unfold swapTo
  rw [List.set_append_right _ _ (by simp; omega), List.drop_eq_getElem_cons h, List.take_succ_eq_append_getElem h, List.map_append]
  have : k - ((l.take k).map (swapF a b x y)).length = 0 := by simp; omega
  rw [this, List.set_cons_zero]
  simp only [List.map_cons, List.map_nil, List.append_assoc, List.cons_append, List.nil_append]
theorem swapTo_all (a b : ByteArray) (x y : File) (l : List File) : swapTo a b x y l l.length = l.map (swapF a b x y) := by simp [swapTo]
end Go.Proofs.YtggpodlecljcbaaGreatDoor
