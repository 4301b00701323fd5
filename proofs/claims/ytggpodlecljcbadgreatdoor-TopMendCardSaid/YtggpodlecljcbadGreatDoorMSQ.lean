/- Plain: chapter 3: what is done with quilts; and that it leaves what may be. Plain: swapping two texts is putting two files. -/
import Derived.Test.YtggpodlecljcbadGreatDoorMG
import Derived.Test.YtggpodlecljcbadGreatDoorMB
namespace Go.Proofs.YtggpodlecljcbadGreatDoor
set_option linter.unusedSimpArgs false
set_option linter.unusedVariables false
/-- C1. -/
def quiltFault (q : Quilt) : Nat := if filesFault q.files ≠ 0 then filesFault q.files else if q.turn < 1 ∨ 9999 < q.turn then 1 else 0
def noQuilt : Quilt := ⟨[], 0⟩
def nextQ (q : Quilt) (p : List File × Nat) : Quilt × Nat := if p.2 ≠ 0 then (noQuilt, p.2) else if 9999 ≤ q.turn then (noQuilt, 7) else (⟨p.1, q.turn + 1⟩, 0)
def timesOf (q : Quilt) (name : ByteArray) : Int := ((getAt q.files name).getD ⟨ByteArray.empty, ByteArray.empty, 0⟩).times
def writtenQ (q : Quilt) (name text : ByteArray) : Quilt × Nat := nextQ q (putAt q.files ⟨name, text, timesOf q name + 1⟩)
def droppedQ (q : Quilt) (name : ByteArray) : Quilt × Nat := nextQ q (dropAt q.files name)
def renamedQ (q : Quilt) (name tn : ByteArray) : Quilt × Nat :=
  match getAt q.files name with
  | none => (noQuilt, 5)
  | some f => if nameFault tn.data.toList ≠ 0 then (noQuilt, nameFault tn.data.toList) else if (getAt q.files tn).isSome = true then (noQuilt, 6) else nextQ q (putAt (dropAt q.files name).1 ⟨tn, f.text, f.times⟩)
def swapF (a b : ByteArray) (x y g : File) : File := if (g.name.toList == a.toList) = true then ⟨g.name, y.text, g.times + 1⟩ else if (g.name.toList == b.toList) = true then ⟨g.name, x.text, g.times + 1⟩ else g
def swappedQ (q : Quilt) (a b : ByteArray) : Quilt × Nat :=
  match getAt q.files a, getAt q.files b with
  | some x, some y => if x.times = 9999 ∨ y.times = 9999 then (noQuilt, 7) else if (a.toList == b.toList) = true then nextQ q (q.files, 0) else nextQ q (q.files.map (swapF a b x y), 0)
  | _, _ => (noQuilt, 5)
/-- Files that may be: each may be, they rise, not too many. -/
structure Fine (l : List File) : Prop where
  len : l.length ≤ 8
  rises : Rises l
  each : ∀ f ∈ l, fileFault f = 0
theorem faultFrom_each : ∀ (l : List File) (p : Option ByteArray), faultFrom p l = 0 → ∀ f ∈ l, fileFault f = 0
  | [], _, _ => by simp
  | g :: r, p, h => by
    have key : fileFault g = 0 ∧ faultFrom (some g.name) r = 0 := by
      unfold faultFrom at h
      by_cases h1 : fileFault g = 0
      · rw [if_neg (by simp [h1])] at h
        cases p with
        | none => exact ⟨h1, by simpa using h⟩
        | some q =>
          cases hq : bLe g.name q
          · exact ⟨h1, by simpa [hq] using h⟩
          · simp [hq] at h
      · rw [if_pos h1] at h; exact absurd h h1
    intro f hf
    rcases List.mem_cons.mp hf with rfl | hf
    · exact key.1
    · exact faultFrom_each r _ key.2 f hf
theorem faultFrom_zero : ∀ (l : List File) (p : Option ByteArray), (∀ f ∈ l, fileFault f = 0) → Rises l → (∀ q, p = some q → ∀ f ∈ l, bLt q f.name = true) → faultFrom p l = 0
  | [], _, _, _, _ => rfl
  | g :: r, p, h, hr, hp => by
    unfold faultFrom
    rw [if_neg (by simp [h g (by simp)])]
    have hr' : Rises r := (List.pairwise_cons.mp hr).2
    have h1 := faultFrom_zero r (some g.name) (fun f hf => h f (by simp [hf])) hr' (fun q e f hf => by cases e; exact (List.pairwise_cons.mp hr).1 f hf)
    cases p with
    | none => simpa using h1
    | some q =>
      have := hp q rfl g (by simp)
      simp [not_le_of_lt this, h1]
theorem fine_iff (l : List File) : filesFault l = 0 ↔ Fine l := by
  constructor
  · intro h
    unfold filesFault at h
    split at h
    · cases h
    · exact ⟨by omega, (rises_of l none h).1, faultFrom_each l none h⟩
  · intro ⟨h1, h2, h3⟩
    unfold filesFault
    rw [if_neg (by omega)]
    exact faultFrom_zero l none h3 h2 (fun q e => by cases e)
/-- A quilt that may be. -/
structure Good (q : Quilt) : Prop where
  fine : Fine q.files
  lo : 1 ≤ q.turn
  hi : q.turn ≤ 9999
theorem good_iff (q : Quilt) : quiltFault q = 0 ↔ Good q := by
  constructor
  · intro h
    unfold quiltFault at h
    by_cases h1 : filesFault q.files = 0
    · rw [if_neg (by simp [h1])] at h
      split at h
      · cases h
      · exact ⟨(fine_iff _).1 h1, by omega, by omega⟩
    · rw [if_pos h1] at h; exact absurd h h1
  · intro ⟨h1, h2, h3⟩
    unfold quiltFault
    rw [if_neg (by simp [(fine_iff _).2 h1]), if_neg (by omega)]
theorem file_good {f : File} (h : fileFault f = 0) : nameFault f.name.data.toList = 0 ∧ f.text.size ≤ 12 ∧ 1 ≤ f.times ∧ f.times ≤ 9999 := by
  unfold fileFault at h
  by_cases h1 : nameFault f.name.data.toList = 0
  · rw [if_neg (by simp [h1])] at h
    split at h
    · cases h
    · split at h
      · cases h
      · exact ⟨h1, by omega, by omega, by omega⟩
  · rw [if_pos h1] at h; exact absurd h h1
theorem name_good {s : List UInt8} (h : nameFault s = 0) : s.length ≤ 6 := by
  unfold nameFault at h
  split at h
  · cases h
  · split at h
    · cases h
    · omega
theorem file_fault_of {n t : ByteArray} {k : Int} (h1 : nameFault n.data.toList = 0) (h2 : t.size ≤ 12) (h3 : 1 ≤ k) (h4 : k ≤ 9999) : fileFault ⟨n, t, k⟩ = 0 := by
  unfold fileFault
  rw [if_neg (by simp [h1]), if_neg (by simpa using h2), if_neg (by simp; omega)]
theorem Fine.mem {l : List File} (h : Fine l) {name : ByteArray} {f : File} (hg : getAt l name = some f) : f ∈ l ∧ f.name.toList = name.toList := by
  unfold getAt at hg
  exact ⟨List.mem_of_find?_eq_some hg, by simpa using List.find?_some hg⟩
theorem rises_filter {l : List File} (h : Rises l) (p : File → Bool) : Rises (l.filter p) := List.Pairwise.filter p h
theorem drop_fine {l : List File} (h : Fine l) (name : ByteArray) : Fine (dropAt l name).1 := by
  unfold dropAt
  split
  · exact ⟨Nat.le_trans (List.length_filter_le _ _) h.len, rises_filter h.rises _, fun f hf => h.each f (List.mem_filter.mp hf).1⟩
  · exact ⟨by simp, List.Pairwise.nil, by simp⟩
theorem rises_put {l : List File} (f : File) (h : Rises l) : Rises (putAll l f) := by
  rw [put_rises l f h _ rfl]
  obtain ⟨r, hr⟩ : ∃ r, r = rank l f.name := ⟨_, rfl⟩
  rw [← hr]
  obtain ⟨m, hm⟩ : ∃ m, m = if isAt l f.name r = true then r + 1 else r := ⟨_, rfl⟩
  rw [← hm]
  have hc : (m = r ∧ isAt l f.name r = false) ∨ (m = r + 1 ∧ isAt l f.name r = true) := by
    cases hi : isAt l f.name r <;> simp [hi] at hm <;> simp [hm]
  clear hm
  refine List.pairwise_append.mpr ⟨List.Pairwise.take h, ?_, ?_⟩
  · refine List.pairwise_cons.mpr ⟨?_, List.Pairwise.drop h⟩
    intro g hg
    obtain ⟨t, ht, rfl⟩ := List.getElem_of_mem hg
    rw [List.length_drop] at ht
    rw [List.getElem_drop]
    rcases hc with ⟨rfl, hi⟩ | ⟨rfl, hi⟩
    · have hge := rank_at f.name l (by omega)
      have hlt : bLt f.name (l[m]'(by omega)).name = true := by
        refine bLt_of_not_le ?_
        unfold bLe
        rw [isAt_lt l f.name m (by omega)] at hi
        rw [hi, Bool.or_false]
        have : bLt (l[m]'(by omega)).name f.name = false := by simpa only [← hr] using hge
        exact this
      by_cases e : t = 0
      · subst e; exact hlt
      · exact bLt_trans hlt (h.at m (m + t) (by omega) _)
    · rw [isAt_lt l f.name r (by omega)] at hi
      exact same_name_lt hi (h.at r (r + 1 + t) (by omega) _)
  · intro a ha b hb
    obtain ⟨t, ht, rfl⟩ := List.getElem_of_mem ha
    rw [List.length_take] at ht
    rw [List.getElem_take]
    have hlt : bLt (l[t]'(by omega)).name f.name = true := rank_before f.name l t (by omega) (by omega)
    rcases List.mem_cons.mp hb with rfl | hb
    · exact hlt
    · obtain ⟨u, hu, rfl⟩ := List.getElem_of_mem hb
      rw [List.length_drop] at hu
      rw [List.getElem_drop]
      exact h.at t _ (by omega) _
theorem mem_put {l : List File} (f : File) (h : Rises l) : ∀ g ∈ putAll l f, g = f ∨ g ∈ l := by
  intro g hg
  rw [put_rises l f h _ rfl] at hg
  rcases List.mem_append.mp hg with hg | hg
  · exact Or.inr (List.mem_of_mem_take hg)
  · rcases List.mem_cons.mp hg with rfl | hg
    · exact Or.inl rfl
    · exact Or.inr (List.mem_of_mem_drop hg)
theorem put_length {l : List File} (f : File) (h : Rises l) : (putAll l f).length = if (getAt l f.name).isSome = true then l.length else l.length + 1 := by
  rw [put_rises l f h _ rfl]
  have hrl := rank_le l f.name
  cases hi : isAt l f.name (rank l f.name)
  · rw [get_noneR l f.name h hi]
    simp
    omega
  · have hl := isAt_len hi
    rw [get_some l f.name hl hi]
    simp
    omega
theorem put_fine {l : List File} (h : Fine l) (f : File) : Fine (putAt l f).1 := by
  unfold putAt
  by_cases hf : fileFault f = 0
  · rw [if_neg (by simp [hf])]
    split
    · exact ⟨by simp, List.Pairwise.nil, by simp⟩
    · rename_i hh
      refine ⟨?_, rises_put f h.rises, ?_⟩
      · have := put_length f h.rises
        have := h.len
        cases hs : (getAt l f.name).isSome <;> simp [hs] at * <;> omega
      · intro g hg
        rcases mem_put f h.rises g hg with rfl | hg
        · exact hf
        · exact h.each g hg
  · rw [if_pos hf]
    exact ⟨by simp, List.Pairwise.nil, by simp⟩
theorem next_good {q : Quilt} (h : Good q) {p : List File × Nat} (hp : Fine p.1) (h0 : (nextQ q p).2 = 0) : Good (nextQ q p).1 ∧ (nextQ q p).1.turn = q.turn + 1 := by
  have := h.lo
  unfold nextQ at h0 ⊢
  split
  · rename_i hh; rw [if_pos hh] at h0; exact absurd h0 hh
  · rename_i hh
    rw [if_neg hh] at h0
    split
    · rename_i h9; rw [if_pos h9] at h0; cases h0
    · rename_i h9
      exact ⟨⟨hp, by simp; omega, by simp; omega⟩, rfl⟩
theorem written_good {q : Quilt} (h : Good q) (name text : ByteArray) (h0 : (writtenQ q name text).2 = 0) : Good (writtenQ q name text).1 ∧ (writtenQ q name text).1.turn = q.turn + 1 := next_good h (put_fine h.fine _) h0
theorem dropped_good {q : Quilt} (h : Good q) (name : ByteArray) (h0 : (droppedQ q name).2 = 0) : Good (droppedQ q name).1 ∧ (droppedQ q name).1.turn = q.turn + 1 := next_good h (drop_fine h.fine _) h0
theorem renamed_good {q : Quilt} (h : Good q) (name tn : ByteArray) (h0 : (renamedQ q name tn).2 = 0) : Good (renamedQ q name tn).1 ∧ (renamedQ q name tn).1.turn = q.turn + 1 := by
  unfold renamedQ at h0 ⊢
  split
  · rename_i hg; rw [hg] at h0; cases h0
  · rename_i f hg
    rw [hg] at h0
    dsimp only at h0
    split
    · rename_i hh; rw [if_pos hh] at h0; exact absurd h0 hh
    · rename_i hh
      rw [if_neg hh] at h0
      split
      · rename_i h6; rw [if_pos h6] at h0; cases h0
      · rename_i h6
        rw [if_neg h6] at h0
        exact next_good h (put_fine (drop_fine h.fine _) _) h0
theorem swapF_name (a b : ByteArray) (x y g : File) : (swapF a b x y g).name = g.name := by unfold swapF; split <;> (try split) <;> rfl
theorem name_inj {l : List File} (h : Rises l) {f g : File} (hf : f ∈ l) (hg : g ∈ l) (e : f.name.toList = g.name.toList) : f = g := by
  obtain ⟨i, hi, rfl⟩ := List.getElem_of_mem hf
  obtain ⟨j, hj, rfl⟩ := List.getElem_of_mem hg
  rcases Nat.lt_trichotomy i j with hh | hh | hh
  · have := h.at i j hh hj
    unfold bLt at this; rw [e, less_irrefl] at this; cases this
  · subst hh; rfl
  · have := h.at j i hh hi
    unfold bLt at this; rw [e, less_irrefl] at this; cases this
theorem swap_fine {l : List File} (h : Fine l) {a b : ByteArray} {x y : File} (hx : getAt l a = some x) (hy : getAt l b = some y) (h9 : ¬ (x.times = 9999 ∨ y.times = 9999)) : Fine (l.map (swapF a b x y)) := by
  obtain ⟨mx, ex⟩ := h.mem hx
  obtain ⟨my, ey⟩ := h.mem hy
  have fx := file_good (h.each x mx)
  have fy := file_good (h.each y my)
  refine ⟨by simpa using h.len, ?_, ?_⟩
  · refine List.pairwise_map.mpr (h.rises.imp fun {c d} hcd => ?_)
    rw [swapF_name, swapF_name]; exact hcd
  · intro f hf
    obtain ⟨g, hg, rfl⟩ := List.mem_map.mp hf
    have fg := file_good (h.each g hg)
    unfold swapF
    split
    · rename_i e
      have : g = x := name_inj h.rises hg mx (by rw [ex]; simpa using e)
      subst this
      exact file_fault_of fg.1 fy.2.1 (by omega) (by omega)
    · split
      · rename_i e
        have : g = y := name_inj h.rises hg my (by rw [ey]; simpa using e)
        subst this
        exact file_fault_of fg.1 fx.2.1 (by omega) (by omega)
      · exact h.each g hg
theorem swapped_good {q : Quilt} (h : Good q) (a b : ByteArray) (h0 : (swappedQ q a b).2 = 0) : Good (swappedQ q a b).1 ∧ (swappedQ q a b).1.turn = q.turn + 1 := by
  unfold swappedQ at h0 ⊢
  split
  · rename_i x y hx hy
    rw [hx, hy] at h0
    dsimp only at h0
    split
    · rename_i hh; rw [if_pos hh] at h0; cases h0
    · rename_i hh
      rw [if_neg hh] at h0
      split
      · rename_i he; rw [if_pos he] at h0; exact next_good h h.fine h0
      · rename_i he; rw [if_neg he] at h0; exact next_good h (swap_fine h.fine hx hy hh) h0
  · rename_i hh
    revert h0
    split
    · rename_i x y hx hy; exact (hh x y hx hy).elim
    · intro h0; cases h0
end Go.Proofs.YtggpodlecljcbadGreatDoor
namespace Go.Proofs.YtggpodlecljcbadGreatDoor
set_option linter.unusedSimpArgs false
set_option linter.unusedVariables false
def repl (f g : File) : File := if (g.name.toList == f.name.toList) = true then f else g
theorem repl_name (f g : File) : (repl f g).name.toList = g.name.toList := by
  unfold repl
  split
  · rename_i h; simpa using (beq_iff_eq.1 h).symm
  · rfl
theorem get_isSome (l : List File) (name : ByteArray) : (getAt l name).isSome = true ↔ ∃ g, g ∈ l ∧ g.name.toList = name.toList := by
  unfold getAt
  rw [List.find?_isSome]
  simp
theorem put_is_map (l : List File) (f : File) (hr : Rises l) (r : Nat) (hk : r = rank l f.name) (h : isAt l f.name r = true) : l.take r ++ f :: l.drop (r + 1) = l.map (repl f) := by
  have hl := isAt_len h
  have e : l.map (repl f) = (l.take r ++ l[r] :: l.drop (r + 1)).map (repl f) := by rw [← List.drop_eq_getElem_cons hl, List.take_append_drop]
  rw [isAt_lt l f.name r hl] at h
  have h1 : (l.take r).map (repl f) = l.take r := by
    conv => rhs; rw [← List.map_id (l.take r)]
    refine List.map_congr_left fun x hx => ?_
    obtain ⟨t, ht, rfl⟩ := List.getElem_of_mem hx
    rw [List.getElem_take]
    rw [List.length_take] at ht
    have := not_eq_of_lt (rank_before f.name l t (by omega) (by omega))
    unfold repl; rw [this]; simp
  have h2 : (l.drop (r + 1)).map (repl f) = l.drop (r + 1) := by
    conv => rhs; rw [← List.map_id (l.drop (r + 1))]
    refine List.map_congr_left fun x hx => ?_
    obtain ⟨t, ht, rfl⟩ := List.getElem_of_mem hx
    rw [List.getElem_drop]
    rw [List.length_drop] at ht
    have := neq_of_gt (same_name_lt h (hr.at r (r + 1 + t) (by omega) (by omega)))
    unfold repl; rw [this]; simp
  rw [e, List.map_append, List.map_cons, h1, h2]
  congr 2
  unfold repl; rw [h]; simp
theorem put_map (l : List File) (f : File) (hf : fileFault f = 0) (hr : Rises l) (hg : (getAt l f.name).isSome = true) : putAt l f = (l.map (repl f), 0) := by
  cases hi : isAt l f.name (rank l f.name)
  · rw [get_noneR l f.name hr hi] at hg; cases hg
  · rw [put_is l f hf hr _ rfl hi, put_is_map l f hr _ rfl hi]
theorem get_repl (l : List File) (f : File) (name : ByteArray) : (getAt (l.map (repl f)) name).isSome = (getAt l name).isSome := by
  rw [Bool.eq_iff_iff, get_isSome, get_isSome]
  constructor
  · rintro ⟨g, hg, e⟩
    obtain ⟨h, hh, rfl⟩ := List.mem_map.mp hg
    exact ⟨h, hh, by rw [← e, repl_name]⟩
  · rintro ⟨g, hg, e⟩
    exact ⟨_, List.mem_map.mpr ⟨g, hg, rfl⟩, by rw [repl_name]; exact e⟩
theorem swap_maps {l : List File} (h : Fine l) {a b : ByteArray} {x y : File} (hx : getAt l a = some x) (hy : getAt l b = some y) (hab : (a.toList == b.toList) = false) :
    (l.map (repl ⟨x.name, y.text, x.times + 1⟩)).map (repl ⟨y.name, x.text, y.times + 1⟩) = l.map (swapF a b x y) := by
  obtain ⟨mx, ex⟩ := h.mem hx
  obtain ⟨my, ey⟩ := h.mem hy
  rw [List.map_map]
  refine List.map_congr_left fun g hg => ?_
  show repl _ (repl _ g) = _
  unfold swapF
  have hne : a.toList ≠ b.toList := by simpa using hab
  by_cases e1 : g.name.toList = a.toList
  · have : g = x := name_inj h.rises hg mx (by rw [ex, e1])
    subst this
    have h1 : repl ⟨g.name, y.text, g.times + 1⟩ g = ⟨g.name, y.text, g.times + 1⟩ := by unfold repl; simp
    rw [h1, if_pos (by simpa using e1)]
    unfold repl
    rw [if_neg (by dsimp only; rw [e1, ey]; simpa using hne)]
  · rw [if_neg (by simpa using e1)]
    have h1 : repl ⟨x.name, y.text, x.times + 1⟩ g = g := by unfold repl; rw [if_neg (by dsimp only; rw [ex]; simpa using e1)]
    rw [h1]
    by_cases e2 : g.name.toList = b.toList
    · have : g = y := name_inj h.rises hg my (by rw [ey, e2])
      subst this
      rw [if_pos (by simpa using e2)]
      unfold repl; simp
    · rw [if_neg (by simpa using e2)]
      unfold repl; rw [if_neg (by dsimp only; rw [ey]; simpa using e2)]
/-- The two puts of a swap. -/
theorem swap_puts {l : List File} (h : Fine l) {a b : ByteArray} {x y : File} (hx : getAt l a = some x) (hy : getAt l b = some y) (hab : (a.toList == b.toList) = false) (h9 : ¬ (x.times = 9999 ∨ y.times = 9999)) :
    ∃ l1, putAt l ⟨x.name, y.text, x.times + 1⟩ = (l1, 0) ∧ Fine l1 ∧ putAt l1 ⟨y.name, x.text, y.times + 1⟩ = (l.map (swapF a b x y), 0) := by
  obtain ⟨mx, ex⟩ := h.mem hx
  obtain ⟨my, ey⟩ := h.mem hy
  have fx := file_good (h.each x mx)
  have fy := file_good (h.each y my)
  have f1 : fileFault ⟨x.name, y.text, x.times + 1⟩ = 0 := file_fault_of fx.1 fy.2.1 (by omega) (by omega)
  have f2 : fileFault ⟨y.name, x.text, y.times + 1⟩ = 0 := file_fault_of fy.1 fx.2.1 (by omega) (by omega)
  have p1 := put_map l ⟨x.name, y.text, x.times + 1⟩ f1 h.rises ((get_isSome _ _).2 ⟨x, mx, rfl⟩)
  have hf : Fine (l.map (repl ⟨x.name, y.text, x.times + 1⟩)) := by
    have := put_fine h ⟨x.name, y.text, x.times + 1⟩
    rw [p1] at this; exact this
  refine ⟨_, p1, hf, ?_⟩
  rw [put_map _ _ f2 hf.rises (by rw [get_repl]; exact (get_isSome _ _).2 ⟨y, my, rfl⟩), swap_maps h hx hy hab]
end Go.Proofs.YtggpodlecljcbadGreatDoor
