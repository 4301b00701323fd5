/- Plain laws on worlds: what a call leaves as it was, but for the blocks of a footprint. No program. -/
import Derived.Test.YtggpodlecljcbaaBase
import Derived.Laws.IdiomCopy
namespace Go.Proofs.Ytggpodlecljcbaa
set_option linter.unusedSimpArgs false
set_option linter.unusedVariables false
open Go.RowKit Go.Sort

/-- But for blocks of F, and new ones, memory is as it was. -/
structure Off (F : Nat → Prop) (w w' : World) : Prop where
  os : w'.os = w.os
  tape : w'.tape = w.tape
  output : w'.output = w.output
  size : w.heap.size ≤ w'.heap.size
  block : ∀ k, k < w.heap.size → ¬ F k → w'.heap[k]? = w.heap[k]?
theorem Off.refl (F : Nat → Prop) (w : World) : Off F w w := ⟨rfl, rfl, rfl, Nat.le_refl _, fun _ _ _ => rfl⟩
theorem Off.trans {F G : Nat → Prop} {a b c : World} (h : Off F a b) (k : Off G b c) (hs : ∀ x, x < a.heap.size → G x → F x) : Off F a c :=
  ⟨k.os.trans h.os, k.tape.trans h.tape, k.output.trans h.output, Nat.le_trans h.size k.size, fun i hi hf => (k.block i (Nat.lt_of_lt_of_le hi h.size) (fun hg => hf (hs i hi hg))).trans (h.block i hi hf)⟩
theorem Off.mono {F G : Nat → Prop} {a b : World} (h : Off F a b) (hs : ∀ x, F x → G x) : Off G a b :=
  ⟨h.os, h.tape, h.output, h.size, fun i hi hf => h.block i hi (fun x => hf (hs i x))⟩
theorem Off.below {F : Nat → Prop} {w w' : World} (h : Off F w w') (B : Nat) (hB : B ≤ w.heap.size) (hF : ∀ x, F x → B ≤ x) : Below B w w' :=
  ⟨h.os, h.tape, h.output, h.size, fun k hk => h.block k (by omega) (fun hf => by have := hF k hf; omega)⟩
theorem off_below {w w' : World} (h : Below w.heap.size w w') (F : Nat → Prop) : Off F w w' := ⟨h.os, h.tape, h.output, h.size, fun k hk _ => h.block k hk⟩
theorem off_setCell {F : Nat → Prop} (w : World) (a : Addr) (ha : F a.block) (v : Value) : Off F w (w.setCell a v) :=
  ⟨rfl, rfl, rfl, by simp [World.setCell], fun k _ hf => Below.heap_setCell _ _ _ _ (fun e => hf (e ▸ ha))⟩
theorem off_alloc (F : Nat → Prop) (w : World) (o : Obj) : Off F w (w.alloc o) := off_below (below_alloc w o) F
theorem off_drew (F : Nat → Prop) (w : World) : Off F w w.drew := ⟨rfl, rfl, rfl, Nat.le_refl _, fun _ _ _ => rfl⟩
theorem off_grown {F : Nat → Prop} {w w' : World} {row : Option Nat} (h : w.grownBy w' row) (hr : ∀ k, row = some k → F k) : Off F w w' :=
  ⟨h.os, h.tape, h.output, h.size, fun k hk hf => h.block k hk (fun e => hf (hr k e.symm))⟩
theorem Off.cell {F : Nat → Prop} {w w' : World} (h : Off F w w') {b o : Nat} {v : Value} (hc : w.cell? ⟨b, o, none⟩ = some v) (hf : ¬ F b) : w'.cell? ⟨b, o, none⟩ = some v := by
  rw [World.cell?_of_block (w := w) (a := ⟨b, o, none⟩) (h.block b (World.block_lt_of_cell? w _ hc) hf)]; exact hc
theorem heap_setCells (b : Nat) : ∀ (vs : List Value) (o : Nat) (w : World) (k : Nat), k ≠ b → (w.setCells b o vs).heap[k]? = w.heap[k]?
  | [], _, _, _, _ => rfl
  | v :: r, o, w, k, h => by
    rw [World.setCells, heap_setCells b r (o + 1) _ k h]
    exact Below.heap_setCell _ _ _ _ h
theorem size_setCells (b : Nat) : ∀ (vs : List Value) (o : Nat) (w : World), (w.setCells b o vs).heap.size = w.heap.size
  | [], _, _ => rfl
  | v :: r, o, w => by rw [World.setCells, size_setCells b r (o + 1)]; simp [World.setCell]
theorem rest_setCells (b : Nat) : ∀ (vs : List Value) (o : Nat) (w : World), (w.setCells b o vs).os = w.os ∧ (w.setCells b o vs).tape = w.tape ∧ (w.setCells b o vs).output = w.output
  | [], _, _ => ⟨rfl, rfl, rfl⟩
  | v :: r, o, w => by rw [World.setCells]; exact rest_setCells b r (o + 1) _
theorem off_setCells {F : Nat → Prop} (w : World) (b o : Nat) (vs : List Value) (hb : F b) : Off F w (w.setCells b o vs) :=
  ⟨(rest_setCells b vs o w).1, (rest_setCells b vs o w).2.1, (rest_setCells b vs o w).2.2, by rw [size_setCells]; exact Nat.le_refl _, fun k _ hf => heap_setCells b vs o w k (fun e => hf (e ▸ hb))⟩
/-- A block of cells, a cell of which is written. -/
theorem heap_set_self (w : World) (b o : Nat) (v : Value) {c : Array Value} {e : TypeId} {fz : Nat × Nat} (h : w.heap[b]? = some (.cells c e fz)) : (w.setCell ⟨b, o, none⟩ v).heap[b]? = some (.cells (c.setIfInBounds o v) e fz) := by
  simp [World.setCell, Array.getElem?_modify, h]
theorem heap_sets_self (b : Nat) : ∀ (vs : List Value) (o : Nat) (w : World) (c : Array Value) (e : TypeId) (fz : Nat × Nat), w.heap[b]? = some (.cells c e fz) → o + vs.length ≤ c.size →
    (w.setCells b o vs).heap[b]? = some (.cells (c.toList.take o ++ vs ++ c.toList.drop (o + vs.length)).toArray e fz)
  | [], o, w, c, e, fz, h, _ => by simp [World.setCells, h]
  | v :: r, o, w, c, e, fz, h, hl => by
    simp only [List.length_cons] at hl
    rw [World.setCells, heap_sets_self b r (o + 1) _ _ e fz (heap_set_self w b o v h) (by simp; omega)]
    congr 3
    simp only [Array.toList_setIfInBounds, List.length_cons]
    rw [List.take_set, List.drop_set, if_pos (by omega)]
    have ho : o < c.toList.length := by simp; omega
    have h1 : (c.toList.take (o + 1)).set o v = c.toList.take o ++ [v] := by
      rw [List.take_succ_eq_append_getElem ho, List.set_append_right _ _ (by simp; omega)]
      have : o - (c.toList.take o).length = 0 := by simp; omega
      rw [this]; rfl
    rw [h1]
    simp only [List.append_assoc, List.cons_append, List.nil_append, List.singleton_append]
    congr 4
    omega
section
variable {w w' : World} {base : Nat} {e : TypeId} {size : Nat} {v : Value} {n : Nat} {xs : List Value}
/-- An owned row hangs on its block alone. -/
theorem owns_of_block (h : w.ownsRow base e size v n xs) (hb : ∀ g, v.ownBlock = some g → w'.heap[g]? = w.heap[g]?) : w'.ownsRow base e size v n xs := by
  refine ⟨h.1, ?_⟩
  rcases h.2 with hn | ⟨g, cap, cur, rfl, hbg, hgg, rest⟩
  · exact .inl hn
  · exact .inr ⟨g, cap, cur, rfl, hbg, by rw [hb g rfl]; exact hgg, rest⟩
theorem Off.owns {F : Nat → Prop} (hO : Off F w w') (h : w.ownsRow base e size v n xs) (hf : ∀ g, v.ownBlock = some g → ¬ F g) : w'.ownsRow base e size v n xs :=
  owns_of_block h fun g hg => hO.block g (h.lt g hg).2 (hf g hg)
theorem owns_mono {base' : Nat} (h : w.ownsRow base e size v n xs) (hb : ∀ g, v.ownBlock = some g → base' ≤ g) : w.ownsRow base' e size v n xs := by
  refine ⟨h.1, ?_⟩
  rcases h.2 with hn | ⟨g, cap, cur, rfl, hbg, rest⟩
  · exact .inl hn
  · exact .inr ⟨g, cap, cur, rfl, hb g rfl, rest⟩
theorem owns_zero (h : w.ownsRow base e size v n xs) : w.ownsRow 0 e size v n xs := owns_mono h (fun _ _ => Nat.zero_le _)
/-- Cell i of an owned row is written. -/
theorem owns_set {g cap : Nat} (h : w.ownsRow base e size (.slice (some ⟨g, 0, none⟩) n cap) n xs) (i : Nat) (hi : i < xs.length) (u : Value) : (w.setCell ⟨g, i, none⟩ u).ownsRow base e size (.slice (some ⟨g, 0, none⟩) n cap) n (xs.set i u) := by
  refine ⟨by rw [List.length_set]; exact h.1, ?_⟩
  rcases h.2 with ⟨hn, _⟩ | ⟨g', cap', cur, hv, hbg, hgg, h1, h2, h3, h4⟩
  · cases hn
  · simp only [Value.slice.injEq, Option.some.injEq, Addr.mk.injEq] at hv
    obtain ⟨⟨rfl, _⟩, _, rfl⟩ := hv
    refine .inr ⟨_, _, _, rfl, hbg, heap_set_self w g i u hgg, h1, h2, by simpa using h3, ?_⟩
    simp only [Array.toList_setIfInBounds]
    rw [List.take_set, h4]
/-- All cells of an owned row are written. -/
theorem owns_sets {g cap : Nat} (h : w.ownsRow base e size (.slice (some ⟨g, 0, none⟩) n cap) n xs) (ys : List Value) (hy : ys.length = xs.length) : (w.setCells g 0 ys).ownsRow base e size (.slice (some ⟨g, 0, none⟩) n cap) n ys := by
  refine ⟨by rw [hy]; exact h.1, ?_⟩
  rcases h.2 with ⟨hn, _⟩ | ⟨g', cap', cur, hv, hbg, hgg, h1, h2, h3, h4⟩
  · cases hn
  · simp only [Value.slice.injEq, Option.some.injEq, Addr.mk.injEq] at hv
    obtain ⟨⟨rfl, _⟩, _, rfl⟩ := hv
    have hle : ys.length ≤ cur.size := by
      rw [hy, h.1, h3]; exact Nat.mul_le_mul_right _ h1
    refine .inr ⟨_, _, _, rfl, hbg, heap_sets_self g ys 0 w cur e (0, 0) hgg (by omega), h1, h2, ?_, ?_⟩
    · simp; omega
    · have : n * size = ys.length := by rw [hy, h.1]
      simp [this]
theorem owns_cell {g cap : Nat} (h : w.ownsRow base e size (.slice (some ⟨g, 0, none⟩) n cap) n xs) (j : Nat) (hj : j < xs.length) : w.cell? ⟨g, j, none⟩ = some xs[j] := by
  have := h.cells (g := g) rfl j xs[j] (List.getElem?_eq_getElem hj)
  rwa [Addr.add_lit, Nat.zero_add] at this
theorem owns_frozen {g cap : Nat} (h : w.ownsRow base e size (.slice (some ⟨g, 0, none⟩) n cap) n xs) (j : Nat) : w.frozen? ⟨g, j, none⟩ = false := by
  rcases h.2 with ⟨hn, _⟩ | ⟨g', cap', cur, hv, hbg, hgg, _⟩
  · cases hn
  · simp only [Value.slice.injEq, Option.some.injEq, Addr.mk.injEq] at hv
    obtain ⟨⟨rfl, _⟩, _⟩ := hv
    simp [World.frozen?, hgg]
theorem owns_cap {g cap : Nat} (h : w.ownsRow base e size (.slice (some ⟨g, 0, none⟩) n cap) n xs) : n ≤ cap ∧ cap ≤ maxLen := by
  rcases h.2 with ⟨hn, _⟩ | ⟨g', cap', cur, hv, hbg, hgg, h1, h2, _⟩
  · cases hn
  · simp only [Value.slice.injEq] at hv
    obtain ⟨_, _, rfl⟩ := hv
    exact ⟨h1, h2⟩
theorem owns_parts (h : w.ownsRow base e size v n xs) : ∃ ao cap, v = .slice ao n cap ∧ n ≤ cap ∧ cap ≤ maxLen ∧ (∀ a, ao = some a → ∃ g, a = ⟨g, 0, none⟩ ∧ base ≤ g) ∧ (ao = none → cap = 0) := by
  rcases h.2 with ⟨rfl, rfl⟩ | ⟨g, cap, cur, rfl, hbg, hgg, h1, h2, _⟩
  · exact ⟨none, 0, rfl, Nat.le_refl _, Nat.zero_le _, (fun _ h => by cases h), fun _ => rfl⟩
  · exact ⟨_, cap, rfl, h1, h2, (fun a ha => ⟨g, by cases ha; rfl, hbg⟩), (fun h => by cases h)⟩
end
end Go.Proofs.Ytggpodlecljcbaa
