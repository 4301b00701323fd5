/- Plain laws on worlds: a slice that reads as cells; what stays as memory grows. No program. -/
import Derived.WalkSpells
import Derived.WalkLawsBesides
import Derived.Lib.Hide
import Derived.Lib.QuietBelow
import Derived.BigQuiet
namespace Go.Proofs.Ytggpodlecljcbaa
open Go.RowKit Go.Sort

/-- The slice value v has n elements of k cells each: these cells. -/
def SL (w : World) (k : Nat) (v : Value) (n : Nat) (cs : List Value) : Prop :=
  cs.length = n * k ∧ ∃ (ao : Option Addr) (cap : Nat), v = .slice ao n cap ∧ n ≤ cap ∧ cap ≤ maxLen ∧ (n = 0 → ao = none → cap = 0) ∧
    ∀ j u, cs[j]? = some u → ∃ b off, ao = some ⟨b, off, none⟩ ∧ w.cell? ⟨b, off + j, none⟩ = some u

theorem SL.below {w w' : World} {k : Nat} {v : Value} {n : Nat} {cs : List Value} (h : SL w k v n cs) (hb : Below w.heap.size w w') : SL w' k v n cs := by
  obtain ⟨h1, ao, cap, h2, h3, h4, h5, h6⟩ := h
  refine ⟨h1, ao, cap, h2, h3, h4, h5, fun j u hj => ?_⟩
  obtain ⟨b, off, e, hc⟩ := h6 j u hj
  exact ⟨b, off, e, by rw [hb.cell (p := ⟨b, off + j, none⟩) (World.block_lt_of_cell? w _ hc)]; exact hc⟩

theorem wpQuiet_mono {P : Program} {ops : Array Oper} {C : World → Prop} {Q Q' : Act → Prop} (hq : ∀ a, Q a → Q' a) : ∀ {l : List Oper} {a : Act}, wpQuiet P ops C Q l a → wpQuiet P ops C Q' l a
  | [], _, h => hq _ h
  | o :: rest, a, h => by
    unfold wpQuiet at h ⊢
    split
    · rename_i hw
      rw [if_pos hw] at h
      exact Oper.quiet_mono (fun a h => wpQuiet_mono hq h) h
    · rename_i hw
      rw [if_neg hw] at h
      exact wpQuiet_mono hq h
/-- A region that draws its order, whose operations read and whose callees may lay blocks: one walk, in the text's order; behind it the world is any that has grown. -/
theorem wp_region_q {P : Program} {id : Nat} {Q : Exit → Act → World → Prop} {a : Act} {w : World} {l : List Oper} (hm : P.follows .mixedOrders = true) (hB : Region.lexB .any l.toArray = true)
    (h : wpQuiet P l.toArray (fun w' => ∃ p : Regrown, w' = grow (redrawn w p.d) p.os) (fun a' => ∀ w', Below w.heap.size w w' → Q .normal a' w') l a) : (Code.region id l.toArray true).wp P Q a w := by
  refine wp_region_quiet (C := fun w' => ∃ p : Regrown, w' = grow (redrawn w p.d) p.os) hm hB ⟨⟨w.drawn + 1, #[]⟩, by rw [grow_empty]; rfl⟩ ?_
  refine wpQuiet_mono (Q := fun a' => ∀ w', Below w.heap.size w w' → Q .normal a' w') (fun a' h w' hp => ?_) (by simpa using h)
  obtain ⟨p, rfl⟩ := hp
  exact h _ (below_regrown w p.d p.os)
theorem regrown_cell {w : World} {b o : Nat} {v : Value} (h : w.cell? ⟨b, o, none⟩ = some v) : ∀ d os, (grow (redrawn w d) os).cell? ⟨b, o, none⟩ = some v := fun d os => cell_regrown h d os
theorem below_alloc (w : World) (o : Obj) : Below w.heap.size w (w.alloc o) := (Below.refl _ _).alloc (Nat.le_refl _) _
theorem two {w w1 w2 : World} (h1 : Below w.heap.size w w1) (h2 : Below w1.heap.size w1 w2) : Below w.heap.size w w2 := h1.trans (h2.mono h1.size)
/-- A cell of an older block, in a later world. -/
theorem cell_on' {w w' : World} (hb : Below w.heap.size w w') {b o : Nat} {v : Value} (h : w.cell? ⟨b, o, none⟩ = some v) : w'.cell? ⟨b, o, none⟩ = some v := by
  rw [hb.cell (p := ⟨b, o, none⟩) (World.block_lt_of_cell? w _ h)]; exact h
theorem bcell {W w1 : World} (hb : Below W.heap.size W w1) : (∀ b o, b < W.heap.size → w1.cell? ⟨b, o, none⟩ = W.cell? ⟨b, o, none⟩) ∧ (∀ b o, b < W.heap.size → w1.frozen? ⟨b, o, none⟩ = W.frozen? ⟨b, o, none⟩) :=
  ⟨fun b o h => hb.cell (p := ⟨b, o, none⟩) h, fun b o h => hb.frozen (p := ⟨b, o, none⟩) h⟩

/-- v reads as the list l, each element as its k cells. -/
def Rd {α : Type} (k : Nat) (enc : α → List Value) (w : World) (v : Value) (l : List α) : Prop := SL w k v l.length (l.flatMap enc)
section
variable {α : Type} {k : Nat} {enc : α → List Value} {w : World} {v : Value} {l : List α}
theorem Rd.below {w' : World} (h : Rd k enc w v l) (hb : Below w.heap.size w w') : Rd k enc w' v l := SL.below h hb
theorem flat_at (henc : ∀ x, (enc x).length = k) : ∀ (l : List α) (i : Nat) (h : i < l.length) (j : Nat), j < k → (l.flatMap enc)[i * k + j]? = (enc l[i])[j]?
  | x :: l, 0, _, j, hj => by
    have := henc x
    simp only [List.flatMap_cons, Nat.zero_mul, Nat.zero_add, List.getElem_cons_zero]
    rw [List.getElem?_append_left (by omega)]
  | x :: l, i + 1, h, j, hj => by
    have h1 := henc x
    have := flat_at henc l i (by simpa using h) j hj
    simp only [List.flatMap_cons, List.getElem_cons_succ]
    rw [Nat.add_mul, Nat.one_mul, List.getElem?_append_right (by omega)]
    rw [← this]
    congr 1
    omega
theorem flat_length (henc : ∀ x, (enc x).length = k) : ∀ (l : List α), (l.flatMap enc).length = l.length * k
  | [] => by simp
  | x :: l => by
    simp only [List.flatMap_cons, List.length_append, List.length_cons, henc x, flat_length henc l, Nat.add_mul, Nat.one_mul]
    omega
theorem Rd.parts (h : Rd k enc w v l) : ∃ ao cap, v = .slice ao l.length cap ∧ l.length ≤ cap ∧ cap ≤ 9223372036854775807 := by
  obtain ⟨_, ao, cap, h1, h2, h3, _⟩ := h
  exact ⟨ao, cap, h1, h2, by simpa [maxLen] using h3⟩
theorem Rd.at {ao : Option Addr} {n cap : Nat} (henc : ∀ x, (enc x).length = k) (hk : 0 < k) (h : Rd k enc w (.slice ao n cap) l) (i : Nat) (hi : i < l.length) :
    ∃ b off, ao = some ⟨b, off, none⟩ ∧ b < w.heap.size ∧ ∀ j u, (enc l[i])[j]? = some u → w.cell? ⟨b, off + i * k + j, none⟩ = some u := by
  obtain ⟨_, ao', cap', h1, _, _, _, h5⟩ := h
  simp only [Value.slice.injEq] at h1
  obtain ⟨rfl, _, rfl⟩ := h1
  have h0 := flat_at henc l i hi 0 hk
  have h0' : (enc l[i])[0]? = some ((enc l[i])[0]'(by rw [henc]; exact hk)) := List.getElem?_eq_getElem _
  rw [h0'] at h0
  obtain ⟨b, off, rfl, c0⟩ := h5 _ _ h0
  refine ⟨b, off, rfl, World.block_lt_of_cell? w _ c0, fun j u hj => ?_⟩
  have hjk : j < k := by rw [← henc l[i]]; exact (List.getElem?_eq_some_iff.1 hj).1
  have h1 := flat_at henc l i hi j hjk
  rw [hj] at h1
  obtain ⟨b1, off1, e1, c1⟩ := h5 _ _ h1
  simp only [Option.some.injEq, Addr.mk.injEq, and_true] at e1
  obtain ⟨rfl, rfl⟩ := e1
  rw [Nat.add_assoc]
  exact c1
/-- A slice of a slice. -/
theorem Rd.nil (w : World) : Rd k enc w (.slice none 0 0) ([] : List α) := ⟨by simp, none, 0, rfl, Nat.le_refl _, Nat.zero_le _, fun _ _ => rfl, fun j u hj => by simp at hj⟩
end
theorem eq_of_take {α : Type} (a b : List α) (k : Nat) (h1 : a.take k = b.take k) (h2 : ¬ k < a.length) (h3 : a.length = b.length) : a = b := by
  rw [List.take_of_length_le (by omega), List.take_of_length_le (by omega)] at h1
  exact h1
theorem take_next {α : Type} (a b : List α) (k : Nat) (h1 : a.take k = b.take k) (ha : k < a.length) (hb : k < b.length) (h : a[k] = b[k]) : a.take (k + 1) = b.take (k + 1) := by
  rw [List.take_succ_eq_append_getElem ha, List.take_succ_eq_append_getElem hb, h1, h]
theorem ne_of_at {α : Type} (a b : List α) (k : Nat) (ha : k < a.length) (hb : k < b.length) (h : a[k] ≠ b[k]) : a ≠ b := by
  rintro rfl; exact h rfl
theorem ne_of_length {α : Type} {a b : List α} (h : a.length ≠ b.length) : a ≠ b := by rintro rfl; exact h rfl
theorem bytes_eq_iff (a b : ByteArray) : a.toList = b.toList ↔ a = b := by
  rw [ByteArray.toList_eq, ByteArray.toList_eq]
  constructor
  · intro h; exact Go.WideShapes.bytes_inj h
  · rintro rfl; rfl
theorem ret_bool {a b : Bool} (h : a = b) : Ending.returned (.bool a) = .returned (.bool b) := by rw [h]
theorem ret_int {k : IntKind} {a b : Int} (h : a = b) : Ending.returned (.int k a) = .returned (.int k b) := by rw [h]
end Go.Proofs.Ytggpodlecljcbaa
