/- Plain laws on worlds: what a call appends to a slice of its own. -/
import Derived.Test.YtggpodlecljcbaaGreatDoorBase
namespace Go.Proofs.YtggpodlecljcbaaGreatDoor
open Go.RowKit Go.Sort

/-- The element's type of a slice's type: its size in cells and in bytes. -/
def ElemInfo (P : Program) (T E k bytes : Nat) : Prop :=
  ∃ i z, P.underlying T = some (.slice E) ∧ P.info? E = some i ∧ i.zero = some z ∧ i.size = k ∧ i.bytes = bytes ∧ z.cells.size = k ∧ 0 < k ∧ bytes ≤ 100
theorem elemInfo_of {P : Program} {T E k bytes : Nat} {z : Value} (h1 : P.underlying T = some (.slice E)) (h2 : (P.info? E).map (fun i => (i.zero, i.size, i.bytes)) = some (some z, k, bytes)) (h3 : z.cells.size = k) (h4 : 0 < k) (h5 : bytes ≤ 100) : ElemInfo P T E k bytes := by
  obtain ⟨i, hi, he⟩ := Option.map_eq_some_iff.1 h2
  simp only [Prod.mk.injEq] at he
  exact ⟨i, z, h1, hi, he.1, he.2.1, he.2.2, h3, h4, h5⟩
theorem wpList_app {P : Program} {T E k bytes : Nat} (I : ElemInfo P T E k bytes) {w : World} {ops : Array Oper} {rest : List Oper} {o : Oper} {a : Act} {Q : Exit → Act → World → Prop} (hgd : o.guard = none) (s x : Operand)
    (ho : o.op = .call { callee := .builtin .append, args := #[s, x], argTypes := #[T, T] })
    (base : Nat) (v : Value) (n : Nat) (xs : List Value) (hs : a.eval s = v) (hown : w.ownsRow base E k v n xs)
    (ad : Addr) (m c : Nat) (news : List Value) (hx : a.eval x = .slice (some ad) m c) (hl : news.length = m * k) (hnews : ∀ j u, news[j]? = some u → w.cell? (ad.add j) = some u) (h1 : ∀ u ∈ news, u.oneCell' = true)
    (h63 : n + m ≤ 1000000000) (hbase : base ≤ w.heap.size)
    (h : ∀ v' w', w'.ownsRow base E k v' (n + m) (xs ++ news) → w.grownBy w' v.ownBlock → wpList P ops Q rest (a.put o.dst v') w') : wpList P ops Q (o :: rest) a w := by
  obtain ⟨i, z, e1, e2, e3, e4, e5, e6, e7, e8⟩ := I
  refine wpList_append_own w hgd s x T ho base E i z k bytes e1 e2 e3 e4 e5 e6 e7 v n xs hs hown ad m c news hx hl hnews h1 (by unfold maxLen; omega) ?_ hbase (fun v' w' a b _ => h v' w' a b)
  calc (n + m) * bytes ≤ 1000000000 * 100 := Nat.mul_le_mul h63 e8
    _ ≤ 140737488355328 := by decide
theorem SL.of_own {w : World} {base e k : Nat} {v : Value} {n : Nat} {xs : List Value} (h : w.ownsRow base e k v n xs) : SL w k v n xs := by
  obtain ⟨h1, h2⟩ := h
  refine ⟨h1, ?_⟩
  rcases h2 with ⟨rfl, rfl⟩ | ⟨g, cap, cur, rfl, _, hg, hn, hm, hs, ht⟩
  · refine ⟨none, 0, rfl, Nat.le_refl _, Nat.zero_le _, fun _ _ => rfl, fun j u hj => ?_⟩
    have : xs = [] := List.eq_nil_of_length_eq_zero (by simpa using h1)
    subst this
    simp at hj
  · refine ⟨some ⟨g, 0, none⟩, cap, rfl, hn, hm, (fun _ h => by cases h), fun j u hj => ⟨g, 0, rfl, ?_⟩⟩
    rw [Nat.zero_add, cell_of_row w g j cur e (0, 0) hg]
    rw [← ht, List.getElem?_take] at hj
    split at hj
    · simpa using hj
    · cases hj
theorem grown_below {w w0 w' : World} {base e k : Nat} {v : Value} {n : Nat} {xs : List Value} (hb : Below w0.heap.size w0 w) (hown : w.ownsRow base e k v n xs) (hg : w.grownBy w' v.ownBlock) (hbase : w0.heap.size ≤ base) : Below w0.heap.size w0 w' :=
  hb.grown hg hb.size (fun j hj => Nat.le_trans hbase (hown.lt j hj).1)
theorem flat_append {α : Type} (enc : α → List Value) (l : List α) (x : α) : (l ++ [x]).flatMap enc = l.flatMap enc ++ enc x := by simp
theorem one_new {w : World} {u : Value} {t : TypeId} : ∀ (j : Nat) (x : Value), [u][j]? = some x → (w.alloc (.cells #[u] t)).cell? ((⟨w.heap.size, 0, none⟩ : Addr).add j) = some x := cell_one_new _ _ _
end Go.Proofs.YtggpodlecljcbaaGreatDoor
