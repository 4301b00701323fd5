/- The walk of the reference's Write. -/
import Derived.Test.YtggpodlecljcbabWalkK4
namespace Go.Proofs.Ytggpodlecljcbab
open Go.RowKit Go.Sort
set_option linter.unusedSimpArgs false
set_option linter.unusedVariables false
theorem wpList_lies {P : Program} {T E k bytes : Nat} (I : ElemInfo P T E k bytes) {w : World} {ops : Array Oper} {rest : List Oper} {o : Oper} {a : Act} {Q : Exit → Act → World → Prop} (hgd : o.guard = none) (s x : Operand)
    (ho : o.op = .call { callee := .builtin .append, args := #[s, x], argTypes := #[T, T] })
    (base : Nat) (v : Value) (n : Nat) (xs : List Value) (hs : a.eval s = v) (hown : w.ownsRow base E k v n xs)
    (ad : Addr) (m c : Nat) (news : List Value) (hx : a.eval x = .slice (some ad) m c) (hl : news.length = m * k) (hnews : ∀ j u, news[j]? = some u → w.cell? (ad.add j) = some u) (h1 : ∀ u ∈ news, u.oneCell' = true)
    (hm : 0 < m) (h63 : n + m ≤ 1000000000) (hbase : base ≤ w.heap.size) (H : Nat) (hH : w.heap.size = H)
    (h : ∀ g cap w', w'.ownsRow base E k (.slice (some ⟨g, 0, none⟩) (n + m) cap) (n + m) (xs ++ news) → w.grownBy w' v.ownBlock → (v.ownBlock = some g ∨ g = H) → g < w'.heap.size → wpList P ops Q rest (a.put o.dst (.slice (some ⟨g, 0, none⟩) (n + m) cap)) w') : wpList P ops Q (o :: rest) a w := by
  obtain ⟨i, z, e1, e2, e3, e4, e5, e6, e7, e8⟩ := I
  refine wpList_append_lies w hgd s x T ho base E i z k bytes e1 e2 e3 e4 e5 e6 e7 v n xs hs hown ad m c news hx hl hnews h1 hm (by unfold maxLen; omega) ?_ hbase H hH h
  calc (n + m) * bytes ≤ 1000000000 * 100 := Nat.mul_le_mul h63 e8
    _ ≤ 140737488355328 := by decide
theorem write_turned {ty tt : TypeId} {w W3 : World} {L : Dk} {D D1 : DiskS} {i : Nat} {s : ByteArray} (HD3 : DAt ty tt W3 L { D1 with now := D1.now.set i s }) (HO : Off L.foot w W3) (q1 : D1.now = D.now) (q2 : D1.wait = D.wait)
    (g cap : Nat) (w' : World) (ho : w'.ownsRow 0 tt 2 (.slice (some ⟨g, 0, none⟩) (D1.wait.length + 1) cap) (D1.wait.length + 1) (D1.wait.flatMap Turn.cells ++ [.int .i64 i, .string s])) (hg : W3.grownBy w' L.wv.ownBlock) (hor : L.wv.ownBlock = some g ∨ g = W3.heap.size) :
    Turned ty tt w L ({ D1 with now := D.now.set i s, wait := D.wait ++ [⟨i, s⟩] }) (w'.setCell ⟨L.b, 2, none⟩ (.slice (some ⟨g, 0, none⟩) (D1.wait.length + 1) cap)) := by
  have el : (D.wait ++ [(⟨i, s⟩ : Turn)]).length = D1.wait.length + 1 := by rw [q2]; simp
  have ho' : w'.ownsRow 0 tt 2 (.slice (some ⟨g, 0, none⟩) (D.wait ++ [(⟨i, s⟩ : Turn)]).length cap) (D.wait ++ [(⟨i, s⟩ : Turn)]).length ((D.wait ++ [(⟨i, s⟩ : Turn)]).flatMap Turn.cells) := by
    rw [el, flat_append, ← q2]; exact ho
  have hor' : L.wv.ownBlock = some g ∨ W3.heap.size ≤ g := hor.imp id (fun e => by omega)
  have hd := HD3.grow_wait hg g cap _ ho' hor'
  refine ⟨{ L with wv := .slice (some ⟨g, 0, none⟩) (D1.wait.length + 1) cap }, rfl, by rw [← el, ← q1]; exact hd, ?_, fun k hk => ?_⟩
  · refine off_grown_set ?_ (Or.inl rfl) 2 _
    exact HO.trans (off_grown (F := L.foot) hg (fun k hk => Or.inr (Or.inr (Or.inr hk)))) (fun _ _ h => h)
  · have hz := HO.size
    rcases hk with hk | hk | hk | hk
    · exact Or.inl (Or.inl hk)
    · exact Or.inl (Or.inr (Or.inl hk))
    · exact Or.inl (Or.inr (Or.inr (Or.inl hk)))
    · have : g = k := by simpa [Value.ownBlock] using hk
      subst this
      rcases hor with h | h
      · exact Or.inl (Or.inr (Or.inr (Or.inr h)))
      · exact Or.inr (by omega)
theorem grow_keeps {ty tt : TypeId} {w w' : World} {L : Dk} {D : DiskS} (h : DAt ty tt w L D) (hg : w.grownBy w' L.wv.ownBlock) : w'.cell? ⟨L.b, 2, none⟩ = some L.wv ∧ w'.frozen? ⟨L.b, 2, none⟩ = false := by
  have e := hg.block L.b (h.lt _ (Or.inl rfl)) (fun e => h.wb e.symm)
  exact ⟨(World.cell?_of_block (a := ⟨L.b, 2, none⟩) e).trans h.c2, (World.frozen?_of_block (a := ⟨L.b, 2, none⟩) e).trans (h.f 2)⟩
end Go.Proofs.Ytggpodlecljcbab
