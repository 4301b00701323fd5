/- The walk of the statement LogSays. -/
import Derived.Test.YtggpodlecljcbabLawY
import Derived.Test.YtggpodlecljcbabWalkK6
import Derived.Maps.AppendAt
namespace Go.Proofs.Ytggpodlecljcbab
set_option linter.unusedSimpArgs false
set_option linter.unusedVariables false
open Go.RowKit Go.Sort
theorem closedY_len (first : Nat) : ∀ (l : List ByteArray) (i : Nat) (o : List (List Change)) (d : List Change) (u : Nat), (closedY first l i o d u).1.length ≤ o.length + l.length
  | [], _, _, _, _ => by simp [closedY]
  | s :: r, i, o, d, u => by
    simp only [closedY]
    cases hs : stepY first i s o d u with
    | none => simp
    | some p =>
      obtain ⟨o1, d1, u1⟩ := p
      have ih := closedY_len first r (i + 1) o1 d1 u1
      have hk : o1.length ≤ o.length + 1 := by
        unfold stepY at hs
        split at hs
        · cases hs
        · split at hs
          · split at hs
            · simp only [Option.some.injEq, Prod.mk.injEq] at hs; rw [← hs.1]; simp
            · cases hs
          · split at hs
            · cases hs
            · simp only [Option.some.injEq, Prod.mk.injEq] at hs; rw [← hs.1]; omega
      simp only [List.length_cons]
      omega
theorem step_own {P : Program} (w : World) {ops : Array Oper} {o : Oper} {a : Go.Act} {K : Go.Act → World → Prop} {Q : Exit → Go.Act → World → Prop} {E : Prop} (hgd : o.guard = none) (s x : Operand) (t : TypeId)
    (ho : o.op = .call { callee := .builtin .append, args := #[s, x], argTypes := #[t, t] })
    (base : Nat) (e : TypeId) (size bytes : Nat) (I : ElemInfo P t e size bytes)
    (v : Value) (n : Nat) (xs : List Value) (hs : a.eval s = v) (hown : w.ownsRow base e size v n xs)
    (ad : Addr) (m c : Nat) (news : List Value) (hx : a.eval x = .slice (some ad) m c) (hl : news.length = m * size) (hnews : ∀ j u, news[j]? = some u → w.cell? (ad.add j) = some u) (h1 : ∀ u ∈ news, u.oneCell' = true)
    (h63 : n + m ≤ 1000000000) (hbase : base ≤ w.heap.size)
    (h : ∀ v' w', w'.ownsRow base e size v' (n + m) (xs ++ news) → w.grownBy w' v.ownBlock → K (a.put o.dst v') w') :
    if Region.wanted o (yielded ops a.tmps) = true then Oper.wp P o a w K Q else E := by
  have hw : Region.wanted o (yielded ops a.tmps) = true := by simp [Region.wanted, hgd]
  rw [if_pos hw]
  obtain ⟨i, z, e1, e2, e3, e4, e5, e6, e7, e8⟩ := I
  obtain ⟨v', w', hr, h2, h3, _, _⟩ := run_append_own_at (P := P) w base t o.type e i z size bytes e1 e2 e3 e4 e5 e6 e7 v n xs hown ad m c news hl hnews h1 (by unfold maxLen; omega) (by
    calc (n + m) * bytes ≤ 1000000000 * 100 := Nat.mul_le_mul h63 e8
      _ ≤ 140737488355328 := by decide) hbase
  unfold Oper.wp execOp
  simp only [ho, resolve, invoke, builtin, Sem.run_bind, Sem.run_pure, Result.andThen_ok, List.map_toArray, List.map_cons, List.map_nil, hs, hx, hr]
  exact h v' w' h2 h3
theorem deeds_push {F : Nat → Prop} {W w2 : World} {vs : List Value} {ds : List (List Change)} {cv v2 : Value} {c : List Change} (h3 : ∀ i (h : i < vs.length) (h' : i < ds.length), ChangesF F W vs[i] ds[i]) (hlen : vs.length = ds.length) (hc : ChangesF F W cv c) (hb : Below W.heap.size W w2)
    (ho : w2.ownsRow W.heap.size 48 1 v2 (vs.length + 1) (vs ++ [cv])) (hF : ∀ k, F k → k < W.heap.size) : Deeds F w2 v2 (ds ++ [c]) := by
  refine ⟨vs ++ [cv], ⟨?_, fun a n c' e p q => far_own ho a n c' e p (hF _ q)⟩, by simp [hlen], fun i a b => ?_⟩
  · have := SL.of_own ho
    rw [Rd, flat_single]
    simpa using this
  · by_cases hi : i < vs.length
    · have hi' : i < ds.length := by omega
      rw [List.getElem_append_left hi, List.getElem_append_left hi']
      exact (h3 i hi hi').below hb
    · have e1 : i = vs.length := by simp at a; omega
      have e2 : i = ds.length := by omega
      have g1 : (vs ++ [cv])[i] = cv := by simp [e1]
      have g2 : (ds ++ [c])[i] = c := by simp [e2]
      rw [g1, g2]
      exact hc.below hb
theorem texts_own {w : World} {base n : Nat} {v : Value} {S : List ByteArray} (hn : S.length = n) (h : w.ownsRow base 9 1 v n ((S.map Value.string).take n)) : Texts w v S := by
  subst hn
  have := SL.of_own h
  rw [List.take_of_length_le (by simp)] at this
  have hm : S.map Value.string = S.flatMap strCells := by
    clear this h
    induction S with
    | nil => rfl
    | cons a r ih => simp [strCells, ih]
  rw [hm] at this
  exact this
theorem one_newd {w : World} {u : Value} {t : TypeId} : ∀ (j : Nat) (x : Value), [u][j]? = some x → (w.alloc (.cells #[u] t)).drew.cell? ((⟨w.heap.size, 0, none⟩ : Addr).add j) = some x := fun j x h => one_new j x h
theorem srcd {w w1 : World} {u : Value} {t : TypeId} (h : (w.alloc (.cells #[u] t)).drew.grownBy w1 none) : ∀ (j : Nat) (x : Value), [u][j]? = some x → w1.cell? ((⟨w.heap.size, 0, none⟩ : Addr).add j) = some x := fun j x hj => by
  have hb : Below (w.alloc (.cells #[u] t)).drew.heap.size (w.alloc (.cells #[u] t)).drew w1 := ⟨h.os, h.tape, h.output, h.size, fun k hk => h.block k hk (by simp)⟩
  have h1 := one_newd (w := w) (t := t) j x hj
  rw [Addr.add_lit] at h1 ⊢
  exact cell_on' hb h1
theorem calm_add_bad (fr many first next : Nat) (c : List Change) (D : DiskS) (h : addFault many next c ≠ 0) : addY fr many first next c D = (D, addFault many next c) := by
  unfold addY; rw [if_pos h]
end Go.Proofs.Ytggpodlecljcbab
