/- What a reading of an argument says of memory: copies, three copies. -/
import Derived.Test.YtggpodlecljcbabOpen
import Derived.Test.YtggpodlecljcbabWalkD4
namespace Go.Proofs.Ytggpodlecljcbab
open Go.ChangeShapes Go.WideShapes Go.ChangeAt Go.RowKit Go.Deep Go.Joins
section
variable {H : Type} {enc : TypeId × Value → H} {w : World} {base : Nat} {spare : Nat → Bool} {held : Bool}
theorem trod_copy {n : Nat} {cs : List Value} {y : DataW H × List MemPlace} (h : DataW.trod enc Try.prog w base spare held n 26 cs = some y) : ∃ (cv : CopyV) (c : Copy), cs = cv.cells ∧ IsCopy w cv c ∧ ∀ f ∈ c.quilt.files, f.ok := by
  obtain ⟨m0, z0, h0⟩ := trod_part Try.underlying26 0 4 0 1 rfl (by kernel_rfl) h
  obtain ⟨m1, z1, h1⟩ := trod_part Try.underlying26 1 24 1 2 rfl (by kernel_rfl) h
  obtain ⟨a, b, c, rfl⟩ := three_of (trod_cells Try.underlying26 3 (by kernel_rfl) h)
  obtain ⟨i, k0, _⟩ := DataW.trod_bool Try.underlying4 h0
  obtain ⟨v, q, k1, hf, ho⟩ := trod_quilt h1
  simp only [List.drop_zero, List.drop_succ_cons, List.take_succ_cons, List.take_zero, List.cons.injEq, and_true] at k0 k1
  obtain ⟨rfl, rfl⟩ := k1
  subst k0
  exact ⟨⟨i, _, q.turn⟩, ⟨i, q⟩, rfl, ⟨rfl, rfl, hf⟩, ho⟩
set_option maxRecDepth 100000 in
theorem trod_trio {n : Nat} {cs : List Value} {y : DataW H × List MemPlace} (h : DataW.trod enc Try.prog w base spare held n 27 cs = some y) : ∃ (tv : TrioV) (t : Trio), cs = tv.arr.toList ∧ IsTrio w tv t ∧ (∀ f ∈ t.a.quilt.files, f.ok) ∧ (∀ f ∈ t.b.quilt.files, f.ok) ∧ (∀ f ∈ t.c.quilt.files, f.ok) := by
  obtain ⟨xs, m, _, _, hl, hxl, hf⟩ := DataW.trod_array Try.underlying27 h
  have hl9 : cs.length = 9 := hl.trans (by kernel_rfl)
  have hC : Try.prog.cellsOf 26 = 3 := by kernel_rfl
  have e0 := hf 0 (by decide)
  have e1 := hf 1 (by decide)
  have e2 := hf 2 (by decide)
  rw [hC, List.getElem?_eq_getElem (by omega)] at e0 e1 e2
  obtain ⟨va, ca, k0, ha, oa⟩ := trod_copy e0
  obtain ⟨vb, cb, k1, hb, ob⟩ := trod_copy e1
  obtain ⟨vc, cc, k2, hc, oc⟩ := trod_copy e2
  refine ⟨⟨va, vb, vc⟩, ⟨ca, cb, cc⟩, ?_, ⟨ha, hb, hc⟩, oa, ob, oc⟩
  have hs : cs = cs.take 3 ++ ((cs.drop 3).take 3 ++ (cs.drop 6).take 3) := by
    match cs, hl9 with
    | [a, b, c, d, e, f, g, i, j], _ => rfl
  rw [hs]
  simp only [Nat.zero_mul, List.drop_zero, Nat.one_mul] at k0 k1 k2
  rw [k0, k1, show 6 = 2 * 3 from rfl, k2]
  rfl
end
end Go.Proofs.Ytggpodlecljcbab
