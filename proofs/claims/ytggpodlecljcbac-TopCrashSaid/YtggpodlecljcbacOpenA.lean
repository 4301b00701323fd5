/- What a reading of an argument says of memory: acts. Bounds of numbers that fit. -/
import Derived.Test.YtggpodlecljcbacOpen
import Derived.Test.YtggpodlecljcbacWalkR
namespace Go.Proofs.Ytggpodlecljcbac
open Go.ChangeShapes Go.WideShapes Go.ChangeAt Go.RowKit Go.Deep Go.Joins
section
variable {H : Type} {enc : TypeId × Value → H} {w : World} {base : Nat} {spare : Nat → Bool} {held : Bool}
theorem six_of {α : Type} {cs : List α} (h : cs.length = 6) : ∃ a b c d e f, cs = [a, b, c, d, e, f] := by
  match cs, h with
  | [a, b, c, d, e, f], _ => exact ⟨a, b, c, d, e, f, rfl⟩
def Act.fits (a : Act) : Prop := (Lit.int .i64 a.n).wf = true ∧ (Lit.int .u64 a.k).wf = true
set_option maxRecDepth 100000 in
theorem trod_act0 {n : Nat} {cs : List Value} {y : DataW H × List MemPlace} (h : DataW.trod enc Try.prog w base spare held n 36 cs = some y) : ∃ av : ActV, cs = av.cells ∧ ∃ a : Act, IsAct w av a ∧ a.ok ∧ a.fits := by
  obtain ⟨m0, z0, h0⟩ := trod_part Try.underlying36 0 9 0 1 rfl (by kernel_rfl) h
  obtain ⟨m1, z1, h1⟩ := trod_part Try.underlying36 1 9 1 1 rfl (by kernel_rfl) h
  obtain ⟨m2, z2, h2⟩ := trod_part Try.underlying36 2 9 2 1 rfl (by kernel_rfl) h
  obtain ⟨m3, z3, h3⟩ := trod_part Try.underlying36 3 3 3 1 rfl (by kernel_rfl) h
  obtain ⟨m4, z4, h4⟩ := trod_part Try.underlying36 4 33 4 1 rfl (by kernel_rfl) h
  obtain ⟨m5, z5, h5⟩ := trod_part Try.underlying36 5 34 5 1 rfl (by kernel_rfl) h
  obtain ⟨a, b, c, d, e, f, rfl⟩ := six_of (trod_cells Try.underlying36 6 (by kernel_rfl) h)
  obtain ⟨s0, k0, _, o0⟩ := DataW.trod_string Try.underlying9 h0
  obtain ⟨s1, k1, _, o1⟩ := DataW.trod_string Try.underlying9 h1
  obtain ⟨s2, k2, _, o2⟩ := DataW.trod_string Try.underlying9 h2
  obtain ⟨i3, k3, _, o3⟩ := DataW.trod_int Try.underlying3 h3
  obtain ⟨i4, k4, _, o4⟩ := DataW.trod_int Try.underlying33 h4
  obtain ⟨v, l, k5, hr, o5⟩ := trod_changes h5
  simp only [List.drop_zero, List.drop_succ_cons, List.take_succ_cons, List.take_zero, List.cons.injEq, and_true] at k0 k1 k2 k3 k4 k5
  subst k0 k1 k2 k3 k4 k5
  exact ⟨⟨s0, s1, s2, i3, i4, _⟩, rfl, ⟨s0, s1, s2, i3, i4, l⟩, ⟨rfl, rfl, rfl, rfl, rfl, hr⟩, ⟨o0, o1, o2, o5⟩, ⟨o3, o4⟩⟩
theorem trod_acts {n : Nat} {cs : List Value} {y : DataW H × List MemPlace} (h : DataW.trod enc Try.prog w base spare held n 22 cs = some y) : ∃ v avs al, cs = [v] ∧ ActVs w v avs ∧ IsActs w avs al ∧ ∀ a ∈ al, a.ok ∧ a.fits := by
  obtain ⟨v, l, e, hr, hok⟩ := trod_rd (ok := fun av => ∃ a : Act, IsAct w av a ∧ a.ok ∧ a.fits) Try.underlying22 (by kernel_rfl) (by decide) ActV.cells_len (fun _ _ _ h => trod_act0 h) h
  obtain ⟨al, hl, hp⟩ := build_list (p := fun i (a : Act) => ∀ hi : i < l.length, IsAct w l[i] a ∧ a.ok ∧ a.fits) l.length (fun i hi => by
    obtain ⟨a, ha⟩ := hok l[i] (List.getElem_mem hi)
    exact ⟨a, fun _ => ha⟩)
  refine ⟨v, l, al, e, hr, ⟨hl.symm, fun i h h' => (hp i h' h).1⟩, fun a ha => ?_⟩
  obtain ⟨i, hi, rfl⟩ := List.getElem_of_mem ha
  exact (hp i hi (by omega)).2
theorem trod_act {n : Nat} {cs : List Value} {y : DataW H × List MemPlace} (h : DataW.trod enc Try.prog w base spare held n 36 cs = some y) : ∃ (av : ActV) (a : Act), cs = av.cells ∧ IsAct w av a ∧ (a.ok ∧ a.fits) := by
  obtain ⟨av, e, a, h1, h2⟩ := trod_act0 h
  exact ⟨av, a, e, h1, h2⟩
end
end Go.Proofs.Ytggpodlecljcbac
namespace Go.Proofs.Ytggpodlecljcbac
open Go.RowKit Go.Sort
theorem wf_i64 {n : Int} (h : (Lit.int .i64 n).wf = true) : -9223372036854775808 ≤ n ∧ n ≤ 9223372036854775807 := by
  have h1 : (decide (IntKind.min .i64 ≤ n) && decide (n ≤ IntKind.max .i64)) = true := h
  simp only [Bool.and_eq_true, decide_eq_true_eq] at h1
  exact h1
theorem wf_u64 {n : Int} (h : (Lit.int .u64 n).wf = true) : 0 ≤ n ∧ n < 18446744073709551616 := by
  have h1 : (decide (IntKind.min .u64 ≤ n) && decide (n ≤ IntKind.max .u64)) = true := h
  simp only [Bool.and_eq_true, decide_eq_true_eq] at h1
  have h2 : 0 ≤ n ∧ n ≤ 18446744073709551615 := h1
  omega
end Go.Proofs.Ytggpodlecljcbac
