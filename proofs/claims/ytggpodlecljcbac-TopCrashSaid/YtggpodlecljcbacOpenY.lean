/- What a reading of an argument says of memory: deeds. -/
import Derived.Test.YtggpodlecljcbacOpenA
import Derived.Test.YtggpodlecljcbacWalkY7
namespace Go.Proofs.Ytggpodlecljcbac
open Go.ChangeShapes Go.WideShapes Go.ChangeAt Go.RowKit Go.Deep Go.Joins
section
variable {H : Type} {enc : TypeId × Value → H} {w : World} {base : Nat} {spare : Nat → Bool} {held : Bool}
theorem trod_deeds {n : Nat} {cs : List Value} {y : DataW H × List MemPlace} (h : DataW.trod enc Try.prog w base spare held n 47 cs = some y) : ∃ v ds, cs = [v] ∧ Deeds (fun x => w.heap.size ≤ x) w v ds ∧ ∀ c ∈ ds, ∀ x ∈ c, x.ok := by
  obtain ⟨v, vs, e, hr, hok⟩ := trod_rd (encα := fun x : Value => [x]) (ok := fun v => ∃ l : List Change, Changes w v l ∧ ∀ x ∈ l, x.ok) Try.underlying47 (by kernel_rfl) (by decide) (fun _ => rfl) (fun _ _ _ h => by
    obtain ⟨v, l, e, hc, ho⟩ := trod_changes h
    exact ⟨v, e, l, hc, ho⟩) h
  obtain ⟨ds, hl, hp⟩ := build_list (p := fun i (c : List Change) => ∀ hi : i < vs.length, Changes w vs[i] c ∧ ∀ x ∈ c, x.ok) vs.length (fun i hi => by
    obtain ⟨c, hc⟩ := hok vs[i] (List.getElem_mem hi)
    exact ⟨c, fun _ => hc⟩)
  refine ⟨v, ds, e, ⟨vs, Rd.outside hr (by decide) (fun _ h => h), hl.symm, fun i h h' => Rd.outside (hp i h' h).1 (by decide) (fun _ h => h)⟩, fun c hc => ?_⟩
  obtain ⟨i, hi, rfl⟩ := List.getElem_of_mem hc
  exact (hp i hi (by omega)).2
end
end Go.Proofs.Ytggpodlecljcbac
