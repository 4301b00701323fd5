/- A region that draws, in a round of a range over a function, out of its walk outside: plain laws of the walk. -/
import Derived.RangeFuncCalls
import Derived.OrdersIn
import Derived.OrdersHeld
import Derived.Deep.RegionHeld
import Derived.ControlIn
import Derived.Test.YtggpodlecljcbacBase
namespace Go.Proofs.Ytggpodlecljcbac
open Go.RowKit
theorem upon_in_round {l n : Nat} {P : Program} {o : Oper} {a : Go.Act} {K K' : Go.Act → World → Prop} {Q : Exit → Go.Act → World → Prop} (hK : ∀ a w, K a w → K' a w) : ∀ (r : Result Next), o.upon P a K Q r → o.uponIn (Fence.wide.inRound l) n P a K' Q r
  | .ok (.value v) w', h => hK _ _ h
  | .ok .skip w', h => hK _ _ h
  | .ok (.defer d) w', h => hK _ _ h
  | .ok (.enter f args) w', h => by
    refine ⟨fun hd => (by simp [Fence.wide] at hd), CallsIn.inRound l (callsIn_wide.2 (Calls.mono h ?_))⟩
    intro e w'' he
    cases e with
    | returned v => exact hK _ _ he
    | panicked c => exact he
    | outgrown => exact he
  | .ok (.row row args) w', h => by
    refine ⟨fun hd => (by simp [Fence.wide] at hd), fun c cs _ => ?_⟩
    obtain ⟨v, w'', r, s⟩ := h c cs
    exact ⟨v, w'', hK _ _ r, stepsIn_wide.2 s⟩
  | .halt (.panic v) w', h => h
theorem op_in_round {l n : Nat} {P : Program} {o : Oper} {a : Go.Act} {w : World} {K K' : Go.Act → World → Prop} {Q : Exit → Go.Act → World → Prop} (hnd : ∀ c, o.op ≠ .defer c) (hK : ∀ a w, K a w → K' a w) (h : o.wp P a w K Q) : o.wpIn (Fence.wide.inRound l) n P a w K' Q :=
  ⟨fun _ _ => trivial, by rw [Oper.semAt_eq _ _ _ hnd]; exact upon_in_round hK _ h⟩
def noDefer (ops : Array Oper) : Bool := ops.all fun o => match o.op with | .defer _ => false | _ => true
theorem noDefer_at {ops : Array Oper} (h : noDefer ops = true) {i : Nat} {o : Oper} (hi : ops[i]? = some o) : ∀ c, o.op ≠ .defer c := fun c e => by
  obtain ⟨hlt, rfl⟩ := Array.getElem?_eq_some_iff.1 hi
  have := Array.all_eq_true.1 h i hlt
  rw [e] at this
  cases this
theorem any_in_round {l n : Nat} {P : Program} {md : Region.Mode} {ops : Array Oper} {Q : Exit → Go.Act → World → Prop} (hnd : noDefer ops = true) (hno : ¬ LetsOut Q) : ∀ (fuel : Nat) (listed : Array Bool) (a : Go.Act) (w : World), wpAny P md ops Q fuel listed a w → wpAnyIn (Fence.wide.inRound l) n P md ops Q fuel listed a w
  | 0, _, _, _, h => h
  | fuel + 1, listed, a, w, h => ⟨h.1, fun i hi => by
      have hh := h.2 i hi
      unfold wpOp at hh
      unfold wpOpIn
      cases ho : ops[i]? with
      | none =>
        rw [ho] at hh
        exact any_in_round hnd hno fuel _ _ _ hh
      | some o =>
        rw [ho] at hh
        simp only at hh ⊢
        split
        · rename_i hw
          rw [if_pos hw] at hh
          rcases hh with hh | ⟨_, hh⟩
          · exact op_in_round (noDefer_at hnd ho) (fun a w h => any_in_round hnd hno fuel _ a w h) hh
          · exact absurd hh hno
        · rename_i hw
          rw [if_neg hw] at hh
          exact ⟨fun _ _ => trivial, any_in_round hnd hno fuel _ _ _ hh⟩⟩
/-- the beginning: a region that draws, in a round. -/
theorem region_in_round {l n : Nat} {P : Program} {ops : Array Oper} {Q : Exit → Go.Act → World → Prop} {S : World → Prop} {id : Nat} {a : Go.Act} {w : World} (hm : P.follows .mixedOrders = true) (hnd : noDefer ops = true) (hno : ¬ LetsOut Q) (hS : S w.drew)
    (h : S w.drew → wpAnyH P .any ops Q S ops.size (Array.replicate ops.size false) a w.drew) : (Code.region id ops true).wpIn (Fence.wide.inRound l) n P Q a w :=
  wpIn_region_any hm (any_in_round hnd hno _ _ _ _ (wpAny_of_held _ _ _ _ (h hS)))
end Go.Proofs.Ytggpodlecljcbac
