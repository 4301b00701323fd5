/- What the row's condition on the library's tables gives the walks. -/
import Derived.LaidMore
import Derived.LaidSub
import Derived.Lib.LaidTab
import Derived.MakeChecks
import Derived.Test.YtggpodlecljcbadGreatDoorMI
namespace Go.Proofs.YtggpodlecljcbadGreatDoor
set_option linter.unusedSimpArgs false
set_option linter.unusedVariables false
open Go.RowKit Go.Sort
theorem cells_of_iface {H : Type} {enc : TypeId × Value → H} {P : Program} {w : World} {base : Nat} {sp : Nat → Bool} {held : Bool} {fuel : Nat} {t : TypeId} {ms : Array (String × TypeId)} {cs : List Value} {d : DataW H} {p : List MemPlace}
    (ht : P.underlying t = some (.interface ms)) (h : DataW.trod enc P w base sp held fuel t cs = some (d, p)) : cs = [.nilIface] ∨ ∃ u v, cs = [.iface u v] := by
  cases fuel with
  | zero => simp [DataW.trod] at h
  | succ fuel =>
    unfold DataW.trod at h
    rw [ht] at h
    split at h
    all_goals first
      | (exact Or.inl rfl)
      | (exact Or.inr ⟨_, _, rfl⟩)
      | (simp_all; done)
      | contradiction
theorem glob_of {W : World} {l : List (String × DataW Unit)} {d : DataW Unit} (h : laidMetH Tryz.prog l W)
    (h1 : (l.filter fun x => x.1 == "internal/strconv.uint64pow10") = [("internal/strconv.uint64pow10", Lib.tabData .u64 Lib.pow10Tab)])
    (h2 : (l.filter fun x => x.1 == "strconv.ErrSyntax") = [("strconv.ErrSyntax", d)]) (h3 : d.handleName? = none) : GlobI W := by
  have g1 := h.filter (fun x => x.1 == "internal/strconv.uint64pow10")
  rw [h1, MakeChecks.laidMetH_plain _ _ _ rfl] at g1
  have g2 := h.filter (fun x => x.1 == "strconv.ErrSyntax")
  rw [h2, MakeChecks.laidMetH_plain _ _ _ (by simp [h3])] at g2
  refine ⟨Lib.tabIs_of_head (g := 3) (t := 233) (e := 23) (n := 20) (by kernel_rfl) (by kernel_rfl) Tryz.underlying233 Tryz.underlying23 (by kernel_rfl) (by kernel_rfl) g1, ?_⟩
  obtain ⟨ps, ⟨g', t', cs, fuel, p, q, hg', ht', hvar, hd, _, _⟩, _⟩ := g2
  have hg : Tryz.prog.globalNamed "strconv.ErrSyntax" = some 1 := by kernel_rfl
  obtain rfl := Option.some.inj (hg.symm.trans hg')
  have hty : (Tryz.prog.globals[1]?).map (·.type) = some 39 := by kernel_rfl
  obtain rfl := Option.some.inj (hty.symm.trans ht')
  have hu := Tryz.underlying39
  rcases cells_of_iface hu hd with hc | ⟨u, v, hc⟩
  · refine ⟨.nilIface, ?_, Or.inl rfl⟩
    have := World.var?_cell hg hvar 0
    rw [Array.eq_one_of_toList hc] at this
    simpa using this
  · refine ⟨.iface u v, ?_, Or.inr ⟨u, v, rfl⟩⟩
    have := World.var?_cell hg hvar 0
    rw [Array.eq_one_of_toList hc] at this
    simpa using this
end Go.Proofs.YtggpodlecljcbadGreatDoor
