/- The walks of chapter 2: slices.Clone on files. -/
import Derived.Test.YtggpodlecljcbaaLawG
namespace Go.Proofs.Ytggpodlecljcbaa
set_option linter.unusedSimpArgs false
set_option linter.unusedVariables false
open Go.RowKit Go.Sort
set_option maxRecDepth 100000 in
theorem files_Clone (va : Value) (l : List File) (w : World) (ha : Files w va l) (hl : l.length ≤ 8) :
    Calls Try.prog 119 #[va] w fun e w' => ∃ v, e = .returned v ∧ w'.ownsRow w.heap.size 23 3 v l.length (l.flatMap File.cells) ∧ Below w.heap.size w w' := by
  obtain ⟨h1, ao, cap, rfl, h2, h3, h4, h5⟩ := ha
  cases ao with
  | none =>
    have e1 : l = [] := by
      cases l with
      | nil => rfl
      | cons f r =>
        obtain ⟨b, off, e, _⟩ := h5 0 (.string f.name) rfl
        cases e
    subst e1
    refine (AnyE.slices_Clone_nil Try.cloneFiles 0 cap w).mono ?_
    rintro e w' ⟨rfl, rfl⟩
    exact ⟨_, rfl, World.ownsRow_nil _ _ _ _, Below.refl _ _⟩
  | some a =>
    have H5 : Hid (∀ j u, (l.flatMap File.cells)[j]? = some u → (w.alloc (.cells #[] 23)).cell? (a.add j) = some u) := by
      refine Lib.hid fun j u hj => ?_
      obtain ⟨b, off, e, hc⟩ := h5 j u hj
      cases e
      rw [Addr.add_lit]
      exact cell_on' (below_alloc w _) hc
    have H1 := Lib.hid h1
    replace h3 : cap ≤ 9223372036854775807 := h3
    clear h1 h4 h5
    have q22 : ∀ (w : World) (a : Option Addr) (n c n' c' : Nat), (binOp .eql 32 (.slice a n c) (.slice none n' c')).run Try.prog w = .ok (.bool a.isNone) w := fun w a n c n' c' => Lib.run_eql_slice_nil w _ _ a n c n' c' Try.underlying32
    go_enter Try.func119, Try.ntmps119
    go_wp2_with (at_builtin; refine wpList_app I_files rfl _ _ rfl w.heap.size _ 0 [] rfl (World.ownsRow_made w #[] 0 (Nat.le_refl _) (Nat.zero_le _) (by simp)) a l.length cap (l.flatMap File.cells) rfl H1.out ?c1 ?c2 ?c3 ?c4 ?_)
    case c1 => exact H5.out
    case c2 =>
      intro u hu
      obtain ⟨f, _, hf⟩ := List.mem_flatMap.mp hu
      exact file_one f u hf
    case c3 => omega
    case c4 => simp
    intro v' w3 hown3 hg3
    have HB3 := Lib.hid (grown_below (k := 3) (below_alloc w (.cells #[] 23)) (World.ownsRow_made w #[] 0 (Nat.le_refl _) (Nat.zero_le _) (by simp)) hg3 (Nat.le_refl _))
    have HO3 := Lib.hid hown3
    clear hown3 hg3
    go_wp2_with fail
    go_ret
    exact ⟨v', rfl, HO3.out, HB3.out⟩
end Go.Proofs.Ytggpodlecljcbaa
