/- The walks of chapter 7: slices.Clone and the search on changes. -/
import Derived.Test.YtggpodlecljcbacSpecX2
import Derived.Test.YtggpodlecljcbacWalkG3
import Derived.Test.YtggpodlecljcbacWalkX
namespace Go.Proofs.Ytggpodlecljcbac
set_option linter.unusedSimpArgs false
set_option linter.unusedVariables false
open Go.RowKit Go.Sort
theorem I_changes : ElemInfo Try.prog 34 75 3 40 := elemInfo_of (z := .agg #[.string ⟨#[]⟩, .string ⟨#[]⟩, .bool false]) Try.underlying34 (by kernel_rfl) rfl (by decide) (by decide)
theorem change_one (f : Change) : ∀ u ∈ f.cells, u.oneCell' = true := by
  intro u hu
  simp [Change.cells] at hu
  rcases hu with rfl | rfl | rfl <;> rfl
set_option maxRecDepth 100000 in
theorem changes_Clone (va : Value) (l : List Change) (w : World) (ha : Changes w va l) (hl : l.length ≤ 1000) :
    Calls Try.prog 57 #[va] w fun e w' => ∃ v, e = .returned v ∧ w'.ownsRow w.heap.size 75 3 v l.length (l.flatMap Change.cells) ∧ Below w.heap.size w w' := by
  obtain ⟨h1, ao, cap, rfl, h2, h3, h4, h5⟩ := ha
  cases ao with
  | none =>
    have e1 : l = [] := by
      cases l with
      | nil => rfl
      | cons f r =>
        obtain ⟨b, off, e, _⟩ := h5 0 (.string f.key) rfl
        cases e
    subst e1
    refine (AnyE.slices_Clone_nil Try.cloneChanges 0 cap w).mono ?_
    rintro e w' ⟨rfl, rfl⟩
    exact ⟨_, rfl, World.ownsRow_nil _ _ _ _, Below.refl _ _⟩
  | some a =>
    have H5 : Hid (∀ j u, (l.flatMap Change.cells)[j]? = some u → (w.alloc (.cells #[] 75)).cell? (a.add j) = some u) := by
      refine Lib.hid fun j u hj => ?_
      obtain ⟨b, off, e, hc⟩ := h5 j u hj
      cases e
      rw [Addr.add_lit]
      exact cell_on' (below_alloc w _) hc
    have H1 := Lib.hid h1
    replace h3 : cap ≤ 9223372036854775807 := h3
    clear h1 h4 h5
    have q22 : ∀ (w : World) (a : Option Addr) (n c n' c' : Nat), (binOp .eql 34 (.slice a n c) (.slice none n' c')).run Try.prog w = .ok (.bool a.isNone) w := fun w a n c n' c' => Lib.run_eql_slice_nil w _ _ a n c n' c' Try.underlying34
    go_enter Try.func57, Try.ntmps57
    go_wp2_with (at_builtin; refine wpList_app I_changes rfl _ _ rfl w.heap.size _ 0 [] rfl (World.ownsRow_made w #[] 0 (Nat.le_refl _) (Nat.zero_le _) (by simp)) a l.length cap (l.flatMap Change.cells) rfl H1.out ?c1 ?c2 ?c3 ?c4 ?_)
    case c1 => exact H5.out
    case c2 =>
      intro u hu
      obtain ⟨f, _, hf⟩ := List.mem_flatMap.mp hu
      exact change_one f u hf
    case c3 => omega
    case c4 => simp
    intro v' w3 hown3 hg3
    have HB3 := Lib.hid (grown_below (k := 3) (below_alloc w (.cells #[] 75)) (World.ownsRow_made w #[] 0 (Nat.le_refl _) (Nat.zero_le _) (by simp)) hg3 (Nat.le_refl _))
    have HO3 := Lib.hid hown3
    clear hown3 hg3
    go_wp2_with fail
    go_ret
    exact ⟨v', rfl, HO3.out, HB3.out⟩
theorem findX_cmp (f : Change) (name : ByteArray) (w : World) :
    Calls Try.prog 80 #[.agg #[.string f.key, .string f.val, .bool f.gone], .string name] w fun e w' => e = .returned (.int .i64 (cmpB f.key name)) ∧ Below w.heap.size w w' := by
  have C := fun W => Try.strings_Compare f.key name W
  have B1 := below_alloc w (.cells #[.string f.key, .string f.val, .bool f.gone] 75)
  have HB1 := Lib.hid B1
  clear B1
  go_enter Try.func80, Try.ntmps80
  go_wp2_with fail
  refine (C _).mono ?_
  rintro e w2 ⟨rfl, hb2⟩
  go_wp2_with fail
  go_ret
  exact ⟨rfl, HB1.out⟩

def RetFindX (l : List Change) (name : ByteArray) (w : World) (e : Ending) (w' : World) : Prop := e = .returned (.tuple #[.int .i64 (rankX l name), .bool (isAtX l name (rankX l name))]) ∧ Below w.heap.size w w'
set_option maxHeartbeats 1000000 in
theorem changes_search (va : Value) (l : List Change) (name : ByteArray) (w : World) (ha : Changes w va l) (hl : l.length ≤ 1000) (hr : RisesX l) :
    Calls Try.prog 79 #[va, .string name, .func (.func 80) #[] #[]] w (RetFindX l name w) := by
  obtain ⟨ao, ca, rfl, hca, hca'⟩ := ha.parts
  have HA := Lib.hid ha
  have HR := Lib.hid hr
  clear ha hr
  go_enter Try.func79, Try.ntmps79
  go_wp2_with fail
  go_loopw [9, 10] (fun x y wr => ∃ i j : Nat, i ≤ j ∧ j ≤ l.length ∧ x = .int .i64 i ∧ y = .int .i64 j ∧ (∀ t, (ht : t < l.length) → t < i → bLt l[t].key name = true) ∧ (∀ t, (ht : t < l.length) → j ≤ t → bLt l[t].key name = false) ∧ Below w.heap.size w wr) (fun x y _ => (intOf y).toNat - (intOf x).toNat)
  case atStart => exact ⟨0, l.length, Nat.zero_le _, Nat.le_refl _, rfl, rfl, fun t _ h => absurd h (by omega), fun t h1 h2 => absurd h1 (by omega), Below.refl _ _⟩
  case round =>
    obtain ⟨i, j, hij, hj, rfl, rfl, h1, h2, hbw⟩ := hrel
    have H1 := Lib.hid h1
    have H2 := Lib.hid h2
    clear h1 h2
    by_cases hlt : i < j
    · have hmj : (i + j) / 2 < j := by omega
      have him : i ≤ (i + j) / 2 := by omega
      obtain ⟨ba, oa, rfl, hlb, x0, x1, x2⟩ := Changes.cell (HA.out.below hbw) ((i + j) / 2) (by omega)
      have C := Lib.hid fun W => findX_cmp (l[(i + j) / 2]'(by omega)) name W
      have HW := Lib.hid hbw
      clear hbw
      by_cases hc : cmpB (l[(i + j) / 2]'(by omega)).key name < 0
      · have HL := Lib.hid ((cmpB_lt _ _).mp hc)
        go_wp2_with fail
        refine (C.out _).mono ?_
        rintro e w2 ⟨rfl, hb2⟩
        have HB2 := Lib.hid (two HW.out hb2)
        clear hb2 x0 x1 x2
        go_wp2_with fail
        go_roundw
        case rel => exact ⟨(i + j) / 2 + 1, j, by omega, hj, by congr 1, rfl, fun t ht hti => HR.out.mono name t ((i + j) / 2) (by omega) (by omega) HL.out, H2.out, HB2.out⟩
        case measure => simp [intOf]; omega
      · have HL : Hid (bLt (l[(i + j) / 2]'(by omega)).key name = false) := by
          refine Lib.hid ?_
          rw [← Bool.not_eq_true, ← cmpB_lt]; exact hc
        go_wp2_with fail
        refine (C.out _).mono ?_
        rintro e w2 ⟨rfl, hb2⟩
        have HB2 := Lib.hid (two HW.out hb2)
        clear hb2 x0 x1 x2
        go_wp2_with fail
        go_roundw
        case rel =>
          refine ⟨i, (i + j) / 2, by omega, by omega, rfl, by congr 1, H1.out, ?_, HB2.out⟩
          intro t ht hti
          cases hb : bLt l[t].key name
          · rfl
          · have := HR.out.mono name ((i + j) / 2) t hti ht hb
            rw [HL.out] at this; cases this
        case measure => simp [intOf]; omega
    · have hij2 : i = j := by omega
      subst hij2
      have HK := Lib.hid (rank_ofX name l i (by omega) H1.out H2.out)
      by_cases hil : i < l.length
      · obtain ⟨ba, oa, rfl, hlb, x0, x1, x2⟩ := Changes.cell (HA.out.below hbw) i hil
        have C := Lib.hid fun W => findX_cmp l[i] name W
        have HW := Lib.hid hbw
        clear hbw
        go_wp2_with fail
        refine (C.out _).mono ?_
        rintro e w2 ⟨rfl, hb2⟩
        have HB2 := Lib.hid (two HW.out hb2)
        clear hb2 x0 x1 x2
        go_wp2_with fail
        refine bodyPost_ret (v := .tuple #[.int .i64 i, .bool (cmpB l[i].key name == 0)]) (by simp [results, Try.results79, go_sem]) rfl ?_
        refine ⟨?_, HB2.out⟩
        have e2 : isAtX l name (rankX l name) = (cmpB l[i].key name == 0) := by
          rw [HK.out, isAt_ltX l name i hil]
          have := cmpB_eq l[i].key name
          cases h1 : (l[i].key.toList == name.toList) <;> cases h2 : (cmpB l[i].key name == 0) <;> simp_all
        rw [e2, HK.out]
      · have HW := Lib.hid hbw
        clear hbw
        go_wp2_with fail
        refine bodyPost_ret (v := .tuple #[.int .i64 i, .bool false]) (by simp [results, Try.results79, go_sem]) rfl ?_
        refine ⟨?_, HW.out⟩
        rw [HK.out, isAt_geX l name i hil]

end Go.Proofs.Ytggpodlecljcbac
