/- The closed fact of chapter 7; goodRows. -/
import Derived.Test.YtggpodlecljcbaaWalkX8
import Derived.Test.YtggpodlecljcbaaWalkR
import Derived.Test.YtggpodlecljcbaaLawH
namespace Go.Proofs.Ytggpodlecljcbaa
set_option linter.unusedSimpArgs false
set_option linter.unusedVariables false
open Go.RowKit Go.Sort
theorem rises_adj {l : List Change} (h : ∀ j (hj : j + 1 < l.length), bLt (l[j]'(by omega)).key l[j + 1].key = true) : RisesX l := by
  have key : ∀ d i (hd : i + d + 1 < l.length), bLt (l[i]'(by omega)).key l[i + d + 1].key = true := by
    intro d
    induction d with
    | zero => intro i hd; exact h i hd
    | succ d ih =>
      intro i hd
      exact bLt_trans (ih i (by omega)) (h (i + d + 1) (by omega))
  refine List.pairwise_iff_getElem.mpr fun i j hi hj hij => ?_
  obtain ⟨d, rfl⟩ : ∃ d, j = i + d + 1 := ⟨j - i - 1, by omega⟩
  exact key d i hj
set_option maxRecDepth 100000 in
set_option maxHeartbeats 4000000 in
theorem law_goodRows (va : Value) (l : List Change) (w : World) (ha : Changes w va l) (hok : ∀ c ∈ l, c.key.size ≤ maxLen ∧ c.val.size ≤ maxLen) :
    Calls Try.prog 51 #[va] w fun e w' => ∃ g : Bool, e = .returned (.bool g) ∧ (g = true → RisesX l) ∧ Below w.heap.size w w' := by
  obtain ⟨ao, ac, rfl, hac, hac'⟩ := ha.parts
  have HA := Lib.hid ha
  have HOK := Lib.hid hok
  clear ha hok
  go_enter Try.func51, Try.ntmps51
  go_wp2_with fail
  go_loopw [3] (fun i wr => ∃ k : Nat, k ≤ l.length ∧ i = .int .i64 k ∧ (∀ j (hj : j + 1 < l.length), j + 1 < k → bLt (l[j]'(by omega)).key l[j + 1].key = true) ∧ Below w.heap.size w wr) (fun i _ => l.length - (intOf i).toNat)
  case atStart => exact ⟨0, Nat.zero_le _, rfl, fun j hj h => absurd h (by omega), Below.refl _ _⟩
  case round =>
    obtain ⟨k, hk, rfl, hup, hbw⟩ := hrel
    have HUP := Lib.hid hup
    have HBW := Lib.hid hbw
    clear hup hbw
    by_cases hlt : k < l.length
    · obtain ⟨ab, aof, rfl, hlb, x0, x1, x2⟩ := Changes.cell (HA.out.below HBW.out) k hlt
      have hks := HOK.out l[k] (List.getElem_mem hlt)
      have K1 : Hid (∀ W, Below wr.heap.size wr W → Calls Try.prog 50 #[.agg #[.string l[k].key, .string l[k].val, .bool l[k].gone]] W fun e w' => e = .returned (.int .i64 (changeFault l[k])) ∧ Below W.heap.size W w') := Lib.hid fun W _ => ref_ChangeFault l[k].key l[k].val l[k].gone W hks.1 hks.2
      clear hks
      replace x0 := regrown_cell x0
      replace x1 := regrown_cell x1
      replace x2 := regrown_cell x2
      obtain ⟨f, hf⟩ : ∃ f, f = changeFault l[k] := ⟨_, rfl⟩
      rw [← hf] at K1
      clear hf
      by_cases hf0 : 0 < f
      · have hf1 : (0 : Int) < (f : Int) := by omega
        have hf2 : decide ((0 : Int) < (f : Int)) = true := decide_eq_true hf1
        have hf3 : decide (0 < f) = true := decide_eq_true hf0
        go_wp2_with fail
        refine wp_region_q (by kernel_rfl) (by kernel_rfl) ?_
        repeat (go_big_quiet_step (first | (go_at_call 50; exact Calls.regrown_of (K1.out _ (below_regrown _ _ _)))))
        refine wpQuiet_nil ?_
        intro w4 hb4
        have HB4 := Lib.hid (two HBW.out hb4)
        clear hb4 x0 x1 x2
        go_wp2_with fail
        go_ret
        exact ⟨false, rfl, (fun h => by cases h), HB4.out⟩
      have hf1 : ¬ (0 : Int) < (f : Int) := by omega
      have hf2 : decide ((0 : Int) < (f : Int)) = false := decide_eq_false hf1
      have hf3 : decide (0 < f) = false := decide_eq_false hf0
      clear hf0
      obtain ⟨g, hg⟩ : ∃ g, g = l[k].gone := ⟨_, rfl⟩
      rw [← hg] at x2 K1
      clear hg
      cases g
      rotate_left
      · go_wp2_with fail
        refine wp_region_q (by kernel_rfl) (by kernel_rfl) ?_
        repeat (go_big_quiet_step (first | (go_at_call 50; exact Calls.regrown_of (K1.out _ (below_regrown _ _ _)))))
        refine wpQuiet_nil ?_
        intro w4 hb4
        have HB4 := Lib.hid (two HBW.out hb4)
        clear hb4 x0 x1 x2
        go_wp2_with fail
        go_ret
        exact ⟨false, rfl, (fun h => by cases h), HB4.out⟩
      cases k with
      | zero =>
        simp only [Nat.zero_mul, Nat.add_zero] at x0 x1 x2
        go_wp2_with fail
        refine wp_region_q (by kernel_rfl) (by kernel_rfl) ?_
        repeat (go_big_quiet_step (first | (go_at_call 50; exact Calls.regrown_of (K1.out _ (below_regrown _ _ _)))))
        refine wpQuiet_nil ?_
        intro w4 hb4
        have HB4 := Lib.hid (two HBW.out hb4)
        clear hb4 x0 x1 x2
        go_wp2_with fail
        go_roundw
        case rel => exact ⟨1, by omega, by go_num, fun j hj h => absurd h (by omega), HB4.out⟩
        case measure => simp [intOf]; omega
      | succ m =>
        obtain ⟨bb, ob, eb, _, y0, y1, y2⟩ := Changes.cell (HA.out.below HBW.out) m (by omega)
        simp only [Option.some.injEq, Addr.mk.injEq, and_true] at eb
        obtain ⟨rfl, rfl⟩ := eb
        replace y0 := regrown_cell y0
        clear y1 y2
        have hgt : (0 : Int) < ((m + 1 : Nat) : Int) := by omega
        have hgt' : decide ((0 : Int) < ((m + 1 : Nat) : Int)) = true := by simp
        cases hle : (Op.bytesLess l[m + 1].key.toList (l[m]'(by omega)).key.toList || l[m + 1].key.toList == (l[m]'(by omega)).key.toList)
        · have HLT : Hid (bLt (l[m]'(by omega)).key l[m + 1].key = true) := Lib.hid (bLt_of_not_le hle)
          go_wp2_with fail
          refine wp_region_q (by kernel_rfl) (by kernel_rfl) ?_
          repeat (go_big_quiet_step (first | (go_at_call 50; exact Calls.regrown_of (K1.out _ (below_regrown _ _ _)))))
          refine wpQuiet_nil ?_
          intro w4 hb4
          have HB4 := Lib.hid (two HBW.out hb4)
          clear hb4 x0 x1 x2 y0
          go_wp2_with fail
          go_roundw
          case rel =>
            refine ⟨m + 1 + 1, by omega, by go_num, fun j hj h => ?_, HB4.out⟩
            by_cases e : j = m
            · subst e; exact HLT.out
            · exact HUP.out j hj (by omega)
          case measure => simp [intOf]; omega
        · go_wp2_with fail
          refine wp_region_q (by kernel_rfl) (by kernel_rfl) ?_
          repeat (go_big_quiet_step (first | (go_at_call 50; exact Calls.regrown_of (K1.out _ (below_regrown _ _ _)))))
          refine wpQuiet_nil ?_
          intro w4 hb4
          have HB4 := Lib.hid (two HBW.out hb4)
          clear hb4 x0 x1 x2 y0
          go_wp2_with fail
          go_ret
          exact ⟨false, rfl, (fun h => by cases h), HB4.out⟩
    · have hkl : k = l.length := by omega
      go_wp2_with fail
      go_ret
      exact ⟨true, rfl, fun _ => rises_adj fun j hj => HUP.out j hj (by omega), HBW.out⟩
def changeKX : Change := ⟨⟨#[107]⟩, ⟨#[120]⟩, false⟩
theorem bytesKX : changeBytes changeKX = (⟨#[0, 1, 107, 120]⟩, 0) := by decide +kernel
set_option maxRecDepth 100000 in
theorem law_rows (w : World) : Calls Try.prog 43 #[] w fun e w' => e = .returned (.bool true) ∧ Below w.heap.size w w' := by
  have C := row_Bytes changeKX w (by decide) (by decide)
  rw [bytesKX] at C
  replace C := Lib.hid C
  go_enter Try.func43, Try.ntmps43
  go_wp2_with fail
  refine C.out.mono ?_
  rintro e w2 ⟨rfl, hb2⟩
  have HB2 := Lib.hid hb2
  clear hb2
  rw [show errV (((⟨#[0, 1, 107, 120]⟩, 0) : ByteArray × Nat).2) = errV 0 from rfl]
  go_wp2_with fail
  refine (same_eq 0 _).mono ?_
  rintro e w3 ⟨rfl, hb3⟩
  have HB3 := Lib.hid (two HB2.out hb3)
  clear hb3
  go_wp2_with fail
  go_ret
  exact ⟨rfl, HB3.out⟩
end Go.Proofs.Ytggpodlecljcbaa
