/- The walks of the document's SameDeeds, of log.Open out of bounds. -/
import Derived.Test.YtggpodlecljcbabWalkY7
import Derived.Test.YtggpodlecljcbabWalkY4
namespace Go.Proofs.Ytggpodlecljcbab
set_option linter.unusedSimpArgs false
set_option linter.unusedVariables false
open Go.RowKit Go.Sort
theorem Deeds.parts {F : Nat → Prop} {w : World} {v : Value} {ds : List (List Change)} (h : Deeds F w v ds) : ∃ ao cap, v = .slice ao ds.length cap ∧ ds.length ≤ cap ∧ cap ≤ 9223372036854775807 := by
  obtain ⟨vs, h1, h2, _⟩ := h
  obtain ⟨ao, cap, e, a, b⟩ := h1.rd.parts
  rw [h2] at e a
  exact ⟨ao, cap, e, a, b⟩
theorem Deeds.cell {F : Nat → Prop} {w : World} {ao : Option Addr} {n cap : Nat} {ds : List (List Change)} (h : Deeds F w (.slice ao n cap) ds) (k : Nat) (hk : k < ds.length) :
    ∃ b off v, ao = some ⟨b, off, none⟩ ∧ w.cell? ⟨b, off + k, none⟩ = some v ∧ ChangesF F w v ds[k] := by
  obtain ⟨vs, h1, h2, h3⟩ := h
  have hk2 : k < vs.length := by omega
  obtain ⟨b, off, e, _, hc⟩ := Rd.at (k := 1) (enc := fun x : Value => [x]) (fun _ => rfl) (by decide) h1.rd k hk2
  have := hc 0 vs[k] rfl
  exact ⟨b, off, vs[k], e, by simpa using this, h3 k hk2 hk⟩
set_option maxRecDepth 100000 in
set_option maxHeartbeats 1000000 in
theorem ref_SameDeeds (F G : Nat → Prop) (va vb : Value) (a b : List (List Change)) (w : World) (ha : Deeds F w va a) (hb : Deeds G w vb b) :
    Calls Try.prog 36 #[va, vb] w fun e w' => e = .returned (.bool (decide (a = b))) ∧ Below w.heap.size w w' := by
  obtain ⟨ao, ca, rfl, hca, hca'⟩ := ha.parts
  obtain ⟨bo, cb, rfl, hcb, hcb'⟩ := hb.parts
  have HA := Lib.hid ha
  have HB := Lib.hid hb
  clear ha hb
  by_cases hl : a.length = b.length
  · have HL := Lib.hid hl
    have e1 : ((a.length : Int) != (b.length : Int)) = false := by simp [hl]
    clear hl
    go_enter Try.func36, Try.ntmps36
    go_wp2_with fail
    go_loopw [5] (fun i wr => ∃ k : Nat, k ≤ a.length ∧ i = .int .i64 k ∧ a.take k = b.take k ∧ Below w.heap.size w wr) (fun i _ => a.length - (intOf i).toNat)
    case atStart => exact ⟨0, Nat.zero_le _, rfl, rfl, Below.refl _ _⟩
    case round =>
      obtain ⟨k, hk, rfl, htk, hbw⟩ := hrel
      have HT := Lib.hid htk
      clear htk
      by_cases hlt : k < a.length
      · have hlt2 : k < b.length := by have := HL.out; omega
        obtain ⟨ba, oa, va, rfl, x0, hva⟩ := (HA.out.below hbw).cell k hlt
        obtain ⟨bb, ob, vb, rfl, y0, hvb⟩ := (HB.out.below hbw).cell k hlt2
        have HW := Lib.hid hbw
        have CS : Hid (∀ W, Below wr.heap.size wr W → Calls Try.prog 67 #[va, vb] W fun e w' => e = .returned (.bool (decide (a[k] = b[k]))) ∧ Below W.heap.size W w') := Lib.hid fun W hW => ref_SameChanges va vb _ _ W (hva.rd.below hW) (hvb.rd.below hW)
        replace x0 := regrown_cell x0
        replace y0 := regrown_cell y0
        clear hbw hva hvb
        go_wp2_with fail
        refine wp_region_q (by kernel_rfl) (by kernel_rfl) ?_
        repeat (go_big_quiet_step (first
          | (go_at_call 67; exact Calls.regrown_of (CS.out _ (below_regrown _ _ _)))))
        refine wpQuiet_nil ?_
        intro w2 hb2
        have HW2 := Lib.hid hb2
        clear hb2 x0 y0
        by_cases hf : a[k] = b[k]
        · have HF := Lib.hid hf
          rw [decide_eq_true hf]
          clear hf
          go_wp2_with fail
          go_roundw
          case rel => exact ⟨k + 1, by omega, by go_num, take_next _ _ _ HT.out hlt hlt2 HF.out, two HW.out HW2.out⟩
          case measure => simp [intOf]; omega
        · have HF := Lib.hid hf
          rw [decide_eq_false hf]
          clear hf
          go_wp2_with fail
          go_ret
          exact ⟨ret_bool (by simp [ne_of_at a b k hlt hlt2 HF.out]), two HW.out HW2.out⟩
      · have HW := Lib.hid hbw
        clear hbw
        go_wp2_with fail
        go_ret
        exact ⟨ret_bool (by simp [eq_of_take a b k HT.out hlt HL.out]), HW.out⟩
  · have HL := Lib.hid hl
    have e1 : ((a.length : Int) != (b.length : Int)) = true := by simpa using (by omega : ¬ (a.length : Int) = b.length)
    clear hl
    go_enter Try.func36, Try.ntmps36
    go_wp2_with fail
    go_ret
    exact ⟨ret_bool (by simp [ne_of_length HL.out]), Below.refl _ _⟩
set_option maxRecDepth 100000 in
set_option maxHeartbeats 2000000 in
theorem log_Open_bad (L : Dk) (D : DiskS) (fr many first : Int) (w : World) (h : DiskAt w L D) (hok : D.ok) (hf1 : -9223372036854775808 ≤ fr) (hm2 : many ≤ 9223372036854775807) (hbad : fr < 0 ∨ many < 1 ∨ (D.now.length : Int) < many ∨ (D.now.length : Int) - many < fr ∨ first < 1) :
    Calls Try.prog 31 #[.pointer (some ⟨L.b, 0, none⟩), .int .i64 fr, .int .i64 many, .int .i64 first] w fun e w' => e = .returned (.tuple #[.pointer none, .slice none 0 0, errV 1]) ∧ Below w.heap.size w w' := by
  have CS := Lib.hid (disk_Sectors L D w h)
  have hN := hok.few
  clear h hok
  rcases Int.lt_or_le fr 0 with h1 | h1
  · go_enter Try.func31, Try.ntmps31
    go_wp2_with fail
    refine bodyPost_ret (v := .tuple #[.pointer none, .slice none 0 0, errV 1]) (by simp [results, Try.results31, go_sem, errV]) rfl ?_
    exact ⟨rfl, Below.refl _ _⟩
  rcases Int.lt_or_le many 1 with h2 | h2
  · go_enter Try.func31, Try.ntmps31
    go_wp2_with fail
    refine bodyPost_ret (v := .tuple #[.pointer none, .slice none 0 0, errV 1]) (by simp [results, Try.results31, go_sem, errV]) rfl ?_
    exact ⟨rfl, Below.refl _ _⟩
  rcases Int.lt_or_le (D.now.length : Int) many with h3 | h3
  · go_enter Try.func31, Try.ntmps31
    go_wp2_with fail
    refine CS.out.mono ?_
    rintro e wa ⟨rfl, hwa⟩
    replace hwa := hwa.symm
    subst hwa
    go_wp2_with fail
    refine bodyPost_ret (v := .tuple #[.pointer none, .slice none 0 0, errV 1]) (by simp [results, Try.results31, go_sem, errV]) rfl ?_
    exact ⟨rfl, Below.refl _ _⟩
  have hz1 : (0 : Int) ≤ (D.now.length : Int) - many := by omega
  have hz2 : (D.now.length : Int) - many ≤ 60 := by omega
  rcases Int.lt_or_le ((D.now.length : Int) - many) fr with h4 | h4
  · go_enter Try.func31, Try.ntmps31
    go_wp2_with fail
    refine CS.out.mono ?_
    rintro e wa ⟨rfl, hwa⟩
    replace hwa := hwa.symm
    subst hwa
    go_wp2_with fail
    refine CS.out.mono ?_
    rintro e wa ⟨rfl, hwa⟩
    replace hwa := hwa.symm
    subst hwa
    go_wp2_with fail
    refine bodyPost_ret (v := .tuple #[.pointer none, .slice none 0 0, errV 1]) (by simp [results, Try.results31, go_sem, errV]) rfl ?_
    exact ⟨rfl, Below.refl _ _⟩
  have h5 : first < 1 := by omega
  clear hbad
  go_enter Try.func31, Try.ntmps31
  go_wp2_with fail
  refine CS.out.mono ?_
  rintro e wa ⟨rfl, hwa⟩
  replace hwa := hwa.symm
  subst hwa
  go_wp2_with fail
  refine CS.out.mono ?_
  rintro e wa ⟨rfl, hwa⟩
  replace hwa := hwa.symm
  subst hwa
  go_wp2_with fail
  refine bodyPost_ret (v := .tuple #[.pointer none, .slice none 0 0, errV 1]) (by simp [results, Try.results31, go_sem, errV]) rfl ?_
  exact ⟨rfl, Below.refl _ _⟩
end Go.Proofs.Ytggpodlecljcbab
