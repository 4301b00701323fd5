/- The walk of the tops' lightDeeds; a disk that may fall, as a statement holds it. -/
import Derived.Test.YtggpodlecljcbacWalkY7
import Derived.Test.YtggpodlecljcbacWalkY8
import Derived.Test.YtggpodlecljcbacSpecY3
namespace Go.Proofs.Ytggpodlecljcbac
set_option linter.unusedSimpArgs false
set_option linter.unusedVariables false
open Go.RowKit Go.Sort
def lightDeeds (ds : List (List Change)) (most : Int) : Bool := decide ((ds.length : Int) ≤ most) && ds.all (fun c => lightChanges c 14)
set_option maxRecDepth 100000 in
set_option maxHeartbeats 1000000 in
theorem top_lightDeeds (F : Nat → Prop) (vl : Value) (ds : List (List Change)) (most : Int) (w : World) (h : Deeds F w vl ds) (hok : ∀ c ∈ ds, ∀ x ∈ c, x.ok) :
    Calls Try.prog 19 #[vl, .int .i64 most] w fun e w' => e = .returned (.bool (lightDeeds ds most)) ∧ w = w' := by
  obtain ⟨ao, ca, rfl, hca, hca'⟩ := h.parts
  have HA := Lib.hid h
  have HOK := Lib.hid hok
  clear h hok
  by_cases hl : (ds.length : Int) ≤ most
  · have HL := Lib.hid hl
    have hl2 : ¬ (most < (ds.length : Int)) := by omega
    clear hl
    go_enter Try.func19, Try.ntmps19
    go_wp2_with fail
    go_loop [5] (fun i => ∃ k : Nat, k ≤ ds.length ∧ i = .int .i64 k ∧ (ds.take k).all (fun c => lightChanges c 14) = true) (fun i => ds.length - (intOf i).toNat)
    case atStart => exact ⟨0, Nat.zero_le _, rfl, rfl⟩
    case round =>
      obtain ⟨k, hk, rfl, htk⟩ := hrel
      have HT := Lib.hid htk
      clear htk
      by_cases hlt : k < ds.length
      · obtain ⟨ba, oa, v, rfl, x0, hv⟩ := HA.out.cell k hlt
        have C := Lib.hid (law_LightChanges v ds[k] 14 w hv.rd (HOK.out _ (List.getElem_mem hlt)))
        clear hv
        cases hlc : lightChanges ds[k] 14
        · rw [hlc] at C
          go_wp2_with fail
          refine C.out.mono ?_
          rintro e w' ⟨rfl, rfl⟩
          go_wp2_with fail
          go_ret
          refine ⟨ret_bool ?_, rfl⟩
          unfold lightDeeds
          have : ds.all (fun c => lightChanges c 14) = false := by
            rw [Bool.eq_false_iff]
            intro hall
            have := List.all_eq_true.1 hall _ (List.getElem_mem hlt)
            rw [hlc] at this
            cases this
          rw [this]; simp
        · rw [hlc] at C
          have HT2 : Hid ((ds.take (k + 1)).all (fun c => lightChanges c 14) = true) := Lib.hid (by rw [List.take_succ_eq_append_getElem hlt, List.all_append, HT.out]; simp [hlc])
          clear hlc
          go_wp2_with fail
          refine C.out.mono ?_
          rintro e w' ⟨rfl, rfl⟩
          go_wp2_with fail
          go_round
          case rel => exact ⟨k + 1, by omega, by go_num, HT2.out⟩
          case measure => simp [intOf]; omega
      · obtain rfl : ds.length = k := by omega
        have HF : Hid (lightDeeds ds most = true) := Lib.hid (by
          unfold lightDeeds
          have := HT.out
          rw [List.take_length] at this
          rw [this]; simp [HL.out])
        go_wp2_with fail
        go_ret
        exact ⟨ret_bool HF.out.symm, rfl⟩
  · have hl2 : most < (ds.length : Int) := by omega
    have HF : Hid (lightDeeds ds most = false) := Lib.hid (by unfold lightDeeds; rw [decide_eq_false hl]; rfl)
    clear hl
    go_enter Try.func19, Try.ntmps19
    go_wp2_with fail
    go_ret
    exact ⟨ret_bool HF.out.symm, rfl⟩
theorem top_numY (n : Nat) (w : World) : Calls Try.prog 21 #[errV n] w fun e w' => e = .returned (.int .i64 (n : Int)) ∧ w' = w := by
  by_cases hn : n = 0
  · subst hn
    rw [errV_zero]
    go_enter Try.func21, Try.ntmps21
    go_wp2_with fail
    go_ret
    exact ⟨rfl, rfl⟩
  · rw [errV_pos hn]
    clear hn
    go_enter Try.func21, Try.ntmps21
    go_wp2_with fail
    go_ret
    exact ⟨rfl, rfl⟩
/-- noughts: an empty log. -/
theorem newD_inv (n fr many first : Nat) (h1 : 1 ≤ many) (h2 : fr + many ≤ n) (h3 : 1 ≤ first) (h4 : first + many ≤ 1000000) (hcl : closedY first (sectorsY (newD n) fr many) 0 [] [] 0 = ([], 0)) (f : Int) : InvY first fr many { newD n with fuse := f } [] 0 :=
  ⟨rfl, rfl, hcl, fun j hj _ => by
    have : (sectorsY ({ newD n with fuse := f } : DiskS) fr many)[j] = zeros 40 := by
      have hm : (sectorsY ({ newD n with fuse := f } : DiskS) fr many)[j] ∈ List.replicate n (zeros 40) := List.mem_of_mem_drop (List.mem_of_mem_take (List.getElem_mem hj))
      exact List.eq_of_mem_replicate hm
    rw [this]
    have hjm : j < many := by unfold sectorsY at hj; rw [List.length_take] at hj; omega
    exact notClose_zero _ (by omega) (by omega), rfl, fun s hs => by
    have : s = zeros 40 := List.eq_of_mem_replicate hs
    rw [this]; exact zeros_size 40⟩
end Go.Proofs.Ytggpodlecljcbac
