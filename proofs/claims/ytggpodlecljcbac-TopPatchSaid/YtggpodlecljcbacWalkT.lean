/- The walks of the top statements: a quilt has begun; one grown by acts. -/
import Derived.Test.YtggpodlecljcbacSpecT
import Derived.Test.YtggpodlecljcbacWalkR3
import Derived.Test.YtggpodlecljcbacLawQ
namespace Go.Proofs.Ytggpodlecljcbac
open Go.RowKit Go.Sort
set_option linter.unusedSimpArgs false
set_option linter.unusedVariables false
set_option maxHeartbeats 1000000 in
theorem top_began (w : World) : Calls Try.prog 7 #[] w fun e w' => e = .returned (.bool true) ∧ Below w.heap.size w w' := by
  have C := fun qv W h => quilt_Write qv ⟨[], 1⟩ fileA.name fileA.text W h good_new (by decide) (by decide)
  rw [quiltA] at C
  unfold RetQE at C
  rw [show errV ((((⟨[fileA], 2⟩, 0) : Quilt × Nat)).2) = Value.nilIface from rfl] at C
  replace C := Lib.hid C
  go_enter Try.func7, Try.ntmps7
  go_wp2_with fail
  refine (quilt_New _).mono ?_
  rintro e w1 ⟨qv, rfl, hq, hb1⟩
  have HQ := Lib.hid hq
  have HB1 := Lib.hid hb1
  clear hq hb1
  go_wp2_with fail
  refine (C.out _ _ HQ.out).mono ?_
  rintro e w2 ⟨qv2, rfl, ⟨v2, rfl, hf2⟩, hb2⟩
  obtain ⟨ao, ca, rfl, _, _⟩ := hf2.parts
  have HF := Lib.hid hf2
  have z := QAt.new w2 (.slice ao (List.length [fileA]) ca) 2 (files_not_str hf2)
  have HB2 := Lib.hid (two (two HB1.out hb2) (below_alloc w2 (.cells #[.slice ao (List.length [fileA]) ca, .int .i64 2] 27)))
  have z0 := z.c0
  have z1 := z.c1
  obtain ⟨b, off, e, _, x0, x1, x2⟩ := Files.cell (HF.out.below (below_alloc w2 (.cells #[.slice ao (List.length [fileA]) ca, .int .i64 2] 27))) 0 (by decide)
  cases e
  replace x2 : (w2.alloc (.cells #[.slice (some ⟨b, off, none⟩) 1 ca, .int .i64 2] 27)).cell? ⟨b, off + 2, none⟩ = some (.int .i64 1) := by have h := x2; rw [Nat.zero_mul, Nat.add_zero] at h; exact h
  replace z0 : (w2.alloc (.cells #[.slice (some ⟨b, off, none⟩) 1 ca, .int .i64 2] 27)).cell? ⟨w2.heap.size, 0, none⟩ = some (.slice (some ⟨b, off, none⟩) 1 ca) := z0
  replace z1 : (w2.alloc (.cells #[.slice (some ⟨b, off, none⟩) 1 ca, .int .i64 2] 27)).cell? ⟨w2.heap.size, 1, none⟩ = some (.int .i64 2) := z1
  clear hb2 hf2 x0 x1 z
  go_wp2_with fail
  go_ret
  exact ⟨rfl, HB2.out⟩

/-- What grown hands back. -/
def RetG (al : List Act) (w : World) (e : Ending) (w' : World) : Prop := ∃ v, e = .returned (.tuple #[.agg #[v, .int .i64 (if lightActs al 60 then (grownQ al).turn else 0)], .bool (lightActs al 60)]) ∧ Files w' v (if lightActs al 60 then (grownQ al).files else []) ∧ Below w.heap.size w w'

end Go.Proofs.Ytggpodlecljcbac
