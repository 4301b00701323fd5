/- The walk of top's number of an error. -/
import Derived.Test.YtggpodlecljcbacWalkT2
namespace Go.Proofs.Ytggpodlecljcbac
open Go.RowKit
set_option linter.unusedSimpArgs false
set_option linter.unusedVariables false
theorem top_number_some (n : Nat) (w : World) : Calls Try.prog 21 #[.iface 70 (.int .i64 (n : Int))] w fun e w' => e = .returned (.int .i64 (n : Int)) ∧ w' = w := by
  go_enter Try.func21, Try.ntmps21
  go_wp2_with fail
  go_ret
  exact ⟨rfl, rfl⟩
theorem top_number_nil (w : World) : Calls Try.prog 21 #[.nilIface] w fun e w' => e = .returned (.int .i64 0) ∧ w' = w := by
  go_enter Try.func21, Try.ntmps21
  go_wp2_with fail
  go_ret
  exact ⟨rfl, rfl⟩
end Go.Proofs.Ytggpodlecljcbac
