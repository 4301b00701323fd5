/- The walk of top's number of an error. -/
import Derived.Test.YtggpodlecljcbabWalkT2
namespace Go.Proofs.Ytggpodlecljcbab
open Go.RowKit
set_option linter.unusedSimpArgs false
set_option linter.unusedVariables false
theorem top_number_some (n : Nat) (w : World) : Calls Try.prog 14 #[.iface 91 (.int .i64 (n : Int))] w fun e w' => e = .returned (.int .i64 (n : Int)) ∧ w' = w := by
  go_enter Try.func14, Try.ntmps14
  go_wp2_with fail
  go_ret
  exact ⟨rfl, rfl⟩
theorem top_number_nil (w : World) : Calls Try.prog 14 #[.nilIface] w fun e w' => e = .returned (.int .i64 0) ∧ w' = w := by
  go_enter Try.func14, Try.ntmps14
  go_wp2_with fail
  go_ret
  exact ⟨rfl, rfl⟩
end Go.Proofs.Ytggpodlecljcbab
