/- Plain: an error's value. -/
import Derived.Test.YtggpodlecljcbaaDoorProg
import Derived.Test.YtggpodlecljcbaaDoorBase
namespace Go.Proofs.YtggpodlecljcbaaDoor
def errV (n : Nat) : Value := if n = 0 then .nilIface else .iface 23 (.int .i64 n)
theorem errV_zero : errV 0 = .nilIface := rfl
theorem errV_pos {n : Nat} (h : n ≠ 0) : errV n = .iface 23 (.int .i64 n) := if_neg h
end Go.Proofs.YtggpodlecljcbaaDoor
