/- Plain: an error's value. -/
import Derived.Test.YtggpodlecljcbaaGreatDoorProg
import Derived.Test.YtggpodlecljcbaaGreatDoorBase
namespace Go.Proofs.YtggpodlecljcbaaGreatDoor
def errV (n : Nat) : Value := if n = 0 then .nilIface else .iface 51 (.int .i64 n)
theorem errV_zero : errV 0 = .nilIface := rfl
theorem errV_pos {n : Nat} (h : n ≠ 0) : errV n = .iface 51 (.int .i64 n) := if_neg h
end Go.Proofs.YtggpodlecljcbaaGreatDoor
