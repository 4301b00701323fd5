/- No function here. -/
import Derived.Test.YtggpodlecljcbaaGreatDoorProg
namespace Go.Proofs
end Go.Proofs
