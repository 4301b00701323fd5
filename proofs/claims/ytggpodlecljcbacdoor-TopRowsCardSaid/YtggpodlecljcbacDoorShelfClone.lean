/- No function here. -/
import Derived.Test.YtggpodlecljcbacDoorProg
namespace Go.Proofs
end Go.Proofs
