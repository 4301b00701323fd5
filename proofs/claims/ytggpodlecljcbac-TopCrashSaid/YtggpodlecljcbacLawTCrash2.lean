/- TopCrash, as the claim asks it. -/
import Derived.Test.YtggpodlecljcbacLawTCrash
import Derived.Test.YtggpodlecljcbacOpenA
namespace Go.Proofs.Ytggpodlecljcbac
open Go.RowKit Go.Sort
theorem crash_top (va : Value) (dl : List (List Change)) (fuse keep : Int) (w : World) (ha : Deeds (fun x => w.heap.size ≤ x) w va dl) (hok : ∀ c ∈ dl, ∀ x ∈ c, x.ok) (hf : (Lit.int .i64 fuse).wf = true) (hk : (Lit.int .u64 keep).wf = true) :
    Calls Try.prog 5 #[va, .int .i64 fuse, .int .u64 keep] w fun e w' => e = .returned (.bool true) ∧ Below w.heap.size w w' :=
  law_TopCrash va dl fuse keep w ha hok (wf_i64 hf) (wf_u64 hk).1 (wf_u64 hk).2
end Go.Proofs.Ytggpodlecljcbac
