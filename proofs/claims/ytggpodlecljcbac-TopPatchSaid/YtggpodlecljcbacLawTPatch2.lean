/- TopPatch, as the claim asks it. -/
import Derived.Test.YtggpodlecljcbacLawTPatch
import Derived.Test.YtggpodlecljcbacOpenW
namespace Go.Proofs.Ytggpodlecljcbac
open Go.RowKit Go.Sort
theorem patch_top (va : Value) (a : Quilt) (vb : Value) (b : Quilt) (few : Int) (w : World) (ha : Quilts w va a) (hb : Quilts w vb b) (hoa : ∀ f ∈ a.files, f.ok) (hob : ∀ f ∈ b.files, f.ok) (_hf : (Lit.int .i64 few).wf = true) :
    Calls Try.prog 6 #[va, vb, .int .i64 few] w fun e w' => e = .returned (.bool true) ∧ Below w.heap.size w w' := law_TopPatch va a vb b few w ha hb hoa hob
end Go.Proofs.Ytggpodlecljcbac
