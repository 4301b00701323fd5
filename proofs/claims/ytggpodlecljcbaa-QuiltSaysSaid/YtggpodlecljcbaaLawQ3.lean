/- QuiltSays, as the claim asks it. -/
import Derived.Test.YtggpodlecljcbaaLawQ2
import Derived.Test.YtggpodlecljcbaaOpenA
namespace Go.Proofs.Ytggpodlecljcbaa
open Go.RowKit Go.Sort
theorem quilt_says (qv : Value) (q : Quilt) (ov : Value) (o : Quilt) (va : Value) (avs : List ActV) (al : List Act) (w : World) (hq : Quilts w qv q) (ho : Quilts w ov o) (hav : ActVs w va avs) (haa : IsActs w avs al) (hqk : ∀ f ∈ q.files, f.ok) (hok : ∀ f ∈ o.files, f.ok) (hak : ∀ a ∈ al, a.ok ∧ a.fits) :
    Calls Try.prog 9 #[qv, ov, va] w fun e w' => e = .returned (.bool true) ∧ Below w.heap.size w w' :=
  law_QuiltSays qv ov va q o avs al w hq ho hav haa hqk hok (fun a h => (hak a h).1)
end Go.Proofs.Ytggpodlecljcbaa
