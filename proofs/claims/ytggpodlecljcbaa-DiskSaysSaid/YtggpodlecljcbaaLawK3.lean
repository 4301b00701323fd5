/- DiskSays, as the claim asks it. -/
import Derived.Test.YtggpodlecljcbaaLawK2
import Derived.Test.YtggpodlecljcbaaOpenW
namespace Go.Proofs.Ytggpodlecljcbaa
open Go.RowKit Go.Sort
theorem disk_says (n : Int) (va : Value) (avs : List ActV) (al : List Act) (w : World) (hav : ActVs w va avs) (haa : IsActs w avs al) (hn : (Lit.int .i64 n).wf = true) (hak : ∀ a ∈ al, a.ok ∧ a.fits) :
    Calls Try.prog 5 #[.int .i64 n, va] w fun e w' => e = .returned (.bool true) ∧ Below w.heap.size w w' :=
  law_DiskSays n va avs al w hav haa (wf_i64 hn).1 (wf_i64 hn).2 (fun a h => ⟨(hak a h).1, wf_i64 (hak a h).2.1, wf_u64 (hak a h).2.2⟩)
end Go.Proofs.Ytggpodlecljcbaa
