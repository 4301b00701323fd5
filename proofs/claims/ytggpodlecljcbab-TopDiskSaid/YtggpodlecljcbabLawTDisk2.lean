/- TopDisk, as the claim asks it. -/
import Derived.Test.YtggpodlecljcbabLawTDisk
import Derived.Test.YtggpodlecljcbabOpenW
namespace Go.Proofs.Ytggpodlecljcbab
open Go.RowKit Go.Sort
theorem disk_top (va : Value) (avs : List ActV) (al : List Act) (vb : Value) (bvs : List ActV) (bl : List Act) (keep : Int) (w : World) (hav : ActVs w va avs) (haa : IsActs w avs al) (hbv : ActVs w vb bvs) (hba : IsActs w bvs bl) (hak : ∀ a ∈ al, a.ok ∧ a.fits) (hbk : ∀ a ∈ bl, a.ok ∧ a.fits) (hk : (Lit.int .u64 keep).wf = true) :
    Calls Try.prog 4 #[va, vb, .int .u64 keep] w fun e w' => e = .returned (.bool true) ∧ Below w.heap.size w w' :=
  law_TopDisk va vb avs bvs al bl keep w hav haa hbv hba (wf_u64 hk).1 (wf_u64 hk).2 (fun a h => (hak a h).1) (fun a h => (hbk a h).1) (fun a h => wf_i64 (hak a h).2.1) (fun a h => wf_i64 (hbk a h).2.1)
end Go.Proofs.Ytggpodlecljcbab
