/- LogSays, as the claim asks it. -/
import Derived.Test.YtggpodlecljcbaaLawY2
import Derived.Test.YtggpodlecljcbaaOpenA
namespace Go.Proofs.Ytggpodlecljcbaa
open Go.RowKit Go.Sort
theorem log_says (vs : Value) (ls : List ByteArray) (fr many first : Int) (va : Value) (avs : List ActV) (al : List Act) (w : World) (hs : Texts w vs ls) (hav : ActVs w va avs) (haa : IsActs w avs al) (hso : ∀ s ∈ ls, s.size ≤ maxLen) (hfr : (Lit.int .i64 fr).wf = true) (hmy : (Lit.int .i64 many).wf = true) (hfi : (Lit.int .i64 first).wf = true) (hak : ∀ a ∈ al, a.ok) :
    Calls Try.prog 7 #[vs, .int .i64 fr, .int .i64 many, .int .i64 first, va] w fun e w' => e = .returned (.bool true) ∧ Below w.heap.size w w' :=
  law_LogSays vs ls fr many first va avs al w hs hav haa hso hak (wf_i64 hfr) (wf_i64 hmy) (wf_i64 hfi)
end Go.Proofs.Ytggpodlecljcbaa
