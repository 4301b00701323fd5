/- DiffSays, as the claim asks it. -/
import Derived.Test.YtggpodlecljcbaaLawDf
namespace Go.Proofs.Ytggpodlecljcbaa
open Go.RowKit Go.Sort
theorem diff_says (va : Value) (a : Quilt) (vb : Value) (b : Quilt) (vn : Value) (names : List ByteArray) (w : World) (ha : Quilts w va a) (hb : Quilts w vb b) (hn : Texts w vn names) (hoa : ∀ f ∈ a.files, f.ok) (hob : ∀ f ∈ b.files, f.ok) (hon : ∀ s ∈ names, s.size ≤ maxLen) :
    Calls Try.prog 11 #[va, vb, vn] w fun e w' => e = .returned (.bool true) ∧ Below w.heap.size w w' := law_DiffSays va vb vn a b names w ha hb hn hoa hob hon
end Go.Proofs.Ytggpodlecljcbaa
