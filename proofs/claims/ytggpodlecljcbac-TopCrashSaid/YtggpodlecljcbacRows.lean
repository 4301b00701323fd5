/-
  No cell of these rows narrows 'for every input' (looked for: loops, veiled, ifaces, maps, wideKeys, modest, calm, conditions, laid).
  DERIVED. THE GIVEN ROWS OF THIS SEAT. 4 by the template 'for every input the law returns true; each argument reads behind the call as it read before'; 0 by the template 'total and deterministic' (their statements: YtggpodlecljcbacTotals.lean).
  GIVEN WITH THE SEED: the statements are not yours to turn. If you find one false, say at which input.
  Laid BY PROGRAM, IN A SANDBOX (cutbox-rows.mjs): the forced cells as the released guide's own fill.sh prints them over the translation 060c491822be0aaf… (all of the seat's roots in one cut). By AI agents, Wed Nov 11 2026. No macro, syntax, notation, axiom, sorry.
-/
import Derived.Test.YtggpodlecljcbacChecked
import GoSem.Claim
import GoSem.ClaimJoined
import GoSem.ClaimMapViews
import Derived.JoinedTies
import Derived.KernelRfl
namespace Go.Proofs.Ytggpodlecljcbac
/- THE CELL 'sum', in the pinned program and in every row, IS THE sha256 OF THE DUMP (.gsa) THAT YtggpodlecljcbacProg.lean LOADS. Nothing in Lean hashes anything: it is a label: what it is worth is what the hold of that sum in a sandbox is worth. -/
noncomputable def Try.pinned : Pinned := { name := "ytggpodlecljcbac", sum := "060c491822be0aafeaec18effb32d74bcd66697ae4db98473f4615c806c7f1e6", checked := Try.checked }
namespace Rows
def none {H : Type} : Left H := { results := [], args := [] }

/-- 'patchquilttop.TopGood': WHATEVER THE INPUT: true; the input reads as it did. -/
def topGoodSpec : ChangeSpec := { name := "topGood", fn := fun _ => fun
  | [d] => { results := [.lit (.bool true)], args := [d] }
  | _ => none }
def topGoodRow : OpenClaim := { program := "ytggpodlecljcbac", sum := "060c491822be0aafeaec18effb32d74bcd66697ae4db98473f4615c806c7f1e6", func := "patchquilt/patchquilttop.TopGood", spec := "topGood", inPlace := ["internal/bytealg.abigen_runtime_cmpstring", "slices.overlaps[patchquilt/api.File]"], unfollowed := true, recurses := true, apart := false }
def TopGoodSaid : Prop := topGoodRow.holds Try.pinned (OpenSpec.ofChange topGoodSpec)

/-- ITS FALSE NEIGHBOUR: 'it returns false'. Refute it at one input. -/
def topGoodWrong : ChangeSpec := { name := "topGood", fn := fun _ => fun
  | [d] => { results := [.lit (.bool false)], args := [d] }
  | _ => none }
def TopGoodWrongFalsely : Prop := topGoodRow.holds Try.pinned (OpenSpec.ofChange topGoodWrong)

/-- 'patchquilttop.TopDiff': WHATEVER THE INPUT: true; the input reads as it did. -/
def topDiffSpec : ChangeSpec := { name := "topDiff", fn := fun _ => fun
  | [d1, d2] => { results := [.lit (.bool true)], args := [d1, d2] }
  | _ => none }
def topDiffRow : OpenClaim := { program := "ytggpodlecljcbac", sum := "060c491822be0aafeaec18effb32d74bcd66697ae4db98473f4615c806c7f1e6", func := "patchquilt/patchquilttop.TopDiff", spec := "topDiff", inPlace := ["internal/bytealg.abigen_runtime_cmpstring"], unfollowed := true, recurses := true, apart := false }
def TopDiffSaid : Prop := topDiffRow.holds Try.pinned (OpenSpec.ofChange topDiffSpec)

/-- ITS FALSE NEIGHBOUR: 'it returns false'. Refute it at one input. -/
def topDiffWrong : ChangeSpec := { name := "topDiff", fn := fun _ => fun
  | [d1, d2] => { results := [.lit (.bool false)], args := [d1, d2] }
  | _ => none }
def TopDiffWrongFalsely : Prop := topDiffRow.holds Try.pinned (OpenSpec.ofChange topDiffWrong)

/-- 'patchquilttop.TopCrash': WHATEVER THE INPUT: true; the input reads as it did. -/
def topCrashSpec : ChangeSpec := { name := "topCrash", fn := fun _ => fun
  | [d1, d2, d3] => { results := [.lit (.bool true)], args := [d1, d2, d3] }
  | _ => none }
def topCrashRow : OpenClaim := { program := "ytggpodlecljcbac", sum := "060c491822be0aafeaec18effb32d74bcd66697ae4db98473f4615c806c7f1e6", func := "patchquilt/patchquilttop.TopCrash", spec := "topCrash", inPlace := ["internal/bytealg.abigen_runtime_cmpstring", "slices.overlaps[patchquilt/api.Change]", "internal/abi.NoEscape"], unfollowed := true, recurses := true, apart := false }
def TopCrashSaid : Prop := topCrashRow.holds Try.pinned (OpenSpec.ofChange topCrashSpec)

/-- ITS FALSE NEIGHBOUR: 'it returns false'. Refute it at one input. -/
def topCrashWrong : ChangeSpec := { name := "topCrash", fn := fun _ => fun
  | [d1, d2, d3] => { results := [.lit (.bool false)], args := [d1, d2, d3] }
  | _ => none }
def TopCrashWrongFalsely : Prop := topCrashRow.holds Try.pinned (OpenSpec.ofChange topCrashWrong)

/-- 'patchquilttop.TopPatch': WHATEVER THE INPUT: true; the input reads as it did. -/
def topPatchSpec : ChangeSpec := { name := "topPatch", fn := fun _ => fun
  | [d1, d2, d3] => { results := [.lit (.bool true)], args := [d1, d2, d3] }
  | _ => none }
def topPatchRow : OpenClaim := { program := "ytggpodlecljcbac", sum := "060c491822be0aafeaec18effb32d74bcd66697ae4db98473f4615c806c7f1e6", func := "patchquilt/patchquilttop.TopPatch", spec := "topPatch", inPlace := ["internal/bytealg.abigen_runtime_cmpstring", "slices.overlaps[patchquilt/api.File]"], unfollowed := true, recurses := true, apart := false }
def TopPatchSaid : Prop := topPatchRow.holds Try.pinned (OpenSpec.ofChange topPatchSpec)

/-- ITS FALSE NEIGHBOUR: 'it returns false'. Refute it at one input. -/
def topPatchWrong : ChangeSpec := { name := "topPatch", fn := fun _ => fun
  | [d1, d2, d3] => { results := [.lit (.bool false)], args := [d1, d2, d3] }
  | _ => none }
def TopPatchWrongFalsely : Prop := topPatchRow.holds Try.pinned (OpenSpec.ofChange topPatchWrong)

/- THE SECOND FORM. 'bulk': how many values and letters a reading holds, each counted each time it is reached (what is shared counts as often as it is met; a slice's spare places count too). A statement '..UptoSaid' is the law's where the arguments, and the package variables that the reading takes, are together of bulk at most 1048576: NARROWER than '..Said'. Prove '..Said' where nothing that the law and all that it calls make is longer than what came in: it says more and counts as full. Else prove '..UptoSaid'. A law counts once. -/
mutual
def uptoBulk {H : Type} : DataW H → Nat
  | .lit (.string bytes) => bytes.length + 1
  | .lit _ => 1
  | .nil => 1
  | .ptr d => uptoBulk d + 1
  | .slice elems spare => uptoBulkAll elems + uptoBulkAll spare + 1
  | .agg parts => uptoBulkAll parts + 1
  | .iface _ d => uptoBulk d + 1
  | .map entries => uptoBulkEntries entries + 1
  | .held _ => 1
def uptoBulkAll {H : Type} : List (DataW H) → Nat
  | [] => 0
  | d :: r => uptoBulk d + uptoBulkAll r
def uptoBulkEntries {H : Type} : List (Lit × DataW H) → Nat
  | [] => 0
  | x :: r => uptoBulkEntry x + uptoBulkEntries r
def uptoBulkEntry {H : Type} : Lit × DataW H → Nat
  | (.string bytes, d) => bytes.length + uptoBulk d + 1
  | (_, d) => uptoBulk d + 1
 end
def uptoSmall : (H : Type) → List (DataW H) → Bool := fun _ ds => decide (uptoBulkAll ds ≤ 1048576)
def OpenSpec.upto (s : _root_.Go.ChangeSpec) : _root_.Go.OpenSpec := { _root_.Go.OpenSpec.ofChange s with cond := some uptoSmall }

/-- 'patchquilttop.TopGood', WHERE WHAT IT READS IS OF BULK AT MOST 1048576: true; the input reads as it did. -/
def topGoodUptoRow : OpenClaim := { program := "ytggpodlecljcbac", sum := "060c491822be0aafeaec18effb32d74bcd66697ae4db98473f4615c806c7f1e6", func := "patchquilt/patchquilttop.TopGood", spec := "topGood", inPlace := ["internal/bytealg.abigen_runtime_cmpstring", "slices.overlaps[patchquilt/api.File]"], unfollowed := true, recurses := true, apart := false, narrowed := true }
def TopGoodUptoSaid : Prop := topGoodUptoRow.holds Try.pinned (OpenSpec.upto topGoodSpec)

/-- 'patchquilttop.TopDiff', WHERE WHAT IT READS IS OF BULK AT MOST 1048576: true; the input reads as it did. -/
def topDiffUptoRow : OpenClaim := { program := "ytggpodlecljcbac", sum := "060c491822be0aafeaec18effb32d74bcd66697ae4db98473f4615c806c7f1e6", func := "patchquilt/patchquilttop.TopDiff", spec := "topDiff", inPlace := ["internal/bytealg.abigen_runtime_cmpstring"], unfollowed := true, recurses := true, apart := false, narrowed := true }
def TopDiffUptoSaid : Prop := topDiffUptoRow.holds Try.pinned (OpenSpec.upto topDiffSpec)

/-- 'patchquilttop.TopCrash', WHERE WHAT IT READS IS OF BULK AT MOST 1048576: true; the input reads as it did. -/
def topCrashUptoRow : OpenClaim := { program := "ytggpodlecljcbac", sum := "060c491822be0aafeaec18effb32d74bcd66697ae4db98473f4615c806c7f1e6", func := "patchquilt/patchquilttop.TopCrash", spec := "topCrash", inPlace := ["internal/bytealg.abigen_runtime_cmpstring", "slices.overlaps[patchquilt/api.Change]", "internal/abi.NoEscape"], unfollowed := true, recurses := true, apart := false, narrowed := true }
def TopCrashUptoSaid : Prop := topCrashUptoRow.holds Try.pinned (OpenSpec.upto topCrashSpec)

/-- 'patchquilttop.TopPatch', WHERE WHAT IT READS IS OF BULK AT MOST 1048576: true; the input reads as it did. -/
def topPatchUptoRow : OpenClaim := { program := "ytggpodlecljcbac", sum := "060c491822be0aafeaec18effb32d74bcd66697ae4db98473f4615c806c7f1e6", func := "patchquilt/patchquilttop.TopPatch", spec := "topPatch", inPlace := ["internal/bytealg.abigen_runtime_cmpstring", "slices.overlaps[patchquilt/api.File]"], unfollowed := true, recurses := true, apart := false, narrowed := true }
def TopPatchUptoSaid : Prop := topPatchUptoRow.holds Try.pinned (OpenSpec.upto topPatchSpec)

end Rows
end Go.Proofs.Ytggpodlecljcbac
