/-
  No cell of these rows narrows 'for every input' (looked for: loops, veiled, ifaces, maps, wideKeys, modest, calm, conditions, laid).
  DERIVED. THE GIVEN ROWS OF THIS SEAT. 10 by the template 'for every input the law returns true; each argument reads behind the call as it read before'; 0 by the template 'total and deterministic' (their statements: YtggpodlecljcbabTotals.lean).
  GIVEN WITH THE SEED: the statements are not yours to turn. If you find one false, say at which input.
  Laid BY PROGRAM, IN A SANDBOX (cutbox-rows.mjs): the forced cells as the released guide's own fill.sh prints them over the translation 67821bbcd1ae72e6… (all of the seat's roots in one cut). By AI agents, Wed Nov 11 2026. No macro, syntax, notation, axiom, sorry.
-/
import Derived.Test.YtggpodlecljcbabChecked
import GoSem.Claim
import GoSem.ClaimJoined
import GoSem.ClaimMapViews
import Derived.JoinedTies
import Derived.KernelRfl
namespace Go.Proofs.Ytggpodlecljcbab
/- THE CELL 'sum', in the pinned program and in every row, IS THE sha256 OF THE DUMP (.gsa) THAT YtggpodlecljcbabProg.lean LOADS. Nothing in Lean hashes anything: it is a label: what it is worth is what the hold of that sum in a sandbox is worth. -/
noncomputable def Try.pinned : Pinned := { name := "ytggpodlecljcbab", sum := "67821bbcd1ae72e640afaffe08096477c5f3c5d04110a0e8a47bf981073e1af2", checked := Try.checked }
namespace Rows
def none {H : Type} : Left H := { results := [], args := [] }

/-- 'patchquilttop.TopLast': WHATEVER THE INPUT: true; the input reads as it did. -/
def topLastSpec : ChangeSpec := { name := "topLast", fn := fun _ => fun
  | [d] => { results := [.lit (.bool true)], args := [d] }
  | _ => none }
def topLastRow : OpenClaim := { program := "ytggpodlecljcbab", sum := "67821bbcd1ae72e640afaffe08096477c5f3c5d04110a0e8a47bf981073e1af2", func := "patchquilt/patchquilttop.TopLast", spec := "topLast", unfollowed := true, recurses := true, apart := false }
def TopLastSaid : Prop := topLastRow.holds Try.pinned (OpenSpec.ofChange topLastSpec)

/-- ITS FALSE NEIGHBOUR: 'it returns false'. Refute it at one input. -/
def topLastWrong : ChangeSpec := { name := "topLast", fn := fun _ => fun
  | [d] => { results := [.lit (.bool false)], args := [d] }
  | _ => none }
def TopLastWrongFalsely : Prop := topLastRow.holds Try.pinned (OpenSpec.ofChange topLastWrong)

/-- 'patchquilttop.TopDisk': WHATEVER THE INPUT: true; the input reads as it did. -/
def topDiskSpec : ChangeSpec := { name := "topDisk", fn := fun _ => fun
  | [d1, d2, d3] => { results := [.lit (.bool true)], args := [d1, d2, d3] }
  | _ => none }
def topDiskRow : OpenClaim := { program := "ytggpodlecljcbab", sum := "67821bbcd1ae72e640afaffe08096477c5f3c5d04110a0e8a47bf981073e1af2", func := "patchquilt/patchquilttop.TopDisk", spec := "topDisk", apart := false }
def TopDiskSaid : Prop := topDiskRow.holds Try.pinned (OpenSpec.ofChange topDiskSpec)

/-- ITS FALSE NEIGHBOUR: 'it returns false'. Refute it at one input. -/
def topDiskWrong : ChangeSpec := { name := "topDisk", fn := fun _ => fun
  | [d1, d2, d3] => { results := [.lit (.bool false)], args := [d1, d2, d3] }
  | _ => none }
def TopDiskWrongFalsely : Prop := topDiskRow.holds Try.pinned (OpenSpec.ofChange topDiskWrong)

/-- 'patchquilttop.TopShelf': WHATEVER THE INPUT: true; the input reads as it did. -/
def topShelfSpec : ChangeSpec := { name := "topShelf", fn := fun _ => fun
  | [d1, d2, d3] => { results := [.lit (.bool true)], args := [d1, d2, d3] }
  | _ => none }
def topShelfRow : OpenClaim := { program := "ytggpodlecljcbab", sum := "67821bbcd1ae72e640afaffe08096477c5f3c5d04110a0e8a47bf981073e1af2", func := "patchquilt/patchquilttop.TopShelf", spec := "topShelf", inPlace := ["internal/bytealg.abigen_runtime_cmpstring", "slices.overlaps[patchquilt/api.File]"], unfollowed := true, recurses := true, apart := false }
def TopShelfSaid : Prop := topShelfRow.holds Try.pinned (OpenSpec.ofChange topShelfSpec)

/-- ITS FALSE NEIGHBOUR: 'it returns false'. Refute it at one input. -/
def topShelfWrong : ChangeSpec := { name := "topShelf", fn := fun _ => fun
  | [d1, d2, d3] => { results := [.lit (.bool false)], args := [d1, d2, d3] }
  | _ => none }
def TopShelfWrongFalsely : Prop := topShelfRow.holds Try.pinned (OpenSpec.ofChange topShelfWrong)

/-- 'patchquilttop.TopLog': WHATEVER THE INPUT: true; the input reads as it did. -/
def topLogSpec : ChangeSpec := { name := "topLog", fn := fun _ => fun
  | [d1, d2, d3] => { results := [.lit (.bool true)], args := [d1, d2, d3] }
  | _ => none }
def topLogRow : OpenClaim := { program := "ytggpodlecljcbab", sum := "67821bbcd1ae72e640afaffe08096477c5f3c5d04110a0e8a47bf981073e1af2", func := "patchquilt/patchquilttop.TopLog", spec := "topLog", unfollowed := true, recurses := true, apart := false }
def TopLogSaid : Prop := topLogRow.holds Try.pinned (OpenSpec.ofChange topLogSpec)

/-- ITS FALSE NEIGHBOUR: 'it returns false'. Refute it at one input. -/
def topLogWrong : ChangeSpec := { name := "topLog", fn := fun _ => fun
  | [d1, d2, d3] => { results := [.lit (.bool false)], args := [d1, d2, d3] }
  | _ => none }
def TopLogWrongFalsely : Prop := topLogRow.holds Try.pinned (OpenSpec.ofChange topLogWrong)

/-- 'patchquilttop.TopWrite': WHATEVER THE INPUT: true; the input reads as it did. -/
def topWriteSpec : ChangeSpec := { name := "topWrite", fn := fun _ => fun
  | [d1, d2, d3, d4] => { results := [.lit (.bool true)], args := [d1, d2, d3, d4] }
  | _ => none }
def topWriteRow : OpenClaim := { program := "ytggpodlecljcbab", sum := "67821bbcd1ae72e640afaffe08096477c5f3c5d04110a0e8a47bf981073e1af2", func := "patchquilt/patchquilttop.TopWrite", spec := "topWrite", inPlace := ["internal/bytealg.abigen_runtime_cmpstring", "slices.overlaps[patchquilt/api.File]"], unfollowed := true, recurses := true, apart := false }
def TopWriteSaid : Prop := topWriteRow.holds Try.pinned (OpenSpec.ofChange topWriteSpec)

/-- ITS FALSE NEIGHBOUR: 'it returns false'. Refute it at one input. -/
def topWriteWrong : ChangeSpec := { name := "topWrite", fn := fun _ => fun
  | [d1, d2, d3, d4] => { results := [.lit (.bool false)], args := [d1, d2, d3, d4] }
  | _ => none }
def TopWriteWrongFalsely : Prop := topWriteRow.holds Try.pinned (OpenSpec.ofChange topWriteWrong)

/-- 'patchquilttop.TopBack': WHATEVER THE INPUT: true; the input reads as it did. -/
def topBackSpec : ChangeSpec := { name := "topBack", fn := fun _ => fun
  | [d1, d2, d3] => { results := [.lit (.bool true)], args := [d1, d2, d3] }
  | _ => none }
def topBackRow : OpenClaim := { program := "ytggpodlecljcbab", sum := "67821bbcd1ae72e640afaffe08096477c5f3c5d04110a0e8a47bf981073e1af2", func := "patchquilt/patchquilttop.TopBack", spec := "topBack", inPlace := ["internal/bytealg.abigen_runtime_cmpstring", "slices.overlaps[patchquilt/api.File]"], unfollowed := true, recurses := true, apart := false }
def TopBackSaid : Prop := topBackRow.holds Try.pinned (OpenSpec.ofChange topBackSpec)

/-- ITS FALSE NEIGHBOUR: 'it returns false'. Refute it at one input. -/
def topBackWrong : ChangeSpec := { name := "topBack", fn := fun _ => fun
  | [d1, d2, d3] => { results := [.lit (.bool false)], args := [d1, d2, d3] }
  | _ => none }
def TopBackWrongFalsely : Prop := topBackRow.holds Try.pinned (OpenSpec.ofChange topBackWrong)

/-- 'patchquilttop.TopSwap': WHATEVER THE INPUT: true; the input reads as it did. -/
def topSwapSpec : ChangeSpec := { name := "topSwap", fn := fun _ => fun
  | [d1, d2, d3] => { results := [.lit (.bool true)], args := [d1, d2, d3] }
  | _ => none }
def topSwapRow : OpenClaim := { program := "ytggpodlecljcbab", sum := "67821bbcd1ae72e640afaffe08096477c5f3c5d04110a0e8a47bf981073e1af2", func := "patchquilt/patchquilttop.TopSwap", spec := "topSwap", inPlace := ["internal/bytealg.abigen_runtime_cmpstring", "slices.overlaps[patchquilt/api.File]"], unfollowed := true, recurses := true, apart := false }
def TopSwapSaid : Prop := topSwapRow.holds Try.pinned (OpenSpec.ofChange topSwapSpec)

/-- ITS FALSE NEIGHBOUR: 'it returns false'. Refute it at one input. -/
def topSwapWrong : ChangeSpec := { name := "topSwap", fn := fun _ => fun
  | [d1, d2, d3] => { results := [.lit (.bool false)], args := [d1, d2, d3] }
  | _ => none }
def TopSwapWrongFalsely : Prop := topSwapRow.holds Try.pinned (OpenSpec.ofChange topSwapWrong)

/-- 'patchquilttop.TopDropped': WHATEVER THE INPUT: true; the input reads as it did. -/
def topDroppedSpec : ChangeSpec := { name := "topDropped", fn := fun _ => fun
  | [d1, d2] => { results := [.lit (.bool true)], args := [d1, d2] }
  | _ => none }
def topDroppedRow : OpenClaim := { program := "ytggpodlecljcbab", sum := "67821bbcd1ae72e640afaffe08096477c5f3c5d04110a0e8a47bf981073e1af2", func := "patchquilt/patchquilttop.TopDropped", spec := "topDropped", inPlace := ["internal/bytealg.abigen_runtime_cmpstring", "slices.overlaps[patchquilt/api.File]"], unfollowed := true, recurses := true, apart := false }
def TopDroppedSaid : Prop := topDroppedRow.holds Try.pinned (OpenSpec.ofChange topDroppedSpec)

/-- ITS FALSE NEIGHBOUR: 'it returns false'. Refute it at one input. -/
def topDroppedWrong : ChangeSpec := { name := "topDropped", fn := fun _ => fun
  | [d1, d2] => { results := [.lit (.bool false)], args := [d1, d2] }
  | _ => none }
def TopDroppedWrongFalsely : Prop := topDroppedRow.holds Try.pinned (OpenSpec.ofChange topDroppedWrong)

/-- 'patchquilttop.TopFew': WHATEVER THE INPUT: true; the input reads as it did. -/
def topFewSpec : ChangeSpec := { name := "topFew", fn := fun _ => fun
  | [d1, d2, d3] => { results := [.lit (.bool true)], args := [d1, d2, d3] }
  | _ => none }
def topFewRow : OpenClaim := { program := "ytggpodlecljcbab", sum := "67821bbcd1ae72e640afaffe08096477c5f3c5d04110a0e8a47bf981073e1af2", func := "patchquilt/patchquilttop.TopFew", spec := "topFew", inPlace := ["internal/bytealg.abigen_runtime_cmpstring", "slices.overlaps[patchquilt/api.File]"], unfollowed := true, recurses := true, apart := false }
def TopFewSaid : Prop := topFewRow.holds Try.pinned (OpenSpec.ofChange topFewSpec)

/-- ITS FALSE NEIGHBOUR: 'it returns false'. Refute it at one input. -/
def topFewWrong : ChangeSpec := { name := "topFew", fn := fun _ => fun
  | [d1, d2, d3] => { results := [.lit (.bool false)], args := [d1, d2, d3] }
  | _ => none }
def TopFewWrongFalsely : Prop := topFewRow.holds Try.pinned (OpenSpec.ofChange topFewWrong)

/-- 'patchquilttop.TopKept': WHATEVER THE INPUT: true; the input reads as it did. -/
def topKeptSpec : ChangeSpec := { name := "topKept", fn := fun _ => fun
  | [d1, d2] => { results := [.lit (.bool true)], args := [d1, d2] }
  | _ => none }
def topKeptRow : OpenClaim := { program := "ytggpodlecljcbab", sum := "67821bbcd1ae72e640afaffe08096477c5f3c5d04110a0e8a47bf981073e1af2", func := "patchquilt/patchquilttop.TopKept", spec := "topKept", inPlace := ["internal/bytealg.abigen_runtime_cmpstring", "slices.overlaps[patchquilt/api.File]"], unfollowed := true, recurses := true, apart := false }
def TopKeptSaid : Prop := topKeptRow.holds Try.pinned (OpenSpec.ofChange topKeptSpec)

/-- ITS FALSE NEIGHBOUR: 'it returns false'. Refute it at one input. -/
def topKeptWrong : ChangeSpec := { name := "topKept", fn := fun _ => fun
  | [d1, d2] => { results := [.lit (.bool false)], args := [d1, d2] }
  | _ => none }
def TopKeptWrongFalsely : Prop := topKeptRow.holds Try.pinned (OpenSpec.ofChange topKeptWrong)

/- THE SECOND FORM. 'bulk': how many values and letters a reading holds, each counted each time it is reached (what is shared counts as often as it is met; a slice's spare places count too). A statement '..UptoSaid' is the law's where the arguments, and the package variables that the reading takes, are together of bulk at most 1048576: NARROWER than '..Said'. Prove '..Said' where nothing that the law and all that it calls make is longer than what came in: it says more and counts as full. Else prove '..UptoSaid'. A law counts once. -/
mutual
def uptoBulk {H : Type} : DataW H → Nat
  | .lit (.string bytes) => bytes.length + 1
  | .lit _ => 1
  | .nil => 1
  | .ptr d => uptoBulk d + 1
  | .slice elems spare => uptoBulkAll elems + uptoBulkAll spare + 1
  | .agg parts => uptoBulkAll parts + 1
  | .iface _ d => uptoBulk d + 1
  | .map entries => uptoBulkEntries entries + 1
  | .held _ => 1
def uptoBulkAll {H : Type} : List (DataW H) → Nat
  | [] => 0
  | d :: r => uptoBulk d + uptoBulkAll r
def uptoBulkEntries {H : Type} : List (Lit × DataW H) → Nat
  | [] => 0
  | x :: r => uptoBulkEntry x + uptoBulkEntries r
def uptoBulkEntry {H : Type} : Lit × DataW H → Nat
  | (.string bytes, d) => bytes.length + uptoBulk d + 1
  | (_, d) => uptoBulk d + 1
 end
def uptoSmall : (H : Type) → List (DataW H) → Bool := fun _ ds => decide (uptoBulkAll ds ≤ 1048576)
def OpenSpec.upto (s : _root_.Go.ChangeSpec) : _root_.Go.OpenSpec := { _root_.Go.OpenSpec.ofChange s with cond := some uptoSmall }

/-- 'patchquilttop.TopLast', WHERE WHAT IT READS IS OF BULK AT MOST 1048576: true; the input reads as it did. -/
def topLastUptoRow : OpenClaim := { program := "ytggpodlecljcbab", sum := "67821bbcd1ae72e640afaffe08096477c5f3c5d04110a0e8a47bf981073e1af2", func := "patchquilt/patchquilttop.TopLast", spec := "topLast", unfollowed := true, recurses := true, apart := false, narrowed := true }
def TopLastUptoSaid : Prop := topLastUptoRow.holds Try.pinned (OpenSpec.upto topLastSpec)

/-- 'patchquilttop.TopDisk', WHERE WHAT IT READS IS OF BULK AT MOST 1048576: true; the input reads as it did. -/
def topDiskUptoRow : OpenClaim := { program := "ytggpodlecljcbab", sum := "67821bbcd1ae72e640afaffe08096477c5f3c5d04110a0e8a47bf981073e1af2", func := "patchquilt/patchquilttop.TopDisk", spec := "topDisk", apart := false, narrowed := true }
def TopDiskUptoSaid : Prop := topDiskUptoRow.holds Try.pinned (OpenSpec.upto topDiskSpec)

/-- 'patchquilttop.TopShelf', WHERE WHAT IT READS IS OF BULK AT MOST 1048576: true; the input reads as it did. -/
def topShelfUptoRow : OpenClaim := { program := "ytggpodlecljcbab", sum := "67821bbcd1ae72e640afaffe08096477c5f3c5d04110a0e8a47bf981073e1af2", func := "patchquilt/patchquilttop.TopShelf", spec := "topShelf", inPlace := ["internal/bytealg.abigen_runtime_cmpstring", "slices.overlaps[patchquilt/api.File]"], unfollowed := true, recurses := true, apart := false, narrowed := true }
def TopShelfUptoSaid : Prop := topShelfUptoRow.holds Try.pinned (OpenSpec.upto topShelfSpec)

/-- 'patchquilttop.TopLog', WHERE WHAT IT READS IS OF BULK AT MOST 1048576: true; the input reads as it did. -/
def topLogUptoRow : OpenClaim := { program := "ytggpodlecljcbab", sum := "67821bbcd1ae72e640afaffe08096477c5f3c5d04110a0e8a47bf981073e1af2", func := "patchquilt/patchquilttop.TopLog", spec := "topLog", unfollowed := true, recurses := true, apart := false, narrowed := true }
def TopLogUptoSaid : Prop := topLogUptoRow.holds Try.pinned (OpenSpec.upto topLogSpec)

/-- 'patchquilttop.TopWrite', WHERE WHAT IT READS IS OF BULK AT MOST 1048576: true; the input reads as it did. -/
def topWriteUptoRow : OpenClaim := { program := "ytggpodlecljcbab", sum := "67821bbcd1ae72e640afaffe08096477c5f3c5d04110a0e8a47bf981073e1af2", func := "patchquilt/patchquilttop.TopWrite", spec := "topWrite", inPlace := ["internal/bytealg.abigen_runtime_cmpstring", "slices.overlaps[patchquilt/api.File]"], unfollowed := true, recurses := true, apart := false, narrowed := true }
def TopWriteUptoSaid : Prop := topWriteUptoRow.holds Try.pinned (OpenSpec.upto topWriteSpec)

/-- 'patchquilttop.TopBack', WHERE WHAT IT READS IS OF BULK AT MOST 1048576: true; the input reads as it did. -/
def topBackUptoRow : OpenClaim := { program := "ytggpodlecljcbab", sum := "67821bbcd1ae72e640afaffe08096477c5f3c5d04110a0e8a47bf981073e1af2", func := "patchquilt/patchquilttop.TopBack", spec := "topBack", inPlace := ["internal/bytealg.abigen_runtime_cmpstring", "slices.overlaps[patchquilt/api.File]"], unfollowed := true, recurses := true, apart := false, narrowed := true }
def TopBackUptoSaid : Prop := topBackUptoRow.holds Try.pinned (OpenSpec.upto topBackSpec)

/-- 'patchquilttop.TopSwap', WHERE WHAT IT READS IS OF BULK AT MOST 1048576: true; the input reads as it did. -/
def topSwapUptoRow : OpenClaim := { program := "ytggpodlecljcbab", sum := "67821bbcd1ae72e640afaffe08096477c5f3c5d04110a0e8a47bf981073e1af2", func := "patchquilt/patchquilttop.TopSwap", spec := "topSwap", inPlace := ["internal/bytealg.abigen_runtime_cmpstring", "slices.overlaps[patchquilt/api.File]"], unfollowed := true, recurses := true, apart := false, narrowed := true }
def TopSwapUptoSaid : Prop := topSwapUptoRow.holds Try.pinned (OpenSpec.upto topSwapSpec)

/-- 'patchquilttop.TopDropped', WHERE WHAT IT READS IS OF BULK AT MOST 1048576: true; the input reads as it did. -/
def topDroppedUptoRow : OpenClaim := { program := "ytggpodlecljcbab", sum := "67821bbcd1ae72e640afaffe08096477c5f3c5d04110a0e8a47bf981073e1af2", func := "patchquilt/patchquilttop.TopDropped", spec := "topDropped", inPlace := ["internal/bytealg.abigen_runtime_cmpstring", "slices.overlaps[patchquilt/api.File]"], unfollowed := true, recurses := true, apart := false, narrowed := true }
def TopDroppedUptoSaid : Prop := topDroppedUptoRow.holds Try.pinned (OpenSpec.upto topDroppedSpec)

/-- 'patchquilttop.TopFew', WHERE WHAT IT READS IS OF BULK AT MOST 1048576: true; the input reads as it did. -/
def topFewUptoRow : OpenClaim := { program := "ytggpodlecljcbab", sum := "67821bbcd1ae72e640afaffe08096477c5f3c5d04110a0e8a47bf981073e1af2", func := "patchquilt/patchquilttop.TopFew", spec := "topFew", inPlace := ["internal/bytealg.abigen_runtime_cmpstring", "slices.overlaps[patchquilt/api.File]"], unfollowed := true, recurses := true, apart := false, narrowed := true }
def TopFewUptoSaid : Prop := topFewUptoRow.holds Try.pinned (OpenSpec.upto topFewSpec)

/-- 'patchquilttop.TopKept', WHERE WHAT IT READS IS OF BULK AT MOST 1048576: true; the input reads as it did. -/
def topKeptUptoRow : OpenClaim := { program := "ytggpodlecljcbab", sum := "67821bbcd1ae72e640afaffe08096477c5f3c5d04110a0e8a47bf981073e1af2", func := "patchquilt/patchquilttop.TopKept", spec := "topKept", inPlace := ["internal/bytealg.abigen_runtime_cmpstring", "slices.overlaps[patchquilt/api.File]"], unfollowed := true, recurses := true, apart := false, narrowed := true }
def TopKeptUptoSaid : Prop := topKeptUptoRow.holds Try.pinned (OpenSpec.upto topKeptSpec)

end Rows
end Go.Proofs.Ytggpodlecljcbab
