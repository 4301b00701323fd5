/-
  No cell of these rows narrows 'for every input' (looked for: loops, veiled, ifaces, maps, wideKeys, modest, calm, conditions, laid).
  DERIVED. THE GIVEN ROWS OF THIS SEAT. 10 by the template 'for every input the law returns true; each argument reads behind the call as it read before'; 0 by the template 'total and deterministic' (their statements: YtggpodlecljcbaaTotals.lean).
  GIVEN WITH THE SEED: the statements are not yours to turn. If you find one false, say at which input.
  Laid BY PROGRAM, IN A SANDBOX (cutbox-rows.mjs): the forced cells as the released guide's own fill.sh prints them over the translation 13cc13b47f83e1d0… (all of the seat's roots in one cut). By AI agents, Wed Nov 11 2026. No macro, syntax, notation, axiom, sorry.
-/
import Derived.Test.YtggpodlecljcbaaChecked
import GoSem.Claim
import GoSem.ClaimJoined
import GoSem.ClaimMapViews
import Derived.JoinedTies
import Derived.KernelRfl
namespace Go.Proofs.Ytggpodlecljcbaa
/- THE CELL 'sum', in the pinned program and in every row, IS THE sha256 OF THE DUMP (.gsa) THAT YtggpodlecljcbaaProg.lean LOADS. Nothing in Lean hashes anything: it is a label: what it is worth is what the hold of that sum in a sandbox is worth. -/
noncomputable def Try.pinned : Pinned := { name := "ytggpodlecljcbaa", sum := "13cc13b47f83e1d09d9299f4982382d905ae62f5a80fba5740126e60c42f6103", checked := Try.checked }
namespace Rows
def none {H : Type} : Left H := { results := [], args := [] }

/-- 'patchquiltlaw.FileSays': WHATEVER THE INPUT: true; the input reads as it did. -/
def fileSaysSpec : ChangeSpec := { name := "fileSays", fn := fun _ => fun
  | [d1, d2] => { results := [.lit (.bool true)], args := [d1, d2] }
  | _ => none }
def fileSaysRow : OpenClaim := { program := "ytggpodlecljcbaa", sum := "13cc13b47f83e1d09d9299f4982382d905ae62f5a80fba5740126e60c42f6103", func := "patchquilt/patchquiltlaw.FileSays", spec := "fileSays", unfollowed := true, recurses := true, apart := false }
def FileSaysSaid : Prop := fileSaysRow.holds Try.pinned (OpenSpec.ofChange fileSaysSpec)

/-- ITS FALSE NEIGHBOUR: 'it returns false'. Refute it at one input. -/
def fileSaysWrong : ChangeSpec := { name := "fileSays", fn := fun _ => fun
  | [d1, d2] => { results := [.lit (.bool false)], args := [d1, d2] }
  | _ => none }
def FileSaysWrongFalsely : Prop := fileSaysRow.holds Try.pinned (OpenSpec.ofChange fileSaysWrong)

/-- 'patchquiltlaw.VoteSays': WHATEVER THE INPUT: true; the input reads as it did. -/
def voteSaysSpec : ChangeSpec := { name := "voteSays", fn := fun _ => fun
  | [d1, d2] => { results := [.lit (.bool true)], args := [d1, d2] }
  | _ => none }
def voteSaysRow : OpenClaim := { program := "ytggpodlecljcbaa", sum := "13cc13b47f83e1d09d9299f4982382d905ae62f5a80fba5740126e60c42f6103", func := "patchquilt/patchquiltlaw.VoteSays", spec := "voteSays", unfollowed := true, recurses := true, apart := false }
def VoteSaysSaid : Prop := voteSaysRow.holds Try.pinned (OpenSpec.ofChange voteSaysSpec)

/-- ITS FALSE NEIGHBOUR: 'it returns false'. Refute it at one input. -/
def voteSaysWrong : ChangeSpec := { name := "voteSays", fn := fun _ => fun
  | [d1, d2] => { results := [.lit (.bool false)], args := [d1, d2] }
  | _ => none }
def VoteSaysWrongFalsely : Prop := voteSaysRow.holds Try.pinned (OpenSpec.ofChange voteSaysWrong)

/-- 'patchquiltlaw.DiskSays': WHATEVER THE INPUT: true; the input reads as it did. -/
def diskSaysSpec : ChangeSpec := { name := "diskSays", fn := fun _ => fun
  | [d1, d2] => { results := [.lit (.bool true)], args := [d1, d2] }
  | _ => none }
def diskSaysRow : OpenClaim := { program := "ytggpodlecljcbaa", sum := "13cc13b47f83e1d09d9299f4982382d905ae62f5a80fba5740126e60c42f6103", func := "patchquilt/patchquiltlaw.DiskSays", spec := "diskSays", apart := false }
def DiskSaysSaid : Prop := diskSaysRow.holds Try.pinned (OpenSpec.ofChange diskSaysSpec)

/-- ITS FALSE NEIGHBOUR: 'it returns false'. Refute it at one input. -/
def diskSaysWrong : ChangeSpec := { name := "diskSays", fn := fun _ => fun
  | [d1, d2] => { results := [.lit (.bool false)], args := [d1, d2] }
  | _ => none }
def DiskSaysWrongFalsely : Prop := diskSaysRow.holds Try.pinned (OpenSpec.ofChange diskSaysWrong)

/-- 'patchquiltlaw.RowSays': WHATEVER THE INPUT: true; the input reads as it did. -/
def rowSaysSpec : ChangeSpec := { name := "rowSays", fn := fun _ => fun
  | [d1, d2, d3, d4] => { results := [.lit (.bool true)], args := [d1, d2, d3, d4] }
  | _ => none }
def rowSaysRow : OpenClaim := { program := "ytggpodlecljcbaa", sum := "13cc13b47f83e1d09d9299f4982382d905ae62f5a80fba5740126e60c42f6103", func := "patchquilt/patchquiltlaw.RowSays", spec := "rowSays", inPlace := ["internal/bytealg.abigen_runtime_cmpstring", "slices.overlaps[patchquilt/api.Change]"], unfollowed := true, recurses := true, apart := false }
def RowSaysSaid : Prop := rowSaysRow.holds Try.pinned (OpenSpec.ofChange rowSaysSpec)

/-- ITS FALSE NEIGHBOUR: 'it returns false'. Refute it at one input. -/
def rowSaysWrong : ChangeSpec := { name := "rowSays", fn := fun _ => fun
  | [d1, d2, d3, d4] => { results := [.lit (.bool false)], args := [d1, d2, d3, d4] }
  | _ => none }
def RowSaysWrongFalsely : Prop := rowSaysRow.holds Try.pinned (OpenSpec.ofChange rowSaysWrong)

/-- 'patchquiltlaw.LogSays': WHATEVER THE INPUT: true; the input reads as it did. -/
def logSaysSpec : ChangeSpec := { name := "logSays", fn := fun _ => fun
  | [d1, d2, d3, d4, d5] => { results := [.lit (.bool true)], args := [d1, d2, d3, d4, d5] }
  | _ => none }
def logSaysRow : OpenClaim := { program := "ytggpodlecljcbaa", sum := "13cc13b47f83e1d09d9299f4982382d905ae62f5a80fba5740126e60c42f6103", func := "patchquilt/patchquiltlaw.LogSays", spec := "logSays", unfollowed := true, recurses := true, apart := false }
def LogSaysSaid : Prop := logSaysRow.holds Try.pinned (OpenSpec.ofChange logSaysSpec)

/-- ITS FALSE NEIGHBOUR: 'it returns false'. Refute it at one input. -/
def logSaysWrong : ChangeSpec := { name := "logSays", fn := fun _ => fun
  | [d1, d2, d3, d4, d5] => { results := [.lit (.bool false)], args := [d1, d2, d3, d4, d5] }
  | _ => none }
def LogSaysWrongFalsely : Prop := logSaysRow.holds Try.pinned (OpenSpec.ofChange logSaysWrong)

/-- 'patchquiltlaw.ShelfSays': WHATEVER THE INPUT: true; the input reads as it did. -/
def shelfSaysSpec : ChangeSpec := { name := "shelfSays", fn := fun _ => fun
  | [d1, d2, d3] => { results := [.lit (.bool true)], args := [d1, d2, d3] }
  | _ => none }
def shelfSaysRow : OpenClaim := { program := "ytggpodlecljcbaa", sum := "13cc13b47f83e1d09d9299f4982382d905ae62f5a80fba5740126e60c42f6103", func := "patchquilt/patchquiltlaw.ShelfSays", spec := "shelfSays", inPlace := ["internal/bytealg.abigen_runtime_cmpstring", "slices.overlaps[patchquilt/api.File]"], unfollowed := true, recurses := true, apart := false }
def ShelfSaysSaid : Prop := shelfSaysRow.holds Try.pinned (OpenSpec.ofChange shelfSaysSpec)

/-- ITS FALSE NEIGHBOUR: 'it returns false'. Refute it at one input. -/
def shelfSaysWrong : ChangeSpec := { name := "shelfSays", fn := fun _ => fun
  | [d1, d2, d3] => { results := [.lit (.bool false)], args := [d1, d2, d3] }
  | _ => none }
def ShelfSaysWrongFalsely : Prop := shelfSaysRow.holds Try.pinned (OpenSpec.ofChange shelfSaysWrong)

/-- 'patchquiltlaw.QuiltSays': WHATEVER THE INPUT: true; the input reads as it did. -/
def quiltSaysSpec : ChangeSpec := { name := "quiltSays", fn := fun _ => fun
  | [d1, d2, d3] => { results := [.lit (.bool true)], args := [d1, d2, d3] }
  | _ => none }
def quiltSaysRow : OpenClaim := { program := "ytggpodlecljcbaa", sum := "13cc13b47f83e1d09d9299f4982382d905ae62f5a80fba5740126e60c42f6103", func := "patchquilt/patchquiltlaw.QuiltSays", spec := "quiltSays", inPlace := ["internal/bytealg.abigen_runtime_cmpstring", "slices.overlaps[patchquilt/api.File]"], unfollowed := true, recurses := true, apart := false }
def QuiltSaysSaid : Prop := quiltSaysRow.holds Try.pinned (OpenSpec.ofChange quiltSaysSpec)

/-- ITS FALSE NEIGHBOUR: 'it returns false'. Refute it at one input. -/
def quiltSaysWrong : ChangeSpec := { name := "quiltSays", fn := fun _ => fun
  | [d1, d2, d3] => { results := [.lit (.bool false)], args := [d1, d2, d3] }
  | _ => none }
def QuiltSaysWrongFalsely : Prop := quiltSaysRow.holds Try.pinned (OpenSpec.ofChange quiltSaysWrong)

/-- 'patchquiltlaw.StoreSays': WHATEVER THE INPUT: true; the input reads as it did. -/
def storeSaysSpec : ChangeSpec := { name := "storeSays", fn := fun _ => fun
  | [d1, d2] => { results := [.lit (.bool true)], args := [d1, d2] }
  | _ => none }
def storeSaysRow : OpenClaim := { program := "ytggpodlecljcbaa", sum := "13cc13b47f83e1d09d9299f4982382d905ae62f5a80fba5740126e60c42f6103", func := "patchquilt/patchquiltlaw.StoreSays", spec := "storeSays", inPlace := ["internal/bytealg.abigen_runtime_cmpstring", "slices.overlaps[patchquilt/api.Change]", "internal/abi.NoEscape"], unfollowed := true, recurses := true, apart := false }
def StoreSaysSaid : Prop := storeSaysRow.holds Try.pinned (OpenSpec.ofChange storeSaysSpec)

/-- ITS FALSE NEIGHBOUR: 'it returns false'. Refute it at one input. -/
def storeSaysWrong : ChangeSpec := { name := "storeSays", fn := fun _ => fun
  | [d1, d2] => { results := [.lit (.bool false)], args := [d1, d2] }
  | _ => none }
def StoreSaysWrongFalsely : Prop := storeSaysRow.holds Try.pinned (OpenSpec.ofChange storeSaysWrong)

/-- 'patchquiltlaw.DiffSays': WHATEVER THE INPUT: true; the input reads as it did. -/
def diffSaysSpec : ChangeSpec := { name := "diffSays", fn := fun _ => fun
  | [d1, d2, d3] => { results := [.lit (.bool true)], args := [d1, d2, d3] }
  | _ => none }
def diffSaysRow : OpenClaim := { program := "ytggpodlecljcbaa", sum := "13cc13b47f83e1d09d9299f4982382d905ae62f5a80fba5740126e60c42f6103", func := "patchquilt/patchquiltlaw.DiffSays", spec := "diffSays", inPlace := ["internal/bytealg.abigen_runtime_cmpstring", "slices.overlaps[patchquilt/api.File]"], unfollowed := true, recurses := true, apart := false }
def DiffSaysSaid : Prop := diffSaysRow.holds Try.pinned (OpenSpec.ofChange diffSaysSpec)

/-- ITS FALSE NEIGHBOUR: 'it returns false'. Refute it at one input. -/
def diffSaysWrong : ChangeSpec := { name := "diffSays", fn := fun _ => fun
  | [d1, d2, d3] => { results := [.lit (.bool false)], args := [d1, d2, d3] }
  | _ => none }
def DiffSaysWrongFalsely : Prop := diffSaysRow.holds Try.pinned (OpenSpec.ofChange diffSaysWrong)

/-- 'patchquilttop.TopTwo': WHATEVER THE INPUT: true; the input reads as it did. -/
def topTwoSpec : ChangeSpec := { name := "topTwo", fn := fun _ => fun
  | [d1, d2, d3] => { results := [.lit (.bool true)], args := [d1, d2, d3] }
  | _ => none }
def topTwoRow : OpenClaim := { program := "ytggpodlecljcbaa", sum := "13cc13b47f83e1d09d9299f4982382d905ae62f5a80fba5740126e60c42f6103", func := "patchquilt/patchquilttop.TopTwo", spec := "topTwo", unfollowed := true, recurses := true, apart := false }
def TopTwoSaid : Prop := topTwoRow.holds Try.pinned (OpenSpec.ofChange topTwoSpec)

/-- ITS FALSE NEIGHBOUR: 'it returns false'. Refute it at one input. -/
def topTwoWrong : ChangeSpec := { name := "topTwo", fn := fun _ => fun
  | [d1, d2, d3] => { results := [.lit (.bool false)], args := [d1, d2, d3] }
  | _ => none }
def TopTwoWrongFalsely : Prop := topTwoRow.holds Try.pinned (OpenSpec.ofChange topTwoWrong)

/- THE SECOND FORM. 'bulk': how many values and letters a reading holds, each counted each time it is reached (what is shared counts as often as it is met; a slice's spare places count too). A statement '..UptoSaid' is the law's where the arguments, and the package variables that the reading takes, are together of bulk at most 1048576: NARROWER than '..Said'. Prove '..Said' where nothing that the law and all that it calls make is longer than what came in: it says more and counts as full. Else prove '..UptoSaid'. A law counts once. -/
mutual
def uptoBulk {H : Type} : DataW H → Nat
  | .lit (.string bytes) => bytes.length + 1
  | .lit _ => 1
  | .nil => 1
  | .ptr d => uptoBulk d + 1
  | .slice elems spare => uptoBulkAll elems + uptoBulkAll spare + 1
  | .agg parts => uptoBulkAll parts + 1
  | .iface _ d => uptoBulk d + 1
  | .map entries => uptoBulkEntries entries + 1
  | .held _ => 1
def uptoBulkAll {H : Type} : List (DataW H) → Nat
  | [] => 0
  | d :: r => uptoBulk d + uptoBulkAll r
def uptoBulkEntries {H : Type} : List (Lit × DataW H) → Nat
  | [] => 0
  | x :: r => uptoBulkEntry x + uptoBulkEntries r
def uptoBulkEntry {H : Type} : Lit × DataW H → Nat
  | (.string bytes, d) => bytes.length + uptoBulk d + 1
  | (_, d) => uptoBulk d + 1
 end
def uptoSmall : (H : Type) → List (DataW H) → Bool := fun _ ds => decide (uptoBulkAll ds ≤ 1048576)
def OpenSpec.upto (s : _root_.Go.ChangeSpec) : _root_.Go.OpenSpec := { _root_.Go.OpenSpec.ofChange s with cond := some uptoSmall }

/-- 'patchquiltlaw.FileSays', WHERE WHAT IT READS IS OF BULK AT MOST 1048576: true; the input reads as it did. -/
def fileSaysUptoRow : OpenClaim := { program := "ytggpodlecljcbaa", sum := "13cc13b47f83e1d09d9299f4982382d905ae62f5a80fba5740126e60c42f6103", func := "patchquilt/patchquiltlaw.FileSays", spec := "fileSays", unfollowed := true, recurses := true, apart := false, narrowed := true }
def FileSaysUptoSaid : Prop := fileSaysUptoRow.holds Try.pinned (OpenSpec.upto fileSaysSpec)

/-- 'patchquiltlaw.VoteSays', WHERE WHAT IT READS IS OF BULK AT MOST 1048576: true; the input reads as it did. -/
def voteSaysUptoRow : OpenClaim := { program := "ytggpodlecljcbaa", sum := "13cc13b47f83e1d09d9299f4982382d905ae62f5a80fba5740126e60c42f6103", func := "patchquilt/patchquiltlaw.VoteSays", spec := "voteSays", unfollowed := true, recurses := true, apart := false, narrowed := true }
def VoteSaysUptoSaid : Prop := voteSaysUptoRow.holds Try.pinned (OpenSpec.upto voteSaysSpec)

/-- 'patchquiltlaw.DiskSays', WHERE WHAT IT READS IS OF BULK AT MOST 1048576: true; the input reads as it did. -/
def diskSaysUptoRow : OpenClaim := { program := "ytggpodlecljcbaa", sum := "13cc13b47f83e1d09d9299f4982382d905ae62f5a80fba5740126e60c42f6103", func := "patchquilt/patchquiltlaw.DiskSays", spec := "diskSays", apart := false, narrowed := true }
def DiskSaysUptoSaid : Prop := diskSaysUptoRow.holds Try.pinned (OpenSpec.upto diskSaysSpec)

/-- 'patchquiltlaw.RowSays', WHERE WHAT IT READS IS OF BULK AT MOST 1048576: true; the input reads as it did. -/
def rowSaysUptoRow : OpenClaim := { program := "ytggpodlecljcbaa", sum := "13cc13b47f83e1d09d9299f4982382d905ae62f5a80fba5740126e60c42f6103", func := "patchquilt/patchquiltlaw.RowSays", spec := "rowSays", inPlace := ["internal/bytealg.abigen_runtime_cmpstring", "slices.overlaps[patchquilt/api.Change]"], unfollowed := true, recurses := true, apart := false, narrowed := true }
def RowSaysUptoSaid : Prop := rowSaysUptoRow.holds Try.pinned (OpenSpec.upto rowSaysSpec)

/-- 'patchquiltlaw.LogSays', WHERE WHAT IT READS IS OF BULK AT MOST 1048576: true; the input reads as it did. -/
def logSaysUptoRow : OpenClaim := { program := "ytggpodlecljcbaa", sum := "13cc13b47f83e1d09d9299f4982382d905ae62f5a80fba5740126e60c42f6103", func := "patchquilt/patchquiltlaw.LogSays", spec := "logSays", unfollowed := true, recurses := true, apart := false, narrowed := true }
def LogSaysUptoSaid : Prop := logSaysUptoRow.holds Try.pinned (OpenSpec.upto logSaysSpec)

/-- 'patchquiltlaw.ShelfSays', WHERE WHAT IT READS IS OF BULK AT MOST 1048576: true; the input reads as it did. -/
def shelfSaysUptoRow : OpenClaim := { program := "ytggpodlecljcbaa", sum := "13cc13b47f83e1d09d9299f4982382d905ae62f5a80fba5740126e60c42f6103", func := "patchquilt/patchquiltlaw.ShelfSays", spec := "shelfSays", inPlace := ["internal/bytealg.abigen_runtime_cmpstring", "slices.overlaps[patchquilt/api.File]"], unfollowed := true, recurses := true, apart := false, narrowed := true }
def ShelfSaysUptoSaid : Prop := shelfSaysUptoRow.holds Try.pinned (OpenSpec.upto shelfSaysSpec)

/-- 'patchquiltlaw.QuiltSays', WHERE WHAT IT READS IS OF BULK AT MOST 1048576: true; the input reads as it did. -/
def quiltSaysUptoRow : OpenClaim := { program := "ytggpodlecljcbaa", sum := "13cc13b47f83e1d09d9299f4982382d905ae62f5a80fba5740126e60c42f6103", func := "patchquilt/patchquiltlaw.QuiltSays", spec := "quiltSays", inPlace := ["internal/bytealg.abigen_runtime_cmpstring", "slices.overlaps[patchquilt/api.File]"], unfollowed := true, recurses := true, apart := false, narrowed := true }
def QuiltSaysUptoSaid : Prop := quiltSaysUptoRow.holds Try.pinned (OpenSpec.upto quiltSaysSpec)

/-- 'patchquiltlaw.StoreSays', WHERE WHAT IT READS IS OF BULK AT MOST 1048576: true; the input reads as it did. -/
def storeSaysUptoRow : OpenClaim := { program := "ytggpodlecljcbaa", sum := "13cc13b47f83e1d09d9299f4982382d905ae62f5a80fba5740126e60c42f6103", func := "patchquilt/patchquiltlaw.StoreSays", spec := "storeSays", inPlace := ["internal/bytealg.abigen_runtime_cmpstring", "slices.overlaps[patchquilt/api.Change]", "internal/abi.NoEscape"], unfollowed := true, recurses := true, apart := false, narrowed := true }
def StoreSaysUptoSaid : Prop := storeSaysUptoRow.holds Try.pinned (OpenSpec.upto storeSaysSpec)

/-- 'patchquiltlaw.DiffSays', WHERE WHAT IT READS IS OF BULK AT MOST 1048576: true; the input reads as it did. -/
def diffSaysUptoRow : OpenClaim := { program := "ytggpodlecljcbaa", sum := "13cc13b47f83e1d09d9299f4982382d905ae62f5a80fba5740126e60c42f6103", func := "patchquilt/patchquiltlaw.DiffSays", spec := "diffSays", inPlace := ["internal/bytealg.abigen_runtime_cmpstring", "slices.overlaps[patchquilt/api.File]"], unfollowed := true, recurses := true, apart := false, narrowed := true }
def DiffSaysUptoSaid : Prop := diffSaysUptoRow.holds Try.pinned (OpenSpec.upto diffSaysSpec)

/-- 'patchquilttop.TopTwo', WHERE WHAT IT READS IS OF BULK AT MOST 1048576: true; the input reads as it did. -/
def topTwoUptoRow : OpenClaim := { program := "ytggpodlecljcbaa", sum := "13cc13b47f83e1d09d9299f4982382d905ae62f5a80fba5740126e60c42f6103", func := "patchquilt/patchquilttop.TopTwo", spec := "topTwo", unfollowed := true, recurses := true, apart := false, narrowed := true }
def TopTwoUptoSaid : Prop := topTwoUptoRow.holds Try.pinned (OpenSpec.upto topTwoSpec)

end Rows
end Go.Proofs.Ytggpodlecljcbaa
