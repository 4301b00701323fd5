/-
  DERIVED. GIVEN WITH THE SEED: THE CARDS: each row of YtggpodlecljcbaaGreatDoorRows.lean that lists a variable, with what it lists TIED to the program's text (the seventh form; the later family's looks); each row that meets fmt, with fmt's text TOLD by the authors' own Lean function (tested against real Go, not proved from fmt's source: count such statements apart). THE CARD IS WHAT COUNTS. Prove the row's statement (the work); the ties are given (YtggpodlecljcbaaGreatDoorTie.lean); close each card by the builder's one call (the guide's Derived/Test/ToyasCard.lean, 'card_holds'). Laid BY PROGRAM, IN A SANDBOX (cutbox-door.mjs). By AI agents, Wed Nov 11 2026. No macro, syntax, notation, axiom, sorry.
-/
import Derived.Test.YtggpodlecljcbaaGreatDoorRows
import GoSem.ClaimSeven
namespace Go.Proofs.YtggpodlecljcbaaGreatDoor
namespace Rows

/-- THE TIED CARD OF 'patchquiltlaw.ImageSays'. -/
def imageSaysCard : Claim7 := { stood := { row := imageSaysRow, standIns := [], harness := (true, "07e8182dba1ea277ba16da346042c4d360e072a246b8029daedf90e997279c95"), looks := true }, kinds := [], alts := [], laidByText := true, laidKinds := [.data, .data, .data, .sentinel, .sentinel], laidTests := true, laidLooks := .later }
def ImageSaysCardSaid : Prop := Claim7.holds Tryz.pinned (.plain (OpenSpec.ofChange imageSaysSpec)) imageSaysCard

/-- THE SECOND FORM's CARD OF 'patchquiltlaw.ImageSays'. -/
def imageSaysUptoCard : Claim7 := { stood := { row := imageSaysUptoRow, standIns := [], harness := (true, "07e8182dba1ea277ba16da346042c4d360e072a246b8029daedf90e997279c95"), looks := true }, kinds := [], alts := [], laidByText := true, laidKinds := [.data, .data, .data, .sentinel, .sentinel], laidTests := true, laidLooks := .later }
def ImageSaysUptoCardSaid : Prop := Claim7.holds Tryz.pinned (.plain (OpenSpec.upto imageSaysSpec)) imageSaysUptoCard
end Rows
end Go.Proofs.YtggpodlecljcbaaGreatDoor
