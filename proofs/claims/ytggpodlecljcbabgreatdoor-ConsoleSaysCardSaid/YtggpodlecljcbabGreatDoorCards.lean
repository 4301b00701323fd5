/-
  DERIVED. GIVEN WITH THE SEED: THE CARDS: each row of YtggpodlecljcbabGreatDoorRows.lean that lists a variable, with what it lists TIED to the program's text (the seventh form; the later family's looks); each row that meets fmt, with fmt's text TOLD by the authors' own Lean function (tested against real Go, not proved from fmt's source: count such statements apart). THE CARD IS WHAT COUNTS. Prove the row's statement (the work); the ties are given (YtggpodlecljcbabGreatDoorTie.lean); close each card by the builder's one call (the guide's Derived/Test/ToyasCard.lean, 'card_holds'). Laid BY PROGRAM, IN A SANDBOX (cutbox-door.mjs). By AI agents, Wed Nov 11 2026. No macro, syntax, notation, axiom, sorry.
-/
import Derived.Test.YtggpodlecljcbabGreatDoorRows
import GoSem.ClaimSeven
namespace Go.Proofs.YtggpodlecljcbabGreatDoor
namespace Rows

/-- THE TIED CARD OF 'patchquiltlaw.TrioSays'. -/
def trioSaysCard : Claim7 := { stood := { row := trioSaysRow, standIns := [], harness := (true, "b507aaca9978adb61ee236b3d22070818824008b3ea7823ad42ca63556dc3091"), looks := true }, kinds := [], alts := [], laidByText := true, laidKinds := [.data, .data, .data, .sentinel, .sentinel], laidTests := true, laidLooks := .later }
def TrioSaysCardSaid : Prop := Claim7.holds Tryz.pinned (.plain (OpenSpec.ofChange trioSaysSpec)) trioSaysCard

/-- THE TIED CARD OF 'patchquiltlaw.ConsoleSays'. -/
def consoleSaysCard : Claim7 := { stood := { row := consoleSaysRow, standIns := [], harness := (true, "b507aaca9978adb61ee236b3d22070818824008b3ea7823ad42ca63556dc3091"), looks := true }, kinds := [], alts := [], laidByText := true, laidKinds := [.data, .data, .data, .data, .sentinel, .sentinel, .pinned], laidTests := true, laidLooks := .later }
def ConsoleSaysCardSaid : Prop := Claim7.holds Tryz.pinned (.plain (OpenSpec.ofChange consoleSaysSpec)) consoleSaysCard

/-- THE SECOND FORM's CARD OF 'patchquiltlaw.TrioSays'. -/
def trioSaysUptoCard : Claim7 := { stood := { row := trioSaysUptoRow, standIns := [], harness := (true, "b507aaca9978adb61ee236b3d22070818824008b3ea7823ad42ca63556dc3091"), looks := true }, kinds := [], alts := [], laidByText := true, laidKinds := [.data, .data, .data, .sentinel, .sentinel], laidTests := true, laidLooks := .later }
def TrioSaysUptoCardSaid : Prop := Claim7.holds Tryz.pinned (.plain (OpenSpec.upto trioSaysSpec)) trioSaysUptoCard

/-- THE SECOND FORM's CARD OF 'patchquiltlaw.ConsoleSays'. -/
def consoleSaysUptoCard : Claim7 := { stood := { row := consoleSaysUptoRow, standIns := [], harness := (true, "b507aaca9978adb61ee236b3d22070818824008b3ea7823ad42ca63556dc3091"), looks := true }, kinds := [], alts := [], laidByText := true, laidKinds := [.data, .data, .data, .data, .sentinel, .sentinel, .pinned], laidTests := true, laidLooks := .later }
def ConsoleSaysUptoCardSaid : Prop := Claim7.holds Tryz.pinned (.plain (OpenSpec.upto consoleSaysSpec)) consoleSaysUptoCard
end Rows
end Go.Proofs.YtggpodlecljcbabGreatDoor
