/-
  DERIVED. GIVEN WITH THE SEED: THE CARDS: each row of YtggpodlecljcbacGreatDoorRows.lean that lists a variable, with what it lists TIED to the program's text (the seventh form; the later family's looks); each row that meets fmt, with fmt's text TOLD by the authors' own Lean function (tested against real Go, not proved from fmt's source: count such statements apart). THE CARD IS WHAT COUNTS. Prove the row's statement (the work); the ties are given (YtggpodlecljcbacGreatDoorTie.lean); close each card by the builder's one call (the guide's Derived/Test/ToyasCard.lean, 'card_holds'). Laid BY PROGRAM, IN A SANDBOX (cutbox-door.mjs). By AI agents, Wed Nov 11 2026. No macro, syntax, notation, axiom, sorry.
-/
import Derived.Test.YtggpodlecljcbacGreatDoorRows
import GoSem.ClaimSeven
namespace Go.Proofs.YtggpodlecljcbacGreatDoor
namespace Rows

/-- THE TIED CARD OF 'patchquilttop.TopThree'. -/
def topThreeCard : Claim7 := { stood := { row := topThreeRow, standIns := [], harness := (true, "accbf56719855eaf86c676bec2b430458a6dd4a0bb5d2daba5a9e88b79679d1a"), looks := true }, kinds := [], alts := [], laidByText := true, laidKinds := [.data, .data, .data, .sentinel, .sentinel], laidTests := true, laidLooks := .later }
def TopThreeCardSaid : Prop := Claim7.holds Tryz.pinned (.plain (OpenSpec.ofChange topThreeSpec)) topThreeCard

/-- THE TIED CARD OF 'patchquilttop.TopWhole'. -/
def topWholeCard : Claim7 := { stood := { row := topWholeRow, standIns := [], harness := (true, "accbf56719855eaf86c676bec2b430458a6dd4a0bb5d2daba5a9e88b79679d1a"), looks := true }, kinds := [], alts := [], laidByText := true, laidKinds := [.data, .data, .data, .sentinel, .sentinel], laidTests := true, laidLooks := .later }
def TopWholeCardSaid : Prop := Claim7.holds Tryz.pinned (.plain (OpenSpec.ofChange topWholeSpec)) topWholeCard

/-- THE TIED CARD OF 'patchquilttop.TopOne'. -/
def topOneCard : Claim7 := { stood := { row := topOneRow, standIns := [], harness := (true, "accbf56719855eaf86c676bec2b430458a6dd4a0bb5d2daba5a9e88b79679d1a"), looks := true }, kinds := [], alts := [], laidByText := true, laidKinds := [.data, .data, .data, .sentinel, .sentinel], laidTests := true, laidLooks := .later }
def TopOneCardSaid : Prop := Claim7.holds Tryz.pinned (.plain (OpenSpec.ofChange topOneSpec)) topOneCard

/-- THE TIED CARD OF 'patchquilttop.TopEach'. -/
def topEachCard : Claim7 := { stood := { row := topEachRow, standIns := [], harness := (true, "accbf56719855eaf86c676bec2b430458a6dd4a0bb5d2daba5a9e88b79679d1a"), looks := true }, kinds := [], alts := [], laidByText := true, laidKinds := [.data, .data, .data, .sentinel, .sentinel], laidTests := true, laidLooks := .later }
def TopEachCardSaid : Prop := Claim7.holds Tryz.pinned (.plain (OpenSpec.ofChange topEachSpec)) topEachCard

/-- THE TIED CARD OF 'patchquilttop.TopCopies'. -/
def topCopiesCard : Claim7 := { stood := { row := topCopiesRow, standIns := [], harness := (true, "accbf56719855eaf86c676bec2b430458a6dd4a0bb5d2daba5a9e88b79679d1a"), looks := true }, kinds := [], alts := [], laidByText := true, laidKinds := [.data, .data, .data, .sentinel, .sentinel], laidTests := true, laidLooks := .later }
def TopCopiesCardSaid : Prop := Claim7.holds Tryz.pinned (.plain (OpenSpec.ofChange topCopiesSpec)) topCopiesCard

/-- THE TIED CARD OF 'patchquilttop.TopOrder'. -/
def topOrderCard : Claim7 := { stood := { row := topOrderRow, standIns := [], harness := (true, "accbf56719855eaf86c676bec2b430458a6dd4a0bb5d2daba5a9e88b79679d1a"), looks := true }, kinds := [], alts := [], laidByText := true, laidKinds := [.data, .data, .data, .sentinel, .sentinel], laidTests := true, laidLooks := .later }
def TopOrderCardSaid : Prop := Claim7.holds Tryz.pinned (.plain (OpenSpec.ofChange topOrderSpec)) topOrderCard

/-- THE SECOND FORM's CARD OF 'patchquilttop.TopThree'. -/
def topThreeUptoCard : Claim7 := { stood := { row := topThreeUptoRow, standIns := [], harness := (true, "accbf56719855eaf86c676bec2b430458a6dd4a0bb5d2daba5a9e88b79679d1a"), looks := true }, kinds := [], alts := [], laidByText := true, laidKinds := [.data, .data, .data, .sentinel, .sentinel], laidTests := true, laidLooks := .later }
def TopThreeUptoCardSaid : Prop := Claim7.holds Tryz.pinned (.plain (OpenSpec.upto topThreeSpec)) topThreeUptoCard

/-- THE SECOND FORM's CARD OF 'patchquilttop.TopWhole'. -/
def topWholeUptoCard : Claim7 := { stood := { row := topWholeUptoRow, standIns := [], harness := (true, "accbf56719855eaf86c676bec2b430458a6dd4a0bb5d2daba5a9e88b79679d1a"), looks := true }, kinds := [], alts := [], laidByText := true, laidKinds := [.data, .data, .data, .sentinel, .sentinel], laidTests := true, laidLooks := .later }
def TopWholeUptoCardSaid : Prop := Claim7.holds Tryz.pinned (.plain (OpenSpec.upto topWholeSpec)) topWholeUptoCard

/-- THE SECOND FORM's CARD OF 'patchquilttop.TopOne'. -/
def topOneUptoCard : Claim7 := { stood := { row := topOneUptoRow, standIns := [], harness := (true, "accbf56719855eaf86c676bec2b430458a6dd4a0bb5d2daba5a9e88b79679d1a"), looks := true }, kinds := [], alts := [], laidByText := true, laidKinds := [.data, .data, .data, .sentinel, .sentinel], laidTests := true, laidLooks := .later }
def TopOneUptoCardSaid : Prop := Claim7.holds Tryz.pinned (.plain (OpenSpec.upto topOneSpec)) topOneUptoCard

/-- THE SECOND FORM's CARD OF 'patchquilttop.TopEach'. -/
def topEachUptoCard : Claim7 := { stood := { row := topEachUptoRow, standIns := [], harness := (true, "accbf56719855eaf86c676bec2b430458a6dd4a0bb5d2daba5a9e88b79679d1a"), looks := true }, kinds := [], alts := [], laidByText := true, laidKinds := [.data, .data, .data, .sentinel, .sentinel], laidTests := true, laidLooks := .later }
def TopEachUptoCardSaid : Prop := Claim7.holds Tryz.pinned (.plain (OpenSpec.upto topEachSpec)) topEachUptoCard

/-- THE SECOND FORM's CARD OF 'patchquilttop.TopCopies'. -/
def topCopiesUptoCard : Claim7 := { stood := { row := topCopiesUptoRow, standIns := [], harness := (true, "accbf56719855eaf86c676bec2b430458a6dd4a0bb5d2daba5a9e88b79679d1a"), looks := true }, kinds := [], alts := [], laidByText := true, laidKinds := [.data, .data, .data, .sentinel, .sentinel], laidTests := true, laidLooks := .later }
def TopCopiesUptoCardSaid : Prop := Claim7.holds Tryz.pinned (.plain (OpenSpec.upto topCopiesSpec)) topCopiesUptoCard

/-- THE SECOND FORM's CARD OF 'patchquilttop.TopOrder'. -/
def topOrderUptoCard : Claim7 := { stood := { row := topOrderUptoRow, standIns := [], harness := (true, "accbf56719855eaf86c676bec2b430458a6dd4a0bb5d2daba5a9e88b79679d1a"), looks := true }, kinds := [], alts := [], laidByText := true, laidKinds := [.data, .data, .data, .sentinel, .sentinel], laidTests := true, laidLooks := .later }
def TopOrderUptoCardSaid : Prop := Claim7.holds Tryz.pinned (.plain (OpenSpec.upto topOrderSpec)) topOrderUptoCard
end Rows
end Go.Proofs.YtggpodlecljcbacGreatDoor
