/-
  DERIVED. GIVEN WITH THE SEED: THE CARDS: each row of YtggpodlecljcbadGreatDoorRows.lean that lists a variable, with what it lists TIED to the program's text (the seventh form; the later family's looks); each row that meets fmt, with fmt's text TOLD by the authors' own Lean function (tested against real Go, not proved from fmt's source: count such statements apart). THE CARD IS WHAT COUNTS. Prove the row's statement (the work); the ties are given (YtggpodlecljcbadGreatDoorTie.lean); close each card by the builder's one call (the guide's Derived/Test/ToyasCard.lean, 'card_holds'). Laid BY PROGRAM, IN A SANDBOX (cutbox-door.mjs). By AI agents, Wed Nov 11 2026. No macro, syntax, notation, axiom, sorry.
-/
import Derived.Test.YtggpodlecljcbadGreatDoorRows
import GoSem.ClaimSeven
namespace Go.Proofs.YtggpodlecljcbadGreatDoor
namespace Rows

/-- THE TIED CARD OF 'patchquilttop.TopFall'. -/
def topFallCard : Claim7 := { stood := { row := topFallRow, standIns := [], harness := (true, "aa973434860e69e566a690ccfde0bd429df87c5d83de3d3b79fb552591edfaa2"), looks := true }, kinds := [], alts := [], laidByText := true, laidKinds := [.data, .data, .data, .sentinel, .sentinel], laidTests := true, laidLooks := .later }
def TopFallCardSaid : Prop := Claim7.holds Tryz.pinned (.plain (OpenSpec.ofChange topFallSpec)) topFallCard

/-- THE TIED CARD OF 'patchquilttop.TopFalls'. -/
def topFallsCard : Claim7 := { stood := { row := topFallsRow, standIns := [], harness := (true, "aa973434860e69e566a690ccfde0bd429df87c5d83de3d3b79fb552591edfaa2"), looks := true }, kinds := [], alts := [], laidByText := true, laidKinds := [.data, .data, .data, .sentinel, .sentinel], laidTests := true, laidLooks := .later }
def TopFallsCardSaid : Prop := Claim7.holds Tryz.pinned (.plain (OpenSpec.ofChange topFallsSpec)) topFallsCard

/-- THE TIED CARD OF 'patchquilttop.TopMend'. -/
def topMendCard : Claim7 := { stood := { row := topMendRow, standIns := [], harness := (true, "aa973434860e69e566a690ccfde0bd429df87c5d83de3d3b79fb552591edfaa2"), looks := true }, kinds := [], alts := [], laidByText := true, laidKinds := [.data, .data, .data, .sentinel, .sentinel], laidTests := true, laidLooks := .later }
def TopMendCardSaid : Prop := Claim7.holds Tryz.pinned (.plain (OpenSpec.ofChange topMendSpec)) topMendCard

/-- THE TIED CARD OF 'patchquilttop.TopScrub'. -/
def topScrubCard : Claim7 := { stood := { row := topScrubRow, standIns := [], harness := (true, "aa973434860e69e566a690ccfde0bd429df87c5d83de3d3b79fb552591edfaa2"), looks := true }, kinds := [], alts := [], laidByText := true, laidKinds := [.data, .data, .data, .sentinel, .sentinel], laidTests := true, laidLooks := .later }
def TopScrubCardSaid : Prop := Claim7.holds Tryz.pinned (.plain (OpenSpec.ofChange topScrubSpec)) topScrubCard

/-- THE SECOND FORM's CARD OF 'patchquilttop.TopFall'. -/
def topFallUptoCard : Claim7 := { stood := { row := topFallUptoRow, standIns := [], harness := (true, "aa973434860e69e566a690ccfde0bd429df87c5d83de3d3b79fb552591edfaa2"), looks := true }, kinds := [], alts := [], laidByText := true, laidKinds := [.data, .data, .data, .sentinel, .sentinel], laidTests := true, laidLooks := .later }
def TopFallUptoCardSaid : Prop := Claim7.holds Tryz.pinned (.plain (OpenSpec.upto topFallSpec)) topFallUptoCard

/-- THE SECOND FORM's CARD OF 'patchquilttop.TopFalls'. -/
def topFallsUptoCard : Claim7 := { stood := { row := topFallsUptoRow, standIns := [], harness := (true, "aa973434860e69e566a690ccfde0bd429df87c5d83de3d3b79fb552591edfaa2"), looks := true }, kinds := [], alts := [], laidByText := true, laidKinds := [.data, .data, .data, .sentinel, .sentinel], laidTests := true, laidLooks := .later }
def TopFallsUptoCardSaid : Prop := Claim7.holds Tryz.pinned (.plain (OpenSpec.upto topFallsSpec)) topFallsUptoCard

/-- THE SECOND FORM's CARD OF 'patchquilttop.TopMend'. -/
def topMendUptoCard : Claim7 := { stood := { row := topMendUptoRow, standIns := [], harness := (true, "aa973434860e69e566a690ccfde0bd429df87c5d83de3d3b79fb552591edfaa2"), looks := true }, kinds := [], alts := [], laidByText := true, laidKinds := [.data, .data, .data, .sentinel, .sentinel], laidTests := true, laidLooks := .later }
def TopMendUptoCardSaid : Prop := Claim7.holds Tryz.pinned (.plain (OpenSpec.upto topMendSpec)) topMendUptoCard

/-- THE SECOND FORM's CARD OF 'patchquilttop.TopScrub'. -/
def topScrubUptoCard : Claim7 := { stood := { row := topScrubUptoRow, standIns := [], harness := (true, "aa973434860e69e566a690ccfde0bd429df87c5d83de3d3b79fb552591edfaa2"), looks := true }, kinds := [], alts := [], laidByText := true, laidKinds := [.data, .data, .data, .sentinel, .sentinel], laidTests := true, laidLooks := .later }
def TopScrubUptoCardSaid : Prop := Claim7.holds Tryz.pinned (.plain (OpenSpec.upto topScrubSpec)) topScrubUptoCard
end Rows
end Go.Proofs.YtggpodlecljcbadGreatDoor
