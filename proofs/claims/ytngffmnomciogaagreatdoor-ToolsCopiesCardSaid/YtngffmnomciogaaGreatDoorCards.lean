/-
  DERIVED. GIVEN WITH THE SEED: THE CARDS: each row of YtngffmnomciogaaGreatDoorRows.lean that lists a variable, with what it lists TIED to the program's text (the seventh form; the later family's looks); each row that meets fmt, with fmt's text TOLD by the authors' own Lean function (tested against real Go, not proved from fmt's source: count such statements apart). THE CARD IS WHAT COUNTS. Prove the row's statement (the work); the ties are given (YtngffmnomciogaaGreatDoorTie.lean); close each card by the builder's one call (the guide's Derived/Test/ToyasCard.lean, 'card_holds'). Laid BY PROGRAM, IN A SANDBOX (cutbox-door.mjs). By AI agents, Wed Nov 11 2026. No macro, syntax, notation, axiom, sorry.
-/
import Derived.Test.YtngffmnomciogaaGreatDoorRows
import GoSem.ClaimSeven
namespace Go.Proofs.YtngffmnomciogaaGreatDoor
namespace Rows

/-- THE TIED CARD OF 'scullionlaw15.GlobEscaped'. -/
def globEscapedCard : Claim7 := { stood := { row := globEscapedRow, standIns := [], harness := (true, "de50ce5230457a82b712422b5d69d71811083e1d2c727a01852ef76047c338be"), looks := true }, kinds := [], alts := [], laidByText := true, laidKinds := [.data, .data, .data, .data, .pinned], laidTests := true, laidLooks := .later }
def GlobEscapedCardSaid : Prop := Claim7.holds Tryz.pinned (.plain (OpenSpec.ofChange globEscapedSpec)) globEscapedCard

/-- THE TIED CARD OF 'scullionlaw18.ToolsCopies'. -/
def toolsCopiesCard : Claim7 := { stood := { row := toolsCopiesRow, standIns := [], harness := (true, "de50ce5230457a82b712422b5d69d71811083e1d2c727a01852ef76047c338be"), looks := true }, kinds := [], alts := [], laidByText := true, laidKinds := [.data, .data, .data, .data, .sentinel, .sentinel, .pinned], laidTests := true, laidLooks := .later }
def ToolsCopiesCardSaid : Prop := Claim7.holds Tryz.pinned (.plain (OpenSpec.ofChange toolsCopiesSpec)) toolsCopiesCard

/-- THE TIED CARD OF 'scullionlaw18.ToolsLists'. -/
def toolsListsCard : Claim7 := { stood := { row := toolsListsRow, standIns := [], harness := (true, "de50ce5230457a82b712422b5d69d71811083e1d2c727a01852ef76047c338be"), looks := true }, kinds := [], alts := [], laidByText := true, laidKinds := [.data, .data, .data, .data, .sentinel, .sentinel, .pinned], laidTests := true, laidLooks := .later }
def ToolsListsCardSaid : Prop := Claim7.holds Tryz.pinned (.plain (OpenSpec.ofChange toolsListsSpec)) toolsListsCard

/-- THE TIED CARD OF 'scullionlaw18.ToolsMoves'. -/
def toolsMovesCard : Claim7 := { stood := { row := toolsMovesRow, standIns := [], harness := (true, "de50ce5230457a82b712422b5d69d71811083e1d2c727a01852ef76047c338be"), looks := true }, kinds := [], alts := [], laidByText := true, laidKinds := [.data, .data, .data, .data, .sentinel, .sentinel, .pinned], laidTests := true, laidLooks := .later }
def ToolsMovesCardSaid : Prop := Claim7.holds Tryz.pinned (.plain (OpenSpec.ofChange toolsMovesSpec)) toolsMovesCard

/-- THE TIED CARD OF 'scullionlaw18.ToolsGoes'. -/
def toolsGoesCard : Claim7 := { stood := { row := toolsGoesRow, standIns := [], harness := (true, "de50ce5230457a82b712422b5d69d71811083e1d2c727a01852ef76047c338be"), looks := true }, kinds := [], alts := [], laidByText := true, laidKinds := [.data, .data, .data, .data, .sentinel, .sentinel, .pinned], laidTests := true, laidLooks := .later }
def ToolsGoesCardSaid : Prop := Claim7.holds Tryz.pinned (.plain (OpenSpec.ofChange toolsGoesSpec)) toolsGoesCard

/-- THE SECOND FORM's CARD OF 'scullionlaw15.GlobEscaped'. -/
def globEscapedUptoCard : Claim7 := { stood := { row := globEscapedUptoRow, standIns := [], harness := (true, "de50ce5230457a82b712422b5d69d71811083e1d2c727a01852ef76047c338be"), looks := true }, kinds := [], alts := [], laidByText := true, laidKinds := [.data, .data, .data, .data, .pinned], laidTests := true, laidLooks := .later }
def GlobEscapedUptoCardSaid : Prop := Claim7.holds Tryz.pinned (.plain (OpenSpec.upto globEscapedSpec)) globEscapedUptoCard

/-- THE SECOND FORM's CARD OF 'scullionlaw18.ToolsCopies'. -/
def toolsCopiesUptoCard : Claim7 := { stood := { row := toolsCopiesUptoRow, standIns := [], harness := (true, "de50ce5230457a82b712422b5d69d71811083e1d2c727a01852ef76047c338be"), looks := true }, kinds := [], alts := [], laidByText := true, laidKinds := [.data, .data, .data, .data, .sentinel, .sentinel, .pinned], laidTests := true, laidLooks := .later }
def ToolsCopiesUptoCardSaid : Prop := Claim7.holds Tryz.pinned (.plain (OpenSpec.upto toolsCopiesSpec)) toolsCopiesUptoCard

/-- THE SECOND FORM's CARD OF 'scullionlaw18.ToolsLists'. -/
def toolsListsUptoCard : Claim7 := { stood := { row := toolsListsUptoRow, standIns := [], harness := (true, "de50ce5230457a82b712422b5d69d71811083e1d2c727a01852ef76047c338be"), looks := true }, kinds := [], alts := [], laidByText := true, laidKinds := [.data, .data, .data, .data, .sentinel, .sentinel, .pinned], laidTests := true, laidLooks := .later }
def ToolsListsUptoCardSaid : Prop := Claim7.holds Tryz.pinned (.plain (OpenSpec.upto toolsListsSpec)) toolsListsUptoCard

/-- THE SECOND FORM's CARD OF 'scullionlaw18.ToolsMoves'. -/
def toolsMovesUptoCard : Claim7 := { stood := { row := toolsMovesUptoRow, standIns := [], harness := (true, "de50ce5230457a82b712422b5d69d71811083e1d2c727a01852ef76047c338be"), looks := true }, kinds := [], alts := [], laidByText := true, laidKinds := [.data, .data, .data, .data, .sentinel, .sentinel, .pinned], laidTests := true, laidLooks := .later }
def ToolsMovesUptoCardSaid : Prop := Claim7.holds Tryz.pinned (.plain (OpenSpec.upto toolsMovesSpec)) toolsMovesUptoCard

/-- THE SECOND FORM's CARD OF 'scullionlaw18.ToolsGoes'. -/
def toolsGoesUptoCard : Claim7 := { stood := { row := toolsGoesUptoRow, standIns := [], harness := (true, "de50ce5230457a82b712422b5d69d71811083e1d2c727a01852ef76047c338be"), looks := true }, kinds := [], alts := [], laidByText := true, laidKinds := [.data, .data, .data, .data, .sentinel, .sentinel, .pinned], laidTests := true, laidLooks := .later }
def ToolsGoesUptoCardSaid : Prop := Claim7.holds Tryz.pinned (.plain (OpenSpec.upto toolsGoesSpec)) toolsGoesUptoCard
end Rows
end Go.Proofs.YtngffmnomciogaaGreatDoor
