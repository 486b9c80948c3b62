/-
  DERIVED. GIVEN WITH THE SEED: THE CARDS: each row of YtfbnaalhioogoaaGreatDoorRows.lean that lists a variable, with what it lists TIED to the program's text (the seventh form; the later family's looks); each row that meets fmt, with fmt's text TOLD by the authors' own Lean function (tested against real Go, not proved from fmt's source: count such statements apart). THE CARD IS WHAT COUNTS. Prove the row's statement (the work); the ties are given (YtfbnaalhioogoaaGreatDoorTie.lean); close each card by the builder's one call (the guide's Derived/Test/ToyasCard.lean, 'card_holds'). Laid BY PROGRAM, IN A SANDBOX (cutbox-door.mjs). By AI agents, Wed Nov 11 2026. No macro, syntax, notation, axiom, sorry.
-/
import Derived.Test.YtfbnaalhioogoaaGreatDoorRows
import GoSem.ClaimSeven
namespace Go.Proofs.YtfbnaalhioogoaaGreatDoor
namespace Rows

/-- THE TIED CARD OF 'scullionlaw18.ToolsLists'. -/
def toolsListsCard : Claim7 := { stood := { row := toolsListsRow, standIns := [], harness := (true, "7e2853d43184332bc5fda0b30fec4719242164b8efef947f0870adc7ce10bc59"), looks := true }, kinds := [], alts := [], laidByText := true, laidKinds := [.data, .data, .data, .data, .sentinel, .sentinel, .pinned], laidTests := true, laidLooks := .later }
def ToolsListsCardSaid : Prop := Claim7.holds Tryz.pinned (.plain (OpenSpec.ofChange toolsListsSpec)) toolsListsCard

/-- THE TIED CARD OF 'scullionlaw18.ToolsMoves'. -/
def toolsMovesCard : Claim7 := { stood := { row := toolsMovesRow, standIns := [], harness := (true, "7e2853d43184332bc5fda0b30fec4719242164b8efef947f0870adc7ce10bc59"), looks := true }, kinds := [], alts := [], laidByText := true, laidKinds := [.data, .data, .data, .data, .sentinel, .sentinel, .pinned], laidTests := true, laidLooks := .later }
def ToolsMovesCardSaid : Prop := Claim7.holds Tryz.pinned (.plain (OpenSpec.ofChange toolsMovesSpec)) toolsMovesCard

/-- THE TIED CARD OF 'scullionlaw18.ToolsGoes'. -/
def toolsGoesCard : Claim7 := { stood := { row := toolsGoesRow, standIns := [], harness := (true, "7e2853d43184332bc5fda0b30fec4719242164b8efef947f0870adc7ce10bc59"), looks := true }, kinds := [], alts := [], laidByText := true, laidKinds := [.data, .data, .data, .data, .sentinel, .sentinel, .pinned], laidTests := true, laidLooks := .later }
def ToolsGoesCardSaid : Prop := Claim7.holds Tryz.pinned (.plain (OpenSpec.ofChange toolsGoesSpec)) toolsGoesCard

/-- THE TIED CARD OF 'scullionlaw18.ToolsFilters'. -/
def toolsFiltersCard : Claim7 := { stood := { row := toolsFiltersRow, standIns := [], harness := (true, "7e2853d43184332bc5fda0b30fec4719242164b8efef947f0870adc7ce10bc59"), looks := true }, kinds := [], alts := [], laidByText := true, laidKinds := [.data, .data, .data, .data, .sentinel, .sentinel, .pinned], laidTests := true, laidLooks := .later }
def ToolsFiltersCardSaid : Prop := Claim7.holds Tryz.pinned (.plain (OpenSpec.ofChange toolsFiltersSpec)) toolsFiltersCard

/-- THE TIED CARD OF 'scullionlaw18.ToolsHangs'. -/
def toolsHangsCard : Claim7 := { stood := { row := toolsHangsRow, standIns := [], harness := (true, "7e2853d43184332bc5fda0b30fec4719242164b8efef947f0870adc7ce10bc59"), looks := true }, kinds := [], alts := [], laidByText := true, laidKinds := [.data, .data, .data, .data, .sentinel, .sentinel, .pinned], laidTests := true, laidLooks := .later }
def ToolsHangsCardSaid : Prop := Claim7.holds Tryz.pinned (.plain (OpenSpec.ofChange toolsHangsSpec)) toolsHangsCard

/-- THE TIED CARD OF 'scullionlaw19.MemoAgain'. -/
def memoAgainCard : Claim7 := { stood := { row := memoAgainRow, standIns := [], harness := (true, "7e2853d43184332bc5fda0b30fec4719242164b8efef947f0870adc7ce10bc59"), looks := true }, kinds := [], alts := [], laidByText := true, laidKinds := [.data, .data, .data, .data, .sentinel, .sentinel, .pinned], laidTests := true, laidLooks := .later }
def MemoAgainCardSaid : Prop := Claim7.holds Tryz.pinned (.plain (OpenSpec.ofChange memoAgainSpec)) memoAgainCard

/-- THE SECOND FORM's CARD OF 'scullionlaw18.ToolsLists'. -/
def toolsListsUptoCard : Claim7 := { stood := { row := toolsListsUptoRow, standIns := [], harness := (true, "7e2853d43184332bc5fda0b30fec4719242164b8efef947f0870adc7ce10bc59"), looks := true }, kinds := [], alts := [], laidByText := true, laidKinds := [.data, .data, .data, .data, .sentinel, .sentinel, .pinned], laidTests := true, laidLooks := .later }
def ToolsListsUptoCardSaid : Prop := Claim7.holds Tryz.pinned (.plain (OpenSpec.upto toolsListsSpec)) toolsListsUptoCard

/-- THE SECOND FORM's CARD OF 'scullionlaw18.ToolsMoves'. -/
def toolsMovesUptoCard : Claim7 := { stood := { row := toolsMovesUptoRow, standIns := [], harness := (true, "7e2853d43184332bc5fda0b30fec4719242164b8efef947f0870adc7ce10bc59"), looks := true }, kinds := [], alts := [], laidByText := true, laidKinds := [.data, .data, .data, .data, .sentinel, .sentinel, .pinned], laidTests := true, laidLooks := .later }
def ToolsMovesUptoCardSaid : Prop := Claim7.holds Tryz.pinned (.plain (OpenSpec.upto toolsMovesSpec)) toolsMovesUptoCard

/-- THE SECOND FORM's CARD OF 'scullionlaw18.ToolsGoes'. -/
def toolsGoesUptoCard : Claim7 := { stood := { row := toolsGoesUptoRow, standIns := [], harness := (true, "7e2853d43184332bc5fda0b30fec4719242164b8efef947f0870adc7ce10bc59"), looks := true }, kinds := [], alts := [], laidByText := true, laidKinds := [.data, .data, .data, .data, .sentinel, .sentinel, .pinned], laidTests := true, laidLooks := .later }
def ToolsGoesUptoCardSaid : Prop := Claim7.holds Tryz.pinned (.plain (OpenSpec.upto toolsGoesSpec)) toolsGoesUptoCard

/-- THE SECOND FORM's CARD OF 'scullionlaw18.ToolsFilters'. -/
def toolsFiltersUptoCard : Claim7 := { stood := { row := toolsFiltersUptoRow, standIns := [], harness := (true, "7e2853d43184332bc5fda0b30fec4719242164b8efef947f0870adc7ce10bc59"), looks := true }, kinds := [], alts := [], laidByText := true, laidKinds := [.data, .data, .data, .data, .sentinel, .sentinel, .pinned], laidTests := true, laidLooks := .later }
def ToolsFiltersUptoCardSaid : Prop := Claim7.holds Tryz.pinned (.plain (OpenSpec.upto toolsFiltersSpec)) toolsFiltersUptoCard

/-- THE SECOND FORM's CARD OF 'scullionlaw18.ToolsHangs'. -/
def toolsHangsUptoCard : Claim7 := { stood := { row := toolsHangsUptoRow, standIns := [], harness := (true, "7e2853d43184332bc5fda0b30fec4719242164b8efef947f0870adc7ce10bc59"), looks := true }, kinds := [], alts := [], laidByText := true, laidKinds := [.data, .data, .data, .data, .sentinel, .sentinel, .pinned], laidTests := true, laidLooks := .later }
def ToolsHangsUptoCardSaid : Prop := Claim7.holds Tryz.pinned (.plain (OpenSpec.upto toolsHangsSpec)) toolsHangsUptoCard

/-- THE SECOND FORM's CARD OF 'scullionlaw19.MemoAgain'. -/
def memoAgainUptoCard : Claim7 := { stood := { row := memoAgainUptoRow, standIns := [], harness := (true, "7e2853d43184332bc5fda0b30fec4719242164b8efef947f0870adc7ce10bc59"), looks := true }, kinds := [], alts := [], laidByText := true, laidKinds := [.data, .data, .data, .data, .sentinel, .sentinel, .pinned], laidTests := true, laidLooks := .later }
def MemoAgainUptoCardSaid : Prop := Claim7.holds Tryz.pinned (.plain (OpenSpec.upto memoAgainSpec)) memoAgainUptoCard
end Rows
end Go.Proofs.YtfbnaalhioogoaaGreatDoor
