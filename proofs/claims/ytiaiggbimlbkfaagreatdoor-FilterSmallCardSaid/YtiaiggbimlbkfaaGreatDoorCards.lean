/-
  DERIVED. GIVEN WITH THE SEED: THE CARDS: each row of YtiaiggbimlbkfaaGreatDoorRows.lean that lists a variable, with what it lists TIED to the program's text (the seventh form; the later family's looks); each row that meets fmt, with fmt's text TOLD by the authors' own Lean function (tested against real Go, not proved from fmt's source: count such statements apart). THE CARD IS WHAT COUNTS. Prove the row's statement (the work); the ties are given (YtiaiggbimlbkfaaGreatDoorTie.lean); close each card by the builder's one call (the guide's Derived/Test/ToyasCard.lean, 'card_holds'). Laid BY PROGRAM, IN A SANDBOX (cutbox-door.mjs). By AI agents, Wed Nov 11 2026. No macro, syntax, notation, axiom, sorry.
-/
import Derived.Test.YtiaiggbimlbkfaaGreatDoorRows
import GoSem.ClaimSeven
namespace Go.Proofs.YtiaiggbimlbkfaaGreatDoor
namespace Rows

/-- THE TIED CARD OF 'scullionlaw17.FilterAny'. -/
def filterAnyCard : Claim7 := { stood := { row := filterAnyRow, standIns := [], harness := (true, "255a2138654f36aa7d8c064a1cc4812a78ae5bc9b34c22ed2cef1ed7d66cd2ef"), looks := true }, kinds := [], alts := [], laidByText := true, laidKinds := [.data, .data, .data, .data, .sentinel, .sentinel, .pinned], laidTests := true, laidLooks := .later }
def FilterAnyCardSaid : Prop := Claim7.holds Tryz.pinned (.plain (OpenSpec.ofChange filterAnySpec)) filterAnyCard

/-- THE TIED CARD OF 'scullionlaw17.FilterSmall'. -/
def filterSmallCard : Claim7 := { stood := { row := filterSmallRow, standIns := [], harness := (true, "255a2138654f36aa7d8c064a1cc4812a78ae5bc9b34c22ed2cef1ed7d66cd2ef"), looks := true }, kinds := [], alts := [], laidByText := true, laidKinds := [.data, .data, .data, .data, .sentinel, .sentinel, .pinned], laidTests := true, laidLooks := .later }
def FilterSmallCardSaid : Prop := Claim7.holds Tryz.pinned (.plain (OpenSpec.ofChange filterSmallSpec)) filterSmallCard

/-- THE TIED CARD OF 'scullionlaw17.FilterSorts'. -/
def filterSortsCard : Claim7 := { stood := { row := filterSortsRow, standIns := [], harness := (true, "255a2138654f36aa7d8c064a1cc4812a78ae5bc9b34c22ed2cef1ed7d66cd2ef"), looks := true }, kinds := [], alts := [], laidByText := true, laidKinds := [.data, .data, .data, .data, .sentinel, .sentinel, .pinned], laidTests := true, laidLooks := .later }
def FilterSortsCardSaid : Prop := Claim7.holds Tryz.pinned (.plain (OpenSpec.ofChange filterSortsSpec)) filterSortsCard

/-- THE TIED CARD OF 'scullionlaw17.FilterParts'. -/
def filterPartsCard : Claim7 := { stood := { row := filterPartsRow, standIns := [], harness := (true, "255a2138654f36aa7d8c064a1cc4812a78ae5bc9b34c22ed2cef1ed7d66cd2ef"), looks := true }, kinds := [], alts := [], laidByText := true, laidKinds := [.data, .data, .data, .data, .sentinel, .sentinel, .pinned], laidTests := true, laidLooks := .later }
def FilterPartsCardSaid : Prop := Claim7.holds Tryz.pinned (.plain (OpenSpec.ofChange filterPartsSpec)) filterPartsCard

/-- THE TIED CARD OF 'scullionlaw17.FilterHeads'. -/
def filterHeadsCard : Claim7 := { stood := { row := filterHeadsRow, standIns := [], harness := (true, "255a2138654f36aa7d8c064a1cc4812a78ae5bc9b34c22ed2cef1ed7d66cd2ef"), looks := true }, kinds := [], alts := [], laidByText := true, laidKinds := [.data, .data, .data, .data, .sentinel, .sentinel, .pinned], laidTests := true, laidLooks := .later }
def FilterHeadsCardSaid : Prop := Claim7.holds Tryz.pinned (.plain (OpenSpec.ofChange filterHeadsSpec)) filterHeadsCard

/-- THE TIED CARD OF 'scullionlaw17.FilterCuts'. -/
def filterCutsCard : Claim7 := { stood := { row := filterCutsRow, standIns := [], harness := (true, "255a2138654f36aa7d8c064a1cc4812a78ae5bc9b34c22ed2cef1ed7d66cd2ef"), looks := true }, kinds := [], alts := [], laidByText := true, laidKinds := [.data, .data, .data, .data, .sentinel, .sentinel, .pinned], laidTests := true, laidLooks := .later }
def FilterCutsCardSaid : Prop := Claim7.holds Tryz.pinned (.plain (OpenSpec.ofChange filterCutsSpec)) filterCutsCard

/-- THE TIED CARD OF 'scullionlaw17.FilterSets'. -/
def filterSetsCard : Claim7 := { stood := { row := filterSetsRow, standIns := [], harness := (true, "255a2138654f36aa7d8c064a1cc4812a78ae5bc9b34c22ed2cef1ed7d66cd2ef"), looks := true }, kinds := [], alts := [], laidByText := true, laidKinds := [.data, .data, .data, .data, .sentinel, .sentinel, .pinned], laidTests := true, laidLooks := .later }
def FilterSetsCardSaid : Prop := Claim7.holds Tryz.pinned (.plain (OpenSpec.ofChange filterSetsSpec)) filterSetsCard

/-- THE TIED CARD OF 'scullionlaw17.FilterCounts'. -/
def filterCountsCard : Claim7 := { stood := { row := filterCountsRow, standIns := [], harness := (true, "255a2138654f36aa7d8c064a1cc4812a78ae5bc9b34c22ed2cef1ed7d66cd2ef"), looks := true }, kinds := [], alts := [], laidByText := true, laidKinds := [.data, .data, .data, .data, .sentinel, .sentinel, .pinned], laidTests := true, laidLooks := .later }
def FilterCountsCardSaid : Prop := Claim7.holds Tryz.pinned (.plain (OpenSpec.ofChange filterCountsSpec)) filterCountsCard

/-- THE TIED CARD OF 'scullionlaw17.FilterGreps'. -/
def filterGrepsCard : Claim7 := { stood := { row := filterGrepsRow, standIns := [], harness := (true, "255a2138654f36aa7d8c064a1cc4812a78ae5bc9b34c22ed2cef1ed7d66cd2ef"), looks := true }, kinds := [], alts := [], laidByText := true, laidKinds := [.data, .data, .data, .data, .sentinel, .sentinel, .pinned], laidTests := true, laidLooks := .later }
def FilterGrepsCardSaid : Prop := Claim7.holds Tryz.pinned (.plain (OpenSpec.ofChange filterGrepsSpec)) filterGrepsCard

/-- THE TIED CARD OF 'scullionlaw17.FilterPaths'. -/
def filterPathsCard : Claim7 := { stood := { row := filterPathsRow, standIns := [], harness := (true, "255a2138654f36aa7d8c064a1cc4812a78ae5bc9b34c22ed2cef1ed7d66cd2ef"), looks := true }, kinds := [], alts := [], laidByText := true, laidKinds := [.data, .data, .data, .data, .sentinel, .sentinel, .pinned], laidTests := true, laidLooks := .later }
def FilterPathsCardSaid : Prop := Claim7.holds Tryz.pinned (.plain (OpenSpec.ofChange filterPathsSpec)) filterPathsCard

/-- THE TIED CARD OF 'scullionlaw17.FilterAlike'. -/
def filterAlikeCard : Claim7 := { stood := { row := filterAlikeRow, standIns := [], harness := (true, "255a2138654f36aa7d8c064a1cc4812a78ae5bc9b34c22ed2cef1ed7d66cd2ef"), looks := true }, kinds := [], alts := [], laidByText := true, laidKinds := [.data, .data, .data, .data, .sentinel, .sentinel, .pinned], laidTests := true, laidLooks := .later }
def FilterAlikeCardSaid : Prop := Claim7.holds Tryz.pinned (.plain (OpenSpec.ofChange filterAlikeSpec)) filterAlikeCard

/-- THE SECOND FORM's CARD OF 'scullionlaw17.FilterAny'. -/
def filterAnyUptoCard : Claim7 := { stood := { row := filterAnyUptoRow, standIns := [], harness := (true, "255a2138654f36aa7d8c064a1cc4812a78ae5bc9b34c22ed2cef1ed7d66cd2ef"), looks := true }, kinds := [], alts := [], laidByText := true, laidKinds := [.data, .data, .data, .data, .sentinel, .sentinel, .pinned], laidTests := true, laidLooks := .later }
def FilterAnyUptoCardSaid : Prop := Claim7.holds Tryz.pinned (.plain (OpenSpec.upto filterAnySpec)) filterAnyUptoCard

/-- THE SECOND FORM's CARD OF 'scullionlaw17.FilterSmall'. -/
def filterSmallUptoCard : Claim7 := { stood := { row := filterSmallUptoRow, standIns := [], harness := (true, "255a2138654f36aa7d8c064a1cc4812a78ae5bc9b34c22ed2cef1ed7d66cd2ef"), looks := true }, kinds := [], alts := [], laidByText := true, laidKinds := [.data, .data, .data, .data, .sentinel, .sentinel, .pinned], laidTests := true, laidLooks := .later }
def FilterSmallUptoCardSaid : Prop := Claim7.holds Tryz.pinned (.plain (OpenSpec.upto filterSmallSpec)) filterSmallUptoCard

/-- THE SECOND FORM's CARD OF 'scullionlaw17.FilterSorts'. -/
def filterSortsUptoCard : Claim7 := { stood := { row := filterSortsUptoRow, standIns := [], harness := (true, "255a2138654f36aa7d8c064a1cc4812a78ae5bc9b34c22ed2cef1ed7d66cd2ef"), looks := true }, kinds := [], alts := [], laidByText := true, laidKinds := [.data, .data, .data, .data, .sentinel, .sentinel, .pinned], laidTests := true, laidLooks := .later }
def FilterSortsUptoCardSaid : Prop := Claim7.holds Tryz.pinned (.plain (OpenSpec.upto filterSortsSpec)) filterSortsUptoCard

/-- THE SECOND FORM's CARD OF 'scullionlaw17.FilterParts'. -/
def filterPartsUptoCard : Claim7 := { stood := { row := filterPartsUptoRow, standIns := [], harness := (true, "255a2138654f36aa7d8c064a1cc4812a78ae5bc9b34c22ed2cef1ed7d66cd2ef"), looks := true }, kinds := [], alts := [], laidByText := true, laidKinds := [.data, .data, .data, .data, .sentinel, .sentinel, .pinned], laidTests := true, laidLooks := .later }
def FilterPartsUptoCardSaid : Prop := Claim7.holds Tryz.pinned (.plain (OpenSpec.upto filterPartsSpec)) filterPartsUptoCard

/-- THE SECOND FORM's CARD OF 'scullionlaw17.FilterHeads'. -/
def filterHeadsUptoCard : Claim7 := { stood := { row := filterHeadsUptoRow, standIns := [], harness := (true, "255a2138654f36aa7d8c064a1cc4812a78ae5bc9b34c22ed2cef1ed7d66cd2ef"), looks := true }, kinds := [], alts := [], laidByText := true, laidKinds := [.data, .data, .data, .data, .sentinel, .sentinel, .pinned], laidTests := true, laidLooks := .later }
def FilterHeadsUptoCardSaid : Prop := Claim7.holds Tryz.pinned (.plain (OpenSpec.upto filterHeadsSpec)) filterHeadsUptoCard

/-- THE SECOND FORM's CARD OF 'scullionlaw17.FilterCuts'. -/
def filterCutsUptoCard : Claim7 := { stood := { row := filterCutsUptoRow, standIns := [], harness := (true, "255a2138654f36aa7d8c064a1cc4812a78ae5bc9b34c22ed2cef1ed7d66cd2ef"), looks := true }, kinds := [], alts := [], laidByText := true, laidKinds := [.data, .data, .data, .data, .sentinel, .sentinel, .pinned], laidTests := true, laidLooks := .later }
def FilterCutsUptoCardSaid : Prop := Claim7.holds Tryz.pinned (.plain (OpenSpec.upto filterCutsSpec)) filterCutsUptoCard

/-- THE SECOND FORM's CARD OF 'scullionlaw17.FilterSets'. -/
def filterSetsUptoCard : Claim7 := { stood := { row := filterSetsUptoRow, standIns := [], harness := (true, "255a2138654f36aa7d8c064a1cc4812a78ae5bc9b34c22ed2cef1ed7d66cd2ef"), looks := true }, kinds := [], alts := [], laidByText := true, laidKinds := [.data, .data, .data, .data, .sentinel, .sentinel, .pinned], laidTests := true, laidLooks := .later }
def FilterSetsUptoCardSaid : Prop := Claim7.holds Tryz.pinned (.plain (OpenSpec.upto filterSetsSpec)) filterSetsUptoCard

/-- THE SECOND FORM's CARD OF 'scullionlaw17.FilterCounts'. -/
def filterCountsUptoCard : Claim7 := { stood := { row := filterCountsUptoRow, standIns := [], harness := (true, "255a2138654f36aa7d8c064a1cc4812a78ae5bc9b34c22ed2cef1ed7d66cd2ef"), looks := true }, kinds := [], alts := [], laidByText := true, laidKinds := [.data, .data, .data, .data, .sentinel, .sentinel, .pinned], laidTests := true, laidLooks := .later }
def FilterCountsUptoCardSaid : Prop := Claim7.holds Tryz.pinned (.plain (OpenSpec.upto filterCountsSpec)) filterCountsUptoCard

/-- THE SECOND FORM's CARD OF 'scullionlaw17.FilterGreps'. -/
def filterGrepsUptoCard : Claim7 := { stood := { row := filterGrepsUptoRow, standIns := [], harness := (true, "255a2138654f36aa7d8c064a1cc4812a78ae5bc9b34c22ed2cef1ed7d66cd2ef"), looks := true }, kinds := [], alts := [], laidByText := true, laidKinds := [.data, .data, .data, .data, .sentinel, .sentinel, .pinned], laidTests := true, laidLooks := .later }
def FilterGrepsUptoCardSaid : Prop := Claim7.holds Tryz.pinned (.plain (OpenSpec.upto filterGrepsSpec)) filterGrepsUptoCard

/-- THE SECOND FORM's CARD OF 'scullionlaw17.FilterPaths'. -/
def filterPathsUptoCard : Claim7 := { stood := { row := filterPathsUptoRow, standIns := [], harness := (true, "255a2138654f36aa7d8c064a1cc4812a78ae5bc9b34c22ed2cef1ed7d66cd2ef"), looks := true }, kinds := [], alts := [], laidByText := true, laidKinds := [.data, .data, .data, .data, .sentinel, .sentinel, .pinned], laidTests := true, laidLooks := .later }
def FilterPathsUptoCardSaid : Prop := Claim7.holds Tryz.pinned (.plain (OpenSpec.upto filterPathsSpec)) filterPathsUptoCard

/-- THE SECOND FORM's CARD OF 'scullionlaw17.FilterAlike'. -/
def filterAlikeUptoCard : Claim7 := { stood := { row := filterAlikeUptoRow, standIns := [], harness := (true, "255a2138654f36aa7d8c064a1cc4812a78ae5bc9b34c22ed2cef1ed7d66cd2ef"), looks := true }, kinds := [], alts := [], laidByText := true, laidKinds := [.data, .data, .data, .data, .sentinel, .sentinel, .pinned], laidTests := true, laidLooks := .later }
def FilterAlikeUptoCardSaid : Prop := Claim7.holds Tryz.pinned (.plain (OpenSpec.upto filterAlikeSpec)) filterAlikeUptoCard
end Rows
end Go.Proofs.YtiaiggbimlbkfaaGreatDoor
