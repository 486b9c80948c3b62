/-
  DERIVED. GIVEN WITH THE SEED: THE CARDS: each row of YtbpembafoloinaaGreatDoorRows.lean that lists a variable, with what it lists TIED to the program's text (the seventh form; the later family's looks); each row that meets fmt, with fmt's text TOLD by the authors' own Lean function (tested against real Go, not proved from fmt's source: count such statements apart). THE CARD IS WHAT COUNTS. Prove the row's statement (the work); the ties are given (YtbpembafoloinaaGreatDoorTie.lean); close each card by the builder's one call (the guide's Derived/Test/ToyasCard.lean, 'card_holds'). Laid BY PROGRAM, IN A SANDBOX (cutbox-door.mjs). By AI agents, Wed Nov 11 2026. No macro, syntax, notation, axiom, sorry.
-/
import Derived.Test.YtbpembafoloinaaGreatDoorRows
import GoSem.ClaimSeven
namespace Go.Proofs.YtbpembafoloinaaGreatDoor
namespace Rows

/-- THE TIED CARD OF 'scullionlaw05.StoreNames'. -/
def storeNamesCard : Claim7 := { stood := { row := storeNamesRow, standIns := [], harness := (true, "e18757f58e8bdf7511d4327bc947c47b58263f7d989b8ccea8dbb373bf9ed9ab"), looks := true }, kinds := [], alts := [], laidByText := true, laidKinds := [.data, .data, .data, .sentinel, .sentinel], laidTests := true, laidLooks := .later }
def StoreNamesCardSaid : Prop := Claim7.holds Tryz.pinned (.plain (OpenSpec.ofChange storeNamesSpec)) storeNamesCard

/-- THE TIED CARD OF 'scullionlaw05.StorePlays'. -/
def storePlaysCard : Claim7 := { stood := { row := storePlaysRow, standIns := [], harness := (true, "e18757f58e8bdf7511d4327bc947c47b58263f7d989b8ccea8dbb373bf9ed9ab"), looks := true }, kinds := [], alts := [], laidByText := true, laidKinds := [.data, .data, .data, .sentinel, .sentinel], laidTests := true, laidLooks := .later }
def StorePlaysCardSaid : Prop := Claim7.holds Tryz.pinned (.plain (OpenSpec.ofChange storePlaysSpec)) storePlaysCard

/-- THE TIED CARD OF 'scullionlaw05.StoreApplies'. -/
def storeAppliesCard : Claim7 := { stood := { row := storeAppliesRow, standIns := [], harness := (true, "e18757f58e8bdf7511d4327bc947c47b58263f7d989b8ccea8dbb373bf9ed9ab"), looks := true }, kinds := [], alts := [], laidByText := true, laidKinds := [.data, .data, .data, .sentinel, .sentinel], laidTests := true, laidLooks := .later }
def StoreAppliesCardSaid : Prop := Claim7.holds Tryz.pinned (.plain (OpenSpec.ofChange storeAppliesSpec)) storeAppliesCard

/-- THE SECOND FORM's CARD OF 'scullionlaw05.StoreNames'. -/
def storeNamesUptoCard : Claim7 := { stood := { row := storeNamesUptoRow, standIns := [], harness := (true, "e18757f58e8bdf7511d4327bc947c47b58263f7d989b8ccea8dbb373bf9ed9ab"), looks := true }, kinds := [], alts := [], laidByText := true, laidKinds := [.data, .data, .data, .sentinel, .sentinel], laidTests := true, laidLooks := .later }
def StoreNamesUptoCardSaid : Prop := Claim7.holds Tryz.pinned (.plain (OpenSpec.upto storeNamesSpec)) storeNamesUptoCard

/-- THE SECOND FORM's CARD OF 'scullionlaw05.StorePlays'. -/
def storePlaysUptoCard : Claim7 := { stood := { row := storePlaysUptoRow, standIns := [], harness := (true, "e18757f58e8bdf7511d4327bc947c47b58263f7d989b8ccea8dbb373bf9ed9ab"), looks := true }, kinds := [], alts := [], laidByText := true, laidKinds := [.data, .data, .data, .sentinel, .sentinel], laidTests := true, laidLooks := .later }
def StorePlaysUptoCardSaid : Prop := Claim7.holds Tryz.pinned (.plain (OpenSpec.upto storePlaysSpec)) storePlaysUptoCard

/-- THE SECOND FORM's CARD OF 'scullionlaw05.StoreApplies'. -/
def storeAppliesUptoCard : Claim7 := { stood := { row := storeAppliesUptoRow, standIns := [], harness := (true, "e18757f58e8bdf7511d4327bc947c47b58263f7d989b8ccea8dbb373bf9ed9ab"), looks := true }, kinds := [], alts := [], laidByText := true, laidKinds := [.data, .data, .data, .sentinel, .sentinel], laidTests := true, laidLooks := .later }
def StoreAppliesUptoCardSaid : Prop := Claim7.holds Tryz.pinned (.plain (OpenSpec.upto storeAppliesSpec)) storeAppliesUptoCard
end Rows
end Go.Proofs.YtbpembafoloinaaGreatDoor
