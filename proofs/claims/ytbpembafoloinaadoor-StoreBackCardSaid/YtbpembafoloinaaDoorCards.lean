/-
  DERIVED. GIVEN WITH THE SEED: THE CARDS: each row of YtbpembafoloinaaDoorRows.lean that lists a variable, with what it lists TIED to the program's text (the seventh form; the later family's looks); each row that meets fmt, with fmt's text TOLD by the authors' own Lean function (tested against real Go, not proved from fmt's source: count such statements apart). THE CARD IS WHAT COUNTS. Prove the row's statement (the work); the ties are given (YtbpembafoloinaaDoorTie.lean); close each card by the builder's one call (the guide's Derived/Test/ToyasCard.lean, 'card_holds'). Laid BY PROGRAM, IN A SANDBOX (cutbox-door.mjs). By AI agents, Wed Nov 11 2026. No macro, syntax, notation, axiom, sorry.
-/
import Derived.Test.YtbpembafoloinaaDoorRows
import GoSem.ClaimSeven
namespace Go.Proofs.YtbpembafoloinaaDoor
namespace Rows

/-- THE TIED CARD OF 'scullionlaw05.StoreValues'. -/
def storeValuesCard : Claim7 := { stood := { row := storeValuesRow, standIns := [], harness := (true, "013813724e3398014b1c6618d5a958baa6ad413ffcf7c5456e54e40b91ce69e7"), looks := true }, kinds := [], alts := [], laidByText := true, laidKinds := [.data, .data, .data, .sentinel, .sentinel], laidTests := true, laidLooks := .later }
def StoreValuesCardSaid : Prop := Claim7.holds Tryd.pinned (.plain (OpenSpec.ofChange storeValuesSpec)) storeValuesCard

/-- THE TIED CARD OF 'scullionlaw05.StoreBack'. -/
def storeBackCard : Claim7 := { stood := { row := storeBackRow, standIns := [], harness := (true, "013813724e3398014b1c6618d5a958baa6ad413ffcf7c5456e54e40b91ce69e7"), looks := true }, kinds := [], alts := [], laidByText := true, laidKinds := [.data, .data, .data, .sentinel, .sentinel], laidTests := true, laidLooks := .later }
def StoreBackCardSaid : Prop := Claim7.holds Tryd.pinned (.plain (OpenSpec.ofChange storeBackSpec)) storeBackCard

/-- THE TIED CARD OF 'scullionlaw05.StorePuts'. -/
def storePutsCard : Claim7 := { stood := { row := storePutsRow, standIns := [], harness := (true, "013813724e3398014b1c6618d5a958baa6ad413ffcf7c5456e54e40b91ce69e7"), looks := true }, kinds := [], alts := [], laidByText := true, laidKinds := [.data, .data, .data, .sentinel, .sentinel], laidTests := true, laidLooks := .later }
def StorePutsCardSaid : Prop := Claim7.holds Tryd.pinned (.plain (OpenSpec.ofChange storePutsSpec)) storePutsCard

/-- THE SECOND FORM's CARD OF 'scullionlaw05.StoreValues'. -/
def storeValuesUptoCard : Claim7 := { stood := { row := storeValuesUptoRow, standIns := [], harness := (true, "013813724e3398014b1c6618d5a958baa6ad413ffcf7c5456e54e40b91ce69e7"), looks := true }, kinds := [], alts := [], laidByText := true, laidKinds := [.data, .data, .data, .sentinel, .sentinel], laidTests := true, laidLooks := .later }
def StoreValuesUptoCardSaid : Prop := Claim7.holds Tryd.pinned (.plain (OpenSpec.upto storeValuesSpec)) storeValuesUptoCard

/-- THE SECOND FORM's CARD OF 'scullionlaw05.StoreBack'. -/
def storeBackUptoCard : Claim7 := { stood := { row := storeBackUptoRow, standIns := [], harness := (true, "013813724e3398014b1c6618d5a958baa6ad413ffcf7c5456e54e40b91ce69e7"), looks := true }, kinds := [], alts := [], laidByText := true, laidKinds := [.data, .data, .data, .sentinel, .sentinel], laidTests := true, laidLooks := .later }
def StoreBackUptoCardSaid : Prop := Claim7.holds Tryd.pinned (.plain (OpenSpec.upto storeBackSpec)) storeBackUptoCard

/-- THE SECOND FORM's CARD OF 'scullionlaw05.StorePuts'. -/
def storePutsUptoCard : Claim7 := { stood := { row := storePutsUptoRow, standIns := [], harness := (true, "013813724e3398014b1c6618d5a958baa6ad413ffcf7c5456e54e40b91ce69e7"), looks := true }, kinds := [], alts := [], laidByText := true, laidKinds := [.data, .data, .data, .sentinel, .sentinel], laidTests := true, laidLooks := .later }
def StorePutsUptoCardSaid : Prop := Claim7.holds Tryd.pinned (.plain (OpenSpec.upto storePutsSpec)) storePutsUptoCard
end Rows
end Go.Proofs.YtbpembafoloinaaDoor
