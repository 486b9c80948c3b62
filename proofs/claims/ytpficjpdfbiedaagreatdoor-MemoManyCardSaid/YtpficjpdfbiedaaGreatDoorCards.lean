/-
  DERIVED. GIVEN WITH THE SEED: THE CARDS: each row of YtpficjpdfbiedaaGreatDoorRows.lean that lists a variable, with what it lists TIED to the program's text (the seventh form; the later family's looks); each row that meets fmt, with fmt's text TOLD by the authors' own Lean function (tested against real Go, not proved from fmt's source: count such statements apart). THE CARD IS WHAT COUNTS. Prove the row's statement (the work); the ties are given (YtpficjpdfbiedaaGreatDoorTie.lean); close each card by the builder's one call (the guide's Derived/Test/ToyasCard.lean, 'card_holds'). Laid BY PROGRAM, IN A SANDBOX (cutbox-door.mjs). By AI agents, Wed Nov 11 2026. No macro, syntax, notation, axiom, sorry.
-/
import Derived.Test.YtpficjpdfbiedaaGreatDoorRows
import GoSem.ClaimSeven
namespace Go.Proofs.YtpficjpdfbiedaaGreatDoor
namespace Rows

/-- THE TIED CARD OF 'scullionlaw19.MemoKeys'. -/
def memoKeysCard : Claim7 := { stood := { row := memoKeysRow, standIns := [], harness := (true, "0bbd026543e8cd5deb7b96cdf5977f9270807a48e6c4f2c2bcbc597fe93539da"), looks := true }, kinds := [], alts := [], laidByText := true, laidKinds := [.data, .data, .data, .sentinel, .sentinel], laidTests := true, laidLooks := .later }
def MemoKeysCardSaid : Prop := Claim7.holds Tryz.pinned (.plain (OpenSpec.ofChange memoKeysSpec)) memoKeysCard

/-- THE TIED CARD OF 'scullionlaw19.MemoTexts'. -/
def memoTextsCard : Claim7 := { stood := { row := memoTextsRow, standIns := [], harness := (true, "0bbd026543e8cd5deb7b96cdf5977f9270807a48e6c4f2c2bcbc597fe93539da"), looks := true }, kinds := [], alts := [], laidByText := true, laidKinds := [.data, .data, .data, .sentinel, .sentinel], laidTests := true, laidLooks := .later }
def MemoTextsCardSaid : Prop := Claim7.holds Tryz.pinned (.plain (OpenSpec.ofChange memoTextsSpec)) memoTextsCard

/-- THE TIED CARD OF 'scullionlaw19.MemoBack'. -/
def memoBackCard : Claim7 := { stood := { row := memoBackRow, standIns := [], harness := (true, "0bbd026543e8cd5deb7b96cdf5977f9270807a48e6c4f2c2bcbc597fe93539da"), looks := true }, kinds := [], alts := [], laidByText := true, laidKinds := [.data, .data, .data, .sentinel, .sentinel], laidTests := true, laidLooks := .later }
def MemoBackCardSaid : Prop := Claim7.holds Tryz.pinned (.plain (OpenSpec.ofChange memoBackSpec)) memoBackCard

/-- THE TIED CARD OF 'scullionlaw19.MemoFinds'. -/
def memoFindsCard : Claim7 := { stood := { row := memoFindsRow, standIns := [], harness := (true, "0bbd026543e8cd5deb7b96cdf5977f9270807a48e6c4f2c2bcbc597fe93539da"), looks := true }, kinds := [], alts := [], laidByText := true, laidKinds := [.data, .data, .data, .data, .sentinel, .sentinel, .pinned], laidTests := true, laidLooks := .later }
def MemoFindsCardSaid : Prop := Claim7.holds Tryz.pinned (.plain (OpenSpec.ofChange memoFindsSpec)) memoFindsCard

/-- THE TIED CARD OF 'scullionlaw19.MemoMany'. -/
def memoManyCard : Claim7 := { stood := { row := memoManyRow, standIns := [], harness := (true, "0bbd026543e8cd5deb7b96cdf5977f9270807a48e6c4f2c2bcbc597fe93539da"), looks := true }, kinds := [], alts := [], laidByText := true, laidKinds := [.data, .data, .data, .data, .sentinel, .sentinel, .pinned], laidTests := true, laidLooks := .later }
def MemoManyCardSaid : Prop := Claim7.holds Tryz.pinned (.plain (OpenSpec.ofChange memoManySpec)) memoManyCard

/-- THE SECOND FORM's CARD OF 'scullionlaw19.MemoKeys'. -/
def memoKeysUptoCard : Claim7 := { stood := { row := memoKeysUptoRow, standIns := [], harness := (true, "0bbd026543e8cd5deb7b96cdf5977f9270807a48e6c4f2c2bcbc597fe93539da"), looks := true }, kinds := [], alts := [], laidByText := true, laidKinds := [.data, .data, .data, .sentinel, .sentinel], laidTests := true, laidLooks := .later }
def MemoKeysUptoCardSaid : Prop := Claim7.holds Tryz.pinned (.plain (OpenSpec.upto memoKeysSpec)) memoKeysUptoCard

/-- THE SECOND FORM's CARD OF 'scullionlaw19.MemoTexts'. -/
def memoTextsUptoCard : Claim7 := { stood := { row := memoTextsUptoRow, standIns := [], harness := (true, "0bbd026543e8cd5deb7b96cdf5977f9270807a48e6c4f2c2bcbc597fe93539da"), looks := true }, kinds := [], alts := [], laidByText := true, laidKinds := [.data, .data, .data, .sentinel, .sentinel], laidTests := true, laidLooks := .later }
def MemoTextsUptoCardSaid : Prop := Claim7.holds Tryz.pinned (.plain (OpenSpec.upto memoTextsSpec)) memoTextsUptoCard

/-- THE SECOND FORM's CARD OF 'scullionlaw19.MemoBack'. -/
def memoBackUptoCard : Claim7 := { stood := { row := memoBackUptoRow, standIns := [], harness := (true, "0bbd026543e8cd5deb7b96cdf5977f9270807a48e6c4f2c2bcbc597fe93539da"), looks := true }, kinds := [], alts := [], laidByText := true, laidKinds := [.data, .data, .data, .sentinel, .sentinel], laidTests := true, laidLooks := .later }
def MemoBackUptoCardSaid : Prop := Claim7.holds Tryz.pinned (.plain (OpenSpec.upto memoBackSpec)) memoBackUptoCard

/-- THE SECOND FORM's CARD OF 'scullionlaw19.MemoFinds'. -/
def memoFindsUptoCard : Claim7 := { stood := { row := memoFindsUptoRow, standIns := [], harness := (true, "0bbd026543e8cd5deb7b96cdf5977f9270807a48e6c4f2c2bcbc597fe93539da"), looks := true }, kinds := [], alts := [], laidByText := true, laidKinds := [.data, .data, .data, .data, .sentinel, .sentinel, .pinned], laidTests := true, laidLooks := .later }
def MemoFindsUptoCardSaid : Prop := Claim7.holds Tryz.pinned (.plain (OpenSpec.upto memoFindsSpec)) memoFindsUptoCard

/-- THE SECOND FORM's CARD OF 'scullionlaw19.MemoMany'. -/
def memoManyUptoCard : Claim7 := { stood := { row := memoManyUptoRow, standIns := [], harness := (true, "0bbd026543e8cd5deb7b96cdf5977f9270807a48e6c4f2c2bcbc597fe93539da"), looks := true }, kinds := [], alts := [], laidByText := true, laidKinds := [.data, .data, .data, .data, .sentinel, .sentinel, .pinned], laidTests := true, laidLooks := .later }
def MemoManyUptoCardSaid : Prop := Claim7.holds Tryz.pinned (.plain (OpenSpec.upto memoManySpec)) memoManyUptoCard
end Rows
end Go.Proofs.YtpficjpdfbiedaaGreatDoor
