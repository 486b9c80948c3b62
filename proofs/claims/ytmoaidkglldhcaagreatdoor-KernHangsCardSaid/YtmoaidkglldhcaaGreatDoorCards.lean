/-
  DERIVED. GIVEN WITH THE SEED: THE CARDS: each row of YtmoaidkglldhcaaGreatDoorRows.lean that lists a variable, with what it lists TIED to the program's text (the seventh form; the later family's looks); each row that meets fmt, with fmt's text TOLD by the authors' own Lean function (tested against real Go, not proved from fmt's source: count such statements apart). THE CARD IS WHAT COUNTS. Prove the row's statement (the work); the ties are given (YtmoaidkglldhcaaGreatDoorTie.lean); close each card by the builder's one call (the guide's Derived/Test/ToyasCard.lean, 'card_holds'). Laid BY PROGRAM, IN A SANDBOX (cutbox-door.mjs). By AI agents, Wed Nov 11 2026. No macro, syntax, notation, axiom, sorry.
-/
import Derived.Test.YtmoaidkglldhcaaGreatDoorRows
import GoSem.ClaimSeven
namespace Go.Proofs.YtmoaidkglldhcaaGreatDoor
namespace Rows

/-- THE TIED CARD OF 'scullionlaw06.KernLinks'. -/
def kernLinksCard : Claim7 := { stood := { row := kernLinksRow, standIns := [], harness := (true, "d382b8ca0c8b8ed234436f7b8f87d6ba1a6b81ceeedc6e69217f69fb5b6d1f4b"), looks := true }, kinds := [], alts := [], laidByText := true, laidKinds := [.data, .data, .data, .data, .pinned], laidTests := true, laidLooks := .later }
def KernLinksCardSaid : Prop := Claim7.holds Tryz.pinned (.plain (OpenSpec.ofChange kernLinksSpec)) kernLinksCard

/-- THE TIED CARD OF 'scullionlaw06.KernSmall'. -/
def kernSmallCard : Claim7 := { stood := { row := kernSmallRow, standIns := [], harness := (true, "d382b8ca0c8b8ed234436f7b8f87d6ba1a6b81ceeedc6e69217f69fb5b6d1f4b"), looks := true }, kinds := [], alts := [], laidByText := true, laidKinds := [.data, .data, .data, .data, .pinned], laidTests := true, laidLooks := .later }
def KernSmallCardSaid : Prop := Claim7.holds Tryz.pinned (.plain (OpenSpec.ofChange kernSmallSpec)) kernSmallCard

/-- THE TIED CARD OF 'scullionlaw06.KernWell'. -/
def kernWellCard : Claim7 := { stood := { row := kernWellRow, standIns := [], harness := (true, "d382b8ca0c8b8ed234436f7b8f87d6ba1a6b81ceeedc6e69217f69fb5b6d1f4b"), looks := true }, kinds := [], alts := [], laidByText := true, laidKinds := [.data, .data, .data, .data, .pinned], laidTests := true, laidLooks := .later }
def KernWellCardSaid : Prop := Claim7.holds Tryz.pinned (.plain (OpenSpec.ofChange kernWellSpec)) kernWellCard

/-- THE TIED CARD OF 'scullionlaw06.KernModes'. -/
def kernModesCard : Claim7 := { stood := { row := kernModesRow, standIns := [], harness := (true, "d382b8ca0c8b8ed234436f7b8f87d6ba1a6b81ceeedc6e69217f69fb5b6d1f4b"), looks := true }, kinds := [], alts := [], laidByText := true, laidKinds := [.data, .data, .data, .data, .pinned], laidTests := true, laidLooks := .later }
def KernModesCardSaid : Prop := Claim7.holds Tryz.pinned (.plain (OpenSpec.ofChange kernModesSpec)) kernModesCard

/-- THE TIED CARD OF 'scullionlaw06.KernLong'. -/
def kernLongCard : Claim7 := { stood := { row := kernLongRow, standIns := [], harness := (true, "d382b8ca0c8b8ed234436f7b8f87d6ba1a6b81ceeedc6e69217f69fb5b6d1f4b"), looks := true }, kinds := [], alts := [], laidByText := true, laidKinds := [.data, .data, .data, .data, .pinned], laidTests := true, laidLooks := .later }
def KernLongCardSaid : Prop := Claim7.holds Tryz.pinned (.plain (OpenSpec.ofChange kernLongSpec)) kernLongCard

/-- THE TIED CARD OF 'scullionlaw06.KernRefuses'. -/
def kernRefusesCard : Claim7 := { stood := { row := kernRefusesRow, standIns := [], harness := (true, "d382b8ca0c8b8ed234436f7b8f87d6ba1a6b81ceeedc6e69217f69fb5b6d1f4b"), looks := true }, kinds := [], alts := [], laidByText := true, laidKinds := [.data, .data, .data, .data, .pinned], laidTests := true, laidLooks := .later }
def KernRefusesCardSaid : Prop := Claim7.holds Tryz.pinned (.plain (OpenSpec.ofChange kernRefusesSpec)) kernRefusesCard

/-- THE TIED CARD OF 'scullionlaw06.KernFinds'. -/
def kernFindsCard : Claim7 := { stood := { row := kernFindsRow, standIns := [], harness := (true, "d382b8ca0c8b8ed234436f7b8f87d6ba1a6b81ceeedc6e69217f69fb5b6d1f4b"), looks := true }, kinds := [], alts := [], laidByText := true, laidKinds := [.data, .data, .data, .data, .pinned], laidTests := true, laidLooks := .later }
def KernFindsCardSaid : Prop := Claim7.holds Tryz.pinned (.plain (OpenSpec.ofChange kernFindsSpec)) kernFindsCard

/-- THE TIED CARD OF 'scullionlaw06.KernPlays'. -/
def kernPlaysCard : Claim7 := { stood := { row := kernPlaysRow, standIns := [], harness := (true, "d382b8ca0c8b8ed234436f7b8f87d6ba1a6b81ceeedc6e69217f69fb5b6d1f4b"), looks := true }, kinds := [], alts := [], laidByText := true, laidKinds := [.data, .data, .data, .data, .pinned], laidTests := true, laidLooks := .later }
def KernPlaysCardSaid : Prop := Claim7.holds Tryz.pinned (.plain (OpenSpec.ofChange kernPlaysSpec)) kernPlaysCard

/-- THE TIED CARD OF 'scullionlaw06.KernHangs'. -/
def kernHangsCard : Claim7 := { stood := { row := kernHangsRow, standIns := [], harness := (true, "d382b8ca0c8b8ed234436f7b8f87d6ba1a6b81ceeedc6e69217f69fb5b6d1f4b"), looks := true }, kinds := [], alts := [], laidByText := true, laidKinds := [.data, .data, .data, .data, .pinned], laidTests := true, laidLooks := .later }
def KernHangsCardSaid : Prop := Claim7.holds Tryz.pinned (.plain (OpenSpec.ofChange kernHangsSpec)) kernHangsCard

/-- THE SECOND FORM's CARD OF 'scullionlaw06.KernLinks'. -/
def kernLinksUptoCard : Claim7 := { stood := { row := kernLinksUptoRow, standIns := [], harness := (true, "d382b8ca0c8b8ed234436f7b8f87d6ba1a6b81ceeedc6e69217f69fb5b6d1f4b"), looks := true }, kinds := [], alts := [], laidByText := true, laidKinds := [.data, .data, .data, .data, .pinned], laidTests := true, laidLooks := .later }
def KernLinksUptoCardSaid : Prop := Claim7.holds Tryz.pinned (.plain (OpenSpec.upto kernLinksSpec)) kernLinksUptoCard

/-- THE SECOND FORM's CARD OF 'scullionlaw06.KernSmall'. -/
def kernSmallUptoCard : Claim7 := { stood := { row := kernSmallUptoRow, standIns := [], harness := (true, "d382b8ca0c8b8ed234436f7b8f87d6ba1a6b81ceeedc6e69217f69fb5b6d1f4b"), looks := true }, kinds := [], alts := [], laidByText := true, laidKinds := [.data, .data, .data, .data, .pinned], laidTests := true, laidLooks := .later }
def KernSmallUptoCardSaid : Prop := Claim7.holds Tryz.pinned (.plain (OpenSpec.upto kernSmallSpec)) kernSmallUptoCard

/-- THE SECOND FORM's CARD OF 'scullionlaw06.KernWell'. -/
def kernWellUptoCard : Claim7 := { stood := { row := kernWellUptoRow, standIns := [], harness := (true, "d382b8ca0c8b8ed234436f7b8f87d6ba1a6b81ceeedc6e69217f69fb5b6d1f4b"), looks := true }, kinds := [], alts := [], laidByText := true, laidKinds := [.data, .data, .data, .data, .pinned], laidTests := true, laidLooks := .later }
def KernWellUptoCardSaid : Prop := Claim7.holds Tryz.pinned (.plain (OpenSpec.upto kernWellSpec)) kernWellUptoCard

/-- THE SECOND FORM's CARD OF 'scullionlaw06.KernModes'. -/
def kernModesUptoCard : Claim7 := { stood := { row := kernModesUptoRow, standIns := [], harness := (true, "d382b8ca0c8b8ed234436f7b8f87d6ba1a6b81ceeedc6e69217f69fb5b6d1f4b"), looks := true }, kinds := [], alts := [], laidByText := true, laidKinds := [.data, .data, .data, .data, .pinned], laidTests := true, laidLooks := .later }
def KernModesUptoCardSaid : Prop := Claim7.holds Tryz.pinned (.plain (OpenSpec.upto kernModesSpec)) kernModesUptoCard

/-- THE SECOND FORM's CARD OF 'scullionlaw06.KernLong'. -/
def kernLongUptoCard : Claim7 := { stood := { row := kernLongUptoRow, standIns := [], harness := (true, "d382b8ca0c8b8ed234436f7b8f87d6ba1a6b81ceeedc6e69217f69fb5b6d1f4b"), looks := true }, kinds := [], alts := [], laidByText := true, laidKinds := [.data, .data, .data, .data, .pinned], laidTests := true, laidLooks := .later }
def KernLongUptoCardSaid : Prop := Claim7.holds Tryz.pinned (.plain (OpenSpec.upto kernLongSpec)) kernLongUptoCard

/-- THE SECOND FORM's CARD OF 'scullionlaw06.KernRefuses'. -/
def kernRefusesUptoCard : Claim7 := { stood := { row := kernRefusesUptoRow, standIns := [], harness := (true, "d382b8ca0c8b8ed234436f7b8f87d6ba1a6b81ceeedc6e69217f69fb5b6d1f4b"), looks := true }, kinds := [], alts := [], laidByText := true, laidKinds := [.data, .data, .data, .data, .pinned], laidTests := true, laidLooks := .later }
def KernRefusesUptoCardSaid : Prop := Claim7.holds Tryz.pinned (.plain (OpenSpec.upto kernRefusesSpec)) kernRefusesUptoCard

/-- THE SECOND FORM's CARD OF 'scullionlaw06.KernFinds'. -/
def kernFindsUptoCard : Claim7 := { stood := { row := kernFindsUptoRow, standIns := [], harness := (true, "d382b8ca0c8b8ed234436f7b8f87d6ba1a6b81ceeedc6e69217f69fb5b6d1f4b"), looks := true }, kinds := [], alts := [], laidByText := true, laidKinds := [.data, .data, .data, .data, .pinned], laidTests := true, laidLooks := .later }
def KernFindsUptoCardSaid : Prop := Claim7.holds Tryz.pinned (.plain (OpenSpec.upto kernFindsSpec)) kernFindsUptoCard

/-- THE SECOND FORM's CARD OF 'scullionlaw06.KernPlays'. -/
def kernPlaysUptoCard : Claim7 := { stood := { row := kernPlaysUptoRow, standIns := [], harness := (true, "d382b8ca0c8b8ed234436f7b8f87d6ba1a6b81ceeedc6e69217f69fb5b6d1f4b"), looks := true }, kinds := [], alts := [], laidByText := true, laidKinds := [.data, .data, .data, .data, .pinned], laidTests := true, laidLooks := .later }
def KernPlaysUptoCardSaid : Prop := Claim7.holds Tryz.pinned (.plain (OpenSpec.upto kernPlaysSpec)) kernPlaysUptoCard

/-- THE SECOND FORM's CARD OF 'scullionlaw06.KernHangs'. -/
def kernHangsUptoCard : Claim7 := { stood := { row := kernHangsUptoRow, standIns := [], harness := (true, "d382b8ca0c8b8ed234436f7b8f87d6ba1a6b81ceeedc6e69217f69fb5b6d1f4b"), looks := true }, kinds := [], alts := [], laidByText := true, laidKinds := [.data, .data, .data, .data, .pinned], laidTests := true, laidLooks := .later }
def KernHangsUptoCardSaid : Prop := Claim7.holds Tryz.pinned (.plain (OpenSpec.upto kernHangsSpec)) kernHangsUptoCard
end Rows
end Go.Proofs.YtmoaidkglldhcaaGreatDoor
