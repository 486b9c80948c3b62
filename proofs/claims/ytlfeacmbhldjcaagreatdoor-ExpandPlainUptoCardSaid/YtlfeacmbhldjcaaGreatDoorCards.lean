/-
  DERIVED. GIVEN WITH THE SEED: THE CARDS: each row of YtlfeacmbhldjcaaGreatDoorRows.lean that lists a variable, with what it lists TIED to the program's text (the seventh form; the later family's looks); each row that meets fmt, with fmt's text TOLD by the authors' own Lean function (tested against real Go, not proved from fmt's source: count such statements apart). THE CARD IS WHAT COUNTS. Prove the row's statement (the work); the ties are given (YtlfeacmbhldjcaaGreatDoorTie.lean); close each card by the builder's one call (the guide's Derived/Test/ToyasCard.lean, 'card_holds'). Laid BY PROGRAM, IN A SANDBOX (cutbox-door.mjs). By AI agents, Wed Nov 11 2026. No macro, syntax, notation, axiom, sorry.
-/
import Derived.Test.YtlfeacmbhldjcaaGreatDoorRows
import GoSem.ClaimSeven
namespace Go.Proofs.YtlfeacmbhldjcaaGreatDoor
namespace Rows

/-- THE TIED CARD OF 'scullionlaw15.GlobEscaped'. -/
def globEscapedCard : Claim7 := { stood := { row := globEscapedRow, standIns := [], harness := (true, "9025c3647285abde9cf1bba05a12fd0a7c246e2d9fe7c1bd6333eb05a1ec93a2"), looks := true }, kinds := [], alts := [], laidByText := true, laidKinds := [.data, .data, .data, .data, .pinned], laidTests := true, laidLooks := .later }
def GlobEscapedCardSaid : Prop := Claim7.holds Tryz.pinned (.plain (OpenSpec.ofChange globEscapedSpec)) globEscapedCard

/-- THE TIED CARD OF 'scullionlaw16.ExpandQuoted'. -/
def expandQuotedCard : Claim7 := { stood := { row := expandQuotedRow, standIns := [], harness := (true, "9025c3647285abde9cf1bba05a12fd0a7c246e2d9fe7c1bd6333eb05a1ec93a2"), looks := true }, kinds := [], alts := [], laidByText := true, laidKinds := [.data, .data, .data, .data, .sentinel, .sentinel, .pinned], laidTests := true, laidLooks := .later }
def ExpandQuotedCardSaid : Prop := Claim7.holds Tryz.pinned (.plain (OpenSpec.ofChange expandQuotedSpec)) expandQuotedCard

/-- THE TIED CARD OF 'scullionlaw16.ExpandPlain'. -/
def expandPlainCard : Claim7 := { stood := { row := expandPlainRow, standIns := [], harness := (true, "9025c3647285abde9cf1bba05a12fd0a7c246e2d9fe7c1bd6333eb05a1ec93a2"), looks := true }, kinds := [], alts := [], laidByText := true, laidKinds := [.data, .data, .data, .data, .sentinel, .sentinel, .pinned], laidTests := true, laidLooks := .later }
def ExpandPlainCardSaid : Prop := Claim7.holds Tryz.pinned (.plain (OpenSpec.ofChange expandPlainSpec)) expandPlainCard

/-- THE SECOND FORM's CARD OF 'scullionlaw15.GlobEscaped'. -/
def globEscapedUptoCard : Claim7 := { stood := { row := globEscapedUptoRow, standIns := [], harness := (true, "9025c3647285abde9cf1bba05a12fd0a7c246e2d9fe7c1bd6333eb05a1ec93a2"), looks := true }, kinds := [], alts := [], laidByText := true, laidKinds := [.data, .data, .data, .data, .pinned], laidTests := true, laidLooks := .later }
def GlobEscapedUptoCardSaid : Prop := Claim7.holds Tryz.pinned (.plain (OpenSpec.upto globEscapedSpec)) globEscapedUptoCard

/-- THE SECOND FORM's CARD OF 'scullionlaw16.ExpandQuoted'. -/
def expandQuotedUptoCard : Claim7 := { stood := { row := expandQuotedUptoRow, standIns := [], harness := (true, "9025c3647285abde9cf1bba05a12fd0a7c246e2d9fe7c1bd6333eb05a1ec93a2"), looks := true }, kinds := [], alts := [], laidByText := true, laidKinds := [.data, .data, .data, .data, .sentinel, .sentinel, .pinned], laidTests := true, laidLooks := .later }
def ExpandQuotedUptoCardSaid : Prop := Claim7.holds Tryz.pinned (.plain (OpenSpec.upto expandQuotedSpec)) expandQuotedUptoCard

/-- THE SECOND FORM's CARD OF 'scullionlaw16.ExpandPlain'. -/
def expandPlainUptoCard : Claim7 := { stood := { row := expandPlainUptoRow, standIns := [], harness := (true, "9025c3647285abde9cf1bba05a12fd0a7c246e2d9fe7c1bd6333eb05a1ec93a2"), looks := true }, kinds := [], alts := [], laidByText := true, laidKinds := [.data, .data, .data, .data, .sentinel, .sentinel, .pinned], laidTests := true, laidLooks := .later }
def ExpandPlainUptoCardSaid : Prop := Claim7.holds Tryz.pinned (.plain (OpenSpec.upto expandPlainSpec)) expandPlainUptoCard
end Rows
end Go.Proofs.YtlfeacmbhldjcaaGreatDoor
