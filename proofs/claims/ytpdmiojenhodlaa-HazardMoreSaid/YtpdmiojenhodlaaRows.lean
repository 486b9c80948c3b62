/-
  No cell of these rows narrows 'for every input' (looked for: loops, veiled, ifaces, maps, wideKeys, modest, calm, conditions, laid).
  DERIVED. THE GIVEN ROWS OF THIS SEAT. 4 by the template 'for every input the law returns true; each argument reads behind the call as it read before'; 0 by the template 'total and deterministic' (their statements: YtpdmiojenhodlaaTotals.lean).
  GIVEN WITH THE SEED: the statements are not yours to turn. If you find one false, say at which input.
  Laid BY PROGRAM, IN A SANDBOX (cutbox-rows.mjs): the forced cells as the released guide's own fill.sh prints them over the translation 8442fecf97339c6d… (all of the seat's roots in one cut). By AI agents, Wed Nov 11 2026. No macro, syntax, notation, axiom, sorry.
-/
import Derived.Test.YtpdmiojenhodlaaChecked
import GoSem.Claim
import GoSem.ClaimJoined
import GoSem.ClaimMapViews
import Derived.JoinedTies
import Derived.KernelRfl
namespace Go.Proofs.Ytpdmiojenhodlaa
/- THE CELL 'sum', in the pinned program and in every row, IS THE sha256 OF THE DUMP (.gsa) THAT YtpdmiojenhodlaaProg.lean LOADS. Nothing in Lean hashes anything: it is a label: what it is worth is what the hold of that sum in a sandbox is worth. -/
noncomputable def Try.pinned : Pinned := { name := "ytpdmiojenhodlaa", sum := "8442fecf97339c6d6a91f57048071043cb71f6c3b1ae39be43df12d627270467", checked := Try.checked }
namespace Rows
def none {H : Type} : Left H := { results := [], args := [] }

/-- 'scullionlaw20.HazardAny': WHATEVER THE INPUT: true; the input reads as it did. -/
def hazardAnySpec : ChangeSpec := { name := "hazardAny", fn := fun _ => fun
  | [d] => { results := [.lit (.bool true)], args := [d] }
  | _ => none }
def hazardAnyRow : OpenClaim := { program := "ytpdmiojenhodlaa", sum := "8442fecf97339c6d6a91f57048071043cb71f6c3b1ae39be43df12d627270467", func := "scullion/scullionlaw20.HazardAny", spec := "hazardAny", unfollowed := true, recurses := true, plainKeys := false, apart := false }
def HazardAnySaid : Prop := hazardAnyRow.holds Try.pinned (OpenSpec.ofChange hazardAnySpec)

/-- ITS FALSE NEIGHBOUR: 'it returns false'. Refute it at one input. -/
def hazardAnyWrong : ChangeSpec := { name := "hazardAny", fn := fun _ => fun
  | [d] => { results := [.lit (.bool false)], args := [d] }
  | _ => none }
def HazardAnyWrongFalsely : Prop := hazardAnyRow.holds Try.pinned (OpenSpec.ofChange hazardAnyWrong)

/-- 'scullionlaw20.HazardSmall': WHATEVER THE INPUT: true; the input reads as it did. -/
def hazardSmallSpec : ChangeSpec := { name := "hazardSmall", fn := fun _ => fun
  | [d] => { results := [.lit (.bool true)], args := [d] }
  | _ => none }
def hazardSmallRow : OpenClaim := { program := "ytpdmiojenhodlaa", sum := "8442fecf97339c6d6a91f57048071043cb71f6c3b1ae39be43df12d627270467", func := "scullion/scullionlaw20.HazardSmall", spec := "hazardSmall", unfollowed := true, recurses := true, plainKeys := false, apart := false }
def HazardSmallSaid : Prop := hazardSmallRow.holds Try.pinned (OpenSpec.ofChange hazardSmallSpec)

/-- ITS FALSE NEIGHBOUR: 'it returns false'. Refute it at one input. -/
def hazardSmallWrong : ChangeSpec := { name := "hazardSmall", fn := fun _ => fun
  | [d] => { results := [.lit (.bool false)], args := [d] }
  | _ => none }
def HazardSmallWrongFalsely : Prop := hazardSmallRow.holds Try.pinned (OpenSpec.ofChange hazardSmallWrong)

/-- 'scullionlaw20.HazardMore': WHATEVER THE INPUT: true; the input reads as it did. -/
def hazardMoreSpec : ChangeSpec := { name := "hazardMore", fn := fun _ => fun
  | [d1, d2] => { results := [.lit (.bool true)], args := [d1, d2] }
  | _ => none }
def hazardMoreRow : OpenClaim := { program := "ytpdmiojenhodlaa", sum := "8442fecf97339c6d6a91f57048071043cb71f6c3b1ae39be43df12d627270467", func := "scullion/scullionlaw20.HazardMore", spec := "hazardMore", unfollowed := true, recurses := true, plainKeys := false, apart := false }
def HazardMoreSaid : Prop := hazardMoreRow.holds Try.pinned (OpenSpec.ofChange hazardMoreSpec)

/-- ITS FALSE NEIGHBOUR: 'it returns false'. Refute it at one input. -/
def hazardMoreWrong : ChangeSpec := { name := "hazardMore", fn := fun _ => fun
  | [d1, d2] => { results := [.lit (.bool false)], args := [d1, d2] }
  | _ => none }
def HazardMoreWrongFalsely : Prop := hazardMoreRow.holds Try.pinned (OpenSpec.ofChange hazardMoreWrong)

/-- 'scullionlaw20.HazardFree': WHATEVER THE INPUT: true; the input reads as it did. -/
def hazardFreeSpec : ChangeSpec := { name := "hazardFree", fn := fun _ => fun
  | [d] => { results := [.lit (.bool true)], args := [d] }
  | _ => none }
def hazardFreeRow : OpenClaim := { program := "ytpdmiojenhodlaa", sum := "8442fecf97339c6d6a91f57048071043cb71f6c3b1ae39be43df12d627270467", func := "scullion/scullionlaw20.HazardFree", spec := "hazardFree", unfollowed := true, recurses := true, plainKeys := false, apart := false }
def HazardFreeSaid : Prop := hazardFreeRow.holds Try.pinned (OpenSpec.ofChange hazardFreeSpec)

/-- ITS FALSE NEIGHBOUR: 'it returns false'. Refute it at one input. -/
def hazardFreeWrong : ChangeSpec := { name := "hazardFree", fn := fun _ => fun
  | [d] => { results := [.lit (.bool false)], args := [d] }
  | _ => none }
def HazardFreeWrongFalsely : Prop := hazardFreeRow.holds Try.pinned (OpenSpec.ofChange hazardFreeWrong)

/- THE SECOND FORM. 'bulk': how many values and letters a reading holds, each counted each time it is reached (what is shared counts as often as it is met; a slice's spare places count too). A statement '..UptoSaid' is the law's where the arguments, and the package variables that the reading takes, are together of bulk at most 1048576: NARROWER than '..Said'. Prove '..Said' where nothing that the law and all that it calls make is longer than what came in: it says more and counts as full. Else prove '..UptoSaid'. A law counts once. -/
mutual
def uptoBulk {H : Type} : DataW H → Nat
  | .lit (.string bytes) => bytes.length + 1
  | .lit _ => 1
  | .nil => 1
  | .ptr d => uptoBulk d + 1
  | .slice elems spare => uptoBulkAll elems + uptoBulkAll spare + 1
  | .agg parts => uptoBulkAll parts + 1
  | .iface _ d => uptoBulk d + 1
  | .map entries => uptoBulkEntries entries + 1
  | .held _ => 1
def uptoBulkAll {H : Type} : List (DataW H) → Nat
  | [] => 0
  | d :: r => uptoBulk d + uptoBulkAll r
def uptoBulkEntries {H : Type} : List (Lit × DataW H) → Nat
  | [] => 0
  | x :: r => uptoBulkEntry x + uptoBulkEntries r
def uptoBulkEntry {H : Type} : Lit × DataW H → Nat
  | (.string bytes, d) => bytes.length + uptoBulk d + 1
  | (_, d) => uptoBulk d + 1
 end
def uptoSmall : (H : Type) → List (DataW H) → Bool := fun _ ds => decide (uptoBulkAll ds ≤ 1048576)
def OpenSpec.upto (s : _root_.Go.ChangeSpec) : _root_.Go.OpenSpec := { _root_.Go.OpenSpec.ofChange s with cond := some uptoSmall }

/-- 'scullionlaw20.HazardAny', WHERE WHAT IT READS IS OF BULK AT MOST 1048576: true; the input reads as it did. -/
def hazardAnyUptoRow : OpenClaim := { program := "ytpdmiojenhodlaa", sum := "8442fecf97339c6d6a91f57048071043cb71f6c3b1ae39be43df12d627270467", func := "scullion/scullionlaw20.HazardAny", spec := "hazardAny", unfollowed := true, recurses := true, plainKeys := false, apart := false, narrowed := true }
def HazardAnyUptoSaid : Prop := hazardAnyUptoRow.holds Try.pinned (OpenSpec.upto hazardAnySpec)

/-- 'scullionlaw20.HazardSmall', WHERE WHAT IT READS IS OF BULK AT MOST 1048576: true; the input reads as it did. -/
def hazardSmallUptoRow : OpenClaim := { program := "ytpdmiojenhodlaa", sum := "8442fecf97339c6d6a91f57048071043cb71f6c3b1ae39be43df12d627270467", func := "scullion/scullionlaw20.HazardSmall", spec := "hazardSmall", unfollowed := true, recurses := true, plainKeys := false, apart := false, narrowed := true }
def HazardSmallUptoSaid : Prop := hazardSmallUptoRow.holds Try.pinned (OpenSpec.upto hazardSmallSpec)

/-- 'scullionlaw20.HazardMore', WHERE WHAT IT READS IS OF BULK AT MOST 1048576: true; the input reads as it did. -/
def hazardMoreUptoRow : OpenClaim := { program := "ytpdmiojenhodlaa", sum := "8442fecf97339c6d6a91f57048071043cb71f6c3b1ae39be43df12d627270467", func := "scullion/scullionlaw20.HazardMore", spec := "hazardMore", unfollowed := true, recurses := true, plainKeys := false, apart := false, narrowed := true }
def HazardMoreUptoSaid : Prop := hazardMoreUptoRow.holds Try.pinned (OpenSpec.upto hazardMoreSpec)

/-- 'scullionlaw20.HazardFree', WHERE WHAT IT READS IS OF BULK AT MOST 1048576: true; the input reads as it did. -/
def hazardFreeUptoRow : OpenClaim := { program := "ytpdmiojenhodlaa", sum := "8442fecf97339c6d6a91f57048071043cb71f6c3b1ae39be43df12d627270467", func := "scullion/scullionlaw20.HazardFree", spec := "hazardFree", unfollowed := true, recurses := true, plainKeys := false, apart := false, narrowed := true }
def HazardFreeUptoSaid : Prop := hazardFreeUptoRow.holds Try.pinned (OpenSpec.upto hazardFreeSpec)

end Rows
end Go.Proofs.Ytpdmiojenhodlaa
