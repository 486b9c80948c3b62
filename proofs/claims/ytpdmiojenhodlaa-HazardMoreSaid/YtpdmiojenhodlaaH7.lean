/- The walk's state: facets, rows, what a step notes. -/
import Derived.Test.YtpdmiojenhodlaaH6
import Derived.Test.YtpdmiojenhodlaaFwD
set_option linter.unusedVariables false
set_option linter.unusedSimpArgs false
namespace Go.Proofs.Ytpdmiojenhodlaa
open Go Go.Ab
set_option maxRecDepth 20000
set_option maxHeartbeats 4000000
structure Fct where
  path : Str
  names : Bool
  deriving DecidableEq, Inhabited
def Fct.av (f : Fct) : AV := .agg [.str f.path, .bool f.names]
attribute [go_sem] Fct.av
theorem fct_enc : EncOK Fct.av := by
  intro a b
  obtain ⟨ap, an⟩ := a; obtain ⟨bp, bn⟩ := b
  rw [Bool.eq_iff_iff]; simp [sameK, Fct.av, AV.cells, eqCells, eqS]
theorem hz_enc : EncOK Hz.av := by
  intro a b
  rw [← hz_eq]
  simp [sameK, Hz.av, AV.cells, eqCells, eqS]
/-! what it computes -/
def rowGet (f : Fct) : List (Fct × List Nat) → List Nat
  | [] => []
  | q :: R => if f = q.1 then q.2 else rowGet f R
def rowAdd (f : Fct) (k : Nat) : List (Fct × List Nat) → List (Fct × List Nat)
  | [] => [(f, [k])]
  | q :: R => if f = q.1 then (q.1, q.2 ++ [k]) :: R else q :: rowAdd f k R
def outAdd (O : List Hz) (h : Hz) : List Hz := if h ∈ O then O else O ++ [h]
def noteF (R W : List (Fct × List Nat)) (f : Fct) (k : Nat) (O : List Hz) : List Hz :=
  (rowGet f W).foldl (fun O i => outAdd O ⟨f.path, false, i, k, false⟩) ((rowGet f R).foldl (fun O i => outAdd O ⟨f.path, f.names, i, k, true⟩) O)
structure Sn where
  r : List (Fct × List Nat)
  w : List (Fct × List Nat)
  o : List Hz
def takeF (s : Sn) (x : Stp) (k : Nat) : Sn :=
  let r := x.reads.foldl (fun r t => rowAdd ⟨t.path, t.names⟩ k r) s.r
  ⟨r, x.writes.foldl (fun w t => rowAdd ⟨t.path, false⟩ k w) s.w, x.writes.foldl (fun o t => noteF r s.w ⟨aboveF t.path, true⟩ k (noteF r s.w ⟨t.path, false⟩ k o)) s.o⟩
end Go.Proofs.Ytpdmiojenhodlaa
