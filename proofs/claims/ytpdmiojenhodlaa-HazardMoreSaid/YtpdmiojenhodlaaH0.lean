/- Hazards of steps: what the program and the document make of them, on plain lists. -/
import Derived.Test.YtpdmiojenhodlaaTy
set_option linter.unusedVariables false
set_option linter.unusedSimpArgs false
namespace Go.Proofs.Ytpdmiojenhodlaa
open Go Go.Ab

abbrev Str := List UInt8
structure Tch where
  path : Str
  names : Bool
  value : Str
  deriving DecidableEq, Inhabited
structure Stp where
  reads : List Tch
  writes : List Tch
  deriving Inhabited
structure Hz where
  path : Str
  names : Bool
  first : Nat
  second : Nat
  late : Bool
  deriving DecidableEq, Inhabited
def Tch.av (t : Tch) : AV := .agg [.str t.path, .bool t.names, .str t.value]
def Stp.av (s : Stp) : AV := .agg [.list 3 (s.reads.map Tch.av), .list 3 (s.writes.map Tch.av)]
def Hz.av (h : Hz) : AV := .agg [.str h.path, .bool h.names, .int .i64 h.first, .int .i64 h.second, .bool h.late]
theorem hz_eq (x y : Hz) : (x.path == y.path && (x.names == y.names && (((x.first : Int) == (y.first : Int)) && (((x.second : Int) == (y.second : Int)) && x.late == y.late)))) = decide (x = y) := by
  rw [Bool.eq_iff_iff]
  cases x; cases y
  simp [Int.ofNat_inj]
attribute [go_sem] Tch.av Stp.av Hz.av hz_eq

def cmpI (a b : Int) : Int := if a < b then -1 else if b < a then 1 else 0
def cmpS (a b : Str) : Int := if ltS a b then -1 else if a = b then 0 else 1
def orI : List Int → Int
  | [] => 0
  | a :: l => if a = 0 then orI l else a
def b2i (b : Bool) : Int := if b then 1 else 0
def orderF (a b : Hz) : Int := orI [cmpI a.first b.first, cmpI a.second b.second, cmpS a.path b.path, cmpI (b2i a.names) (b2i b.names), cmpI (b2i a.late) (b2i b.late)]

/-- The last place of a byte among the first n. -/
def lastN (s : Str) (b : UInt8) : Nat → Int
  | 0 => -1
  | n + 1 => if s.getD n 0 = b then (n : Int) else lastN s b n
def lastI (s : Str) (b : UInt8) : Int := lastN s b s.length
theorem lastN_lt (s : Str) (b : UInt8) (n : Nat) : -1 ≤ lastN s b n ∧ lastN s b n < n := by
  induction n with
  | zero => simp [lastN]
  | succ n ih => simp only [lastN]; split <;> omega
def aboveF (s : Str) : Str := s.take (lastI s 47).toNat

def aheadF (a b : Hz) : Bool :=
  if a.first ≠ b.first then decide (a.first < b.first)
  else if a.second ≠ b.second then decide (a.second < b.second)
  else if a.path ≠ b.path then ltS a.path b.path
  else if a.names ≠ b.names then b.names
  else !a.late && b.late
def putF : List Hz → Hz → List Hz
  | [], h => [h]
  | x :: l, h => if aheadF x h then x :: putF l h else if x = h then x :: l else h :: x :: l

/-! steps by numbers -/
structure Bt where
  r : Str
  w : Str
  deriving Inhabited
def u8av (b : UInt8) : AV := .int .u8 b.toNat
def Bt.av (b : Bt) : AV := .agg [.list 1 (b.r.map u8av), .list 1 (b.w.map u8av)]
attribute [go_sem] u8av Bt.av
def pls : List Str := [[47, 97], [47, 98], [], [47, 97, 47, 98], [47, 97, 47, 99], [47, 99], [47], [120]]
def tchF (b : UInt8) (names : Bool) : Tch := ⟨pls.getD (b.toNat % 8) [], names && decide (128 ≤ b.toNat), []⟩
def touchesF (l : Str) (names : Bool) : List Tch := (l.take 6).map fun b => tchF b names
def stpF (b : Bt) : Stp := ⟨touchesF b.r true, touchesF b.w false⟩
def madeF (l : List Bt) : List Stp := (l.take 8).map stpF

/-! few and small -/
def addR (n : Nat) : List Tch → Nat
  | [] => n
  | t :: ts => if n ≤ 300 then addR (n + t.path.length) ts else n
def smallN (n : Nat) : List Stp → Bool
  | [] => true
  | s :: l => if 300 < addR (addR (n + 1 + s.reads.length + s.writes.length) s.reads) s.writes then false else smallN (addR (addR (n + 1 + s.reads.length + s.writes.length) s.reads) s.writes) l

/-! steps that touch the same -/
def hitF (r : Tch) (p : Str) : Bool :=
  (!r.names && decide (r.path = p)) || (r.names && decide (r.path.length < p.length) && decide (p.take r.path.length = r.path) && decide (p.getD r.path.length 0 = 47) && !(p.drop (r.path.length + 1)).contains 47) ||
    (r.names && decide (r.path = []) && !p.contains 47)
def clashF (a b : Stp) (two : Bool) : Bool := b.writes.any fun w => a.writes.any (fun v => two && decide (v.path = w.path)) || a.reads.any fun r => hitF r w.path

/-! the document's hazards -/
def refRead (i k : Nat) (w : Tch) (out : List Hz) (r : Tch) : List Hz :=
  if (!r.names && decide (r.path = w.path)) || (r.names && decide (r.path = aboveF w.path)) then putF out ⟨r.path, r.names, i, k, true⟩ else out
def refWrite (i k : Nat) (w : Tch) (out : List Hz) (v : Tch) : List Hz :=
  if v.path = w.path then putF out ⟨w.path, false, i, k, false⟩ else out
def refOne (i k : Nat) (a : Stp) (out : List Hz) (w : Tch) : List Hz :=
  let out := a.reads.foldl (refRead i k w) out
  if i < k then a.writes.foldl (refWrite i k w) out else out
def refTwo (l : List Stp) (i : Nat) (out : List Hz) (k : Nat) : List Hz := (l.getD k default).writes.foldl (refOne i k (l.getD i default)) out
def refRow (l : List Stp) (out : List Hz) (i : Nat) : List Hz := (List.range' i (l.length - i)).foldl (refTwo l i) out
def refF (l : List Stp) : List Hz := (List.range' 0 l.length).foldl (refRow l) []

end Go.Proofs.Ytpdmiojenhodlaa
