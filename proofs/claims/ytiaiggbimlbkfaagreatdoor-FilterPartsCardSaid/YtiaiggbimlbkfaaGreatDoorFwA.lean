/- The framework, first part: abstract values, their relation to the worlds of the model, the triple, regions in the order of the text and in any order. -/
import Derived.OrdersIn
import Derived.Laws.World
import Derived.Laws.Sem
import Derived.Laws.Append
import Derived.Laws.StructEq
import Derived.Laws.Tables
set_option linter.unusedVariables false
set_option linter.unusedSimpArgs false
set_option linter.unusedSectionVars false
/- Abstract values and the relation to the model's worlds: definitions, monotonicity, the triple. -/
namespace Go.Ab

/-- Names of abstract objects: those that came in, and those made by operation i of the region at count c under the name p. -/
inductive Oid where
  | root (n : Nat)
  | sub (c i : Nat) (p : Oid)
  | ty (t : Nat) (p : Oid)
  deriving DecidableEq

/-- Abstract values. -/
inductive AV where
  | undef
  | bool (b : Bool)
  | int (k : IntKind) (n : Int)
  | str (s : List UInt8)
  | nilPtr
  | ptr (id : Oid) (off : Nat)
  | aptr (id : Oid) (sz i off : Nat)
  | eptr (v : AV)
  | nilSl
  | list (sz : Nat) (xs : List AV)
  | sl (id : Oid) (sz len : Nat)
  | nilMap
  | map (id : Oid)
  | fn (f : Fn) (first captured : List AV)
  | nilFn
  | iface (t : TypeId) (v : AV)
  | nilIface
  | agg (cs : List AV)
  | tuple (vs : List AV)
  | iter (id : Oid)

def AV.cells : AV → List AV
  | .agg cs => cs
  | v => [v]

/-- The scalars that a key is made of. -/
inductive TyS where
  | sb
  | si (k : IntKind)
  | ss
  deriving DecidableEq
def fitS : TyS → AV → Bool
  | .sb, .bool _ => true
  | .si k, .int k' _ => k == k'
  | .ss, .str _ => true
  | _, _ => false
def fits : List TyS → List AV → Bool
  | [], [] => true
  | k :: ks, x :: xs => fitS k x && fits ks xs
  | _, _ => false
def AV.isAgg : AV → Bool
  | .agg _ => true
  | _ => false
/-- A key of that shape: one scalar, or a value made of such parts. -/
def keyFits (ks : List TyS) (ag : Bool) (k : AV) : Bool := (k.isAgg == ag) && fits ks k.cells

/-- One entry of an abstract map. -/
structure ME where
  key : AV
  val : AV
  born : Nat

/-- Abstract objects. -/
inductive AObj where
  | cells (vs : List AV)
  | arr (sz : Nat) (xs : List AV)
  | map (ks : List TyS) (ag : Bool) (es : List ME) (clock : Nat)
  | loop (l n : Nat) (fr : List (Nat × AV)) (r : Loop)
  | dfr
  | iter (m : Option Oid) (since : Nat) (seen : List Nat) (last : Nat)
  | siter (s : List UInt8) (pos : Nat)

/-- A row without elements need not lie anywhere. -/
def AObj.void : AObj → Bool
  | .arr _ [] => true
  | _ => false

/-- The ghost: where an object lies (some none: nowhere), which cells hold what for good, how many cells a row has. -/
structure Gh where
  loc : Oid → Option (Option Nat)
  com : Nat → Nat → Option Value
  row : Nat → Option Nat

def Gh.le (g g' : Gh) : Prop := (∀ i b, g.loc i = some b → g'.loc i = some b) ∧ (∀ b o v, g.com b o = some v → g'.com b o = some v) ∧ ∀ b r, g.row b = some r → g'.row b = some r

theorem Gh.le_refl (g : Gh) : g.le g := ⟨fun _ _ h => h, fun _ _ _ h => h, fun _ _ h => h⟩
theorem Gh.le_trans {a b c : Gh} (h : a.le b) (k : b.le c) : a.le c := ⟨fun i x hx => k.1 i x (h.1 i x hx), fun x o v hx => k.2.1 x o v (h.2.1 x o v hx), fun b r hx => k.2.2 b r (h.2.2 b r hx)⟩

/-- The model's value v is what the abstract value says. -/
inductive VR (g : Gh) : AV → Value → Prop
  | unk (v : Value) : VR g .undef v
  | bool (b : Bool) : VR g (.bool b) (.bool b)
  | int (k : IntKind) (n : Int) : VR g (.int k n) (.int k n)
  | str (s : List UInt8) (b : ByteArray) (h : b.data.toList = s) : VR g (.str s) (.string b)
  | nilPtr : VR g .nilPtr (.pointer none)
  | ptr (id : Oid) (off b : Nat) (h : g.loc id = some (some b)) : VR g (.ptr id off) (.pointer (some ⟨b, off, none⟩))
  | aptr (id : Oid) (sz i off b : Nat) (h : g.loc id = some (some b)) : VR g (.aptr id sz i off) (.pointer (some ⟨b, i * sz + off, none⟩))
  | eptr (v : AV) (b o : Nat) (cs : Nat → Value) (hc : ∀ j, j < v.cells.length → g.com b (o + j) = some (cs j)) (hv : ∀ j, j < v.cells.length → VR g (v.cells.getD j .undef) (cs j)) :
      VR g (.eptr v) (.pointer (some ⟨b, o, none⟩))
  | nilSl : VR g .nilSl (.slice none 0 0)
  | list (sz : Nat) (xs : List AV) (b o cap : Nat) (cs : Nat → Nat → Value) (hcap : xs.length ≤ cap) (hlen : ∀ i, i < xs.length → (xs.getD i .undef).cells.length = sz)
      (hc : ∀ i j, i < xs.length → j < sz → g.com b (o + i * sz + j) = some (cs i j)) (hv : ∀ i j, i < xs.length → j < sz → VR g ((xs.getD i .undef).cells.getD j .undef) (cs i j)) :
      VR g (.list sz xs) (.slice (some ⟨b, o, none⟩) xs.length cap)
  | listNil (sz : Nat) : VR g (.list sz []) (.slice none 0 0)
  | listAny (sz : Nat) (a : Addr) (cap : Nat) : VR g (.list sz []) (.slice (some a) 0 cap)
  | sl (id : Oid) (sz len cap b : Nat) (h : g.loc id = some (some b)) (hcap : len ≤ cap) (hr : g.row b = some (cap * sz)) : VR g (.sl id sz len) (.slice (some ⟨b, 0, none⟩) len cap)
  | nilMap : VR g .nilMap (.map none)
  | slNil (id : Oid) (sz : Nat) (h : g.loc id = some none) : VR g (.sl id sz 0) (.slice none 0 0)
  | map (id : Oid) (b : Nat) (h : g.loc id = some (some b)) : VR g (.map id) (.map (some b))
  | fn (f : Fn) (first captured : List AV) (a b : Array Value) (h1 : a.size = first.length) (h2 : b.size = captured.length)
      (hv1 : ∀ j, j < first.length → VR g (first.getD j .undef) (a.getD j undef)) (hv2 : ∀ j, j < captured.length → VR g (captured.getD j .undef) (b.getD j undef)) :
      VR g (.fn f first captured) (.func f a b)
  | nilFn : VR g .nilFn .nilFunc
  | iface (t : TypeId) (v : AV) (x : Value) (h : VR g v x) : VR g (.iface t v) (.iface t x)
  | nilIface : VR g .nilIface .nilIface
  | agg (cs : List AV) (a : Array Value) (h : a.size = cs.length) (hv : ∀ j, j < cs.length → VR g (cs.getD j .undef) (a.getD j undef)) : VR g (.agg cs) (.agg a)
  | tuple (cs : List AV) (a : Array Value) (h : a.size = cs.length) (hv : ∀ j, j < cs.length → VR g (cs.getD j .undef) (a.getD j undef)) : VR g (.tuple cs) (.tuple a)
  | iter (id : Oid) (b : Nat) (h : g.loc id = some (some b)) : VR g (.iter id) (.pointer (some ⟨b, 0, none⟩))

theorem VR.mono {g g' : Gh} (hg : g.le g') {x : AV} {v : Value} (h : VR g x v) : VR g' x v := by
  induction h with
  | unk v => exact .unk v
  | bool b => exact .bool b
  | int k n => exact .int k n
  | str s b h => exact .str s b h
  | nilPtr => exact .nilPtr
  | ptr id off b h => exact .ptr id off b (hg.1 _ _ h)
  | aptr id sz i off b h => exact .aptr id sz i off b (hg.1 _ _ h)
  | eptr v b o cs hc _ ih => exact .eptr v b o cs (fun j hj => hg.2.1 _ _ _ (hc j hj)) ih
  | nilSl => exact .nilSl
  | list sz xs b o cap cs hcap hlen hc _ ih => exact .list sz xs b o cap cs hcap hlen (fun i j hi hj => hg.2.1 _ _ _ (hc i j hi hj)) ih
  | listNil sz => exact .listNil sz
  | listAny sz a cap => exact .listAny sz a cap
  | sl id sz len cap b h hcap hr => exact .sl id sz len cap b (hg.1 _ _ h) hcap (hg.2.2 _ _ hr)
  | slNil id sz h => exact .slNil id sz (hg.1 _ _ h)
  | nilMap => exact .nilMap
  | map id b h => exact .map id b (hg.1 _ _ h)
  | fn f first captured a b h1 h2 _ _ ih1 ih2 => exact .fn f first captured a b h1 h2 ih1 ih2
  | nilFn => exact .nilFn
  | iface t v x _ ih => exact .iface t v x ih
  | nilIface => exact .nilIface
  | agg cs a h _ ih => exact .agg cs a h ih
  | tuple cs a h _ ih => exact .tuple cs a h ih
  | iter id b h => exact .iter id b (hg.1 _ _ h)

theorem VR.bool_inv {g : Gh} {b : Bool} {v : Value} (h : VR g (.bool b) v) : v = .bool b := by cases h; rfl
theorem VR.int_inv {g : Gh} {k : IntKind} {n : Int} {v : Value} (h : VR g (.int k n) v) : v = .int k n := by cases h; rfl
theorem VR.str_inv {g : Gh} {s : List UInt8} {v : Value} (h : VR g (.str s) v) : ∃ b : ByteArray, v = .string b ∧ b.data.toList = s := by cases h; exact ⟨_, rfl, ‹_›⟩
theorem VR.ptr_inv {g : Gh} {id : Oid} {off : Nat} {v : Value} (h : VR g (.ptr id off) v) : ∃ b, v = .pointer (some ⟨b, off, none⟩) ∧ g.loc id = some (some b) := by cases h; exact ⟨_, rfl, ‹_›⟩
theorem VR.aptr_inv {g : Gh} {id : Oid} {sz i off : Nat} {v : Value} (h : VR g (.aptr id sz i off) v) : ∃ b, v = .pointer (some ⟨b, i * sz + off, none⟩) ∧ g.loc id = some (some b) := by cases h; exact ⟨_, rfl, ‹_›⟩
theorem VR.sl_inv' {g : Gh} {id : Oid} {sz len : Nat} {v : Value} (h : VR g (.sl id sz len) v) : (len = 0 ∧ v = .slice none 0 0 ∧ g.loc id = some none) ∨ ∃ b cap, v = .slice (some ⟨b, 0, none⟩) len cap ∧ g.loc id = some (some b) ∧ len ≤ cap ∧ g.row b = some (cap * sz) := by
  cases h with
  | sl id sz len cap b h hcap hr => exact .inr ⟨_, _, rfl, h, hcap, hr⟩
  | slNil id sz h => exact .inl ⟨rfl, rfl, h⟩
theorem VR.map_inv {g : Gh} {id : Oid} {v : Value} (h : VR g (.map id) v) : ∃ b, v = .map (some b) ∧ g.loc id = some (some b) := by cases h; exact ⟨_, rfl, ‹_›⟩
theorem VR.iter_inv {g : Gh} {id : Oid} {v : Value} (h : VR g (.iter id) v) : ∃ b, v = .pointer (some ⟨b, 0, none⟩) ∧ g.loc id = some (some b) := by cases h; exact ⟨_, rfl, ‹_›⟩
theorem VR.nilPtr_inv {g : Gh} {v : Value} (h : VR g .nilPtr v) : v = .pointer none := by cases h; rfl
theorem VR.nilSl_inv {g : Gh} {v : Value} (h : VR g .nilSl v) : v = .slice none 0 0 := by cases h; rfl
theorem VR.nilMap_inv {g : Gh} {v : Value} (h : VR g .nilMap v) : v = .map none := by cases h; rfl
theorem VR.nilFn_inv {g : Gh} {v : Value} (h : VR g .nilFn v) : v = .nilFunc := by cases h; rfl
theorem VR.nilIface_inv {g : Gh} {v : Value} (h : VR g .nilIface v) : v = .nilIface := by cases h; rfl
theorem VR.agg_inv {g : Gh} {cs : List AV} {v : Value} (h : VR g (.agg cs) v) : ∃ a, v = .agg a ∧ a.size = cs.length ∧ ∀ j, j < cs.length → VR g (cs.getD j .undef) (a.getD j undef) := by cases h; exact ⟨_, rfl, ‹_›, ‹_›⟩
theorem VR.tuple_inv {g : Gh} {cs : List AV} {v : Value} (h : VR g (.tuple cs) v) : ∃ a, v = .tuple a ∧ a.size = cs.length ∧ ∀ j, j < cs.length → VR g (cs.getD j .undef) (a.getD j undef) := by cases h; exact ⟨_, rfl, ‹_›, ‹_›⟩
theorem VR.iface_inv {g : Gh} {t : TypeId} {x : AV} {v : Value} (h : VR g (.iface t x) v) : ∃ y, v = .iface t y ∧ VR g x y := by cases h; exact ⟨_, rfl, ‹_›⟩
theorem VR.fn_inv {g : Gh} {f : Fn} {xs ys : List AV} {v : Value} (h : VR g (.fn f xs ys) v) : ∃ a b, v = .func f a b ∧ a.size = xs.length ∧ b.size = ys.length ∧
    (∀ j, j < xs.length → VR g (xs.getD j .undef) (a.getD j undef)) ∧ (∀ j, j < ys.length → VR g (ys.getD j .undef) (b.getD j undef)) := by cases h; exact ⟨_, _, rfl, ‹_›, ‹_›, ‹_›, ‹_›⟩
theorem VR.eptr_inv {g : Gh} {x : AV} {v : Value} (h : VR g (.eptr x) v) : ∃ (b o : Nat) (cs : Nat → Value), v = .pointer (some ⟨b, o, none⟩) ∧ (∀ j, j < x.cells.length → g.com b (o + j) = some (cs j)) ∧
    ∀ j, j < x.cells.length → VR g (x.cells.getD j .undef) (cs j) := by cases h; exact ⟨_, _, _, rfl, ‹_›, ‹_›⟩
theorem VR.list_inv {g : Gh} {sz : Nat} {xs : List AV} {v : Value} (h : VR g (.list sz xs) v) : (xs = [] ∧ (v = .slice none 0 0 ∨ ∃ a cap, v = .slice (some a) 0 cap)) ∨ ∃ (b o cap : Nat) (cs : Nat → Nat → Value), v = .slice (some ⟨b, o, none⟩) xs.length cap ∧ xs.length ≤ cap ∧
    (∀ i, i < xs.length → (xs.getD i .undef).cells.length = sz) ∧ (∀ i j, i < xs.length → j < sz → g.com b (o + i * sz + j) = some (cs i j)) ∧
    ∀ i j, i < xs.length → j < sz → VR g ((xs.getD i .undef).cells.getD j .undef) (cs i j) := by
  cases h with
  | list sz xs b o cap cs hcap hlen hc hv => exact .inr ⟨_, _, _, _, rfl, hcap, hlen, hc, hv⟩
  | listNil => exact .inl ⟨rfl, .inl rfl⟩
  | listAny _ a cap => exact .inl ⟨rfl, .inr ⟨a, cap, rfl⟩⟩

/-- Lists of values, place by place. -/
def VRs (g : Gh) (xs : List AV) (vs : Array Value) : Prop := vs.size = xs.length ∧ ∀ j, j < xs.length → VR g (xs.getD j .undef) (vs.getD j undef)
theorem VRs.mono {g g' : Gh} (hg : g.le g') {xs : List AV} {vs : Array Value} (h : VRs g xs vs) : VRs g' xs vs := ⟨h.1, fun j hj => (h.2 j hj).mono hg⟩

def F (l : List (Nat × AV)) (t : Nat) : AV :=
  match l with
  | [] => .undef
  | q :: r => if t = q.1 then q.2 else F r t

/-- The entries of a map, one by one. -/
inductive MERs (g : Gh) : List ME → List MapEntry → Prop
  | nil : MERs g [] []
  | cons {e : ME} {c : MapEntry} {es : List ME} {cs : List MapEntry} (hk : VR g e.key c.key) (hv : VR g e.val c.val) (hb : c.born = e.born) (t : MERs g es cs) : MERs g (e :: es) (c :: cs)
theorem MERs.mono {g g' : Gh} (hg : g.le g') {es : List ME} {cs : List MapEntry} (h : MERs g es cs) : MERs g' es cs := by
  induction h with
  | nil => exact .nil
  | cons hk hv hb _ ih => exact .cons (hk.mono hg) (hv.mono hg) hb ih
theorem MERs.length {g : Gh} {es : List ME} {cs : List MapEntry} (h : MERs g es cs) : cs.length = es.length := by
  induction h with
  | nil => rfl
  | cons _ _ _ _ ih => simp [ih]

/-- What block b of the world holds for an object. -/
def ObjAt (g : Gh) (w : World) (b : Nat) : AObj → Prop
  | .cells vs => ∃ c t fz, w.heap[b]? = some (.cells c t fz) ∧ c.size = vs.length ∧ (∀ j, j < c.size → ¬ (fz.1 ≤ j ∧ j < fz.2)) ∧ ∀ j, j < vs.length → VR g (vs.getD j .undef) (c.getD j undef)
  | .arr sz xs => ∃ c t fz, w.heap[b]? = some (.cells c t fz) ∧ xs.length * sz ≤ c.size ∧ (∀ j, j < c.size → ¬ (fz.1 ≤ j ∧ j < fz.2)) ∧
      (∀ i, i < xs.length → (xs.getD i .undef).cells.length = sz) ∧ (∀ j, j < xs.length * sz → (c.getD j undef).oneCell' = true) ∧
      ∀ i j, i < xs.length → j < sz → VR g ((xs.getD i .undef).cells.getD j .undef) (c.getD (i * sz + j) undef)
  | .map ks ag es clock => (∃ ents, w.heap[b]? = some (.map ents clock) ∧ MERs g es ents.toList) ∧
      (∀ e ∈ es, keyFits ks ag e.key = true ∧ e.born < clock) ∧ es.Pairwise (fun e e' => e.born < e'.born)
  | .loop l n fr r => b = l ∧ w.heap[b]? = some (.loop r) ∧ r.tmps.size = n ∧ ∀ t, t < n → VR g (F fr t) (r.tmps.getD t undef)
  | .dfr => w.heap[b]? = some (.deferred (some []))
  | .iter m since seen last => ∃ r sa, w.heap[b]? = some (.mapIter r since sa last) ∧ sa.toList = seen ∧ (match m with | none => r = none | some id => ∃ k, g.loc id = some (some k) ∧ r = some k)
  | .siter s pos => ∃ ba : ByteArray, w.heap[b]? = some (.stringIter ba pos) ∧ ba.data.toList = s

theorem ObjAt.mono {g g' : Gh} (hg : g.le g') {w : World} {b : Nat} {o : AObj} (h : ObjAt g w b o) : ObjAt g' w b o := by
  cases o with
  | cells vs => obtain ⟨c, t, fz, h1, h2, h3, h4⟩ := h; exact ⟨c, t, fz, h1, h2, h3, fun j hj => (h4 j hj).mono hg⟩
  | arr sz xs => obtain ⟨c, t, fz, h1, h2, h3, h4, h6, h5⟩ := h; exact ⟨c, t, fz, h1, h2, h3, h4, h6, fun i j hi hj => (h5 i j hi hj).mono hg⟩
  | map ks ag es clock => obtain ⟨⟨ents, h1, h2⟩, h4⟩ := h; exact ⟨⟨ents, h1, h2.mono hg⟩, h4⟩
  | loop l n fr r => obtain ⟨h1, h2, h3, h4⟩ := h; exact ⟨h1, h2, h3, fun t ht => (h4 t ht).mono hg⟩
  | dfr => exact h
  | iter m since seen last =>
    obtain ⟨r, sa, h1, h2, h3⟩ := h
    refine ⟨r, sa, h1, h2, ?_⟩
    cases m with
    | none => exact h3
    | some id => obtain ⟨k, hk, hr⟩ := h3; exact ⟨k, hg.1 _ _ hk, hr⟩
  | siter s pos => exact h

/-- An object hangs on its block alone. -/
theorem ObjAt.block {g : Gh} {w w' : World} {b : Nat} {o : AObj} (hb : w'.heap[b]? = w.heap[b]?) (h : ObjAt g w b o) : ObjAt g w' b o := by
  cases o <;> simpa only [ObjAt, hb] using h

theorem ObjAt.lt {g : Gh} {w : World} {b : Nat} {o : AObj} (h : ObjAt g w b o) : b < w.heap.size := by
  have : w.heap[b]? ≠ none := by
    cases o with
    | cells vs => obtain ⟨c, t, fz, h1, _⟩ := h; simp [h1]
    | arr sz xs => obtain ⟨c, t, fz, h1, _⟩ := h; simp [h1]
    | map ks ag es clock => obtain ⟨⟨ents, h1, _⟩, _⟩ := h; simp [h1]
    | loop l n fr r => obtain ⟨_, h1, _⟩ := h; simp [h1]
    | dfr => have h1 : w.heap[b]? = some (.deferred (some [])) := h; simp [h1]
    | iter m since seen last => obtain ⟨r, sa, h1, _⟩ := h; simp [h1]
    | siter s pos => obtain ⟨ba, h1, _⟩ := h; simp [h1]
  rcases Nat.lt_or_ge b w.heap.size with h' | h'
  · exact h'
  · simp [Array.getElem?_eq_none h'] at this

/-- The abstract memory. -/
abbrev Mem := Oid → Option AObj
def Mem.emp : Mem := fun _ => none
def Mem.set (m : Mem) (id : Oid) (o : Option AObj) : Mem := fun x => if x = id then o else m x
def Mem.upds (m : Mem) : List (Oid × Option AObj) → Mem
  | [] => m
  | q :: l => (m.set q.1 q.2).upds l
def Mem.of : List (Oid × AObj) → Mem
  | [] => Mem.emp
  | q :: l => (Mem.of l).set q.1 (some q.2)

/-- The name x is p's own or was made under it. -/
def Oid.under (p : Oid) : Oid → Prop
  | .root n => p = .root n
  | .sub c i q => p = .sub c i q ∨ Oid.under p q
  | .ty t q => p = .ty t q ∨ Oid.under p q
/-- A name that tells its block's type. -/
def Oid.tyd : Oid → Option Nat
  | .ty t _ => some t
  | _ => none

/-- What will be made under p from count c on. -/
def Young (p : Oid) (c : Nat) (x : Oid) : Prop := ∃ c' i, c ≤ c' ∧ Oid.under (.sub c' i p) x

/-- A name under which each run is told how often the tape was asked: at least as often behind it as ahead of it. -/
def Oid.mono : Oid → Bool
  | .root _ => false
  | .sub _ i q => i == 999983 || q.mono
  | .ty _ q => q.mono
theorem Oid.mono_root (n : Nat) : (Oid.root n).mono = false := rfl
theorem Oid.mono_sub (c i : Nat) (p : Oid) : (Oid.sub c i p).mono = (i == 999983 || p.mono) := rfl
theorem Oid.mono_ty (t : Nat) (p : Oid) : (Oid.ty t p).mono = p.mono := rfl
theorem Oid.mono_under {p q : Oid} (h : Oid.under p q) (hm : p.mono = true) : q.mono = true := by
  induction q with
  | root n => simp only [Oid.under] at h; rw [← h]; exact hm
  | sub c i q ih =>
    simp only [Oid.under] at h
    rcases h with h | h
    · rw [← h]; exact hm
    · rw [Oid.mono_sub, ih h, Bool.or_true]
  | ty t q ih =>
    simp only [Oid.under] at h
    rcases h with h | h
    · rw [← h]; exact hm
    · rw [Oid.mono_ty, ih h]

theorem Oid.under_refl (p : Oid) : Oid.under p p := by cases p <;> simp [Oid.under]
theorem Oid.under_sub {c i : Nat} {p x : Oid} (h : Oid.under (.sub c i p) x) : Oid.under p x := by
  induction x with
  | root n => simp [Oid.under] at h
  | sub c' i' q ih =>
    simp only [Oid.under] at h ⊢
    rcases h with h | h
    · injection h with _ _ h; subst h; exact .inr (Oid.under_refl _)
    · exact .inr (ih h)
  | ty t q ih =>
    simp only [Oid.under] at h ⊢
    rcases h with h | h
    · cases h
    · exact .inr (ih h)
theorem Oid.under_ty (t : Nat) (p : Oid) : Oid.under p (.ty t p) := .inr (Oid.under_refl p)
theorem Young.under {p : Oid} {c : Nat} {x : Oid} (h : Young p c x) : Oid.under p x := let ⟨_, _, _, h⟩ := h; Oid.under_sub h
theorem Young.mono {p : Oid} {c c' : Nat} {x : Oid} (hc : c ≤ c') (h : Young p c' x) : Young p c x := let ⟨k, i, hk, h⟩ := h; ⟨k, i, Nat.le_trans hc hk, h⟩

/-- What stays fixed while a body runs: the program's number of variables, the ghost and the world at the beginning, which old blocks may be written, under which name its own objects are made, and in which round it runs. -/
structure Ctx where
  ng : Nat
  g0 : Gh
  w0 : World
  may0 : Nat → Prop
  p : Oid
  rd : Option Nat

/-- What is told of a program's variables for as long as it runs: facts on the cells that are for good. -/
class Laid (P : Program) where
  facts : Gh → Prop
  mono : ∀ {g g' : Gh}, g.le g' → facts g → facts g'
def Fit (P : Program) [Laid P] (x : Ctx) : Prop := P.globals.size ≤ x.ng ∧ Laid.facts P x.g0
theorem Fit.inner {P : Program} [Laid P] {x y : Ctx} (h : Fit P x) (hn : y.ng = x.ng) (hg : x.g0.le y.g0) : Fit P y := ⟨by rw [hn]; exact h.1, Laid.mono hg h.2⟩

/-- The fence that lets everything in; 'rd': the round of a range over a function in which the body runs. -/
def Fc (rd : Option Nat) : Fence := { fn := fun _ => True, depth := none, alive := false, round := rd }

def Ctx.may (x : Ctx) (b : Nat) : Prop := x.may0 b ∨ x.w0.heap.size ≤ b

structure MemRel (x : Ctx) (g : Gh) (m : Mem) (w : World) : Prop where
  le : x.g0.le g
  locs : ∀ i, ¬ Oid.under x.p i → g.loc i = x.g0.loc i
  glob : ∀ k, k < x.ng → g.loc (.root k) = some (some k)
  coms : ∀ b o v, g.com b o = some v → x.g0.com b o = some v ∨ x.may b
  obj0 : ∀ i o, m i = some o → (o.void = true ∧ g.loc i = some none) ∨ ∃ b, g.loc i = some (some b) ∧ (∀ k, g.com b k = none) ∧ x.may b ∧ ObjAt g w b o
  inj : ∀ i j o o' b, m i = some o → m j = some o' → g.loc i = some (some b) → g.loc j = some (some b) → i = j
  com : ∀ b o v, g.com b o = some v → w.cell? ⟨b, o, none⟩ = some v
  one : ∀ b o v, g.com b o = some v → v.oneCell' = true
  rows : ∀ b r, g.row b = some r → ∃ c t fz, w.heap[b]? = some (.cells c t fz) ∧ c.size = r
  os : w.os = x.w0.os
  tape : w.tape = x.w0.tape
  output : w.output = x.w0.output ∧ (x.p.mono = true → x.w0.drawn ≤ w.drawn)
  size : x.w0.heap.size ≤ w.heap.size
  kept : ∀ b, b < x.w0.heap.size → ¬ x.may0 b → w.heap[b]? = x.w0.heap[b]?
  typs : ∀ t q b, g.loc (.ty t q) = some (some b) → ∃ c fz, w.heap[b]? = some (.cells c t fz)

theorem MemRel.obj {x : Ctx} {g : Gh} {m : Mem} {w : World} (h : MemRel x g m w) (i : Oid) (o : AObj) (hi : m i = some o) (hv : o.void = false := by rfl) : ∃ b, g.loc i = some (some b) ∧ (∀ k, g.com b k = none) ∧ x.may b ∧ ObjAt g w b o :=
  (h.obj0 i o hi).resolve_left fun hh => by rw [hv] at hh; cases hh.1
theorem MemRel.objL {x : Ctx} {g : Gh} {m : Mem} {w : World} (h : MemRel x g m w) {i : Oid} {o : AObj} (hi : m i = some o) {b0 : Nat} (hb : g.loc i = some (some b0)) : ∃ b, g.loc i = some (some b) ∧ (∀ k, g.com b k = none) ∧ x.may b ∧ ObjAt g w b o :=
  (h.obj0 i o hi).resolve_left fun hv => by rw [hb] at hv; cases hv.2
theorem MemRel.taken {x : Ctx} {g : Gh} {m : Mem} {w : World} (h : MemRel x g m w) {i : Oid} {o : AObj} (hi : m i = some o) : g.loc i ≠ none := by
  rcases h.obj0 i o hi with ⟨_, h⟩ | ⟨b, h, _⟩ <;> simp [h]

/-- Deferred calls. -/
inductive AD where
  | coll (id : Oid)
  | call (f : Fn) (cap args : List AV)
inductive DR (g : Gh) : AD → Deferred → Prop
  | coll (id : Oid) (b : Nat) (h : g.loc id = some (some b)) : DR g (.coll id) ⟨.collected b, #[]⟩
  | call (f : Fn) (cap args : List AV) (c a : Array Value) (h1 : VRs g cap c) (h2 : VRs g args a) : DR g (.call f cap args) ⟨.fn f c, a⟩
theorem DR.mono {g g' : Gh} (hg : g.le g') {a : AD} {d : Deferred} (h : DR g a d) : DR g' a d := by
  cases h with
  | coll id b h => exact .coll id b (hg.1 _ _ h)
  | call f cap args c a h1 h2 => exact .call f cap args c a (h1.mono hg) (h2.mono hg)
inductive DRs (g : Gh) : List AD → List Deferred → Prop
  | nil : DRs g [] []
  | cons {a : AD} {d : Deferred} {l : List AD} {l' : List Deferred} (h : DR g a d) (t : DRs g l l') : DRs g (a :: l) (d :: l')
theorem DRs.mono {g g' : Gh} (hg : g.le g') {a : List AD} {d : List Deferred} (h : DRs g a d) : DRs g' a d := by
  induction h with
  | nil => exact .nil
  | cons h _ ih => exact .cons (h.mono hg) ih
theorem DRs.nil_inv {g : Gh} {d : List Deferred} (h : DRs g [] d) : d = [] := by cases h; rfl

/-- The abstract state of a running body. -/
structure AS where
  fr : List (Nat × AV)
  mem : Mem
  c : Nat
  ds : List AD

def put (d : Option Nat) (v : AV) (l : List (Nat × AV)) : List (Nat × AV) :=
  match d with
  | some d => (d, v) :: l
  | none => l

structure Rel (x : Ctx) (n : Nat) (g : Gh) (s : AS) (a : Act) (w : World) : Prop where
  mr : MemRel x g s.mem w
  tm : a.tmps.size = n
  df : DRs g s.ds a.defers
  fr : ∀ t, t < n → VR g (F s.fr t) (a.tmps.getD t undef)
  young : ∀ i, Young x.p s.c i → g.loc i = none

/-- Abstract exits. -/
inductive AX where
  | normal
  | exit (id : Nat)
  | ret
  | panic (v : AV)

def AX.fits (g : Gh) : AX → Exit → Prop
  | .normal, .normal => True
  | .exit i, .exit j => i = j
  | .ret, .ret => True
  | .panic v, .panic [e] => VR g v e.v ∧ e.recovered = false ∧ e.goexit = false
  | _, _ => False

/-- The triple: from every world that fits the state, the code comes to an exit and a state of Q. -/
def T (P : Program) (x : Ctx) (n : Nat) (c : Code) (s : AS) (Q : AX → AS → Prop) : Prop :=
  ∀ g a w, Rel x n g s a w → c.wpIn (Fc x.rd) 0 P (fun e a' w' => ∃ g' ex s', Rel x n g' s' a' w' ∧ ex.fits g' e ∧ Q ex s') a w

end Go.Ab

/- The triple's rules for the code's shapes. -/
namespace Go.Ab
section
variable {P : Program} [Laid P] {x : Ctx} {n : Nat} {s : AS} {Q : AX → AS → Prop}

omit [Laid P] in
theorem T_mono {c : Code} {Q' : AX → AS → Prop} (h : T P x n c s Q) (hq : ∀ e s, Q e s → Q' e s) : T P x n c s Q' :=
  fun g a w hr => wpIn_mono (h g a w hr) fun _ _ _ ⟨g', ex, s', h1, h2, h3⟩ => ⟨g', ex, s', h1, h2, hq _ _ h3⟩

omit [Laid P] in
theorem T_skip (h : Q .normal s) : T P x n .skip s Q := fun g _ _ hr => wpIn_skip ⟨g, .normal, s, hr, trivial, h⟩
omit [Laid P] in
theorem T_exit {id : Nat} (h : Q (.exit id) s) : T P x n (.exit id) s Q := fun g _ _ hr => wpIn_exit ⟨g, .exit id, s, hr, rfl, h⟩
omit [Laid P] in
theorem T_ret (h : Q .ret s) : T P x n .ret s Q := fun g _ _ hr => wpIn_ret ⟨g, .ret, s, hr, trivial, h⟩

/-- What follows where the first part ends as usual; else its exit. -/
def Then (k : AS → Prop) (Q : AX → AS → Prop) : AX → AS → Prop
  | .normal, s => k s
  | e, s => Q e s

omit [Laid P] in
theorem T_seq {c d : Code} (h : T P x n c s (Then (fun s' => T P x n d s' Q) Q)) : T P x n (.seq c d) s Q := by
  intro g a w hr
  refine wpIn_seq (wpIn_mono (h g a w hr) fun e a' w' ⟨g', ex, s', h1, h2, h3⟩ => ?_)
  cases ex with
  | normal => cases e <;> simp only [AX.fits] at h2; exact h3 g' a' w' h1
  | exit i => cases e <;> simp only [AX.fits] at h2; exact ⟨g', .exit i, s', h1, h2, h3⟩
  | ret => cases e <;> simp only [AX.fits] at h2; exact ⟨g', .ret, s', h1, trivial, h3⟩
  | panic v => cases e <;> simp only [AX.fits] at h2; exact ⟨g', .panic v, s', h1, h2, h3⟩

omit [Laid P] in
theorem T_cond {t : Operand} {c d : Code} {b : Bool} (v : AV) (hv : (match t with | .tmp i => if i < n then F s.fr i else .undef | .const (.bool b) => .bool b | _ => .undef) = v) (hb : v = .bool b)
    (h : T P x n (if b then c else d) s Q) : T P x n (.cond t c d) s Q := by
  intro g a w hr
  refine wpIn_cond (t := b) ?_ (h g a w hr)
  subst hb
  cases t with
  | tmp i =>
    simp only at hv
    split at hv
    · rename_i hi
      have := hr.fr i hi
      rw [hv] at this
      exact this.bool_inv
    · cases hv
  | const u => cases u <;> simp at hv; subst hv; rfl
  | global g => cases hv
  | func f => cases hv

def AX.inBlock (id : Nat) (Q : AX → AS → Prop) : AX → AS → Prop
  | .exit i, s => if i = id then Q .normal s else Q (.exit i) s
  | e, s => Q e s

omit [Laid P] in
theorem T_block {id : Nat} {c : Code} (h : T P x n c s (AX.inBlock id Q)) : T P x n (.block id c) s Q := by
  intro g a w hr
  refine wpIn_block (wpIn_mono (h g a w hr) fun e a' w' ⟨g', ex, s', h1, h2, h3⟩ => ?_)
  cases ex with
  | normal => cases e <;> simp only [AX.fits] at h2; exact ⟨g', .normal, s', h1, trivial, h3⟩
  | exit i =>
    cases e <;> simp only [AX.fits] at h2
    subst h2
    simp only [Exit.inBlock, AX.inBlock] at h3 ⊢
    split
    · rename_i hi; simp only [hi, if_true] at h3; exact ⟨g', .normal, s', h1, trivial, h3⟩
    · rename_i hi; simp only [hi, if_false] at h3; exact ⟨g', .exit i, s', h1, rfl, h3⟩
  | ret => cases e <;> simp only [AX.fits] at h2; exact ⟨g', .ret, s', h1, trivial, h3⟩
  | panic v => cases e <;> simp only [AX.fits] at h2; exact ⟨g', .panic v, s', h1, h2, h3⟩

theorem least (p : Nat → Prop) (h : ∃ k, p k) : ∃ k, p k ∧ ∀ j, p j → k ≤ j := by
  obtain ⟨k, hk⟩ := h
  induction k using Nat.strongRecOn with
  | _ k ih =>
    by_cases h : ∃ j, j < k ∧ p j
    · obtain ⟨j, hj, hp⟩ := h; exact ih j hj hp
    · exact ⟨k, hk, fun j hj => by
        rcases Nat.lt_or_ge j k with h' | h'
        · exact absurd ⟨j, h', hj⟩ h
        · exact h'⟩

omit [Laid P] in
/-- A loop: an invariant, a measure that every round lowers. -/
theorem T_loop {c : Code} (I : Nat → AS → Prop) (k : Nat) (h0 : I k s)
    (round : ∀ k s, I k s → T P x n c s (Then (fun s' => ∃ k', k' < k ∧ I k' s') Q)) : T P x n (.loop c) s Q := by
  intro g a w hr
  let J : Act → World → Nat → Prop := fun a w k => ∃ g s, Rel x n g s a w ∧ I k s
  have hm : ∀ a w, ∃ k, (∃ k, J a w k) → (J a w k ∧ ∀ j, J a w j → k ≤ j) := fun a w => by
    by_cases h : ∃ k, J a w k
    · obtain ⟨k, hk⟩ := least (J a w) h; exact ⟨k, fun _ => hk⟩
    · exact ⟨0, fun h' => absurd h' h⟩
  refine wpIn_loop (fun a w => ∃ k, J a w k) (fun a w => Classical.choose (hm a w)) ⟨k, g, s, hr, h0⟩ ?_
  intro a w hI
  have hk := Classical.choose_spec (hm a w) hI
  revert hk
  generalize Classical.choose (hm a w) = k
  rintro ⟨⟨g, s, hr, hi⟩, _⟩
  refine wpIn_mono (round k s hi g a w hr) fun e a' w' ⟨g', ex, s', h1, h2, h3⟩ => ?_
  cases ex with
  | normal =>
    cases e <;> simp only [AX.fits] at h2
    obtain ⟨k', hlt, hi'⟩ := h3
    have hJ : J a' w' k' := ⟨g', s', h1, hi'⟩
    exact ⟨⟨k', hJ⟩, Nat.lt_of_le_of_lt ((Classical.choose_spec (hm a' w') ⟨k', hJ⟩).2 k' hJ) hlt⟩
  | exit i => cases e <;> simp only [AX.fits] at h2; exact ⟨g', .exit i, s', h1, h2, h3⟩
  | ret => cases e <;> simp only [AX.fits] at h2; exact ⟨g', .ret, s', h1, trivial, h3⟩
  | panic v => cases e <;> simp only [AX.fits] at h2; exact ⟨g', .panic v, s', h1, h2, h3⟩

omit [Laid P] in
/-- A step of the ghost alone: what holds of the state holds of another view of it. -/
theorem T_ghost {c : Code} (s' : AS) (hg : ∀ g a w, Rel x n g s a w → ∃ g', Rel x n g' s' a w) (h : T P x n c s' Q) : T P x n c s Q :=
  fun g a w hr => let ⟨g', hr'⟩ := hg g a w hr; h g' a w hr'

/-- Slots are forgotten. -/
theorem Rel.forget {g : Gh} {a : Act} {w : World} (hr : Rel x n g s a w) (fr : List (Nat × AV)) (h : ∀ t, t < n → F fr t = .undef ∨ F fr t = F s.fr t) : Rel x n g { s with fr := fr } a w :=
  ⟨hr.mr, hr.tm, hr.df, fun t ht => by rcases h t ht with h | h <;> simp only [h]; exact .unk _; exact hr.fr t ht, hr.young⟩

/-- Objects are forgotten. -/
theorem MemRel.drop {g : Gh} {m m' : Mem} {w : World} (hr : MemRel x g m w) (h : ∀ i o, m' i = some o → m i = some o) : MemRel x g m' w :=
  ⟨hr.le, hr.locs, hr.glob, hr.coms, fun i o hi => hr.obj0 i o (h i o hi), fun i j o o' b hi hj => hr.inj i j o o' b (h _ _ hi) (h _ _ hj), hr.com, hr.one, hr.rows, hr.os, hr.tape, hr.output, hr.size, hr.kept, hr.typs⟩
theorem Rel.drop {g : Gh} {a : Act} {w : World} (hr : Rel x n g s a w) (m : Mem) (h : ∀ i o, m i = some o → s.mem i = some o) : Rel x n g { s with mem := m } a w :=
  ⟨hr.mr.drop h, hr.tm, hr.df, hr.fr, hr.young⟩
theorem Rel.later {g : Gh} {a : Act} {w : World} (hr : Rel x n g s a w) {c : Nat} (h : s.c ≤ c) : Rel x n g { s with c := c } a w :=
  ⟨hr.mr, hr.tm, hr.df, hr.fr, fun i hi => hr.young i (hi.mono h)⟩

omit [Laid P] in
theorem T_forget {c : Code} (fr : List (Nat × AV)) (h : ∀ t, t < n → F fr t = .undef ∨ F fr t = F s.fr t) (hT : T P x n c { s with fr := fr } Q) : T P x n c s Q :=
  T_ghost _ (fun g _ _ hr => ⟨g, hr.forget fr h⟩) hT
omit [Laid P] in
theorem T_drop {c : Code} (m : Mem) (h : ∀ i o, m i = some o → s.mem i = some o) (hT : T P x n c { s with mem := m } Q) : T P x n c s Q :=
  T_ghost _ (fun g _ _ hr => ⟨g, hr.drop m h⟩) hT
end
end Go.Ab

/- One operation's effect; a region in the order of the text; a region that draws its order. -/
namespace Go.Ab

theorem Oid.under_trans {a b x : Oid} (h : Oid.under a b) (k : Oid.under b x) : Oid.under a x := by
  induction x with
  | root n => simp only [Oid.under] at k; subst k; exact h
  | sub c i q ih =>
    simp only [Oid.under] at k ⊢
    rcases k with k | k
    · subst k; simpa only [Oid.under] using h
    · exact .inr (ih k)
  | ty t q ih =>
    simp only [Oid.under] at k ⊢
    rcases k with k | k
    · subst k; simpa only [Oid.under] using h
    · exact .inr (ih k)
def Oid.depth : Oid → Nat
  | .root _ => 0
  | .sub _ _ p => p.depth + 1
  | .ty _ p => p.depth + 1
theorem Oid.under_depth {a x : Oid} (h : Oid.under a x) : a.depth ≤ x.depth := by
  induction x with
  | root n => simp only [Oid.under] at h; subst h; exact Nat.le_refl _
  | sub c i q ih =>
    simp only [Oid.under] at h
    rcases h with h | h
    · subst h; exact Nat.le_refl _
    · exact Nat.le_succ_of_le (ih h)
  | ty t q ih =>
    simp only [Oid.under] at h
    rcases h with h | h
    · subst h; exact Nat.le_refl _
    · exact Nat.le_succ_of_le (ih h)
theorem Oid.under_eq {a b x : Oid} (h : Oid.under a x) (k : Oid.under b x) (hd : a.depth = b.depth) : a = b := by
  induction x with
  | root n => simp only [Oid.under] at h k; rw [h, k]
  | sub c i q ih =>
    simp only [Oid.under] at h k
    rcases h with h | h <;> rcases k with k | k
    · rw [h, k]
    · have := Oid.under_depth k; rw [h] at hd; simp only [Oid.depth] at hd; omega
    · have := Oid.under_depth h; rw [k] at hd; simp only [Oid.depth] at hd; omega
    · exact ih h k
  | ty t q ih =>
    simp only [Oid.under] at h k
    rcases h with h | h <;> rcases k with k | k
    · rw [h, k]
    · have := Oid.under_depth k; rw [h] at hd; simp only [Oid.depth] at hd; omega
    · have := Oid.under_depth h; rw [k] at hd; simp only [Oid.depth] at hd; omega
    · exact ih h k
theorem Oid.apart {p x : Oid} {c i c' i' : Nat} (h : Oid.under (.sub c i p) x) (k : Oid.under (.sub c' i' p) x) : c = c' ∧ i = i' := by
  have := Oid.under_eq h k rfl
  injection this with h1 h2; exact ⟨h1, h2⟩

/-- An operation's effect: what it finds in memory, its value, what becomes of memory. -/
structure Eff where
  need : List (Oid × AObj)
  val : AV
  upd : List (Oid × Option AObj)

/-- Constants. -/
def constS : Value → AV
  | .bool b => .bool b
  | .int k n => .int k n
  | .string s => .str s.data.toList
  | .pointer none => .nilPtr
  | .slice none 0 0 => .nilSl
  | .map none => .nilMap
  | .nilFunc => .nilFn
  | .nilIface => .nilIface
  | _ => .undef
def constA : Value → AV
  | .agg cs => .agg (cs.toList.map constS)
  | .tuple cs => .tuple (cs.toList.map constS)
  | .iface t v => .iface t (constS v)
  | v => constS v
theorem constS_vr (g : Gh) (v : Value) : VR g (constS v) v := by
  unfold constS
  split
  · exact .bool _
  · exact .int _ _
  · exact .str _ _ rfl
  · exact .nilPtr
  · exact .nilSl
  · exact .nilMap
  · exact .nilFn
  · exact .nilIface
  · exact .unk _
theorem constA_vr (g : Gh) (v : Value) : VR g (constA v) v := by
  unfold constA
  split
  · refine .agg _ _ (by simp) fun j hj => ?_
    simp only [List.length_map, Array.length_toList] at hj
    simp only [List.getD_eq_getElem?_getD, List.getElem?_map, Array.getElem?_toList, Array.getElem?_eq_getElem hj, Option.map_some, Option.getD_some, Array.getD_eq_getD_getElem?]
    exact constS_vr g _
  · refine .tuple _ _ (by simp) fun j hj => ?_
    simp only [List.length_map, Array.length_toList] at hj
    simp only [List.getD_eq_getElem?_getD, List.getElem?_map, Array.getElem?_toList, Array.getElem?_eq_getElem hj, Option.map_some, Option.getD_some, Array.getD_eq_getD_getElem?]
    exact constS_vr g _
  · exact .iface _ _ _ (constS_vr g _)
  · exact constS_vr g _

def evF (f : Nat → AV) : Operand → AV
  | .tmp t => f t
  | .const v => constA v
  | .global k => .ptr (.root k) 0
  | .func f => .fn (.func f) [] []
def evA (fr : List (Nat × AV)) (t : Operand) : AV := evF (F fr) t

/-- The operation, at operands of these values, has this effect; what it makes bears names of 'sp'. -/
def EffOK (P : Program) [Laid P] (o : Oper) (ρ : Operand → AV) (sp : Oid → Prop) (e : Eff) : Prop :=
  ∀ (x : Ctx) (g : Gh) (a : Act) (w : World) (m : Mem), MemRel x g m w → (∀ q, q ∈ e.need → m q.1 = some q.2) →
    (∀ t, t ∈ o.op.operands.toList → VR g (ρ t) (a.eval t)) → (∀ i, sp i → g.loc i = none ∧ Oid.under x.p i) → (Fit P x) →
    ∀ (next : Act → World → Prop) (Q : Exit → Act → World → Prop),
      (∀ g' v w', g.le g' → (∀ i, ¬ sp i → g'.loc i = g.loc i) → VR g' e.val v → MemRel x g' (m.upds e.upd) w' → next (a.put o.dst v) w') →
      o.wpIn (Fc x.rd) 0 P a w next Q

/-- Is the operation carried out? none: that is not known. -/
def wantA (ops : Array Oper) (o : Oper) (f : Nat → AV) : Option Bool :=
  match o.guard with
  | none => some true
  | some (j, want) =>
    match (ops[j]?).bind (·.dst) with
    | none => none
    | some d => match f d with
      | .bool b => some (b == want)
      | .tuple [] => some false
      | _ => none

def tmpOK (n : Nat) : Operand → Bool
  | .tmp t => t < n
  | _ => true
def gloOK (ng : Nat) : Operand → Bool
  | .global k => k < ng
  | _ => true
def guardOK (n : Nat) (ops : Array Oper) (o : Oper) : Bool :=
  match o.guard with
  | none => true
  | some (j, _) => match (ops[j]?).bind (·.dst) with
    | some d => d < n
    | none => false
/-- The slots and variables that it names are there. -/
def operOK (n ng : Nat) (ops : Array Oper) (o : Oper) : Bool :=
  (match o.dst with | some d => decide (d < n) | none => true) && o.op.operands.toList.all (fun t => tmpOK n t && gloOK ng t) && guardOK n ops o

theorem VR.wanted {g : Gh} {n : Nat} {ops : Array Oper} {o : Oper} {f : Nat → AV} {a : Act} {b : Bool} (hg : guardOK n ops o = true)
    (hf : ∀ t, t < n → (o.guard = none ∨ ∃ j w, o.guard = some (j, w) ∧ (ops[j]?).bind (·.dst) = some t) → VR g (f t) (a.tmps.getD t undef)) (h : wantA ops o f = some b) :
    Region.wanted o (yielded ops a.tmps) = b := by
  unfold wantA at h
  unfold Region.wanted
  unfold guardOK at hg
  cases hgd : o.guard with
  | none => simp only [hgd] at h ⊢; simpa using h
  | some q =>
    obtain ⟨j, want⟩ := q
    simp only [hgd] at h hg ⊢
    cases hd : (ops[j]?).bind (·.dst) with
    | none => simp only [hd] at h; cases h
    | some d =>
      simp only [hd, decide_eq_true_eq] at h hg
      have hv := hf d hg (.inr ⟨j, want, hgd, hd⟩)
      have hy : yielded ops a.tmps j = match a.tmps.getD d undef with | .bool b => some b | _ => none := by
        simp only [yielded, hd, Option.bind_some, Array.getD_eq_getD_getElem?]
        cases a.tmps[d]? with
        | none => rfl
        | some u => cases u <;> rfl
      rw [hy]
      split at h
      · rename_i b' hb'; rw [hb'] at hv; rw [hv.bool_inv]; simpa using h
      · rename_i hb'; rw [hb'] at hv
        obtain ⟨arr, harr, _⟩ := hv.tuple_inv
        rw [harr]; simpa using h
      · cases h

/-- The text's order, one operation behind the other. -/
def evalOps (P : Program) [Laid P] (ops : Array Oper) (p : Oid) (c : Nat) : Nat → List Oper → List (Nat × AV) → Mem → List Eff → (List (Nat × AV) → Mem → List Eff → Prop) → Prop
  | _, [], fr, m, log, K => K fr m log
  | i, o :: rest, fr, m, log, K =>
    match wantA ops o (F fr) with
    | some true => ∃ e, EffOK P o (evA fr) (Oid.under (.sub c i p)) e ∧ (∀ q, q ∈ e.need → m q.1 = some q.2) ∧
        evalOps P ops p c (i + 1) rest (put o.dst e.val fr) (m.upds e.upd) (e :: log) K
    | some false => evalOps P ops p c (i + 1) rest (put o.dst (.tuple []) fr) m (⟨[], .tuple [], []⟩ :: log) K
    | none => False

/-- The relation without the names to come. -/
structure RR (x : Ctx) (n : Nat) (ds : List AD) (g : Gh) (f : Nat → AV) (m : Mem) (a : Act) (w : World) : Prop where
  mr : MemRel x g m w
  tm : a.tmps.size = n
  df : DRs g ds a.defers
  fr : ∀ t, t < n → VR g (f t) (a.tmps.getD t undef)

def upd1 (d : Option Nat) (v : AV) (f : Nat → AV) : Nat → AV := fun t => if d = some t then v else f t
theorem F_put (d : Option Nat) (v : AV) (l : List (Nat × AV)) : F (put d v l) = upd1 d v (F l) := by
  funext t
  cases d with
  | none => simp [put, upd1]
  | some d => simp only [put, F, upd1, Option.some.injEq]; by_cases h : t = d <;> simp [h, eq_comm]

theorem put_getD {a : Act} {d : Nat} {v : Value} {t : Nat} (ht : t < a.tmps.size) : ((a.put (some d) v).tmps.getD t undef) = if d = t then v else a.tmps.getD t undef := by
  simp only [Act.put, Array.getD_eq_getD_getElem?, Array.getElem?_setIfInBounds]
  by_cases h : d = t
  · subst h; simp [ht]
  · simp [h]

theorem RR.put {x : Ctx} {n : Nat} {ds : List AD} {g g' : Gh} {f : Nat → AV} {m m' : Mem} {a : Act} {w w' : World} (h : RR x n ds g f m a w) (hg : g.le g') (hm : MemRel x g' m' w') (d : Option Nat) {u : AV} {v : Value} (hv : VR g' u v) :
    RR x n ds g' (upd1 d u f) m' (a.put d v) w' := by
  cases d with
  | none =>
    refine ⟨hm, h.tm, h.df.mono hg, fun t ht => ?_⟩
    simpa [upd1, Act.put] using (h.fr t ht).mono hg
  | some d =>
    refine ⟨hm, by simp [Act.put, h.tm], by simpa [Act.put] using h.df.mono hg, fun t ht => ?_⟩
    rw [put_getD (by rw [h.tm]; exact ht)]
    simp only [upd1, Option.some.injEq]
    by_cases hd : d = t
    · simpa [hd] using hv
    · simpa [hd] using (h.fr t ht).mono hg

theorem operOK_spec {n ng : Nat} {ops : Array Oper} {o : Oper} (h : operOK n ng ops o = true) :
    (∀ d, o.dst = some d → d < n) ∧ (∀ t, .tmp t ∈ o.op.operands.toList → t < n) ∧ (∀ k, .global k ∈ o.op.operands.toList → k < ng) ∧ guardOK n ops o = true := by
  simp only [operOK, Bool.and_eq_true, List.all_eq_true] at h
  obtain ⟨⟨h1, h2⟩, h3⟩ := h
  refine ⟨fun d hd => by rw [hd] at h1; simpa using h1, fun t ht => by simpa [tmpOK] using (h2 _ ht).1, fun k hk => by simpa [gloOK] using (h2 _ hk).2, h3⟩

theorem RR.operands {x : Ctx} {n : Nat} {ds : List AD} {g : Gh} {f : Nat → AV} {m : Mem} {a : Act} {w : World} (h : RR x n ds g f m a w) {ng : Nat} (hng : ng ≤ x.ng) {ops : Array Oper} {o : Oper} (ho : operOK n ng ops o = true)
    {f' : Nat → AV} (hf : ∀ t, .tmp t ∈ o.op.operands.toList → f' t = f t) : ∀ t, t ∈ o.op.operands.toList → VR g (evF f' t) (a.eval t) := by
  obtain ⟨_, h2, h3, _⟩ := operOK_spec ho
  intro t ht
  cases t with
  | tmp t => simp only [evF, Act.eval, hf t ht]; exact h.fr t (h2 t ht)
  | const v => exact constA_vr g v
  | global k => exact .ptr _ _ _ (h.mr.glob k (Nat.lt_of_lt_of_le (h3 k ht) hng))
  | func f => exact .fn _ _ _ _ _ rfl rfl (fun j hj => absurd hj (Nat.not_lt_zero _)) (fun j hj => absurd hj (Nat.not_lt_zero _))

theorem evalOps_seq {P : Program} [Laid P] {x : Ctx} {n c : Nat} {ds : List AD} {ops : Array Oper} {K : List (Nat × AV) → Mem → List Eff → Prop} {Q : Exit → Act → World → Prop} (hng : Fit P x)
    (hok : ∀ (j : Nat) o, ops[j]? = some o → operOK n P.globals.size ops o = true)
    (hK : ∀ g fr m log a w, RR x n ds g (F fr) m a w → (∀ i, Young x.p (c + 1) i → g.loc i = none) → K fr m log → Q .normal a w) :
    ∀ (rest : List Oper) (i : Nat) (fr : List (Nat × AV)) (m : Mem) (log : List Eff) (g : Gh) (a : Act) (w : World), (∀ j, rest[j]? = ops[i + j]?) →
      evalOps P ops x.p c i rest fr m log K → RR x n ds g (F fr) m a w → (∀ k, Young x.p (c + 1) k → g.loc k = none) → (∀ j k, i ≤ j → Oid.under (.sub c j x.p) k → g.loc k = none) →
      wpOpsIn (Fc x.rd) 0 P ops Q (List.range' i rest.length) a w
  | [], i, fr, m, log, g, a, w, _, h, hr, hy, _ => by simp only [List.length_nil, List.range'_zero, wpOpsIn]; exact hK g fr m log a w hr hy h
  | o :: rest, i, fr, m, log, g, a, w, hl, h, hr, hy, hs => by
    have h0 : ops[i]? = some o := by simpa using (hl 0).symm
    have hl' : ∀ j, rest[j]? = ops[i + 1 + j]? := fun j => by have := hl (j + 1); simpa [Nat.add_assoc, Nat.add_comm 1 j] using this
    have ho := hok i o h0
    obtain ⟨o1, o2, o3, o4⟩ := operOK_spec ho
    simp only [List.length_cons, List.range'_succ, wpOpsIn, h0]
    simp only [evalOps] at h
    cases hw : wantA ops o (F fr) with
    | none => simp only [hw] at h
    | some b =>
      rw [VR.wanted o4 (fun t ht _ => hr.fr t ht) hw]
      cases b with
      | true =>
        simp only [hw] at h
        obtain ⟨e, he, hn, hK'⟩ := h
        simp only [if_true]
        refine (he x g a w m hr.mr hn (hr.operands hng.1 ho (fun _ _ => rfl)) (fun k hk => ⟨hs i k (Nat.le_refl _) hk, Oid.under_sub hk⟩) hng _ _ fun g' v w' hle hloc hv hm => ?_)
        refine evalOps_seq hng hok hK rest (i + 1) _ _ _ g' _ w' hl' hK' ?_ ?_ ?_
        · rw [F_put]; exact hr.put hle hm _ hv
        · intro k hk
          rw [hloc k (fun hu => ?_)]; exact hy k hk
          obtain ⟨c', i', hc', hk'⟩ := hk
          have := (Oid.apart hu hk').1; omega
        · intro j k hj hk
          rw [hloc k (fun hu => ?_)]; exact hs j k (by omega) hk
          have := (Oid.apart hu hk).2; omega
      | false =>
        simp only [hw] at h
        simp only [Bool.false_eq_true, if_false]
        refine ⟨fun _ _ => trivial, ?_⟩
        refine evalOps_seq hng hok hK rest (i + 1) _ _ _ g _ w hl' h ?_ hy (fun j k hj hk => hs j k (by omega) hk)
        rw [F_put]; exact hr.put (Gh.le_refl g) hr.mr _ (.tuple _ _ rfl (fun j hj => absurd hj (Nat.not_lt_zero _)))

theorem RR.of {x : Ctx} {n : Nat} {g : Gh} {s : AS} {a : Act} {w : World} (h : Rel x n g s a w) : RR x n s.ds g (F s.fr) s.mem a w := ⟨h.mr, h.tm, h.df, h.fr⟩
theorem RR.rel {x : Ctx} {n : Nat} {ds : List AD} {g : Gh} {fr : List (Nat × AV)} {m : Mem} {c : Nat} {a : Act} {w : World} (h : RR x n ds g (F fr) m a w) (hy : ∀ i, Young x.p c i → g.loc i = none) : Rel x n g ⟨fr, m, c, ds⟩ a w := ⟨h.mr, h.tm, h.df, h.fr, hy⟩

/-- No name that is to come stands for an object. -/
def Fresh (p : Oid) (c : Nat) (m : Mem) : Prop := ∀ i, Young p c i → m i = none
theorem Rel.fresh {x : Ctx} {n : Nat} {g : Gh} {s : AS} {a : Act} {w : World} (h : Rel x n g s a w) : Fresh x.p s.c s.mem := fun i hi => by
  cases hm : s.mem i with
  | none => rfl
  | some o => exact absurd (h.young i hi) (h.mr.taken hm)

theorem T_region_text {P : Program} [Laid P] {x : Ctx} {n : Nat} {s : AS} {Q : AX → AS → Prop} {id : Nat} {ops : Array Oper} (hng : Fit P x) (hok : ops.all (operOK n P.globals.size ops) = true)
    (h : Fresh x.p s.c s.mem → evalOps P ops x.p s.c 0 ops.toList s.fr s.mem [] (fun fr m _ => Q .normal ⟨fr, m, s.c + 1, s.ds⟩)) : T P x n (.region id ops false) s Q := by
  intro g a w hr
  refine wpIn_region ?_
  have hok' : ∀ (j : Nat) o, ops[j]? = some o → operOK n P.globals.size ops o = true := fun j o hj => by
    rw [Array.all_eq_true'] at hok
    exact hok o (Array.mem_of_getElem? hj)
  have := evalOps_seq (Q := fun e a' w' => ∃ g' ex s', Rel x n g' s' a' w' ∧ ex.fits g' e ∧ Q ex s') hng hok' (fun g fr m log a w hr hy hq => ⟨g, .normal, ⟨fr, m, s.c + 1, s.ds⟩, hr.rel hy, trivial, hq⟩)
    ops.toList 0 s.fr s.mem [] g a w (fun j => by simp) (h hr.fresh) (RR.of hr) (fun k hk => hr.young k (hk.mono (Nat.le_succ _))) (fun j k _ hk => hr.young k ⟨s.c, j, Nat.le_refl _, hk⟩)
  simpa [List.range_eq_range'] using this
end Go.Ab

/- A region that draws its order: the effects of the text's order serve every order, where what no edge orders does not meet. -/
namespace Go.Ab

/-! ### Which operations stand ahead of which, by edges -/
def bits (acc : List Nat) (o : Oper) : Nat :=
  o.after.toList.foldr (fun e s => if Region.binds .any e then s ||| (2 ^ e.on ||| acc.getD e.on 0) else s) 0
def befs : List Oper → List Nat → List Nat
  | [], acc => acc
  | o :: l, acc => befs l (acc ++ [bits acc o])

theorem bits_spec (acc : List Nat) (o : Oper) (k : Nat) (h : (bits acc o).testBit k = true) :
    ∃ e, e ∈ o.after ∧ Region.binds .any e = true ∧ (k = e.on ∨ (acc.getD e.on 0).testBit k = true) := by
  unfold bits at h
  have key : ∀ (l : List Edge), (l.foldr (fun e s => if Region.binds .any e then s ||| (2 ^ e.on ||| acc.getD e.on 0) else s) 0).testBit k = true →
      ∃ e, e ∈ l ∧ Region.binds .any e = true ∧ (k = e.on ∨ (acc.getD e.on 0).testBit k = true) := by
    intro l
    induction l with
    | nil => intro h; simp at h
    | cons e l ih =>
      intro h
      simp only [List.foldr_cons] at h
      split at h
      · rename_i hb
        simp only [Nat.testBit_or, Bool.or_eq_true, Nat.testBit_two_pow, decide_eq_true_eq] at h
        rcases h with h | h | h
        · obtain ⟨e', he, hb', hk⟩ := ih h; exact ⟨e', List.mem_cons_of_mem _ he, hb', hk⟩
        · exact ⟨e, List.mem_cons_self, hb, .inl h.symm⟩
        · exact ⟨e, List.mem_cons_self, hb, .inr h⟩
      · obtain ⟨e', he, hb', hk⟩ := ih h; exact ⟨e', List.mem_cons_of_mem _ he, hb', hk⟩
  obtain ⟨e, he, hb, hk⟩ := key _ h
  exact ⟨e, Array.mem_toList_iff.1 he, hb, hk⟩

theorem befs_old : ∀ (l : List Oper) (acc : List Nat) (j : Nat), j < acc.length → (befs l acc).getD j 0 = acc.getD j 0
  | [], _, _, _ => rfl
  | o :: l, acc, j, h => by
    rw [befs, befs_old l _ j (by simp; omega)]
    simp [List.getD_eq_getElem?_getD, List.getElem?_append_left h]

theorem befs_at : ∀ (l : List Oper) (acc : List Nat) (k : Nat) (o : Oper), l[k]? = some o →
    ∃ acc', acc'.length = acc.length + k ∧ (befs l acc).getD (acc.length + k) 0 = bits acc' o ∧ ∀ j, j < acc.length + k → acc'.getD j 0 = (befs l acc).getD j 0
  | [], _, _, _, h => by simp at h
  | o :: l, acc, 0, o', h => by
    simp only [List.getElem?_cons_zero, Option.some.injEq] at h
    subst h
    refine ⟨acc, rfl, ?_, fun j hj => ?_⟩
    · rw [befs, befs_old l _ _ (by simp)]; simp [List.getD_eq_getElem?_getD]
    · exact (befs_old _ _ j (by simpa using hj)).symm
  | o :: l, acc, k + 1, o', h => by
    obtain ⟨acc', h1, h2, h3⟩ := befs_at l (acc ++ [bits acc o]) k o' (by simpa using h)
    simp only [List.length_append, List.length_cons, List.length_nil] at h1 h2 h3
    have e : acc.length + (0 + 1) + k = acc.length + (k + 1) := by omega
    rw [e] at h1 h2 h3
    exact ⟨acc', h1, by rw [befs]; exact h2, fun j hj => by rw [befs]; exact h3 j hj⟩

/-- Every edge that binds leads back. -/
def backOK (ops : Array Oper) : Bool := (List.range ops.size).all fun i => match ops[i]? with
  | some o => o.after.all fun e => !Region.binds .any e || e.on < i
  | none => true
/-- Where no edges order two operations, neither names the slot that the other one writes. -/
def apartOK (ops : Array Oper) (B : List Nat) : Bool := (List.range ops.size).all fun j => (List.range j).all fun i => (B.getD j 0).testBit i || match ops[i]?, ops[j]? with
  | some x, some y => x.apart ops y
  | _, _ => true
def drawOK (ops : Array Oper) : Bool := backOK ops && apartOK ops (befs ops.toList [])

/-! ### States by the operations that have been carried out -/
section
variable (dst : Nat → Option Nat) (val : Nat → AV) (upd : Nat → List (Oid × Option AObj))
def slotK (L : Nat → Bool) (f0 : Nat → AV) : Nat → Nat → AV
  | 0 => f0
  | k + 1 => if L k then upd1 (dst k) (val k) (slotK L f0 k) else slotK L f0 k
def memK (L : Nat → Bool) (m0 : Mem) : Nat → Mem
  | 0 => m0
  | k + 1 => if L k then (memK L m0 k).upds (upd k) else memK L m0 k

variable {dst val upd}
theorem slotK_agree {L L' : Nat → Bool} {f0 : Nat → AV} {t : Nat} : ∀ k, (∀ j, j < k → dst j = some t → L j = L' j) → slotK dst val L f0 k t = slotK dst val L' f0 k t
  | 0, _ => rfl
  | k + 1, h => by
    have ih := slotK_agree (f0 := f0) k (fun j hj => h j (by omega))
    simp only [slotK]
    by_cases hd : dst k = some t
    · rw [h k (by omega) hd]; split <;> simp [upd1, hd, ih]
    · split <;> split <;> simp [upd1, hd, ih]
theorem slotK_tail {L : Nat → Bool} {f0 : Nat → AV} {t i : Nat} : ∀ k, i ≤ k → (∀ j, i ≤ j → j < k → L j = true → dst j ≠ some t) → slotK dst val L f0 k t = slotK dst val L f0 i t
  | 0, hi, _ => by have : i = 0 := by omega
                   subst this; rfl
  | k + 1, hi, h => by
    by_cases hk : i = k + 1
    · subst hk; rfl
    · rw [← slotK_tail (f0 := f0) k (by omega) (fun j h1 h2 => h j h1 (by omega))]
      simp only [slotK]
      split
      · rename_i hl; have := h k (by omega) (by omega) hl; simp [upd1, this]
      · rfl

theorem upds_nokey {l : List (Oid × Option AObj)} {id : Oid} : ∀ {m : Mem}, (∀ q, q ∈ l → q.1 ≠ id) → (m.upds l) id = m id := by
  induction l with
  | nil => intro m _; rfl
  | cons q l ih =>
    intro m h
    rw [Mem.upds, ih (fun q' hq => h q' (List.mem_cons_of_mem _ hq))]
    simp only [Mem.set]
    rw [if_neg (fun e => h q List.mem_cons_self e.symm)]
theorem upds_key {l : List (Oid × Option AObj)} {id : Oid} : ∀ {m m' : Mem}, (∃ q, q ∈ l ∧ q.1 = id) → (m.upds l) id = (m'.upds l) id := by
  induction l with
  | nil => intro m m' ⟨q, hq, _⟩; cases hq
  | cons q l ih =>
    intro m m' h
    simp only [Mem.upds]
    by_cases h' : ∃ q', q' ∈ l ∧ q'.1 = id
    · exact ih h'
    · rw [upds_nokey (fun q' hq e => h' ⟨q', hq, e⟩), upds_nokey (fun q' hq e => h' ⟨q', hq, e⟩)]
      obtain ⟨q', hq', e⟩ := h
      rcases List.mem_cons.1 hq' with rfl | hq'
      · simp [Mem.set, e]
      · exact absurd ⟨q', hq', e⟩ h'
theorem upds_congr {l : List (Oid × Option AObj)} {id : Oid} {m m' : Mem} (h : m id = m' id) : (m.upds l) id = (m'.upds l) id := by
  by_cases h' : ∃ q, q ∈ l ∧ q.1 = id
  · exact upds_key h'
  · rw [upds_nokey (fun q hq e => h' ⟨q, hq, e⟩), upds_nokey (fun q hq e => h' ⟨q, hq, e⟩), h]

theorem memK_agree {L L' : Nat → Bool} {m0 : Mem} {id : Oid} : ∀ k, (∀ j, j < k → (∃ q, q ∈ upd j ∧ q.1 = id) → L j = L' j) → memK upd L m0 k id = memK upd L' m0 k id
  | 0, _ => rfl
  | k + 1, h => by
    have ih := memK_agree (m0 := m0) k (fun j hj => h j (by omega))
    simp only [memK]
    by_cases hd : ∃ q, q ∈ upd k ∧ q.1 = id
    · rw [h k (by omega) hd]; split
      · exact upds_key hd
      · exact ih
    · have hn : ∀ q, q ∈ upd k → q.1 ≠ id := fun q hq e => hd ⟨q, hq, e⟩
      split <;> split <;> simp [upds_nokey hn, ih]
theorem memK_tail {L : Nat → Bool} {m0 : Mem} {id : Oid} {i : Nat} : ∀ k, i ≤ k → (∀ j, i ≤ j → j < k → L j = true → ∀ q, q ∈ upd j → q.1 ≠ id) → memK upd L m0 k id = memK upd L m0 i id
  | 0, hi, _ => by have : i = 0 := by omega
                   subst this; rfl
  | k + 1, hi, h => by
    by_cases hk : i = k + 1
    · subst hk; rfl
    · rw [← memK_tail (m0 := m0) k (by omega) (fun j h1 h2 => h j h1 (by omega))]
      simp only [memK]
      split
      · rename_i hl; exact upds_nokey (h k (by omega) (by omega) hl)
      · rfl

/-- One more is carried out: at the end as at its place. -/
theorem slotK_add {L L' : Nat → Bool} {f0 : Nat → AV} {n i : Nat} (hi : i < n) (hL : L i = false) (hL' : ∀ j, L' j = (L j || (j == i)))
    (h : ∀ j d, i < j → j < n → L j = true → dst i = some d → dst j ≠ some d) : slotK dst val L' f0 n = upd1 (dst i) (val i) (slotK dst val L f0 n) := by
  funext t
  simp only [upd1]
  by_cases hd : dst i = some t
  · rw [if_pos hd, slotK_tail (i := i + 1) n (by omega) (fun j h1 h2 hl => ?_)]
    · simp [slotK, hL', upd1, hd]
    · have hji : (j == i) = false := by simp; omega
      rw [hL' j, hji, Bool.or_false] at hl
      exact h j t (by omega) h2 hl hd
  · rw [if_neg hd]
    refine slotK_agree n fun j _ hj => ?_
    have hji : (j == i) = false := by
      simp only [beq_eq_false_iff_ne, ne_eq]; intro e; subst e; exact hd hj
    rw [hL' j, hji, Bool.or_false]
theorem memK_add {L L' : Nat → Bool} {m0 : Mem} {n i : Nat} (hi : i < n) (hL : L i = false) (hL' : ∀ j, L' j = (L j || (j == i)))
    (h : ∀ j, i < j → j < n → L j = true → ∀ q, q ∈ upd i → ∀ q', q' ∈ upd j → q.1 ≠ q'.1) : memK upd L' m0 n = (memK upd L m0 n).upds (upd i) := by
  funext id
  by_cases hd : ∃ q, q ∈ upd i ∧ q.1 = id
  · obtain ⟨q0, hq0, e0⟩ := hd
    rw [memK_tail (i := i + 1) n (by omega) (fun j h1 h2 hl q hq => ?_)]
    · have : L' i = true := by simp [hL']
      simp only [memK, this, if_true]
      exact upds_key ⟨q0, hq0, e0⟩
    · have hji : (j == i) = false := by simp; omega
      rw [hL' j, hji, Bool.or_false] at hl
      rw [← e0]; exact (h j (by omega) h2 hl q0 hq0 q hq).symm
  · rw [upds_nokey (fun q hq e => hd ⟨q, hq, e⟩)]
    refine memK_agree n fun j _ hj => ?_
    have hji : (j == i) = false := by
      simp only [beq_eq_false_iff_ne, ne_eq]; intro e; subst e; exact hd hj
    rw [hL' j, hji, Bool.or_false]
end
end Go.Ab

/- A region that draws its order: the theorem. -/
namespace Go.Ab

def Eff.none : Eff := ⟨[], .tuple [], []⟩

def Just (P : Program) [Laid P] (ops : Array Oper) (p : Oid) (c i : Nat) (o : Oper) (e : Eff) (f : Nat → AV) (m : Mem) : Prop :=
  (wantA ops o f = some true ∧ EffOK P o (evF f) (Oid.under (.sub c i p)) e ∧ ∀ q, q ∈ e.need → m q.1 = some q.2) ∨ (wantA ops o f = some false ∧ e = Eff.none)

def dstOf (l : List Oper) (k : Nat) : Option Nat := (l[k]?).bind (·.dst)
def valOf (E : List Eff) (k : Nat) : AV := (E.getD k Eff.none).val
def updOf (E : List Eff) (k : Nat) : List (Oid × Option AObj) := (E.getD k Eff.none).upd
def all1 : Nat → Bool := fun _ => true

theorem slotK_shift (o : Oper) (l : List Oper) (e : Eff) (E : List Eff) (f0 : Nat → AV) : ∀ k, slotK (dstOf (o :: l)) (valOf (e :: E)) all1 f0 (k + 1) = slotK (dstOf l) (valOf E) all1 (upd1 o.dst e.val f0) k
  | 0 => by simp [slotK, all1, dstOf, valOf]
  | k + 1 => by
    rw [slotK, slotK_shift o l e E f0 k]
    simp [slotK, all1, dstOf, valOf]
theorem memK_shift (e : Eff) (E : List Eff) (m0 : Mem) : ∀ k, memK (updOf (e :: E)) all1 m0 (k + 1) = memK (updOf E) all1 (m0.upds e.upd) k
  | 0 => by simp [memK, all1, updOf]
  | k + 1 => by
    rw [memK, memK_shift e E m0 k]
    simp [memK, all1, updOf]

theorem evalOps_effs {P : Program} [Laid P] {ops : Array Oper} {p : Oid} {c : Nat} {K : List (Nat × AV) → Mem → List Eff → Prop} :
    ∀ (rest : List Oper) (i : Nat) (fr : List (Nat × AV)) (m : Mem) (log : List Eff), evalOps P ops p c i rest fr m log K →
      ∃ E : List Eff, E.length = rest.length ∧ (∃ fr', F fr' = slotK (dstOf rest) (valOf E) all1 (F fr) rest.length ∧ K fr' (memK (updOf E) all1 m rest.length) (E.reverse ++ log)) ∧
        ∀ k o e, rest[k]? = some o → E[k]? = some e → Just P ops p c (i + k) o e (slotK (dstOf rest) (valOf E) all1 (F fr) k) (memK (updOf E) all1 m k)
  | [], _, fr, m, log, h => ⟨[], rfl, ⟨fr, rfl, h⟩, fun k o e hk => by simp at hk⟩
  | o :: rest, i, fr, m, log, h => by
    have step : ∀ e : Eff, Just P ops p c i o e (F fr) m → evalOps P ops p c (i + 1) rest (put o.dst e.val fr) (m.upds e.upd) (e :: log) K →
        ∃ E : List Eff, E.length = (o :: rest).length ∧ (∃ fr', F fr' = slotK (dstOf (o :: rest)) (valOf E) all1 (F fr) (o :: rest).length ∧ K fr' (memK (updOf E) all1 m (o :: rest).length) (E.reverse ++ log)) ∧
        ∀ k o' e, (o :: rest)[k]? = some o' → E[k]? = some e → Just P ops p c (i + k) o' e (slotK (dstOf (o :: rest)) (valOf E) all1 (F fr) k) (memK (updOf E) all1 m k) := by
      intro e hj hK
      obtain ⟨E, h1, ⟨fr', h2, h3⟩, h4⟩ := evalOps_effs rest (i + 1) _ _ _ hK
      refine ⟨e :: E, by simp [h1], ⟨fr', ?_, ?_⟩, ?_⟩
      · rw [h2, List.length_cons, slotK_shift, F_put]
      · rw [List.length_cons, memK_shift]; simpa using h3
      · intro k o' e' hk he
        cases k with
        | zero =>
          simp only [List.getElem?_cons_zero, Option.some.injEq] at hk he
          subst hk; subst he; exact hj
        | succ k =>
          rw [slotK_shift, memK_shift]
          have := h4 k o' e' (by simpa using hk) (by simpa using he)
          rw [F_put] at this
          rwa [show i + (k + 1) = i + 1 + k from by omega]
    simp only [evalOps] at h
    cases hw : wantA ops o (F fr) with
    | none => simp only [hw] at h
    | some b =>
      cases b with
      | true => simp only [hw] at h; obtain ⟨e, he, hn, hK⟩ := h; exact step e (.inl ⟨hw, he, hn⟩) hK
      | false => simp only [hw] at h; exact step Eff.none (.inr ⟨hw, rfl⟩) h

/-- Two effects that do not meet. -/
def disjE (a b : Eff) : Prop := (∀ q, q ∈ a.upd → ∀ q', q' ∈ b.need → q.1 ≠ q'.1) ∧ (∀ q, q ∈ a.upd → ∀ q', q' ∈ b.upd → q.1 ≠ q'.1) ∧ (∀ q, q ∈ a.need → ∀ q', q' ∈ b.upd → q.1 ≠ q'.1)
def compatE (B : List Nat) (E : List Eff) : Prop := ∀ i j ei ej, i < j → E[i]? = some ei → E[j]? = some ej → (B.getD j 0).testBit i = false → disjE ei ej

theorem looksAt_op {ops : Array Oper} {o : Oper} {t : Nat} (h : .tmp t ∈ o.op.operands.toList) : t ∈ o.looksAt ops := by
  unfold Oper.looksAt
  refine List.mem_append.2 (.inl (List.mem_filterMap.2 ⟨.tmp t, h, rfl⟩))
theorem looksAt_guard {ops : Array Oper} {o : Oper} {t j : Nat} {w : Bool} (h : o.guard = some (j, w)) (hd : (ops[j]?).bind (·.dst) = some t) : t ∈ o.looksAt ops := by
  unfold Oper.looksAt
  refine List.mem_append.2 (.inr ?_)
  rw [h]; simp only []; rw [hd]; simp

theorem wantA_congr {ops : Array Oper} {o : Oper} {f f' : Nat → AV} (h : ∀ t, t ∈ o.looksAt ops → f t = f' t) : wantA ops o f = wantA ops o f' := by
  unfold wantA
  cases hg : o.guard with
  | none => rfl
  | some q =>
    obtain ⟨j, w⟩ := q
    simp only []
    cases hd : (ops[j]?).bind (·.dst) with
    | none => rfl
    | some d => simp only []; rw [h d (looksAt_guard hg hd)]

theorem MemRel.drew {x : Ctx} {g : Gh} {m : Mem} {w : World} (h : MemRel x g m w) (k : Nat) (hk : w.drawn ≤ k) : MemRel x g m { w with drawn := k } :=
  ⟨h.le, h.locs, h.glob, h.coms, fun i o hi => (h.obj0 i o hi).imp id fun ⟨b, h1, h2, h3, h4⟩ => ⟨b, h1, h2, h3, ObjAt.block rfl h4⟩, h.inj, h.com, h.one, h.rows, h.os, h.tape, ⟨h.output.1, fun hm => Nat.le_trans (h.output.2 hm) hk⟩, h.size, h.kept, h.typs⟩

section
variable {P : Program} [Laid P] {x : Ctx} {n c : Nat} {ds : List AD} {ops : Array Oper} {E : List Eff} {f0 : Nat → AV} {m0 : Mem} {Q : Exit → Act → World → Prop}

structure Inv (x : Ctx) (n : Nat) (ds : List AD) (c : Nat) (ops : Array Oper) (E : List Eff) (f0 : Nat → AV) (m0 : Mem) (listed : Array Bool) (a : Act) (w : World) : Prop where
  size : listed.size = ops.size
  closed : ∀ j, listed.getD j false = true → ∀ k, ((befs ops.toList []).getD j 0).testBit k = true → listed.getD k false = true
  rr : ∃ g, RR x n ds g (slotK (dstOf ops.toList) (valOf E) (fun j => listed.getD j false) f0 ops.size) (memK (updOf E) (fun j => listed.getD j false) m0 ops.size) a w ∧
    (∀ k, Young x.p (c + 1) k → g.loc k = none) ∧ (∀ j k, listed.getD j false = false → Oid.under (.sub c j x.p) k → g.loc k = none)

theorem region_any (hng : Fit P x) (hok : ∀ (j : Nat) o, ops[j]? = some o → operOK n P.globals.size ops o = true) (hd : drawOK ops = true) (hE : E.length = ops.size)
    (hj : ∀ k o e, ops[k]? = some o → E[k]? = some e → Just P ops x.p c k o e (slotK (dstOf ops.toList) (valOf E) all1 f0 k) (memK (updOf E) all1 m0 k))
    (hc : compatE (befs ops.toList []) E)
    (hQ : ∀ g a w, RR x n ds g (slotK (dstOf ops.toList) (valOf E) all1 f0 ops.size) (memK (updOf E) all1 m0 ops.size) a w → (∀ k, Young x.p (c + 1) k → g.loc k = none) → Q .normal a w) :
    ∀ (fuel : Nat) (listed : Array Bool) (a : Act) (w : World), listed.toList.count false = fuel → Inv x n ds c ops E f0 m0 listed a w → wpAnyIn (Fc x.rd) 0 P .any ops Q fuel listed a w := by
  simp only [drawOK, Bool.and_eq_true] at hd
  obtain ⟨hback, hap⟩ := hd
  -- the edges lead back
  have back : ∀ i o, ops[i]? = some o → ∀ e, e ∈ o.after → Region.binds .any e = true → e.on < i := by
    intro i o ho e he hb
    have hi : i < ops.size := by
      rcases Nat.lt_or_ge i ops.size with h | h
      · exact h
      · simp [Array.getElem?_eq_none h] at ho
    simp only [backOK, List.all_eq_true, List.mem_range] at hback
    have := hback i hi
    rw [ho] at this
    simp only [Array.all_eq_true'] at this
    have := this e he
    simpa [hb] using this
  have apart : ∀ i j oi oj, i < j → ops[i]? = some oi → ops[j]? = some oj → ((befs ops.toList []).getD j 0).testBit i = false → oi.apart ops oj = true := by
    intro i j oi oj hij hi hj' hb
    have hlt : j < ops.size := by
      rcases Nat.lt_or_ge j ops.size with h | h
      · exact h
      · simp [Array.getElem?_eq_none h] at hj'
    simp only [apartOK, List.all_eq_true, List.mem_range] at hap
    have := hap j hlt i hij
    rw [hb, hi, hj'] at this
    simpa using this
  -- what an operation waits for, all of it
  have bit : ∀ i o k, ops[i]? = some o → ((befs ops.toList []).getD i 0).testBit k = true → ∃ e, e ∈ o.after ∧ Region.binds .any e = true ∧ (k = e.on ∨ ((befs ops.toList []).getD e.on 0).testBit k = true) := by
    intro i o k ho hk
    obtain ⟨acc, h1, h2, h3⟩ := befs_at ops.toList [] i o (by simpa using ho)
    simp only [List.length_nil, Nat.zero_add] at h1 h2 h3
    rw [h2] at hk
    obtain ⟨e, he, hb, hk'⟩ := bits_spec acc o k hk
    exact ⟨e, he, hb, hk'.imp id (fun h => by rw [h3 _ (back i o ho e he hb)] at h; exact h)⟩
  intro fuel
  induction fuel with
  | zero =>
    intro listed a w hf hI
    have hall : ∀ j, j < ops.size → listed.getD j false = true := by
      intro j hlt
      have hlt' : j < listed.size := by rw [hI.size]; exact hlt
      cases hv : listed.getD j false with
      | true => rfl
      | false =>
        have hm : false ∈ listed.toList := by
          have : listed[j] = false := by simpa [hlt'] using hv
          rw [← this]; simp
        have := List.count_pos_iff.2 hm
        omega
    obtain ⟨g, hr, hy, _⟩ := hI.rr
    refine ⟨?_, hQ g a w ?_ hy⟩
    · refine List.eq_nil_iff_forall_not_mem.2 fun j hm => ?_
      obtain ⟨h0, o, ho, _⟩ := mem_ready.1 hm
      have hlt : j < ops.size := by
        rcases Nat.lt_or_ge j ops.size with h | h
        · exact h
        · simp [Array.getElem?_eq_none h] at ho
      have := hall j hlt
      have hlt' : j < listed.size := by rw [hI.size]; exact hlt
      simp [hlt'] at h0 this
      rw [h0] at this; cases this
    · have e1 : slotK (dstOf ops.toList) (valOf E) (fun j => listed.getD j false) f0 ops.size = slotK (dstOf ops.toList) (valOf E) all1 f0 ops.size := by
        funext t; exact slotK_agree _ fun j hlt _ => hall j hlt
      have e2 : memK (updOf E) (fun j => listed.getD j false) m0 ops.size = memK (updOf E) all1 m0 ops.size := by
        funext t; exact memK_agree _ fun j hlt _ => hall j hlt
      rwa [e1, e2] at hr
  | succ fuel ih =>
    intro listed a w hf hI
    refine ⟨fun hnil => ?_, fun i hi => ?_⟩
    · -- the least that has not been carried out is ready
      exfalso
      have hm : false ∈ listed.toList := List.count_pos_iff.1 (by omega)
      obtain ⟨j, hj1, hj2⟩ := List.mem_iff_getElem.1 hm
      have hp : ∃ j, j < ops.size ∧ listed.getD j false = false := ⟨j, by rw [← hI.size]; simpa using hj1, by
        have : j < listed.size := by simpa using hj1
        simp only [Array.getElem_toList] at hj2
        simp [this, hj2]⟩
      obtain ⟨j, ⟨hlt, hv⟩, hmin⟩ := least _ hp
      have hmem : j ∈ Region.ready .any ops listed := by
        refine mem_ready.2 ⟨by have : j < listed.size := by rw [hI.size]; exact hlt
                               simp [this] at hv ⊢; exact hv, ops[j], by simp [hlt], fun e he hb => ?_⟩
        have h1 := back j ops[j] (by simp [hlt]) e he hb
        cases hv' : listed.getD e.on false with
        | true => rfl
        | false => have := hmin e.on ⟨by omega, hv'⟩; omega
      rw [hnil] at hmem; cases hmem
    · obtain ⟨h0, o, ho, hall⟩ := mem_ready.1 hi
      have hlt : i < ops.size := by
        rcases Nat.lt_or_ge i ops.size with h | h
        · exact h
        · simp [Array.getElem?_eq_none h] at ho
      have hlt' : i < listed.size := by rw [hI.size]; exact hlt
      have hun : listed.getD i false = false := by simpa [hlt'] using h0
      obtain ⟨e, he⟩ : ∃ e, E[i]? = some e := ⟨E[i]'(by rw [hE]; exact hlt), by simp [hE, hlt]⟩
      obtain ⟨g, hr, hy, hs⟩ := hI.rr
      -- all that it waits for has been carried out
      have pre : ∀ k, ((befs ops.toList []).getD i 0).testBit k = true → listed.getD k false = true := by
        intro k hk
        obtain ⟨ed, h1, h2, h3⟩ := bit i o k ho hk
        rcases h3 with h3 | h3
        · rw [h3]; exact hall ed h1 h2
        · exact hI.closed _ (hall ed h1 h2) k h3
      -- what stands behind it in the text and has been carried out does not wait for it
      have post : ∀ j, listed.getD j false = true → ((befs ops.toList []).getD j 0).testBit i = false := by
        intro j hjl
        cases hb : ((befs ops.toList []).getD j 0).testBit i with
        | false => rfl
        | true => have := hI.closed j hjl i hb; rw [hun] at this; cases this
      have hops : ∀ j, listed.getD j false = true → ∃ oj, ops[j]? = some oj := by
        intro j hjl
        have : j < listed.size := by
          rcases Nat.lt_or_ge j listed.size with h | h
          · exact h
          · simp [Array.getElem?_eq_none h] at hjl
        exact ⟨ops[j]'(by rw [← hI.size]; exact this), by simp [← hI.size, this]⟩
      have hdst : ∀ j oj, ops[j]? = some oj → dstOf ops.toList j = oj.dst := fun j oj h => by simp [dstOf, h]
      -- the slots that it looks at hold what they hold in the text's order
      have slots : ∀ t, t ∈ o.looksAt ops → slotK (dstOf ops.toList) (valOf E) all1 f0 i t = slotK (dstOf ops.toList) (valOf E) (fun j => listed.getD j false) f0 ops.size t := by
        intro t ht
        rw [slotK_tail (i := i) (L := fun j => listed.getD j false) ops.size (by omega) (fun j h1 h2 hl hd => ?_)]
        · refine slotK_agree i fun j hji hd => ?_
          obtain ⟨oj, hoj⟩ : ∃ oj, ops[j]? = some oj := ⟨ops[j]'(by omega), by simp⟩
          rw [hdst j oj hoj] at hd
          simp only [all1]
          cases hb : ((befs ops.toList []).getD i 0).testBit j with
          | true => exact (pre j hb).symm
          | false => exact absurd ht ((Oper.apart_spec (apart j i oj o hji hoj ho hb)).1 t hd)
        · obtain ⟨oj, hoj⟩ := hops j hl
          rw [hdst j oj hoj] at hd
          by_cases hji : j = i
          · subst hji; rw [hun] at hl; cases hl
          · exact absurd ht ((Oper.apart_spec (apart i j o oj (by omega) ho hoj (post j hl))).2.2 t hd)
      have hE' : ∀ j, j < ops.size → ∃ ej, E[j]? = some ej ∧ updOf E j = ej.upd := fun j hj => ⟨E[j]'(by rw [hE]; exact hj), by simp [hE, hj], by simp [updOf, hE, hj, List.getD_eq_getElem?_getD]⟩
      have mems : ∀ q, q ∈ e.need → memK (updOf E) all1 m0 i q.1 = memK (updOf E) (fun j => listed.getD j false) m0 ops.size q.1 := by
        intro q hq
        rw [memK_tail (i := i) (L := fun j => listed.getD j false) ops.size (by omega) (fun j h1 h2 hl q' hq' => ?_)]
        · refine memK_agree i fun j hji ⟨q', hq', hid⟩ => ?_
          simp only [all1]
          cases hb : ((befs ops.toList []).getD i 0).testBit j with
          | true => exact (pre j hb).symm
          | false =>
            obtain ⟨ej, hej, huj⟩ := hE' j (by omega)
            rw [huj] at hq'
            exact absurd hid ((hc j i ej e hji hej he hb).1 q' hq' q hq)
        · by_cases hji : j = i
          · subst hji; simp only [hun] at hl; cases hl
          · obtain ⟨ej, hej, huj⟩ := hE' j h2
            rw [huj] at hq'
            exact ((hc i j e ej (by omega) he hej (post j hl)).2.2 q hq q' hq').symm
      have hval : valOf E i = e.val := by simp [valOf, List.getD_eq_getElem?_getD, he]
      have hupd : updOf E i = e.upd := by simp [updOf, List.getD_eq_getElem?_getD, he]
      -- the new state
      have hset : ∀ j, (listed.setIfInBounds i true).getD j false = (listed.getD j false || (j == i)) := by
        intro j
        by_cases hji : i = j
        · subst hji; simp [hlt']
        · rw [getD_set_ne false hji]; simp [Ne.symm hji]
      have eslot : slotK (dstOf ops.toList) (valOf E) (fun j => (listed.setIfInBounds i true).getD j false) f0 ops.size = upd1 o.dst e.val (slotK (dstOf ops.toList) (valOf E) (fun j => listed.getD j false) f0 ops.size) := by
        rw [slotK_add (L := fun j => listed.getD j false) hlt hun hset (fun j d h1 h2 hl hd hd' => ?_), hdst i o ho, hval]
        obtain ⟨oj, hoj⟩ := hops j hl
        rw [hdst i o ho] at hd
        rw [hdst j oj hoj] at hd'
        exact (Oper.apart_spec (apart i j o oj h1 ho hoj (post j hl))).2.1 d hd hd'
      have emem : memK (updOf E) (fun j => (listed.setIfInBounds i true).getD j false) m0 ops.size = (memK (updOf E) (fun j => listed.getD j false) m0 ops.size).upds e.upd := by
        rw [memK_add (L := fun j => listed.getD j false) hlt hun hset (fun j h1 h2 hl q hq q' hq' => ?_), hupd]
        rw [hupd] at hq
        obtain ⟨ej, hej, huj⟩ := hE' j h2
        rw [huj] at hq'
        exact (hc i j e ej h1 he hej (post j hl)).2.1 q hq q' hq'
      have hcnt : (listed.setIfInBounds i true).toList.count false = fuel := by
        have hv : listed[i] = false := by simpa [hlt'] using hun
        rw [Array.toList_setIfInBounds, List.count_set (by simpa using hlt')]
        simp [hv]
        have : listed.toList.count false = fuel + 1 := hf
        simp at this
        omega
      have hclosed : ∀ j, (listed.setIfInBounds i true).getD j false = true → ∀ k, ((befs ops.toList []).getD j 0).testBit k = true → (listed.setIfInBounds i true).getD k false = true := by
        intro j hj k hk
        rw [hset] at hj ⊢
        simp only [Bool.or_eq_true, beq_iff_eq] at hj
        rcases hj with hj | hj
        · rw [hI.closed j hj k hk]; rfl
        · subst hj; rw [pre k hk]; rfl
      obtain ⟨o1, o2, o3, o4⟩ := operOK_spec (hok i o ho)
      unfold wpOpIn
      rw [ho]
      simp only []
      rcases hj i o e ho he with ⟨hw, hok', hneed⟩ | ⟨hw, hno⟩
      · rw [VR.wanted o4 (fun t ht _ => hr.fr t ht) (by rw [← wantA_congr slots]; exact hw)]
        simp only [if_true]
        refine (hok' x g a w _ hr.mr (fun q hq => by rw [← mems q hq]; exact hneed q hq) (hr.operands hng.1 (hok i o ho) (fun t ht => slots t (looksAt_op ht)))
          (fun k hk => ⟨hs i k hun hk, Oid.under_sub hk⟩) hng _ _ fun g' v w' hle hloc hv hm => ?_)
        refine ih _ _ _ hcnt ⟨by simp [hI.size], hclosed, g', ?_, ?_, ?_⟩
        · rw [eslot, emem]; exact hr.put hle hm _ hv
        · intro k hk
          rw [hloc k (fun hu => ?_)]; exact hy k hk
          obtain ⟨c', i', hc', hk'⟩ := hk
          have := (Oid.apart hu hk').1; omega
        · intro j k hj hk
          rw [hset] at hj
          simp only [Bool.or_eq_false_iff, beq_eq_false_iff_ne] at hj
          rw [hloc k (fun hu => hj.2 (Oid.apart hu hk).2.symm)]; exact hs j k hj.1 hk
      · rw [VR.wanted o4 (fun t ht _ => hr.fr t ht) (by rw [← wantA_congr slots]; exact hw)]
        simp only [Bool.false_eq_true, if_false]
        refine ⟨fun _ _ => trivial, ?_⟩
        refine ih _ _ _ hcnt ⟨by simp [hI.size], hclosed, g, ?_, hy, ?_⟩
        · rw [eslot, emem]
          subst hno
          exact hr.put (Gh.le_refl g) hr.mr _ (.tuple _ _ rfl (fun j hj => absurd hj (Nat.not_lt_zero _)))
        · intro j k hj hk
          rw [hset] at hj
          simp only [Bool.or_eq_false_iff, beq_eq_false_iff_ne] at hj
          exact hs j k hj.1 hk
end

theorem T_region_draw {P : Program} [Laid P] {x : Ctx} {n : Nat} {s : AS} {Q : AX → AS → Prop} {id : Nat} {ops : Array Oper} (hmx : P.follows .mixedOrders = true) (hng : Fit P x)
    (hok : ops.all (operOK n P.globals.size ops) = true) (hd : drawOK ops = true)
    (h : Fresh x.p s.c s.mem → evalOps P ops x.p s.c 0 ops.toList s.fr s.mem [] (fun fr m log => compatE (befs ops.toList []) log.reverse ∧ ∀ fr', F fr' = F fr → Q .normal ⟨fr', m, s.c + 1, s.ds⟩)) :
    T P x n (.region id ops true) s Q := by
  intro g a w hr
  have hok' : ∀ (j : Nat) o, ops[j]? = some o → operOK n P.globals.size ops o = true := fun j o hj => by
    rw [Array.all_eq_true'] at hok
    exact hok o (Array.mem_of_getElem? hj)
  obtain ⟨E, h1, ⟨fr', h2, h3, h4⟩, h5⟩ := evalOps_effs _ _ _ _ _ (h hr.fresh)
  simp only [List.append_nil, List.reverse_reverse] at h3
  simp only [Array.length_toList] at h1 h2 h4
  refine wpIn_region_any hmx (region_any (E := E) (ds := s.ds) (f0 := F s.fr) (m0 := s.mem) (x := x) (n := n) (c := s.c) hng hok' hd h1 (fun k o e hk he => ?_) h3 (fun g a w hrr hy => ?_) _ _ _ _ ?_ ?_)
  · have := h5 k o e (by simpa using hk) he
    simpa using this
  · rw [← h2] at hrr
    exact ⟨g, .normal, _, hrr.rel hy, trivial, h4 fr' rfl⟩
  · simp [List.count_replicate]
  · have hL : ∀ j, (Array.replicate ops.size false).getD j false = false := fun j => by simp [Array.getElem?_replicate]; split <;> rfl
    refine ⟨by simp, fun j hj => absurd hj (by rw [hL j]; simp), g, ?_, fun k hk => hr.young k (hk.mono (Nat.le_succ _)), fun j k _ hk => hr.young k ⟨s.c, j, Nat.le_refl _, hk⟩⟩
    have e1 : ∀ k, slotK (dstOf ops.toList) (valOf E) (fun j => (Array.replicate ops.size false).getD j false) (F s.fr) k = F s.fr := by
      intro k; induction k with
      | zero => rfl
      | succ k ih => simp only [slotK, hL, Bool.false_eq_true, if_false]; simpa only [hL] using ih
    have e2 : ∀ k, memK (updOf E) (fun j => (Array.replicate ops.size false).getD j false) s.mem k = s.mem := by
      intro k; induction k with
      | zero => rfl
      | succ k ih => simp only [memK, hL, Bool.false_eq_true, if_false]; simpa only [hL] using ih
    rw [e1, e2]
    exact ⟨hr.mr.drew _ (Nat.le_add_right _ _), hr.tm, hr.df, hr.fr⟩
end Go.Ab

/- What single operations do: helpers; values alone; loads, stores, new objects. -/
namespace Go.Ab

section
variable {P : Program} [Laid P] {o : Oper} {ρ : Operand → AV} {sp : Oid → Prop} {e : Eff}

theorem EffOK.of (h : ∀ (x : Ctx) (g : Gh) (a : Act) (w : World) (m : Mem), MemRel x g m w → (∀ q, q ∈ e.need → m q.1 = some q.2) →
    (∀ t, t ∈ o.op.operands.toList → VR g (ρ t) (a.eval t)) → (∀ i, sp i → g.loc i = none ∧ Oid.under x.p i) →
    ∃ g' nx v w', (execOp a.eval o).run P w = .ok nx w' ∧ (nx = .value v ∨ nx = .skip ∧ v = undef) ∧ g.le g' ∧ (∀ i, ¬ sp i → g'.loc i = g.loc i) ∧ VR g' e.val v ∧ MemRel x g' (m.upds e.upd) w') :
    EffOK P o ρ sp e := by
  intro x g a w m hm hn ho hs _ next Q K
  obtain ⟨g', nx, v, w', hrun, hnx, h1, h2, h3, h4⟩ := h x g a w m hm hn ho hs
  refine ⟨fun _ _ => trivial, ?_⟩
  have hsem : (o.semAt (Fc x.rd).round a.eval).run P w = .ok nx w' := by
    rw [← hrun]
    by_cases hd : ∃ c, o.op = .defer c
    · obtain ⟨c, hd⟩ := hd
      exfalso
      simp only [execOp, hd, Sem.run_bind] at hrun
      cases hres : (resolve a.eval c o.type).run P w with
      | ok d w1 => rw [hres] at hrun; simp only [Result.andThen_ok, Sem.run_pure, Result.ok.injEq] at hrun; rcases hnx with h | ⟨h, _⟩ <;> (rw [h] at hrun; cases hrun.1)
      | halt k w1 => rw [hres] at hrun; cases hrun
    · rw [Oper.semAt_eq _ _ _ (fun c hc => hd ⟨c, hc⟩)]
  rw [hsem]
  rcases hnx with rfl | ⟨rfl, rfl⟩
  · exact K g' v w' h1 h2 h3 h4
  · exact K g' undef w' h1 h2 h3 h4

/-- An operation that asks its operands alone. -/
theorem EffOK.plain {val : AV} (h : ∀ (g : Gh) (a : Act) (w : World), (∀ t, t ∈ o.op.operands.toList → VR g (ρ t) (a.eval t)) →
    ∃ v, (execOp a.eval o).run P w = .ok (.value v) w ∧ VR g val v) : EffOK P o ρ sp ⟨[], val, []⟩ :=
  EffOK.of fun _ g a w m hm _ ho _ => let ⟨v, h1, h2⟩ := h g a w ho; ⟨g, .value v, v, w, h1, .inl rfl, Gh.le_refl g, fun _ _ => rfl, h2, hm⟩
end

/-! ### Types in short -/
def aggD : TypeDesc → Bool
  | .struct _ | .array _ _ => true
  | _ => false
/-- Is the type's value made of parts, and of how many cells is it? -/
def shp (P : Program) (t : TypeId) : Option (Bool × Nat) :=
  match P.underlying t, P.info? t with
  | some d, some i => some (aggD d, i.size)
  | _, _ => none
inductive TyK where
  | bool
  | int (k : IntKind)
  | str
  | slice (elem : TypeId) (agg : Bool) (sz bytes : Nat)
  | arr (n : Nat) (elem : TypeId) (agg : Bool) (sz : Nat)
  | struct (fs : List (Nat × Bool × Nat))
  | map (key elem : TypeId)
  | ptr (elem : TypeId)
  | func
  | iface (ms : Nat)
  | other
def tyk (P : Program) (t : TypeId) : Option TyK :=
  match P.underlying t with
  | some .bool => some .bool
  | some (.int k) => some (.int k)
  | some .string => some .str
  | some (.slice e) => match shp P e, P.info? e with
    | some q, some i => some (.slice e q.1 q.2 i.bytes)
    | _, _ => none
  | some (.array n e) => (shp P e).map fun q => .arr n e q.1 q.2
  | some (.struct fs) => (fs.toList.mapM fun f => (shp P f.type).map fun q => (f.offset, q.1, q.2)).map .struct
  | some (.map k e) => some (.map k e)
  | some (.pointer e) => some (.ptr e)
  | some (.func ..) => some .func
  | some (.interface ms) => some (.iface ms.size)
  | some _ => some .other
  | none => none
def zer (P : Program) (t : TypeId) : Option (List AV) := ((P.info? t).bind (·.zero)).map fun z => (constA z).cells

section
variable {P : Program} [Laid P] {w : World} {t : TypeId}
omit [Laid P] in
theorem shp_spec {b : Bool} {n : Nat} (h : shp P t = some (b, n)) : ∃ d i, P.underlying t = some d ∧ P.info? t = some i ∧ aggD d = b ∧ i.size = n := by
  unfold shp at h
  split at h
  · rename_i d i hd hi; simp only [Option.some.injEq, Prod.mk.injEq] at h; exact ⟨d, i, hd, hi, h.1, h.2⟩
  · cases h
omit [Laid P] in
theorem run_isAgg {b : Bool} {n : Nat} (h : shp P t = some (b, n)) : (isAgg t).run P w = .ok b w := by
  obtain ⟨d, i, hd, hi, hb, hn⟩ := shp_spec h
  have hu : (underlying t).run P w = .ok d w := by simp [underlying, hd]
  simp only [isAgg, Sem.run_bind, hu, Result.andThen_ok]
  cases d <;> simp_all [aggD]
omit [Laid P] in
theorem run_sizeOf {b : Bool} {n : Nat} (h : shp P t = some (b, n)) : (sizeOf t).run P w = .ok n w := by
  obtain ⟨d, i, hd, hi, hb, hn⟩ := shp_spec h
  simp [sizeOf, typeInfo, hi, hn]
omit [Laid P] in
theorem run_underlying' {d : TypeDesc} (h : P.underlying t = some d) : (underlying t).run P w = .ok d w := by simp [underlying, h]
end

/-! ### Cells of values -/
def AV.known : AV → Bool
  | .undef => false
  | _ => true
theorem VR.cells {g : Gh} {v : AV} {u : Value} (h : VR g v u) (hk : v.known = true) : u.cells.size = v.cells.length ∧ ∀ j, j < v.cells.length → VR g (v.cells.getD j .undef) (u.cells.getD j undef) := by
  cases v with
  | undef => cases hk
  | agg cs =>
    obtain ⟨a, rfl, h1, h2⟩ := h.agg_inv
    exact ⟨h1, h2⟩
  | _ =>
    have hc : u.cells = #[u] := by cases h <;> rfl
    rw [hc]
    refine ⟨rfl, fun j hj => ?_⟩
    have : j = 0 := by simp [AV.cells] at hj; exact hj
    subst this
    exact h
theorem constS_cells (v : Value) : (constS v).cells.length = 1 := by
  unfold constS; split <;> rfl
theorem constA_cells (v : Value) : (constA v).cells.length = v.cells.size := by
  cases v <;> first | rfl | exact constS_cells _ | (simp [constA, AV.cells, Value.cells]; done)
theorem constA_cell (g : Gh) (v : Value) (j : Nat) (hj : j < (constA v).cells.length) : VR g ((constA v).cells.getD j .undef) (v.cells.getD j undef) := by
  by_cases hk : (constA v).known = true
  · exact ((constA_vr g v).cells hk).2 j hj
  · have : constA v = .undef := by cases h : constA v <;> simp_all [AV.known]
    rw [this] at hj ⊢
    simp only [AV.cells, List.length_cons, List.length_nil] at hj
    have : j = 0 := by omega
    subst this
    exact .unk _

/-! ### New objects, changed objects -/
def Gh.bind (g : Gh) (i : Oid) (b : Nat) : Gh := { g with loc := fun j => if j = i then some (some b) else g.loc j }
theorem Gh.le_bind {g : Gh} {i : Oid} {b : Nat} (h : g.loc i = none) : g.le (g.bind i b) :=
  ⟨fun j c hj => by simp only [Gh.bind]; split
                    · rename_i e; subst e; rw [h] at hj; cases hj
                    · exact hj, fun _ _ _ h => h, fun _ _ h => h⟩
/-- A row of cells that holds for good. -/
def Gh.fix (g : Gh) (b : Nat) (c : Array Value) : Gh := { g with com := fun b' k => if b' = b then c[k]? else g.com b' k }
theorem Gh.le_fix {g : Gh} {b : Nat} {c : Array Value} (h : ∀ k, g.com b k = none) : g.le (g.fix b c) :=
  ⟨fun _ _ h => h, fun b' k v hv => by simp only [Gh.fix]; split
                                       · rename_i e; subst e; rw [h] at hv; cases hv
                                       · exact hv, fun _ _ h => h⟩
/-- A row's length is noted. -/
def Gh.measure (g : Gh) (b r : Nat) : Gh := { g with row := fun b' => if b' = b then some r else g.row b' }
theorem Gh.le_measure {g : Gh} {b r : Nat} (h : g.row b = none ∨ g.row b = some r) : g.le (g.measure b r) :=
  ⟨fun _ _ h => h, fun _ _ _ h => h, fun b' r' hr => by
    simp only [Gh.measure]; split
    · rename_i e; subst e; rcases h with h | h <;> rw [h] at hr
      · cases hr
      · exact hr
    · exact hr⟩

section
variable {x : Ctx} {g : Gh} {m : Mem} {w : World}
theorem heap_lt {b : Nat} {o : Obj} (h : w.heap[b]? = some o) : b < w.heap.size := (Array.getElem?_eq_some_iff.1 h).1
theorem MemRel.com_lt (h : MemRel x g m w) {b k : Nat} {v : Value} (hc : g.com b k = some v) : b < w.heap.size := World.block_lt_of_cell? w _ (h.com b k v hc)
theorem MemRel.com_new (h : MemRel x g m w) {b : Nat} (hb : w.heap.size ≤ b) (k : Nat) : g.com b k = none := by
  cases hc : g.com b k with
  | none => rfl
  | some v => have := h.com_lt hc; omega

theorem MemRel.row_new (h : MemRel x g m w) {b : Nat} (hb : w.heap.size ≤ b) : g.row b = none := by
  cases hc : g.row b with
  | none => rfl
  | some r => obtain ⟨c, t, fz, h1, _⟩ := h.rows b r hc; simp [Array.getElem?_eq_none hb] at h1
theorem MemRel.measure (h : MemRel x g m w) {b r : Nat} (hr : ∃ c t fz, w.heap[b]? = some (.cells c t fz) ∧ c.size = r) (hg : g.row b = none ∨ g.row b = some r) : MemRel x (g.measure b r) m w :=
  ⟨Gh.le_trans h.le (Gh.le_measure hg), h.locs, h.glob, h.coms, fun i o hi => (h.obj0 i o hi).imp id fun ⟨b', h1, h2, h3, h4⟩ => ⟨b', h1, h2, h3, h4.mono (Gh.le_measure hg)⟩, h.inj, h.com, h.one,
    fun b' r' hr' => by
      simp only [Gh.measure] at hr'; split at hr'
      · rename_i e; subst e; simp only [Option.some.injEq] at hr'; subst hr'; exact hr
      · exact h.rows b' r' hr', h.os, h.tape, h.output, h.size, h.kept, h.typs⟩

/-- A new object. -/
theorem MemRel.new (h : MemRel x g m w) {i : Oid} (hi : g.loc i = none) (hu : Oid.under x.p i) {o : AObj} {ob : Obj} (ho : ObjAt (g.bind i w.heap.size) (w.alloc ob) w.heap.size o) (hty : ∀ t, i.tyd = some t → ∃ c fz, ob = .cells c t fz) :
    MemRel x (g.bind i w.heap.size) (m.set i (some o)) (w.alloc ob) := by
  have hle : g.le (g.bind i w.heap.size) := Gh.le_bind hi
  have hold : ∀ b, b < w.heap.size → (w.alloc ob).heap[b]? = w.heap[b]? := fun b hb => by
    show (w.heap.push ob)[b]? = _
    rw [Array.getElem?_push, if_neg (by omega)]
  refine ⟨Gh.le_trans h.le hle, fun j hj => ?_, fun k hk => hle.1 _ _ (h.glob k hk), h.coms, fun j o' hj => ?_, fun j j' o1 o2 b h1 h2 h3 h4 => ?_, fun b k v hv => ?_, h.one, fun b r hr => ?_, h.os, h.tape, h.output, ?_, fun b hb hm => ?_, fun t q b hb => ?_⟩
  · simp only [Gh.bind]
    rw [if_neg (fun e => hj (by rw [e]; exact hu))]; exact h.locs j hj
  · by_cases e : j = i
    · subst e
      simp only [Mem.set, if_true, Option.some.injEq] at hj
      subst hj
      exact .inr ⟨w.heap.size, by simp [Gh.bind], fun k => h.com_new (Nat.le_refl _) k, .inr h.size, ho⟩
    · simp only [Mem.set, e, if_false] at hj
      rcases h.obj0 j o' hj with ⟨v1, v2⟩ | ⟨b, h1, h2, h3, h4⟩
      · exact .inl ⟨v1, hle.1 _ _ v2⟩
      · exact .inr ⟨b, hle.1 _ _ h1, h2, h3, (ObjAt.block (hold b h4.lt) h4).mono hle⟩
  · have key : ∀ j o', (m.set i (some o)) j = some o' → j ≠ i → (∀ b', g.loc j = some (some b') → b' < w.heap.size) ∧ m j = some o' := fun j o' hj e => by
      simp only [Mem.set, e, if_false] at hj
      refine ⟨fun b' hb' => ?_, hj⟩
      rcases h.obj0 j o' hj with ⟨_, v2⟩ | ⟨b, h1, _, _, h4⟩
      · rw [hb'] at v2; cases v2
      · rw [hb'] at h1; simp only [Option.some.injEq] at h1; subst h1; exact h4.lt
    simp only [Gh.bind] at h3 h4
    by_cases e1 : j = i <;> by_cases e2 : j' = i
    · rw [e1, e2]
    · rw [if_pos e1] at h3; rw [if_neg e2] at h4
      have hlt := (key j' o2 h2 e2).1 b h4
      simp only [Option.some.injEq] at h3; omega
    · rw [if_neg e1] at h3; rw [if_pos e2] at h4
      have hlt := (key j o1 h1 e1).1 b h3
      simp only [Option.some.injEq] at h4; omega
    · rw [if_neg e1] at h3; rw [if_neg e2] at h4
      obtain ⟨_, g1⟩ := key j o1 h1 e1
      obtain ⟨_, g2⟩ := key j' o2 h2 e2
      exact h.inj j j' o1 o2 b g1 g2 h3 h4
  · have := h.com b k v hv
    rw [World.cell?_alloc_lt w ob _ (World.block_lt_of_cell? w _ this)]; exact this
  · obtain ⟨c, t, fz, h1, h2⟩ := h.rows b r hr
    have hlt : b < w.heap.size := by
      rcases Nat.lt_or_ge b w.heap.size with h' | h'
      · exact h'
      · simp [Array.getElem?_eq_none h'] at h1
    exact ⟨c, t, fz, by rw [hold b hlt]; exact h1, h2⟩
  · simp only [World.size_alloc]; have := h.size; omega
  · rw [hold b (by have := h.size; omega)]; exact h.kept b hb hm
  · simp only [Gh.bind] at hb
    split at hb
    · rename_i e
      simp only [Option.some.injEq] at hb; subst hb
      obtain ⟨c, fz, rfl⟩ := hty t (by rw [← e]; rfl)
      exact ⟨c, fz, by show (w.heap.push _)[w.heap.size]? = _; simp⟩
    · obtain ⟨c, fz, h1⟩ := h.typs t q b hb
      exact ⟨c, fz, by rw [hold b (heap_lt h1)]; exact h1⟩

/-- A new row that holds for good. -/
theorem MemRel.newFix (h : MemRel x g m w) (c : Array Value) (t : TypeId) (h1 : ∀ j (hj : j < c.size), c[j].oneCell' = true) : MemRel x (g.fix w.heap.size c) m (w.alloc (.cells c t)) ∧ g.le (g.fix w.heap.size c) := by
  have hle : g.le (g.fix w.heap.size c) := Gh.le_fix fun k => h.com_new (Nat.le_refl _) k
  have hold : ∀ b, b < w.heap.size → (w.alloc (.cells c t)).heap[b]? = w.heap[b]? := fun b hb => by
    show (w.heap.push _)[b]? = _
    rw [Array.getElem?_push, if_neg (by omega)]
  refine ⟨⟨Gh.le_trans h.le hle, h.locs, h.glob, fun b k v hv => ?_, fun j o' hj => ?_, h.inj, fun b k v hv => ?_, fun b k v hv => ?_, fun b r hr => ?_, h.os, h.tape, h.output, ?_, fun b hb hm => ?_, fun t' q b hb => ?_⟩, hle⟩
  · simp only [Gh.fix] at hv
    split at hv
    · rename_i e; subst e; exact .inr (.inr h.size)
    · exact h.coms b k v hv
  · rcases h.obj0 j o' hj with hv | ⟨b, h1, h2, h3, h4⟩
    · exact .inl hv
    refine .inr ⟨b, h1, fun k => ?_, h3, (ObjAt.block (hold b h4.lt) h4).mono hle⟩
    simp only [Gh.fix]
    rw [if_neg (by have := h4.lt; omega)]; exact h2 k
  · simp only [Gh.fix] at hv
    split at hv
    · rename_i e; subst e; rw [World.cell?_alloc_new]; exact hv
    · have := h.com b k v hv
      rw [World.cell?_alloc_lt w _ _ (World.block_lt_of_cell? w _ this)]; exact this
  · simp only [Gh.fix] at hv
    split at hv
    · have hk : k < c.size := by
        rcases Nat.lt_or_ge k c.size with h' | h'
        · exact h'
        · simp [Array.getElem?_eq_none h'] at hv
      simp only [Array.getElem?_eq_getElem hk, Option.some.injEq] at hv
      subst hv; exact h1 k hk
    · exact h.one b k v hv
  · obtain ⟨c', t', fz, k1, k2⟩ := h.rows b r hr
    have hlt : b < w.heap.size := by
      rcases Nat.lt_or_ge b w.heap.size with h' | h'
      · exact h'
      · simp [Array.getElem?_eq_none h'] at k1
    exact ⟨c', t', fz, by rw [hold b hlt]; exact k1, k2⟩
  · simp only [World.size_alloc]; have := h.size; omega
  · rw [hold b (by have := h.size; omega)]; exact h.kept b hb hm
  · obtain ⟨c', fz, h1⟩ := h.typs t' q b hb
    exact ⟨c', fz, by rw [hold b (heap_lt h1)]; exact h1⟩

/-- One block has turned: the one of an object. -/
theorem MemRel.turn (h : MemRel x g m w) {i : Oid} {o0 o : AObj} {b : Nat} {w' : World} (hi : m i = some o0) (hb : g.loc i = some (some b)) (hos : w'.os = w.os) (htape : w'.tape = w.tape) (hout : w'.output = w.output ∧ w.drawn ≤ w'.drawn)
    (hsize : w.heap.size ≤ w'.heap.size) (hother : ∀ b', b' ≠ b → b' < w.heap.size → w'.heap[b']? = w.heap[b']?) (hrow : ∀ r, g.row b = some r → ∃ c t fz, w'.heap[b]? = some (.cells c t fz) ∧ c.size = r) (htyp : ∀ c t fz, w.heap[b]? = some (.cells c t fz) → ∃ c' fz', w'.heap[b]? = some (.cells c' t fz')) (ho : ObjAt g w' b o) : MemRel x g (m.set i (some o)) w' := by
  obtain ⟨b0, hb0, hcom, hmay, hobj⟩ := h.objL hi hb
  rw [hb] at hb0
  simp only [Option.some.injEq] at hb0
  subst hb0
  refine ⟨h.le, h.locs, h.glob, h.coms, fun j o' hj => ?_, fun j j' o1 o2 c h1 h2 h3 h4 => ?_, fun c k v hv => ?_, h.one, fun c r hr => ?_, hos.trans h.os, htape.trans h.tape, ⟨hout.1.trans h.output.1, fun hm => Nat.le_trans (h.output.2 hm) hout.2⟩, Nat.le_trans h.size hsize, fun c hc hm => ?_, fun t q c hc => ?_⟩
  · by_cases e : j = i
    · subst e
      simp only [Mem.set, if_true, Option.some.injEq] at hj
      subst hj
      exact .inr ⟨b, hb, hcom, hmay, ho⟩
    · simp only [Mem.set, e, if_false] at hj
      rcases h.obj0 j o' hj with hv | ⟨c, h1, h2, h3, h4⟩
      · exact .inl hv
      refine .inr ⟨c, h1, h2, h3, ObjAt.block (hother c (fun ec => e ?_) h4.lt) h4⟩
      subst ec; exact h.inj j i o' o0 c hj hi h1 hb
  · have key : ∀ j o', (m.set i (some o)) j = some o' → ∃ o'', m j = some o'' := fun j o' hj => by
      by_cases e : j = i
      · subst e; exact ⟨o0, hi⟩
      · simp only [Mem.set, e, if_false] at hj; exact ⟨o', hj⟩
    obtain ⟨_, g1⟩ := key j o1 h1
    obtain ⟨_, g2⟩ := key j' o2 h2
    exact h.inj j j' _ _ c g1 g2 h3 h4
  · have hcell := h.com c k v hv
    have hne : c ≠ b := fun e => by subst e; rw [hcom k] at hv; cases hv
    have := hother c hne (World.block_lt_of_cell? w _ hcell)
    simp only [World.cell?] at hcell ⊢
    rw [this]; exact hcell
  · by_cases e : c = b
    · subst e; exact hrow r hr
    · obtain ⟨c', t', fz, k1, k2⟩ := h.rows c r hr
      have hlt : c < w.heap.size := by
        rcases Nat.lt_or_ge c w.heap.size with h' | h'
        · exact h'
        · simp [Array.getElem?_eq_none h'] at k1
      exact ⟨c', t', fz, by rw [hother c e hlt]; exact k1, k2⟩
  · by_cases e : c = b
    · subst e
      rcases hmay with hm' | hm'
      · exact absurd hm' hm
      · omega
    · rw [hother c e (by have := h.size; omega)]; exact h.kept c hc hm
  · obtain ⟨c', fz, h1⟩ := h.typs t q c hc
    by_cases e : c = b
    · subst e; exact htyp _ _ _ h1
    · exact ⟨c', fz, by rw [hother c e (heap_lt h1)]; exact h1⟩
end
end Go.Ab

/- What single operations do, one by one: values, addresses, loads, stores, new variables. -/
namespace Go.Ab

/-- What running an operation comes to. -/
inductive OpR where
  | eff (e : Eff)
  | call (f : FuncId) (args : List AV)
  | no

def pureR (v : AV) : OpR := .eff ⟨[], v, []⟩

section
variable {P : Program} [Laid P] {o : Oper} {ρ : Operand → AV} {sp : Oid → Prop}

theorem heap_new (w : World) (o : Obj) : (w.alloc o).heap[w.heap.size]? = some o := by simp only [World.alloc, Array.getElem?_push, if_true]
theorem addr_add (b k j : Nat) : Addr.add ⟨b, k, none⟩ j = ⟨b, k + j, none⟩ := by
  unfold Addr.add; split
  · rename_i h; subst h; rfl
  · rfl

/-! ### move, assign, pick -/
theorem eff_move {y : Operand} (ho : o.op = .move y ∨ o.op = .assign y) : EffOK P o ρ sp ⟨[], ρ y, []⟩ := by
  refine EffOK.plain fun g a w h => ⟨a.eval y, ?_, h y ?_⟩
  · rcases ho with ho | ho <;> simp [execOp, ho]
  · rcases ho with ho | ho <;> simp [Op.operands, ho]

theorem eff_pick {c y z : Operand} {b : Bool} (ho : o.op = .pick c y z) (hc : ρ c = .bool b) : EffOK P o ρ sp ⟨[], if b then ρ y else ρ z, []⟩ := by
  refine EffOK.plain fun g a w h => ⟨if b then a.eval y else a.eval z, ?_, ?_⟩
  · have := (hc ▸ h c (by simp [Op.operands, ho])).bool_inv
    simp [execOp, ho, this, asBool]
  · cases b
    · exact h z (by simp [Op.operands, ho])
    · exact h y (by simp [Op.operands, ho])

/-! ### the cells behind an address -/
def cellsAt (m : Mem) : AV → Option (List (Oid × AObj) × List AV)
  | .ptr id off => match m id with
    | some (.cells vs) => some ([(id, .cells vs)], vs.drop off)
    | _ => none
  | .aptr id sz i off => match m id with
    | some (.arr sz' xs) => if sz' = sz ∧ i < xs.length then some ([(id, .arr sz' xs)], (xs.getD i .undef).cells.drop off) else none
    | _ => none
  | .eptr v => some ([], v.cells)
  | _ => none

theorem getD_drop (l : List AV) (k j : Nat) (d : AV) : (l.drop k).getD j d = l.getD (k + j) d := by simp [List.getD_eq_getElem?_getD, List.getElem?_drop]
theorem getD_take (l : List AV) (n j : Nat) (d : AV) (h : j < n) : (l.take n).getD j d = l.getD j d := by simp [List.getD_eq_getElem?_getD, List.getElem?_take, h]

theorem cellsAt_spec {x : Ctx} {g : Gh} {m m0 : Mem} {w : World} (hm : MemRel x g m w) {v : AV} {u : Value} (hv : VR g v u) {nd : List (Oid × AObj)} {l : List AV} (h : cellsAt m0 v = some (nd, l))
    (hn : ∀ q, q ∈ nd → m q.1 = some q.2) : ∃ b k, u = .pointer (some ⟨b, k, none⟩) ∧ ∃ f : Nat → Value, ∀ j, j < l.length → w.cell? ⟨b, k + j, none⟩ = some (f j) ∧ VR g (l.getD j .undef) (f j) := by
  cases v <;> simp only [cellsAt] at h <;> try (cases h; done)
  case ptr id off =>
    obtain ⟨b, rfl, hb⟩ := hv.ptr_inv
    split at h
    · rename_i vs hvs
      simp only [Option.some.injEq, Prod.mk.injEq] at h
      obtain ⟨rfl, rfl⟩ := h
      obtain ⟨b', h1, h2, h3, h4⟩ := hm.obj id _ (hn (id, .cells vs) (by simp))
      rw [hb] at h1; simp only [Option.some.injEq] at h1; subst h1
      obtain ⟨c, t, fz, c1, c2, c3, c4⟩ := h4
      refine ⟨b, off, rfl, fun j => c.getD (off + j) undef, fun j hj => ?_⟩
      simp only [List.length_drop] at hj
      refine ⟨?_, ?_⟩
      · have : off + j < c.size := by omega
        simp [World.cell?, c1, this]
      · rw [getD_drop]; exact c4 _ (by omega)
    · cases h
  case aptr id sz i off =>
    obtain ⟨b, rfl, hb⟩ := hv.aptr_inv
    split at h
    · rename_i sz' xs hvs
      split at h
      · rename_i hc
        obtain ⟨rfl, hi⟩ := hc
        simp only [Option.some.injEq, Prod.mk.injEq] at h
        obtain ⟨rfl, rfl⟩ := h
        obtain ⟨b', h1, h2, h3, h4⟩ := hm.objL (hn (id, .arr sz' xs) (by simp)) hb
        rw [hb] at h1; simp only [Option.some.injEq] at h1; subst h1
        obtain ⟨c, t, fz, c1, c2, c3, c4, c6, c5⟩ := h4
        refine ⟨b, i * sz' + off, rfl, fun j => c.getD (i * sz' + off + j) undef, fun j hj => ?_⟩
        simp only [List.length_drop, c4 i hi] at hj
        have hle : i * sz' + sz' ≤ xs.length * sz' := by
          have := Nat.mul_le_mul_right sz' (Nat.succ_le_of_lt hi)
          rwa [Nat.succ_mul] at this
        refine ⟨?_, ?_⟩
        · have : i * sz' + off + j < c.size := by omega
          simp [World.cell?, c1, this]
        · rw [getD_drop]
          have := c5 i (off + j) hi (by omega)
          rwa [← Nat.add_assoc] at this
      · cases h
    · cases h
  case eptr v =>
    simp only [Option.some.injEq, Prod.mk.injEq] at h
    obtain ⟨rfl, rfl⟩ := h
    obtain ⟨b, k, cs, rfl, h1, h2⟩ := hv.eptr_inv
    exact ⟨b, k, rfl, cs, fun j hj => ⟨hm.com _ _ _ (h1 j hj), h2 j hj⟩⟩

theorem cellsAt_need {m : Mem} {v : AV} {nd : List (Oid × AObj)} {l : List AV} (h : cellsAt m v = some (nd, l)) : ∀ q, q ∈ nd → m q.1 = some q.2 := by
  cases v <;> simp only [cellsAt] at h <;> try (cases h; done)
  case ptr id off =>
    split at h
    · rename_i vs hvs
      simp only [Option.some.injEq, Prod.mk.injEq] at h
      obtain ⟨rfl, rfl⟩ := h
      intro q hq; simp only [List.mem_singleton] at hq; subst hq; exact hvs
    · cases h
  case aptr id sz i off =>
    split at h
    · rename_i sz' xs hvs
      split at h
      · simp only [Option.some.injEq, Prod.mk.injEq] at h
        obtain ⟨rfl, rfl⟩ := h
        intro q hq; simp only [List.mem_singleton] at hq; subst hq; exact hvs
      · cases h
    · cases h
  case eptr v =>
    simp only [Option.some.injEq, Prod.mk.injEq] at h
    obtain ⟨rfl, rfl⟩ := h
    intro q hq; cases hq

/-! ### load -/
def loadA (s : Option (Bool × Nat)) (m : Mem) (v : AV) : OpR :=
  match s, cellsAt m v with
  | some (true, n), some (nd, l) => if n ≤ l.length then .eff ⟨nd, .agg (l.take n), []⟩ else .no
  | some (false, _), some (nd, l) => if 0 < l.length then .eff ⟨nd, l.getD 0 .undef, []⟩ else .no
  | _, _ => .no

theorem eff_load {t : TypeId} {y : Operand} {m0 : Mem} {e : Eff} (ho : o.op = .load t y) (h : loadA (shp P t) m0 (ρ y) = .eff e) : EffOK P o ρ sp e ∧ ∀ q, q ∈ e.need → m0 q.1 = some q.2 := by
  unfold loadA at h
  split at h
  · rename_i s v n nd l hs hc
    split at h
    · rename_i hn
      simp only [OpR.eff.injEq] at h; subst h
      refine ⟨EffOK.of fun x g a w m hm hnd hop _ => ?_, cellsAt_need hc⟩
      obtain ⟨b, k, hu, f, hf⟩ := cellsAt_spec hm (hop y (by simp [Op.operands, ho])) hc hnd
      refine ⟨g, .value (.agg ((List.range n).map f).toArray), _, w, ?_, .inl rfl, Gh.le_refl g, fun _ _ => rfl, ?_, hm⟩
      · have hl := run_loadCells (P := P) w ⟨b, k, none⟩ n f (fun j hj => by rw [addr_add]; exact (hf j (by omega)).1)
        simp [execOp, ho, Instr.loadAt, hu, Instr.sureAddr, loadVar, run_isAgg hs, run_sizeOf hs, hl]
      · refine .agg _ _ (by simp; omega) fun j hj => ?_
        have hj' : j < n := by simp at hj; omega
        rw [getD_take _ _ _ _ hj']
        have := (hf j (by omega)).2
        simpa [hj'] using this
    · cases h
  · rename_i s v n nd l hs hc
    split at h
    · rename_i hn
      simp only [OpR.eff.injEq] at h; subst h
      refine ⟨EffOK.of fun x g a w m hm hnd hop _ => ?_, cellsAt_need hc⟩
      obtain ⟨b, k, hu, f, hf⟩ := cellsAt_spec hm (hop y (by simp [Op.operands, ho])) hc hnd
      refine ⟨g, .value (f 0), _, w, ?_, .inl rfl, Gh.le_refl g, fun _ _ => rfl, (hf 0 hn).2, hm⟩
      have := (hf 0 hn).1
      simp only [Nat.add_zero] at this
      simp [execOp, ho, Instr.loadAt, hu, Instr.sureAddr, loadVar, run_isAgg hs, this]
    · cases h
  · cases h

/-! ### alloc, box -/
theorem eff_alloc {t : TypeId} {z : List AV} {nid : Oid} (ho : o.op = .alloc t) (hz : zer P t = some z) (hs : sp nid) (hnt : ∀ t', nid.tyd = some t' → t' = t) : EffOK P o ρ sp ⟨[], .ptr nid 0, [(nid, some (.cells z))]⟩ := by
  unfold zer at hz
  simp only [Option.map_eq_some_iff, Option.bind_eq_some_iff] at hz
  obtain ⟨v, ⟨i, hi, hv⟩, rfl⟩ := hz
  refine EffOK.of fun x g a w m hm _ _ hsp => ?_
  obtain ⟨hl, hu⟩ := hsp nid hs
  refine ⟨g.bind nid w.heap.size, .value (.pointer (some ⟨w.heap.size, 0, none⟩)), _, w.alloc (.cells v.cells t), ?_, .inl rfl, Gh.le_bind hl, fun j hj => ?_, .ptr _ _ _ (by simp [Gh.bind]), hm.new hl hu ?_ (fun t' ht => by rw [hnt t' ht]; exact ⟨_, _, rfl⟩)⟩
  · simp [execOp, ho, Instr.alloc, zeroValue, typeInfo, hi, hv, newVar, newRow]
  · simp only [Gh.bind]; rw [if_neg (fun e => hj (by rw [e]; exact hs))]
  · refine ⟨v.cells, t, (0, 0), heap_new w _, (constA_cells v).symm, fun j _ h => by omega, fun j hj => constA_cell _ v j hj⟩

theorem eff_box {t : TypeId} {y : Operand} {nid : Oid} (ho : o.op = .box t y) (hk : (ρ y).known = true) (hs : sp nid) (hnt : ∀ t', nid.tyd = some t' → t' = t) : EffOK P o ρ sp ⟨[], .ptr nid 0, [(nid, some (.cells (ρ y).cells))]⟩ := by
  refine EffOK.of fun x g a w m hm _ hop hsp => ?_
  obtain ⟨hl, hu⟩ := hsp nid hs
  obtain ⟨h1, h2⟩ := (hop y (by simp [Op.operands, ho])).cells hk
  refine ⟨g.bind nid w.heap.size, .value (.pointer (some ⟨w.heap.size, 0, none⟩)), _, w.alloc (.cells (a.eval y).cells t), ?_, .inl rfl, Gh.le_bind hl, fun j hj => ?_, .ptr _ _ _ (by simp [Gh.bind]), hm.new hl hu ?_ (fun t' ht => by rw [hnt t' ht]; exact ⟨_, _, rfl⟩)⟩
  · simp [execOp, ho, Instr.box, newVar, newRow]
  · simp only [Gh.bind]; rw [if_neg (fun e => hj (by rw [e]; exact hs))]
  · exact ⟨(a.eval y).cells, t, (0, 0), heap_new w _, h1, fun j _ h => by omega, fun j hj => (h2 j hj).mono (Gh.le_bind hl)⟩

/-! ### store -/
def spl (vs : List AV) (k : Nat) (cs : List AV) : List AV := vs.take k ++ cs ++ vs.drop (k + cs.length)
theorem spl_length {vs : List AV} {k : Nat} {cs : List AV} (h : k + cs.length ≤ vs.length) : (spl vs k cs).length = vs.length := by simp [spl]; omega
theorem spl_getD {vs : List AV} {k : Nat} {cs : List AV} (h : k + cs.length ≤ vs.length) (j : Nat) (d : AV) : (spl vs k cs).getD j d = if k ≤ j ∧ j < k + cs.length then cs.getD (j - k) d else vs.getD j d := by
  simp only [spl, List.getD_eq_getElem?_getD]
  by_cases h1 : j < k
  · rw [if_neg (by omega), List.append_assoc, List.getElem?_append_left (by simp; omega), List.getElem?_take_of_lt h1]
  · by_cases h2 : j < k + cs.length
    · rw [if_pos ⟨by omega, h2⟩, List.append_assoc, List.getElem?_append_right (by simp; omega), List.getElem?_append_left (by simp; omega)]
      congr 2; simp; omega
    · rw [if_neg (by omega), List.getElem?_append_right (by simp; omega), List.getElem?_drop]
      congr 2; simp; omega

/-- A value that a cell may hold. -/
def AV.one : AV → Bool
  | .undef | .agg _ | .tuple _ => false
  | _ => true
theorem VR.one {g : Gh} {v : AV} {u : Value} (h : VR g v u) (ho : v.one = true) : u.oneCell' = true := by
  cases h <;> first | rfl | (cases ho; done)

def storeA (s : Option (Bool × Nat)) (m : Mem) (ad v : AV) : OpR :=
  match s, ad with
  | some (_, n), .ptr id off => match m id with
    | some (.cells vs) => if v.cells.all AV.one = true ∧ v.cells.length = n ∧ off + n ≤ vs.length then .eff ⟨[(id, .cells vs)], .tuple [], [(id, some (.cells (spl vs off v.cells)))]⟩ else .no
    | _ => .no
  | some (_, n), .aptr id sz i off => match m id with
    | some (.arr sz' xs) =>
      if v.cells.all AV.one = true ∧ v.cells.length = n ∧ sz' = sz ∧ i < xs.length ∧ off + n ≤ sz then
        .eff ⟨[(id, .arr sz' xs)], .tuple [], [(id, some (.arr sz' (xs.set i (if off = 0 ∧ n = sz then v else .agg (spl (xs.getD i .undef).cells off v.cells)))))]⟩
      else .no
    | _ => .no
  | _, _ => .no

/-- Cells written one behind the other into a block. -/
theorem run_storeCells {P : Program} (b : Nat) (c : Array Value) (t : TypeId) (fz : Nat × Nat) : ∀ (vs : List Value) (k i : Nat) (w : World) (c : Array Value), w.heap[b]? = some (.cells c t fz) → (∀ j, j < c.size → ¬ (fz.1 ≤ j ∧ j < fz.2)) →
    k + i + vs.length ≤ c.size → (∀ v, v ∈ vs → v.oneCell' = true) →
    ∃ w' c', (storeCells ⟨b, k, none⟩ vs i).run P w = .ok () w' ∧ w'.heap[b]? = some (.cells c' t fz) ∧ c'.size = c.size ∧ (∀ j, c'.getD j undef = if k + i ≤ j ∧ j < k + i + vs.length then vs.getD (j - (k + i)) undef else c.getD j undef) ∧
      w'.os = w.os ∧ w'.tape = w.tape ∧ (w'.output = w.output ∧ w.drawn ≤ w'.drawn) ∧ w'.heap.size = w.heap.size ∧ ∀ b', b' ≠ b → w'.heap[b']? = w.heap[b']?
  | [], k, i, w, c, hb, _, _, _ => ⟨w, c, by simp [storeCells], hb, rfl, fun j => by rw [if_neg (by simp only [List.length_nil]; omega)], rfl, rfl, ⟨rfl, Nat.le_refl _⟩, rfl, fun _ _ => rfl⟩
  | v :: vs, k, i, w, c, hb, hfz, hl, h1 => by
    simp only [List.length_cons] at hl
    have hk : k + i < c.size := by omega
    have hcell : w.cell? ⟨b, k + i, none⟩ = some c[k + i] := by simp [World.cell?, hb, hk]
    have hfr : w.frozen? ⟨b, k + i, none⟩ = false := by
      have := hfz (k + i) hk
      simp only [World.frozen?, hb]
      by_cases h : fz.1 ≤ k + i
      · simp [h]; omega
      · simp [h]
    have hset : (w.setCell ⟨b, k + i, none⟩ v).heap[b]? = some (.cells (c.setIfInBounds (k + i) v) t fz) := by simp [World.setCell, Array.getElem?_modify, hb]
    obtain ⟨w', c', r1, r2, r3, r4, r5, r6, r7, r8, r9⟩ := run_storeCells b c t fz vs k (i + 1) (w.setCell ⟨b, k + i, none⟩ v) (c.setIfInBounds (k + i) v) hset (fun j hj => hfz j (by simpa using hj)) (by simp; omega) (fun u hu => h1 u (List.mem_cons_of_mem _ hu))
    refine ⟨w', c', ?_, r2, by simpa using r3, fun j => ?_, r5, r6, r7, by simpa using r8, fun b' hb' => ?_⟩
    · simp only [storeCells, Sem.run_bind, addr_add]
      rw [run_store P w _ v .plain (h1 v List.mem_cons_self), hcell]
      simp only [hfr, Bool.false_eq_true, if_false, Result.andThen_ok]
      exact r1
    · rw [r4]
      simp only [List.length_cons]
      by_cases e : j = k + i
      · subst e
        rw [if_neg (by omega), if_pos (by omega)]
        simp [hk]
      · by_cases h2 : k + (i + 1) ≤ j ∧ j < k + (i + 1) + vs.length
        · rw [if_pos h2, if_pos (by omega)]
          have : j - (k + i) = (j - (k + (i + 1))) + 1 := by omega
          rw [this]; simp [List.getD_eq_getElem?_getD]
        · rw [if_neg h2, if_neg (by omega)]
          simp [Array.getElem?_setIfInBounds_ne (Ne.symm e)]
    · rw [r9 b' hb']
      simp only [World.setCell, Array.getElem?_modify]
      rw [if_neg (fun e => hb' e.symm)]

theorem AV.one_known {v : AV} (h : v.cells.all AV.one = true) : v.known = true := by
  cases v <;> first | rfl | (simp [AV.cells, AV.one] at h)
theorem VR.ones {g : Gh} {v : AV} {u : Value} (h : VR g v u) (ho : v.cells.all AV.one = true) : ∀ c, c ∈ u.cells.toList → c.oneCell' = true := by
  intro c hc
  obtain ⟨h1, h2⟩ := h.cells (AV.one_known ho)
  obtain ⟨j, hj, rfl⟩ := List.mem_iff_getElem.1 hc
  simp only [Array.length_toList] at hj
  have hj' : j < v.cells.length := by omega
  have h3 := h2 j hj'
  have h4 : (v.cells.getD j .undef).one = true := by
    simp only [List.getD_eq_getElem?_getD, List.getElem?_eq_getElem hj', Option.getD_some]
    exact List.all_eq_true.1 ho _ (List.getElem_mem hj')
  have := h3.one h4
  simpa [hj] using this

theorem eff_store {t : TypeId} {y z : Operand} {m0 : Mem} {e : Eff} (ho : o.op = .store t y z) (h : storeA (shp P t) m0 (ρ y) (ρ z) = .eff e) : EffOK P o ρ sp e ∧ ∀ q, q ∈ e.need → m0 q.1 = some q.2 := by
  unfold storeA at h
  split at h
  · rename_i s ad ag n id off hs had
    split at h
    · rename_i vs hvs
      split at h
      · rename_i hc
        obtain ⟨hone, hlen, hle⟩ := hc
        simp only [OpR.eff.injEq] at h; subst h
        refine ⟨EffOK.of fun x g a w m hm hnd hop _ => ?_, fun q hq => by simp only [List.mem_singleton] at hq; subst hq; exact hvs⟩
        have hv := hop z (by simp [Op.operands, ho])
        have had' := hop y (by simp [Op.operands, ho])
        rw [had] at had'
        obtain ⟨b, hu, hb⟩ := had'.ptr_inv
        have hmi := hnd (id, .cells vs) (by simp)
        obtain ⟨b', h1, h2, h3, h4⟩ := hm.obj id _ hmi
        rw [hb] at h1; simp only [Option.some.injEq] at h1; subst h1
        obtain ⟨c, ty, fz, c1, c2, c3, c4⟩ := h4
        obtain ⟨k1, k2⟩ := hv.cells (AV.one_known hone)
        obtain ⟨w', c', r1, r2, r3, r4, r5, r6, r7, r8, r9⟩ := run_storeCells (P := P) b c ty fz (a.eval z).cells.toList off 0 w c c1 c3 (by simp; omega) (hv.ones hone)
        have hsz : (a.eval z).cells.size = n := by omega
        refine ⟨g, .skip, undef, w', ?_, .inr ⟨rfl, rfl⟩, Gh.le_refl g, fun _ _ => rfl, .tuple _ _ rfl (fun j hj => absurd hj (Nat.not_lt_zero _)), hm.turn hmi hb r5 r6 r7 (by omega) (fun b' hb' _ => r9 b' hb') (fun r hr => ?_) (fun c9 t9 fz9 h9 => by rw [c1] at h9; cases h9; exact ⟨c', fz, r2⟩) ?_⟩
        · simp [execOp, ho, Instr.storeAt, hu, Instr.sureAddr, storeVar, run_sizeOf hs, hsz, r1]
        · obtain ⟨c0, t0, fz0, k1, k2⟩ := hm.rows b r hr
          rw [c1] at k1; simp only [Option.some.injEq, Obj.cells.injEq] at k1
          exact ⟨c', ty, fz, r2, by rw [r3, ← k2, k1.1]⟩
        · refine ⟨c', ty, fz, r2, by rw [r3, spl_length (by omega)]; exact c2, fun j hj => c3 j (by omega), fun j hj => ?_⟩
          rw [spl_length (by omega)] at hj
          rw [spl_getD (by omega), r4]
          simp only [Array.length_toList, Nat.add_zero]
          by_cases hin : off ≤ j ∧ j < off + (ρ z).cells.length
          · rw [if_pos hin, if_pos (by omega)]
            have := k2 (j - off) (by omega)
            simpa using this
          · rw [if_neg hin, if_neg (by omega)]; exact c4 j (by omega)
      · cases h
    · cases h
  · rename_i s ad ag n id sz i off hs had
    split at h
    · rename_i sz' xs hvs
      split at h
      · rename_i hc
        obtain ⟨hone, hlen, rfl, hi, hle⟩ := hc
        simp only [OpR.eff.injEq] at h; subst h
        refine ⟨EffOK.of fun x g a w m hm hnd hop _ => ?_, fun q hq => by simp only [List.mem_singleton] at hq; subst hq; exact hvs⟩
        have hv := hop z (by simp [Op.operands, ho])
        have had' := hop y (by simp [Op.operands, ho])
        rw [had] at had'
        obtain ⟨b, hu, hb⟩ := had'.aptr_inv
        have hmi := hnd (id, .arr sz' xs) (by simp)
        obtain ⟨b', h1, h2, h3, h4⟩ := hm.objL hmi hb
        rw [hb] at h1; simp only [Option.some.injEq] at h1; subst h1
        obtain ⟨c, ty, fz, c1, c2, c3, c4, c6, c5⟩ := h4
        obtain ⟨k1, k2⟩ := hv.cells (AV.one_known hone)
        have hlei : i * sz' + sz' ≤ xs.length * sz' := by
          have := Nat.mul_le_mul_right sz' (Nat.succ_le_of_lt hi)
          rwa [Nat.succ_mul] at this
        obtain ⟨w', c', r1, r2, r3, r4, r5, r6, r7, r8, r9⟩ := run_storeCells (P := P) b c ty fz (a.eval z).cells.toList (i * sz' + off) 0 w c c1 c3 (by simp; omega) (hv.ones hone)
        have hsz : (a.eval z).cells.size = n := by omega
        refine ⟨g, .skip, undef, w', ?_, .inr ⟨rfl, rfl⟩, Gh.le_refl g, fun _ _ => rfl, .tuple _ _ rfl (fun j hj => absurd hj (Nat.not_lt_zero _)), hm.turn hmi hb r5 r6 r7 (by omega) (fun b' hb' _ => r9 b' hb') (fun r hr => ?_) (fun c9 t9 fz9 h9 => by rw [c1] at h9; cases h9; exact ⟨c', fz, r2⟩) ?_⟩
        · simp [execOp, ho, Instr.storeAt, hu, Instr.sureAddr, storeVar, run_sizeOf hs, hsz, r1]
        · obtain ⟨c0, t0, fz0, k1, k2⟩ := hm.rows b r hr
          rw [c1] at k1; simp only [Option.some.injEq, Obj.cells.injEq] at k1
          exact ⟨c', ty, fz, r2, by rw [r3, ← k2, k1.1]⟩
        · -- the element's new cells
          have hnew : ∀ v' : AV, v' = (if off = 0 ∧ n = sz' then ρ z else .agg (spl (xs.getD i .undef).cells off (ρ z).cells)) → v'.cells.length = sz' ∧ ∀ j, j < sz' → v'.cells.getD j .undef = if off ≤ j ∧ j < off + n then (ρ z).cells.getD (j - off) .undef else (xs.getD i .undef).cells.getD j .undef := by
            intro v' hv'
            split at hv'
            · rename_i hh; obtain ⟨rfl, rfl⟩ := hh; subst hv'
              exact ⟨hlen, fun j hj => by rw [if_pos (by omega)]; rfl⟩
            · subst hv'
              show (spl (xs.getD i .undef).cells off (ρ z).cells).length = sz' ∧ ∀ j, j < sz' → (spl (xs.getD i .undef).cells off (ρ z).cells).getD j .undef = _
              rw [spl_length (by rw [c4 i hi]; omega)]
              exact ⟨c4 i hi, fun j hj => by rw [spl_getD (by rw [c4 i hi]; omega), hlen]⟩
          generalize hv' : (if off = 0 ∧ n = sz' then ρ z else AV.agg (spl (xs.getD i .undef).cells off (ρ z).cells)) = v'
          obtain ⟨n1, n2⟩ := hnew v' hv'.symm
          refine ⟨c', ty, fz, r2, by simpa [r3] using c2, fun j hj => c3 j (by omega), fun j hj => ?_, fun j hj => ?_, fun j k hj hk => ?_⟩
          · simp only [List.length_set] at hj
            by_cases e : i = j
            · subst e; simpa [List.getD_eq_getElem?_getD, hi] using n1
            · have := c4 j hj; simpa [List.getD_eq_getElem?_getD, List.getElem?_set_ne e] using this
          · simp only [List.length_set] at hj
            rw [r4]
            split
            · rename_i hin
              simp only [Array.length_toList, Nat.add_zero] at hin ⊢
              have hlt : j - (i * sz' + off) < (a.eval z).cells.toList.length := by simp only [Array.length_toList]; omega
              rw [List.getD_eq_getElem?_getD, List.getElem?_eq_getElem hlt]
              exact hv.ones hone _ (List.getElem_mem hlt)
            · exact c6 j hj
          · simp only [List.length_set] at hj
            rw [r4]
            simp only [Array.length_toList, Nat.add_zero]
            by_cases e : i = j
            · subst e
              have hx : (xs.set i v').getD i .undef = v' := by simp [List.getD_eq_getElem?_getD, hi]
              rw [hx, n2 k hk]
              by_cases hin : off ≤ k ∧ k < off + n
              · rw [if_pos hin, if_pos (by omega)]
                have := k2 (k - off) (by omega)
                have e1 : i * sz' + k - (i * sz' + off) = k - off := by omega
                rw [e1]; simpa using this
              · rw [if_neg hin, if_neg (by omega)]; exact c5 i k hi hk
            · have hx : (xs.set i v').getD j .undef = xs.getD j .undef := by simp [List.getD_eq_getElem?_getD, List.getElem?_set_ne e]
              rw [hx, if_neg ?_]
              · exact c5 j k hj hk
              · rcases Nat.lt_or_ge j i with hlt | hge
                · have := Nat.mul_le_mul_right sz' (Nat.succ_le_of_lt hlt)
                  rw [Nat.succ_mul] at this; omega
                · have hlt : i < j := by omega
                  have := Nat.mul_le_mul_right sz' (Nat.succ_le_of_lt hlt)
                  rw [Nat.succ_mul] at this; omega
      · cases h
    · cases h
  · cases h
end
end Go.Ab

/- What single operations do, one by one: arithmetic, comparisons, addresses, slices of strings. -/
namespace Go.Ab

section
variable {P : Program} [Laid P] {o : Oper} {ρ : Operand → AV} {sp : Oid → Prop}

/-! ### binary operations -/
def intA (op : BinOp) (k : IntKind) (a b : Int) : Option AV :=
  match op with
  | .add => some (.int k (k.wrap (a + b)))
  | .sub => some (.int k (k.wrap (a - b)))
  | .mul => some (.int k (k.wrap (a * b)))
  | .quo => if b ≠ 0 then some (.int k (k.wrap (a.tdiv b))) else none
  | .rem => if b ≠ 0 then some (.int k (a.tmod b)) else none
  | .and => some (.int k (k.wrap (BitVec.ofInt k.bits a &&& BitVec.ofInt k.bits b).toNat))
  | .or => some (.int k (k.wrap (BitVec.ofInt k.bits a ||| BitVec.ofInt k.bits b).toNat))
  | .xor => some (.int k (k.wrap (BitVec.ofInt k.bits a ^^^ BitVec.ofInt k.bits b).toNat))
  | .andNot => some (.int k (k.wrap (BitVec.ofInt k.bits a &&& ~~~ BitVec.ofInt k.bits b).toNat))
  | .eql => some (.bool (a == b))
  | .neq => some (.bool (a != b))
  | .lss => some (.bool (decide (a < b)))
  | .leq => some (.bool (decide (a ≤ b)))
  | .gtr => some (.bool (decide (b < a)))
  | .geq => some (.bool (decide (b ≤ a)))
  | _ => none
def shiftA (op : BinOp) (k : IntKind) (a b : Int) : Option AV :=
  if b < 0 then none else
  match op with
  | .shl => some (.int k (k.wrap (a * 2 ^ (min b.toNat k.bits))))
  | .shr => some (.int k (a.fdiv (2 ^ (min b.toNat k.bits))))
  | _ => none
def strA (op : BinOp) (a b : List UInt8) : Option AV :=
  match op with
  | .add => if (a.length + b.length : Nat) ≤ 9223372036854775807 then some (.str (a ++ b)) else none
  | .eql => some (.bool (a == b))
  | .neq => some (.bool (a != b))
  | .lss => some (.bool (Op.bytesLess a b))
  | .leq => some (.bool (Op.bytesLess a b || a == b))
  | .gtr => some (.bool (!(Op.bytesLess a b || a == b)))
  | .geq => some (.bool (!Op.bytesLess a b))
  | _ => none
def isNilA : AV → Option Bool
  | .nilPtr | .nilSl | .nilMap | .nilFn | .nilIface => some true
  | .ptr .. | .aptr .. | .eptr .. | .list _ (_ :: _) | .sl _ _ (_ + 1) | .map .. | .fn .. | .iface .. => some false
  | _ => none

def binA (op : BinOp) (x y : AV) : Option AV :=
  match x, y with
  | .int k a, .int k' b =>
    match op with
    | .shl => shiftA .shl k a b
    | .shr => shiftA .shr k a b
    | op => if k = k' then intA op k a b else none
  | .str a, .str b => strA op a b
  | _, _ => none

omit [Laid P] in
theorem run_bin {t t' : TypeId} {p q : Operand} {op : BinOp} {a : Act} {w : World} {r : Value} (ho : o.op = .binOp op t p q t') (h1 : (eqGuard op t p q (a.eval p) (a.eval q)).run P w = .ok () w)
    (h2 : (binOp op t (a.eval p) (a.eval q)).run P w = .ok r w) : (execOp a.eval o).run P w = .ok (.value r) w := by
  simp [execOp, ho, h1, h2]

omit [Laid P] in
theorem eqGuard_int (op : BinOp) (t : TypeId) (p q : Operand) (k k' : IntKind) (a b : Int) (w : World) : (eqGuard op t p q (.int k a) (.int k' b)).run P w = .ok () w := by
  cases op <;> rfl
omit [Laid P] in
theorem eqGuard_string (op : BinOp) (t : TypeId) (p q : Operand) (a b : ByteArray) (w : World) : (eqGuard op t p q (.string a) (.string b)).run P w = .ok () w := by
  cases op <;> rfl

omit [Laid P] in
theorem intA_run {op : BinOp} {k : IntKind} {a b : Int} {v : AV} (h : intA op k a b = some v) (t : TypeId) (g : Gh) (w : World) : ∃ r, (binOp op t (.int k a) (.int k b)).run P w = .ok r w ∧ VR g v r := by
  cases op <;> simp only [intA] at h <;> first | (cases h; done) | skip
  case quo =>
    split at h
    · rename_i hb; simp only [Option.some.injEq] at h; subst h; refine ⟨_, ?_, .int _ _⟩; simp [binOp, Op.intDiv, hb]
    · cases h
  case rem =>
    split at h
    · rename_i hb; simp only [Option.some.injEq] at h; subst h; refine ⟨_, ?_, .int _ _⟩; simp [binOp, Op.intDiv, hb]
    · cases h
  all_goals (simp only [Option.some.injEq] at h; subst h)
  all_goals first | (refine ⟨_, ?_, .int _ _⟩; simp [binOp, Op.intArith, Op.intBits]; done) | (refine ⟨_, ?_, .bool _⟩; simp [binOp, Op.intCmp]; done)

omit [Laid P] in
theorem shiftA_run {op : BinOp} {k k' : IntKind} {a b : Int} {v : AV} (h : shiftA op k a b = some v) (t : TypeId) (g : Gh) (w : World) : ∃ r, (binOp op t (.int k a) (.int k' b)).run P w = .ok r w ∧ VR g v r := by
  unfold shiftA at h
  split at h
  · cases h
  · rename_i hb
    cases op <;> simp only at h <;> first | (cases h; done) | skip
    all_goals (simp only [Option.some.injEq] at h; subst h; refine ⟨_, ?_, .int _ _⟩; simp [binOp, Op.shift, hb])

omit [Laid P] in
theorem strA_run {op : BinOp} {x y : ByteArray} {v : AV} (h : strA op x.data.toList y.data.toList = some v) (t : TypeId) (g : Gh) (w : World) : ∃ r, (binOp op t (.string x) (.string y)).run P w = .ok r w ∧ VR g v r := by
  cases op <;> simp only [strA] at h <;> first | (cases h; done) | skip
  case add =>
    split at h
    · rename_i hl
      simp only [Option.some.injEq] at h; subst h
      refine ⟨.string (x ++ y), ?_, .str _ _ (by simp)⟩
      have hl' : ¬ ((x.size + y.size : Nat) : Int) > IntKind.i64.max := by
        simp only [Array.length_toList] at hl
        have e1 : x.data.size = x.size := rfl
        have e2 : y.data.size = y.size := rfl
        have e3 : IntKind.i64.max = 9223372036854775807 := by decide
        rw [e3]; omega
      simp only [binOp, Op.stringOp, if_neg hl', Sem.run_pure]
    · cases h
  all_goals (simp only [Option.some.injEq] at h; subst h; refine ⟨_, ?_, .bool _⟩; simp [binOp, Op.stringOp, ByteArray.toList_eq, bne])

theorem eff_bin {t t' : TypeId} {p q : Operand} {op : BinOp} {v : AV} (ho : o.op = .binOp op t p q t') (h : binA op (ρ p) (ρ q) = some v) : EffOK P o ρ sp ⟨[], v, []⟩ := by
  refine EffOK.plain fun g a w hop => ?_
  have hp := hop p (by simp [Op.operands, ho])
  have hq := hop q (by simp [Op.operands, ho])
  unfold binA at h
  split at h
  · rename_i k a' k' b' e1 e2
    rw [e1] at hp; rw [e2] at hq
    have ep := hp.int_inv; have eq := hq.int_inv
    have fin : (∃ r, (binOp op t (.int k a') (.int k' b')).run P w = .ok r w ∧ VR g v r) → ∃ r, (execOp a.eval o).run P w = .ok (.value r) w ∧ VR g v r := by
      rintro ⟨r, h1, h2⟩
      exact ⟨r, run_bin ho (by rw [ep, eq]; exact eqGuard_int ..) (by rw [ep, eq]; exact h1), h2⟩
    split at h
    · exact fin (shiftA_run h t g w)
    · exact fin (shiftA_run h t g w)
    · split at h
      · rename_i hk; subst hk; exact fin (intA_run h t g w)
      · cases h
  · rename_i a' b' e1 e2
    rw [e1] at hp; rw [e2] at hq
    obtain ⟨x, ex, rfl⟩ := hp.str_inv
    obtain ⟨y, ey, rfl⟩ := hq.str_inv
    obtain ⟨r, h1, h2⟩ := strA_run h t g w
    exact ⟨r, run_bin ho (by rw [ex, ey]; exact eqGuard_string ..) (by rw [ex, ey]; exact h1), h2⟩
  · cases h

/-! ### bools, nil -/
def boolA (P : Program) (op : BinOp) (t : TypeId) (x y : AV) : Option AV :=
  match tyk P t, op, x, y with
  | some .bool, .eql, .bool a, .bool b => some (.bool (a == b))
  | some .bool, .neq, .bool a, .bool b => some (.bool (a != b))
  | _, _, _, _ => none
theorem eff_bool {t t' : TypeId} {p q : Operand} {op : BinOp} {v : AV} (ho : o.op = .binOp op t p q t') (h : boolA P op t (ρ p) (ρ q) = some v) : EffOK P o ρ sp ⟨[], v, []⟩ := by
  refine EffOK.plain fun g a w hop => ?_
  have hp := hop p (by simp [Op.operands, ho])
  have hq := hop q (by simp [Op.operands, ho])
  have ht : tyk P t = some .bool → P.underlying t = some .bool := by
    intro h; unfold tyk at h
    split at h <;> first | assumption | (simp at h; done) | (split at h <;> simp at h; done)
  unfold boolA at h
  split at h
  · rename_i a' b' e0 e1 e2
    rw [e1] at hp; rw [e2] at hq
    have ep := hp.bool_inv; have eq := hq.bool_inv
    simp only [Option.some.injEq] at h; subst h
    exact ⟨.bool (a' == b'), run_bin ho (by rw [ep, eq]; rfl) (by rw [ep, eq]; simp only [binOp, Op.equal, Op.maxDepth, Sem.run_bind, run_equalIn_bool w 9999 t a' b' (ht e0), Result.andThen_ok, Sem.run_pure]), .bool _⟩
  · rename_i a' b' e0 e1 e2
    rw [e1] at hp; rw [e2] at hq
    have ep := hp.bool_inv; have eq := hq.bool_inv
    simp only [Option.some.injEq] at h; subst h
    exact ⟨.bool (a' != b'), run_bin ho (by rw [ep, eq]; rfl) (by rw [ep, eq]; simp only [binOp, Op.equal, Op.maxDepth, Sem.run_bind, run_equalIn_bool w 9999 t a' b' (ht e0), Result.andThen_ok, Sem.run_pure, bne]), .bool _⟩
  · cases h
end
end Go.Ab
