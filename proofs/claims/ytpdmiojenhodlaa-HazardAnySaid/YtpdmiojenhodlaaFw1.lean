/- Abstract values and the relation to the model's worlds: definitions, monotonicity, the triple. -/
import Derived.OrdersIn
import Derived.Laws.World
import Derived.Laws.Sem
set_option linter.unusedVariables false
set_option linter.unusedSimpArgs false
namespace Go.Ab

/-- Names of abstract objects: those that came in, and those made by operation i of the region at count c under the name p. -/
inductive Oid where
  | root (n : Nat)
  | sub (c i : Nat) (p : Oid)
  deriving DecidableEq

/-- Abstract values. -/
inductive AV where
  | undef
  | bool (b : Bool)
  | int (k : IntKind) (n : Int)
  | str (s : List UInt8)
  | nilPtr
  | ptr (id : Oid) (off : Nat)
  | aptr (id : Oid) (sz i off : Nat)
  | eptr (v : AV)
  | nilSl
  | list (sz : Nat) (xs : List AV)
  | sl (id : Oid) (sz len : Nat)
  | nilMap
  | map (id : Oid)
  | fn (f : Fn) (first captured : List AV)
  | nilFn
  | iface (t : TypeId) (v : AV)
  | nilIface
  | agg (cs : List AV)
  | tuple (vs : List AV)
  | iter (id : Oid)

def AV.cells : AV → List AV
  | .agg cs => cs
  | v => [v]

/-- The scalars that a key is made of. -/
inductive TyS where
  | sb
  | si (k : IntKind)
  | ss
  deriving DecidableEq
def fitS : TyS → AV → Bool
  | .sb, .bool _ => true
  | .si k, .int k' _ => k == k'
  | .ss, .str _ => true
  | _, _ => false
def fits : List TyS → List AV → Bool
  | [], [] => true
  | k :: ks, x :: xs => fitS k x && fits ks xs
  | _, _ => false
def AV.isAgg : AV → Bool
  | .agg _ => true
  | _ => false
/-- A key of that shape: one scalar, or a value made of such parts. -/
def keyFits (ks : List TyS) (ag : Bool) (k : AV) : Bool := (k.isAgg == ag) && fits ks k.cells

/-- One entry of an abstract map. -/
structure ME where
  key : AV
  val : AV
  born : Nat

/-- Abstract objects. -/
inductive AObj where
  | cells (vs : List AV)
  | arr (sz : Nat) (xs : List AV)
  | map (ks : List TyS) (ag : Bool) (es : List ME) (clock : Nat)
  | loop (l n : Nat) (fr : List (Nat × AV)) (r : Loop)
  | dfr
  | iter (m : Option Oid) (since : Nat) (seen : List Nat) (last : Nat)
  | siter (s : List UInt8) (pos : Nat)

/-- A row without elements need not lie anywhere. -/
def AObj.void : AObj → Bool
  | .arr _ [] => true
  | _ => false

/-- The ghost: where an object lies (some none: nowhere), which cells hold what for good, how many cells a row has. -/
structure Gh where
  loc : Oid → Option (Option Nat)
  com : Nat → Nat → Option Value
  row : Nat → Option Nat

def Gh.le (g g' : Gh) : Prop := (∀ i b, g.loc i = some b → g'.loc i = some b) ∧ (∀ b o v, g.com b o = some v → g'.com b o = some v) ∧ ∀ b r, g.row b = some r → g'.row b = some r

theorem Gh.le_refl (g : Gh) : g.le g := ⟨fun _ _ h => h, fun _ _ _ h => h, fun _ _ h => h⟩
theorem Gh.le_trans {a b c : Gh} (h : a.le b) (k : b.le c) : a.le c := ⟨fun i x hx => k.1 i x (h.1 i x hx), fun x o v hx => k.2.1 x o v (h.2.1 x o v hx), fun b r hx => k.2.2 b r (h.2.2 b r hx)⟩

/-- The model's value v is what the abstract value says. -/
inductive VR (g : Gh) : AV → Value → Prop
  | unk (v : Value) : VR g .undef v
  | bool (b : Bool) : VR g (.bool b) (.bool b)
  | int (k : IntKind) (n : Int) : VR g (.int k n) (.int k n)
  | str (s : List UInt8) (b : ByteArray) (h : b.data.toList = s) : VR g (.str s) (.string b)
  | nilPtr : VR g .nilPtr (.pointer none)
  | ptr (id : Oid) (off b : Nat) (h : g.loc id = some (some b)) : VR g (.ptr id off) (.pointer (some ⟨b, off, none⟩))
  | aptr (id : Oid) (sz i off b : Nat) (h : g.loc id = some (some b)) : VR g (.aptr id sz i off) (.pointer (some ⟨b, i * sz + off, none⟩))
  | eptr (v : AV) (b o : Nat) (cs : Nat → Value) (hc : ∀ j, j < v.cells.length → g.com b (o + j) = some (cs j)) (hv : ∀ j, j < v.cells.length → VR g (v.cells.getD j .undef) (cs j)) :
      VR g (.eptr v) (.pointer (some ⟨b, o, none⟩))
  | nilSl : VR g .nilSl (.slice none 0 0)
  | list (sz : Nat) (xs : List AV) (b o cap : Nat) (cs : Nat → Nat → Value) (hcap : xs.length ≤ cap) (hlen : ∀ i, i < xs.length → (xs.getD i .undef).cells.length = sz)
      (hc : ∀ i j, i < xs.length → j < sz → g.com b (o + i * sz + j) = some (cs i j)) (hv : ∀ i j, i < xs.length → j < sz → VR g ((xs.getD i .undef).cells.getD j .undef) (cs i j)) :
      VR g (.list sz xs) (.slice (some ⟨b, o, none⟩) xs.length cap)
  | listNil (sz : Nat) : VR g (.list sz []) (.slice none 0 0)
  | listAny (sz : Nat) (a : Addr) (cap : Nat) : VR g (.list sz []) (.slice (some a) 0 cap)
  | sl (id : Oid) (sz len cap b : Nat) (h : g.loc id = some (some b)) (hcap : len ≤ cap) (hr : g.row b = some (cap * sz)) : VR g (.sl id sz len) (.slice (some ⟨b, 0, none⟩) len cap)
  | nilMap : VR g .nilMap (.map none)
  | slNil (id : Oid) (sz : Nat) (h : g.loc id = some none) : VR g (.sl id sz 0) (.slice none 0 0)
  | map (id : Oid) (b : Nat) (h : g.loc id = some (some b)) : VR g (.map id) (.map (some b))
  | fn (f : Fn) (first captured : List AV) (a b : Array Value) (h1 : a.size = first.length) (h2 : b.size = captured.length)
      (hv1 : ∀ j, j < first.length → VR g (first.getD j .undef) (a.getD j undef)) (hv2 : ∀ j, j < captured.length → VR g (captured.getD j .undef) (b.getD j undef)) :
      VR g (.fn f first captured) (.func f a b)
  | nilFn : VR g .nilFn .nilFunc
  | iface (t : TypeId) (v : AV) (x : Value) (h : VR g v x) : VR g (.iface t v) (.iface t x)
  | nilIface : VR g .nilIface .nilIface
  | agg (cs : List AV) (a : Array Value) (h : a.size = cs.length) (hv : ∀ j, j < cs.length → VR g (cs.getD j .undef) (a.getD j undef)) : VR g (.agg cs) (.agg a)
  | tuple (cs : List AV) (a : Array Value) (h : a.size = cs.length) (hv : ∀ j, j < cs.length → VR g (cs.getD j .undef) (a.getD j undef)) : VR g (.tuple cs) (.tuple a)
  | iter (id : Oid) (b : Nat) (h : g.loc id = some (some b)) : VR g (.iter id) (.pointer (some ⟨b, 0, none⟩))

theorem VR.mono {g g' : Gh} (hg : g.le g') {x : AV} {v : Value} (h : VR g x v) : VR g' x v := by
  induction h with
  | unk v => exact .unk v
  | bool b => exact .bool b
  | int k n => exact .int k n
  | str s b h => exact .str s b h
  | nilPtr => exact .nilPtr
  | ptr id off b h => exact .ptr id off b (hg.1 _ _ h)
  | aptr id sz i off b h => exact .aptr id sz i off b (hg.1 _ _ h)
  | eptr v b o cs hc _ ih => exact .eptr v b o cs (fun j hj => hg.2.1 _ _ _ (hc j hj)) ih
  | nilSl => exact .nilSl
  | list sz xs b o cap cs hcap hlen hc _ ih => exact .list sz xs b o cap cs hcap hlen (fun i j hi hj => hg.2.1 _ _ _ (hc i j hi hj)) ih
  | listNil sz => exact .listNil sz
  | listAny sz a cap => exact .listAny sz a cap
  | sl id sz len cap b h hcap hr => exact .sl id sz len cap b (hg.1 _ _ h) hcap (hg.2.2 _ _ hr)
  | slNil id sz h => exact .slNil id sz (hg.1 _ _ h)
  | nilMap => exact .nilMap
  | map id b h => exact .map id b (hg.1 _ _ h)
  | fn f first captured a b h1 h2 _ _ ih1 ih2 => exact .fn f first captured a b h1 h2 ih1 ih2
  | nilFn => exact .nilFn
  | iface t v x _ ih => exact .iface t v x ih
  | nilIface => exact .nilIface
  | agg cs a h _ ih => exact .agg cs a h ih
  | tuple cs a h _ ih => exact .tuple cs a h ih
  | iter id b h => exact .iter id b (hg.1 _ _ h)

theorem VR.bool_inv {g : Gh} {b : Bool} {v : Value} (h : VR g (.bool b) v) : v = .bool b := by cases h; rfl
theorem VR.int_inv {g : Gh} {k : IntKind} {n : Int} {v : Value} (h : VR g (.int k n) v) : v = .int k n := by cases h; rfl
theorem VR.str_inv {g : Gh} {s : List UInt8} {v : Value} (h : VR g (.str s) v) : ∃ b : ByteArray, v = .string b ∧ b.data.toList = s := by cases h; exact ⟨_, rfl, ‹_›⟩
theorem VR.ptr_inv {g : Gh} {id : Oid} {off : Nat} {v : Value} (h : VR g (.ptr id off) v) : ∃ b, v = .pointer (some ⟨b, off, none⟩) ∧ g.loc id = some (some b) := by cases h; exact ⟨_, rfl, ‹_›⟩
theorem VR.aptr_inv {g : Gh} {id : Oid} {sz i off : Nat} {v : Value} (h : VR g (.aptr id sz i off) v) : ∃ b, v = .pointer (some ⟨b, i * sz + off, none⟩) ∧ g.loc id = some (some b) := by cases h; exact ⟨_, rfl, ‹_›⟩
theorem VR.sl_inv' {g : Gh} {id : Oid} {sz len : Nat} {v : Value} (h : VR g (.sl id sz len) v) : (len = 0 ∧ v = .slice none 0 0 ∧ g.loc id = some none) ∨ ∃ b cap, v = .slice (some ⟨b, 0, none⟩) len cap ∧ g.loc id = some (some b) ∧ len ≤ cap ∧ g.row b = some (cap * sz) := by
  cases h with
  | sl id sz len cap b h hcap hr => exact .inr ⟨_, _, rfl, h, hcap, hr⟩
  | slNil id sz h => exact .inl ⟨rfl, rfl, h⟩
theorem VR.map_inv {g : Gh} {id : Oid} {v : Value} (h : VR g (.map id) v) : ∃ b, v = .map (some b) ∧ g.loc id = some (some b) := by cases h; exact ⟨_, rfl, ‹_›⟩
theorem VR.iter_inv {g : Gh} {id : Oid} {v : Value} (h : VR g (.iter id) v) : ∃ b, v = .pointer (some ⟨b, 0, none⟩) ∧ g.loc id = some (some b) := by cases h; exact ⟨_, rfl, ‹_›⟩
theorem VR.nilPtr_inv {g : Gh} {v : Value} (h : VR g .nilPtr v) : v = .pointer none := by cases h; rfl
theorem VR.nilSl_inv {g : Gh} {v : Value} (h : VR g .nilSl v) : v = .slice none 0 0 := by cases h; rfl
theorem VR.nilMap_inv {g : Gh} {v : Value} (h : VR g .nilMap v) : v = .map none := by cases h; rfl
theorem VR.nilFn_inv {g : Gh} {v : Value} (h : VR g .nilFn v) : v = .nilFunc := by cases h; rfl
theorem VR.nilIface_inv {g : Gh} {v : Value} (h : VR g .nilIface v) : v = .nilIface := by cases h; rfl
theorem VR.agg_inv {g : Gh} {cs : List AV} {v : Value} (h : VR g (.agg cs) v) : ∃ a, v = .agg a ∧ a.size = cs.length ∧ ∀ j, j < cs.length → VR g (cs.getD j .undef) (a.getD j undef) := by cases h; exact ⟨_, rfl, ‹_›, ‹_›⟩
theorem VR.tuple_inv {g : Gh} {cs : List AV} {v : Value} (h : VR g (.tuple cs) v) : ∃ a, v = .tuple a ∧ a.size = cs.length ∧ ∀ j, j < cs.length → VR g (cs.getD j .undef) (a.getD j undef) := by cases h; exact ⟨_, rfl, ‹_›, ‹_›⟩
theorem VR.iface_inv {g : Gh} {t : TypeId} {x : AV} {v : Value} (h : VR g (.iface t x) v) : ∃ y, v = .iface t y ∧ VR g x y := by cases h; exact ⟨_, rfl, ‹_›⟩
theorem VR.fn_inv {g : Gh} {f : Fn} {xs ys : List AV} {v : Value} (h : VR g (.fn f xs ys) v) : ∃ a b, v = .func f a b ∧ a.size = xs.length ∧ b.size = ys.length ∧
    (∀ j, j < xs.length → VR g (xs.getD j .undef) (a.getD j undef)) ∧ (∀ j, j < ys.length → VR g (ys.getD j .undef) (b.getD j undef)) := by cases h; exact ⟨_, _, rfl, ‹_›, ‹_›, ‹_›, ‹_›⟩
theorem VR.eptr_inv {g : Gh} {x : AV} {v : Value} (h : VR g (.eptr x) v) : ∃ (b o : Nat) (cs : Nat → Value), v = .pointer (some ⟨b, o, none⟩) ∧ (∀ j, j < x.cells.length → g.com b (o + j) = some (cs j)) ∧
    ∀ j, j < x.cells.length → VR g (x.cells.getD j .undef) (cs j) := by cases h; exact ⟨_, _, _, rfl, ‹_›, ‹_›⟩
theorem VR.list_inv {g : Gh} {sz : Nat} {xs : List AV} {v : Value} (h : VR g (.list sz xs) v) : (xs = [] ∧ (v = .slice none 0 0 ∨ ∃ a cap, v = .slice (some a) 0 cap)) ∨ ∃ (b o cap : Nat) (cs : Nat → Nat → Value), v = .slice (some ⟨b, o, none⟩) xs.length cap ∧ xs.length ≤ cap ∧
    (∀ i, i < xs.length → (xs.getD i .undef).cells.length = sz) ∧ (∀ i j, i < xs.length → j < sz → g.com b (o + i * sz + j) = some (cs i j)) ∧
    ∀ i j, i < xs.length → j < sz → VR g ((xs.getD i .undef).cells.getD j .undef) (cs i j) := by
  cases h with
  | list sz xs b o cap cs hcap hlen hc hv => exact .inr ⟨_, _, _, _, rfl, hcap, hlen, hc, hv⟩
  | listNil => exact .inl ⟨rfl, .inl rfl⟩
  | listAny _ a cap => exact .inl ⟨rfl, .inr ⟨a, cap, rfl⟩⟩

/-- Lists of values, place by place. -/
def VRs (g : Gh) (xs : List AV) (vs : Array Value) : Prop := vs.size = xs.length ∧ ∀ j, j < xs.length → VR g (xs.getD j .undef) (vs.getD j undef)
theorem VRs.mono {g g' : Gh} (hg : g.le g') {xs : List AV} {vs : Array Value} (h : VRs g xs vs) : VRs g' xs vs := ⟨h.1, fun j hj => (h.2 j hj).mono hg⟩

def F (l : List (Nat × AV)) (t : Nat) : AV :=
  match l with
  | [] => .undef
  | q :: r => if t = q.1 then q.2 else F r t

/-- The entries of a map, one by one. -/
inductive MERs (g : Gh) : List ME → List MapEntry → Prop
  | nil : MERs g [] []
  | cons {e : ME} {c : MapEntry} {es : List ME} {cs : List MapEntry} (hk : VR g e.key c.key) (hv : VR g e.val c.val) (hb : c.born = e.born) (t : MERs g es cs) : MERs g (e :: es) (c :: cs)
theorem MERs.mono {g g' : Gh} (hg : g.le g') {es : List ME} {cs : List MapEntry} (h : MERs g es cs) : MERs g' es cs := by
  induction h with
  | nil => exact .nil
  | cons hk hv hb _ ih => exact .cons (hk.mono hg) (hv.mono hg) hb ih
theorem MERs.length {g : Gh} {es : List ME} {cs : List MapEntry} (h : MERs g es cs) : cs.length = es.length := by
  induction h with
  | nil => rfl
  | cons _ _ _ _ ih => simp [ih]

/-- What block b of the world holds for an object. -/
def ObjAt (g : Gh) (w : World) (b : Nat) : AObj → Prop
  | .cells vs => ∃ c t fz, w.heap[b]? = some (.cells c t fz) ∧ c.size = vs.length ∧ (∀ j, j < c.size → ¬ (fz.1 ≤ j ∧ j < fz.2)) ∧ ∀ j, j < vs.length → VR g (vs.getD j .undef) (c.getD j undef)
  | .arr sz xs => ∃ c t fz, w.heap[b]? = some (.cells c t fz) ∧ xs.length * sz ≤ c.size ∧ (∀ j, j < c.size → ¬ (fz.1 ≤ j ∧ j < fz.2)) ∧
      (∀ i, i < xs.length → (xs.getD i .undef).cells.length = sz) ∧ (∀ j, j < xs.length * sz → (c.getD j undef).oneCell' = true) ∧
      ∀ i j, i < xs.length → j < sz → VR g ((xs.getD i .undef).cells.getD j .undef) (c.getD (i * sz + j) undef)
  | .map ks ag es clock => (∃ ents, w.heap[b]? = some (.map ents clock) ∧ MERs g es ents.toList) ∧
      (∀ e ∈ es, keyFits ks ag e.key = true ∧ e.born < clock) ∧ es.Pairwise (fun e e' => e.born < e'.born)
  | .loop l n fr r => b = l ∧ w.heap[b]? = some (.loop r) ∧ r.tmps.size = n ∧ ∀ t, t < n → VR g (F fr t) (r.tmps.getD t undef)
  | .dfr => w.heap[b]? = some (.deferred (some []))
  | .iter m since seen last => ∃ r sa, w.heap[b]? = some (.mapIter r since sa last) ∧ sa.toList = seen ∧ (match m with | none => r = none | some id => ∃ k, g.loc id = some (some k) ∧ r = some k)
  | .siter s pos => ∃ ba : ByteArray, w.heap[b]? = some (.stringIter ba pos) ∧ ba.data.toList = s

theorem ObjAt.mono {g g' : Gh} (hg : g.le g') {w : World} {b : Nat} {o : AObj} (h : ObjAt g w b o) : ObjAt g' w b o := by
  cases o with
  | cells vs => obtain ⟨c, t, fz, h1, h2, h3, h4⟩ := h; exact ⟨c, t, fz, h1, h2, h3, fun j hj => (h4 j hj).mono hg⟩
  | arr sz xs => obtain ⟨c, t, fz, h1, h2, h3, h4, h6, h5⟩ := h; exact ⟨c, t, fz, h1, h2, h3, h4, h6, fun i j hi hj => (h5 i j hi hj).mono hg⟩
  | map ks ag es clock => obtain ⟨⟨ents, h1, h2⟩, h4⟩ := h; exact ⟨⟨ents, h1, h2.mono hg⟩, h4⟩
  | loop l n fr r => obtain ⟨h1, h2, h3, h4⟩ := h; exact ⟨h1, h2, h3, fun t ht => (h4 t ht).mono hg⟩
  | dfr => exact h
  | iter m since seen last =>
    obtain ⟨r, sa, h1, h2, h3⟩ := h
    refine ⟨r, sa, h1, h2, ?_⟩
    cases m with
    | none => exact h3
    | some id => obtain ⟨k, hk, hr⟩ := h3; exact ⟨k, hg.1 _ _ hk, hr⟩
  | siter s pos => exact h

/-- An object hangs on its block alone. -/
theorem ObjAt.block {g : Gh} {w w' : World} {b : Nat} {o : AObj} (hb : w'.heap[b]? = w.heap[b]?) (h : ObjAt g w b o) : ObjAt g w' b o := by
  cases o <;> simpa only [ObjAt, hb] using h

theorem ObjAt.lt {g : Gh} {w : World} {b : Nat} {o : AObj} (h : ObjAt g w b o) : b < w.heap.size := by
  have : w.heap[b]? ≠ none := by
    cases o with
    | cells vs => obtain ⟨c, t, fz, h1, _⟩ := h; simp [h1]
    | arr sz xs => obtain ⟨c, t, fz, h1, _⟩ := h; simp [h1]
    | map ks ag es clock => obtain ⟨⟨ents, h1, _⟩, _⟩ := h; simp [h1]
    | loop l n fr r => obtain ⟨_, h1, _⟩ := h; simp [h1]
    | dfr => have h1 : w.heap[b]? = some (.deferred (some [])) := h; simp [h1]
    | iter m since seen last => obtain ⟨r, sa, h1, _⟩ := h; simp [h1]
    | siter s pos => obtain ⟨ba, h1, _⟩ := h; simp [h1]
  rcases Nat.lt_or_ge b w.heap.size with h' | h'
  · exact h'
  · simp [Array.getElem?_eq_none h'] at this

/-- The abstract memory. -/
abbrev Mem := Oid → Option AObj
def Mem.emp : Mem := fun _ => none
def Mem.set (m : Mem) (id : Oid) (o : Option AObj) : Mem := fun x => if x = id then o else m x
def Mem.upds (m : Mem) : List (Oid × Option AObj) → Mem
  | [] => m
  | q :: l => (m.set q.1 q.2).upds l
def Mem.of : List (Oid × AObj) → Mem
  | [] => Mem.emp
  | q :: l => (Mem.of l).set q.1 (some q.2)

/-- The name x is p's own or was made under it. -/
def Oid.under (p : Oid) : Oid → Prop
  | .root n => p = .root n
  | .sub c i q => p = .sub c i q ∨ Oid.under p q

/-- What will be made under p from count c on. -/
def Young (p : Oid) (c : Nat) (x : Oid) : Prop := ∃ c' i, c ≤ c' ∧ Oid.under (.sub c' i p) x

theorem Oid.under_refl (p : Oid) : Oid.under p p := by cases p <;> simp [Oid.under]
theorem Oid.under_sub {c i : Nat} {p x : Oid} (h : Oid.under (.sub c i p) x) : Oid.under p x := by
  induction x with
  | root n => simp [Oid.under] at h
  | sub c' i' q ih =>
    simp only [Oid.under] at h ⊢
    rcases h with h | h
    · injection h with _ _ h; subst h; exact .inr (Oid.under_refl _)
    · exact .inr (ih h)
theorem Young.under {p : Oid} {c : Nat} {x : Oid} (h : Young p c x) : Oid.under p x := let ⟨_, _, _, h⟩ := h; Oid.under_sub h
theorem Young.mono {p : Oid} {c c' : Nat} {x : Oid} (hc : c ≤ c') (h : Young p c' x) : Young p c x := let ⟨k, i, hk, h⟩ := h; ⟨k, i, Nat.le_trans hc hk, h⟩

/-- What stays fixed while a body runs: the program's number of variables, the ghost and the world at the beginning, which old blocks may be written, under which name its own objects are made, and in which round it runs. -/
structure Ctx where
  ng : Nat
  g0 : Gh
  w0 : World
  may0 : Nat → Prop
  p : Oid
  rd : Option Nat

/-- The fence that lets everything in; 'rd': the round of a range over a function in which the body runs. -/
def Fc (rd : Option Nat) : Fence := { fn := fun _ => True, depth := none, alive := false, round := rd }

def Ctx.may (x : Ctx) (b : Nat) : Prop := x.may0 b ∨ x.w0.heap.size ≤ b

structure MemRel (x : Ctx) (g : Gh) (m : Mem) (w : World) : Prop where
  le : x.g0.le g
  locs : ∀ i, ¬ Oid.under x.p i → g.loc i = x.g0.loc i
  glob : ∀ k, k < x.ng → g.loc (.root k) = some (some k)
  coms : ∀ b o v, g.com b o = some v → x.g0.com b o = some v ∨ x.may b
  obj0 : ∀ i o, m i = some o → (o.void = true ∧ g.loc i = some none) ∨ ∃ b, g.loc i = some (some b) ∧ (∀ k, g.com b k = none) ∧ x.may b ∧ ObjAt g w b o
  inj : ∀ i j o o' b, m i = some o → m j = some o' → g.loc i = some (some b) → g.loc j = some (some b) → i = j
  com : ∀ b o v, g.com b o = some v → w.cell? ⟨b, o, none⟩ = some v
  one : ∀ b o v, g.com b o = some v → v.oneCell' = true
  rows : ∀ b r, g.row b = some r → ∃ c t fz, w.heap[b]? = some (.cells c t fz) ∧ c.size = r
  os : w.os = x.w0.os
  tape : w.tape = x.w0.tape
  output : w.output = x.w0.output ∧ x.w0.drawn ≤ w.drawn
  size : x.w0.heap.size ≤ w.heap.size
  kept : ∀ b, b < x.w0.heap.size → ¬ x.may0 b → w.heap[b]? = x.w0.heap[b]?

theorem MemRel.obj {x : Ctx} {g : Gh} {m : Mem} {w : World} (h : MemRel x g m w) (i : Oid) (o : AObj) (hi : m i = some o) (hv : o.void = false := by rfl) : ∃ b, g.loc i = some (some b) ∧ (∀ k, g.com b k = none) ∧ x.may b ∧ ObjAt g w b o :=
  (h.obj0 i o hi).resolve_left fun hh => by rw [hv] at hh; cases hh.1
theorem MemRel.objL {x : Ctx} {g : Gh} {m : Mem} {w : World} (h : MemRel x g m w) {i : Oid} {o : AObj} (hi : m i = some o) {b0 : Nat} (hb : g.loc i = some (some b0)) : ∃ b, g.loc i = some (some b) ∧ (∀ k, g.com b k = none) ∧ x.may b ∧ ObjAt g w b o :=
  (h.obj0 i o hi).resolve_left fun hv => by rw [hb] at hv; cases hv.2
theorem MemRel.taken {x : Ctx} {g : Gh} {m : Mem} {w : World} (h : MemRel x g m w) {i : Oid} {o : AObj} (hi : m i = some o) : g.loc i ≠ none := by
  rcases h.obj0 i o hi with ⟨_, h⟩ | ⟨b, h, _⟩ <;> simp [h]

/-- Deferred calls. -/
inductive AD where
  | coll (id : Oid)
  | call (f : Fn) (cap args : List AV)
inductive DR (g : Gh) : AD → Deferred → Prop
  | coll (id : Oid) (b : Nat) (h : g.loc id = some (some b)) : DR g (.coll id) ⟨.collected b, #[]⟩
  | call (f : Fn) (cap args : List AV) (c a : Array Value) (h1 : VRs g cap c) (h2 : VRs g args a) : DR g (.call f cap args) ⟨.fn f c, a⟩
theorem DR.mono {g g' : Gh} (hg : g.le g') {a : AD} {d : Deferred} (h : DR g a d) : DR g' a d := by
  cases h with
  | coll id b h => exact .coll id b (hg.1 _ _ h)
  | call f cap args c a h1 h2 => exact .call f cap args c a (h1.mono hg) (h2.mono hg)
inductive DRs (g : Gh) : List AD → List Deferred → Prop
  | nil : DRs g [] []
  | cons {a : AD} {d : Deferred} {l : List AD} {l' : List Deferred} (h : DR g a d) (t : DRs g l l') : DRs g (a :: l) (d :: l')
theorem DRs.mono {g g' : Gh} (hg : g.le g') {a : List AD} {d : List Deferred} (h : DRs g a d) : DRs g' a d := by
  induction h with
  | nil => exact .nil
  | cons h _ ih => exact .cons (h.mono hg) ih
theorem DRs.nil_inv {g : Gh} {d : List Deferred} (h : DRs g [] d) : d = [] := by cases h; rfl

/-- The abstract state of a running body. -/
structure AS where
  fr : List (Nat × AV)
  mem : Mem
  c : Nat
  ds : List AD

def put (d : Option Nat) (v : AV) (l : List (Nat × AV)) : List (Nat × AV) :=
  match d with
  | some d => (d, v) :: l
  | none => l

structure Rel (x : Ctx) (n : Nat) (g : Gh) (s : AS) (a : Act) (w : World) : Prop where
  mr : MemRel x g s.mem w
  tm : a.tmps.size = n
  df : DRs g s.ds a.defers
  fr : ∀ t, t < n → VR g (F s.fr t) (a.tmps.getD t undef)
  young : ∀ i, Young x.p s.c i → g.loc i = none

/-- Abstract exits. -/
inductive AX where
  | normal
  | exit (id : Nat)
  | ret
  | panic (v : AV)

def AX.fits (g : Gh) : AX → Exit → Prop
  | .normal, .normal => True
  | .exit i, .exit j => i = j
  | .ret, .ret => True
  | .panic v, .panic [e] => VR g v e.v ∧ e.recovered = false ∧ e.goexit = false
  | _, _ => False

/-- The triple: from every world that fits the state, the code comes to an exit and a state of Q. -/
def T (P : Program) (x : Ctx) (n : Nat) (c : Code) (s : AS) (Q : AX → AS → Prop) : Prop :=
  ∀ g a w, Rel x n g s a w → c.wpIn (Fc x.rd) 0 P (fun e a' w' => ∃ g' ex s', Rel x n g' s' a' w' ∧ ex.fits g' e ∧ Q ex s') a w

end Go.Ab
