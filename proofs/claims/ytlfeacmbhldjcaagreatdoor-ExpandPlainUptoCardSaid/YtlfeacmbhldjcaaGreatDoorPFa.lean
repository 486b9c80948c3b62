/- A part of the proof: the texts FwA, FwB, one behind the other. -/
import Derived.OrdersIn
import Derived.Laws.World
import Derived.Laws.Sem
import Derived.Laws.Append
import Derived.Laws.StructEq
import Derived.Laws.Tables
set_option linter.unusedVariables false
set_option linter.unusedSimpArgs false
set_option linter.unusedSectionVars false
namespace Go.Ab
inductive Oid where
 | root (n:Nat)
 | sub (c i:Nat) (p:Oid)
 | ty (t:Nat) (p:Oid)
 deriving DecidableEq
inductive AV where
 | undef
 | bool (b:Bool)
 | int (k:IntKind) (n:Int)
 | str (s:List UInt8)
 | nilPtr
 | ptr (id:Oid) (off:Nat)
 | aptr (id:Oid) (sz i off:Nat)
 | eptr (v:AV)
 | nilSl
 | list (sz:Nat) (xs:List AV)
 | sl (id:Oid) (sz len:Nat)
 | win (id:Oid) (sz off len:Nat)
 | nilMap
 | map (id:Oid)
 | fn (f:Fn) (first captured:List AV)
 | nilFn
 | iface (t:TypeId) (v:AV)
 | nilIface
 | agg (cs:List AV)
 | tuple (vs:List AV)
 | iter (id:Oid)
def AV.cells:AV→List AV
 | .agg cs=>cs
 | v=>[v]
inductive TyS where
 | sb
 | si (k:IntKind)
 | ss
 deriving DecidableEq
def eD:TyS→AV→Bool
 | .sb,.bool _=>true
 | .si k,.int k' _=>k == k'
 | .ss,.str _=>true
 | _,_=>false
def fits:List TyS→List AV→Bool
 | [],[]=>true
 | k::ks,x::xs=>eD k x && fits ks xs
 | _,_=>false
def AV.isAgg:AV→Bool
 | .agg _=>true
 | _=>false
def aQ (ks:List TyS) (ag:Bool) (k:AV):Bool:=(k.isAgg == ag) && fits ks k.cells
structure ME where
 key:AV
 val:AV
 born:Nat
inductive ar where
 | cells (vs:List AV)
 | arr (sz:Nat) (xs:List AV)
 | map (ks:List TyS) (ag:Bool) (es:List ME) (clock:Nat)
 | loop (l n:Nat) (fr:List (Nat × AV)) (r:Loop)
 | dfr
 | iter (m:Option Oid) (since:Nat) (seen:List Nat) (last:Nat)
 | siter (s:List UInt8) (pos:Nat)
def ar.void:ar→Bool
 | .arr _ []=>true
 | _=>false
structure Gh where
 loc:Oid→Option (Option Nat)
 com:Nat→Nat→Option Value
 row:Nat→Option Nat
def Gh.le (g g':Gh):Prop:=(∀ i b,g.loc i=some b→g'.loc i=some b)∧(∀ b o v,g.com b o=some v→g'.com b o=some v)∧∀ b r,g.row b=some r→g'.row b=some r
theorem Gh.le_refl (g:Gh):g.le g:=⟨fun _ _ h=>h,fun _ _ _ h=>h,fun _ _ h=>h⟩
theorem Gh.le_trans {a b c:Gh} (h:a.le b) (k:b.le c):a.le c:=⟨fun i x hx=>k.1 i x (h.1 i x hx),fun x o v hx=>k.2.1 x o v (h.2.1 x o v hx),fun b r hx=>k.2.2 b r (h.2.2 b r hx)⟩
inductive VR (g:Gh):AV→Value→Prop
 | unk (v:Value):VR g .undef v
 | bool (b:Bool):VR g (.bool b) (.bool b)
 | int (k:IntKind) (n:Int):VR g (.int k n) (.int k n)
 | str (s:List UInt8) (b:ByteArray) (h:b.data.toList=s):VR g (.str s) (.string b)
 | nilPtr:VR g .nilPtr (.pointer none)
 | ptr (id:Oid) (off b:Nat) (h:g.loc id=some (some b)):VR g (.ptr id off) (.pointer (some ⟨b,off,none⟩))
 | aptr (id:Oid) (sz i off b:Nat) (h:g.loc id=some (some b)):VR g (.aptr id sz i off) (.pointer (some ⟨b,i * sz+off,none⟩))
 | eptr (v:AV) (b o:Nat) (cs:Nat→Value) (hc:∀ j,j < v.cells.length→g.com b (o+j)=some (cs j)) (hv:∀ j,j < v.cells.length→VR g (v.cells.getD j .undef) (cs j)) :
   VR g (.eptr v) (.pointer (some ⟨b,o,none⟩))
 | nilSl:VR g .nilSl (.slice none 0 0)
 | list (sz:Nat) (xs:List AV) (b o cap:Nat) (cs:Nat→Nat→Value) (hcap:xs.length≤cap) (hlen:∀ i,i < xs.length→(xs.getD i .undef).cells.length=sz)
   (hc:∀ i j,i < xs.length→j < sz→g.com b (o+i * sz+j)=some (cs i j)) (hv:∀ i j,i < xs.length→j < sz→VR g ((xs.getD i .undef).cells.getD j .undef) (cs i j)) :
   VR g (.list sz xs) (.slice (some ⟨b,o,none⟩) xs.length cap)
 | listNil (sz:Nat):VR g (.list sz []) (.slice none 0 0)
 | listAny (sz:Nat) (a:Addr) (cap:Nat):VR g (.list sz []) (.slice (some a) 0 cap)
 | sl (id:Oid) (sz len cap b:Nat) (h:g.loc id=some (some b)) (hcap:len≤cap) (hr:g.row b=some (cap * sz)):VR g (.sl id sz len) (.slice (some ⟨b,0,none⟩) len cap)
 | win (id:Oid) (sz off len cap b:Nat) (h:g.loc id=some (some b)):VR g (.win id sz off len) (.slice (some ⟨b,off * sz,none⟩) len cap)
 | nilMap:VR g .nilMap (.map none)
 | slNil (id:Oid) (sz:Nat) (h:g.loc id=some none):VR g (.sl id sz 0) (.slice none 0 0)
 | map (id:Oid) (b:Nat) (h:g.loc id=some (some b)):VR g (.map id) (.map (some b))
 | fn (f:Fn) (first captured:List AV) (a b:Array Value) (h1:a.size=first.length) (h2:b.size=captured.length)
   (hv1:∀ j,j < first.length→VR g (first.getD j .undef) (a.getD j undef)) (hv2:∀ j,j < captured.length→VR g (captured.getD j .undef) (b.getD j undef)) :
   VR g (.fn f first captured) (.func f a b)
 | nilFn:VR g .nilFn .nilFunc
 | iface (t:TypeId) (v:AV) (x:Value) (h:VR g v x):VR g (.iface t v) (.iface t x)
 | nilIface:VR g .nilIface .nilIface
 | agg (cs:List AV) (a:Array Value) (h:a.size=cs.length) (hv:∀ j,j < cs.length→VR g (cs.getD j .undef) (a.getD j undef)):VR g (.agg cs) (.agg a)
 | tuple (cs:List AV) (a:Array Value) (h:a.size=cs.length) (hv:∀ j,j < cs.length→VR g (cs.getD j .undef) (a.getD j undef)):VR g (.tuple cs) (.tuple a)
 | iter (id:Oid) (b:Nat) (h:g.loc id=some (some b)):VR g (.iter id) (.pointer (some ⟨b,0,none⟩))
theorem VR.mono {g g':Gh} (hg:g.le g') {x:AV} {v:Value} (h:VR g x v):VR g' x v:=by
 induction h with
 | unk v=>exact .unk v
 | bool b=>exact .bool b
 | int k n=>exact .int k n
 | str s b h=>exact .str s b h
 | nilPtr=>exact .nilPtr
 | ptr id off b h=>exact .ptr id off b (hg.1 _ _ h)
 | aptr id sz i off b h=>exact .aptr id sz i off b (hg.1 _ _ h)
 | eptr v b o cs hc _ ih=>exact .eptr v b o cs (fun j hj=>hg.2.1 _ _ _ (hc j hj)) ih
 | nilSl=>exact .nilSl
 | list sz xs b o cap cs hcap hlen hc _ ih=>exact .list sz xs b o cap cs hcap hlen (fun i j hi hj=>hg.2.1 _ _ _ (hc i j hi hj)) ih
 | listNil sz=>exact .listNil sz
 | listAny sz a cap=>exact .listAny sz a cap
 | sl id sz len cap b h hcap hr=>exact .sl id sz len cap b (hg.1 _ _ h) hcap (hg.2.2 _ _ hr)
 | slNil id sz h=>exact .slNil id sz (hg.1 _ _ h)
 | win id sz off len cap b h=>exact .win id sz off len cap b (hg.1 _ _ h)
 | nilMap=>exact .nilMap
 | map id b h=>exact .map id b (hg.1 _ _ h)
 | fn f first captured a b h1 h2 _ _ ih1 ih2=>exact .fn f first captured a b h1 h2 ih1 ih2
 | nilFn=>exact .nilFn
 | iface t v x _ ih=>exact .iface t v x ih
 | nilIface=>exact .nilIface
 | agg cs a h _ ih=>exact .agg cs a h ih
 | tuple cs a h _ ih=>exact .tuple cs a h ih
 | iter id b h=>exact .iter id b (hg.1 _ _ h)
theorem VR.bN {g:Gh} {b:Bool} {v:Value} (h:VR g (.bool b) v):v = .bool b:=by cases h;rfl
theorem VR.aY {g:Gh} {k:IntKind} {n:Int} {v:Value} (h:VR g (.int k n) v):v = .int k n:=by cases h;rfl
theorem VR.bf {g:Gh} {s:List UInt8} {v:Value} (h:VR g (.str s) v):∃ b:ByteArray,v = .string b∧b.data.toList=s:=by cases h;exact ⟨_,rfl,‹_›⟩
theorem VR.cA {g:Gh} {id:Oid} {off:Nat} {v:Value} (h:VR g (.ptr id off) v):∃ b,v = .pointer (some ⟨b,off,none⟩)∧g.loc id=some (some b):=by cases h;exact ⟨_,rfl,‹_›⟩
theorem VR.fL {g:Gh} {id:Oid} {sz i off:Nat} {v:Value} (h:VR g (.aptr id sz i off) v):∃ b,v = .pointer (some ⟨b,i * sz+off,none⟩)∧g.loc id=some (some b):=by cases h;exact ⟨_,rfl,‹_›⟩
theorem VR.dq {g:Gh} {id:Oid} {sz len:Nat} {v:Value} (h:VR g (.sl id sz len) v):(len=0∧v = .slice none 0 0∧g.loc id=some none)∨∃ b cap,v = .slice (some ⟨b,0,none⟩) len cap∧g.loc id=some (some b)∧len≤cap∧g.row b=some (cap * sz):=by
 cases h with
 | sl id sz len cap b h hcap hr=>exact .inr ⟨_,_,rfl,h,hcap,hr⟩
 | slNil id sz h=>exact .inl ⟨rfl,rfl,h⟩
theorem VR.ud {g:Gh} {id:Oid} {sz off len:Nat} {v:Value} (h:VR g (.win id sz off len) v):∃ b cap,v = .slice (some ⟨b,off * sz,none⟩) len cap∧g.loc id=some (some b):=by cases h;exact ⟨_,_,rfl,‹_›⟩
theorem VR.eE {g:Gh} {id:Oid} {v:Value} (h:VR g (.map id) v):∃ b,v = .map (some b)∧g.loc id=some (some b):=by cases h;exact ⟨_,rfl,‹_›⟩
theorem VR.jx {g:Gh} {id:Oid} {v:Value} (h:VR g (.iter id) v):∃ b,v = .pointer (some ⟨b,0,none⟩)∧g.loc id=some (some b):=by cases h;exact ⟨_,rfl,‹_›⟩
theorem VR.cP {g:Gh} {v:Value} (h:VR g .nilPtr v):v = .pointer none:=by cases h;rfl
theorem VR.bu {g:Gh} {v:Value} (h:VR g .nilSl v):v = .slice none 0 0:=by cases h;rfl
theorem VR.dt {g:Gh} {v:Value} (h:VR g .nilMap v):v = .map none:=by cases h;rfl
theorem VR.j5 {g:Gh} {v:Value} (h:VR g .nilFn v):v = .nilFunc:=by cases h;rfl
theorem VR.gq {g:Gh} {v:Value} (h:VR g .nilIface v):v = .nilIface:=by cases h;rfl
theorem VR.dY {g:Gh} {cs:List AV} {v:Value} (h:VR g (.agg cs) v):∃ a,v = .agg a∧a.size=cs.length∧∀ j,j < cs.length→VR g (cs.getD j .undef) (a.getD j undef):=by cases h;exact ⟨_,rfl,‹_›,‹_›⟩
theorem VR.nJ {g:Gh} {cs:List AV} {v:Value} (h:VR g (.tuple cs) v):∃ a,v = .tuple a∧a.size=cs.length∧∀ j,j < cs.length→VR g (cs.getD j .undef) (a.getD j undef):=by cases h;exact ⟨_,rfl,‹_›,‹_›⟩
theorem VR.vl {g:Gh} {t:TypeId} {x:AV} {v:Value} (h:VR g (.iface t x) v):∃ y,v = .iface t y∧VR g x y:=by cases h;exact ⟨_,rfl,‹_›⟩
theorem VR.j6 {g:Gh} {f:Fn} {xs ys:List AV} {v:Value} (h:VR g (.fn f xs ys) v):∃ a b,v = .func f a b∧a.size=xs.length∧b.size=ys.length ∧
  (∀ j,j < xs.length→VR g (xs.getD j .undef) (a.getD j undef))∧(∀ j,j < ys.length→VR g (ys.getD j .undef) (b.getD j undef)):=by cases h;exact ⟨_,_,rfl,‹_›,‹_›,‹_›,‹_›⟩
theorem VR.jy {g:Gh} {x:AV} {v:Value} (h:VR g (.eptr x) v):∃ (b o:Nat) (cs:Nat→Value),v = .pointer (some ⟨b,o,none⟩)∧(∀ j,j < x.cells.length→g.com b (o+j)=some (cs j)) ∧
  ∀ j,j < x.cells.length→VR g (x.cells.getD j .undef) (cs j):=by cases h;exact ⟨_,_,_,rfl,‹_›,‹_›⟩
theorem VR.dH {g:Gh} {sz:Nat} {xs:List AV} {v:Value} (h:VR g (.list sz xs) v):(xs=[]∧(v = .slice none 0 0∨∃ a cap,v = .slice (some a) 0 cap))∨∃ (b o cap:Nat) (cs:Nat→Nat→Value),v = .slice (some ⟨b,o,none⟩) xs.length cap∧xs.length≤cap ∧
  (∀ i,i < xs.length→(xs.getD i .undef).cells.length=sz)∧(∀ i j,i < xs.length→j < sz→g.com b (o+i * sz+j)=some (cs i j)) ∧
  ∀ i j,i < xs.length→j < sz→VR g ((xs.getD i .undef).cells.getD j .undef) (cs i j):=by
 cases h with
 | list sz xs b o cap cs hcap hlen hc hv=>exact .inr ⟨_,_,_,_,rfl,hcap,hlen,hc,hv⟩
 | listNil=>exact .inl ⟨rfl,.inl rfl⟩
 | listAny _ a cap=>exact .inl ⟨rfl,.inr ⟨a,cap,rfl⟩⟩
def VRs (g:Gh) (xs:List AV) (vs:Array Value):Prop:=vs.size=xs.length∧∀ j,j < xs.length→VR g (xs.getD j .undef) (vs.getD j undef)
theorem VRs.mono {g g':Gh} (hg:g.le g') {xs:List AV} {vs:Array Value} (h:VRs g xs vs):VRs g' xs vs:=⟨h.1,fun j hj=>(h.2 j hj).mono hg⟩
def F (l:List (Nat × AV)) (t:Nat):AV :=
 match l with
 | []=>.undef
 | q::r=>if t=q.1 then q.2 else F r t
inductive cD (g:Gh):List ME→List MapEntry→Prop
 | nil:cD g [] []
 | cons {e:ME} {c:MapEntry} {es:List ME} {cs:List MapEntry} (hk:VR g e.key c.key) (hv:VR g e.val c.val) (hb:c.born=e.born) (t:cD g es cs):cD g (e::es) (c::cs)
theorem cD.mono {g g':Gh} (hg:g.le g') {es:List ME} {cs:List MapEntry} (h:cD g es cs):cD g' es cs:=by
 induction h with
 | nil=>exact .nil
 | cons hk hv hb _ ih=>exact .cons (hk.mono hg) (hv.mono hg) hb ih
theorem cD.length {g:Gh} {es:List ME} {cs:List MapEntry} (h:cD g es cs):cs.length=es.length:=by
 induction h with
 | nil=>rfl
 | cons _ _ _ _ ih=>simp [ih]
def b9 (g:Gh) (w:World) (b:Nat):ar→Prop
 | .cells vs=>∃ c t fz,w.heap[b]? = some (.cells c t fz)∧c.size=vs.length∧(∀ j,j < c.size→¬ (fz.1≤j∧j < fz.2))∧∀ j,j < vs.length→VR g (vs.getD j .undef) (c.getD j undef)
 | .arr sz xs=>∃ c t fz,w.heap[b]? = some (.cells c t fz)∧xs.length * sz≤c.size∧(∀ j,j < c.size→¬ (fz.1≤j∧j < fz.2)) ∧
   (∀ i,i < xs.length→(xs.getD i .undef).cells.length=sz)∧(∀ j,j < xs.length * sz→(c.getD j undef).oneCell' = true) ∧
   ∀ i j,i < xs.length→j < sz→VR g ((xs.getD i .undef).cells.getD j .undef) (c.getD (i * sz+j) undef)
 | .map ks ag es clock=>(∃ ents,w.heap[b]? = some (.map ents clock)∧cD g es ents.toList) ∧
   (∀ e ∈ es,aQ ks ag e.key=true∧e.born < clock)∧es.Pairwise (fun e e'=>e.born < e'.born)
 | .loop l n fr r=>b=l∧w.heap[b]? = some (.loop r)∧r.tmps.size=n∧∀ t,t < n→VR g (F fr t) (r.tmps.getD t undef)
 | .dfr=>w.heap[b]? = some (.deferred (some []))
 | .iter m since seen last=>∃ r sa,w.heap[b]? = some (.mapIter r since sa last)∧sa.toList=seen∧(match m with|none=>r=none|some id=>∃ k,g.loc id=some (some k)∧r=some k)
 | .siter s pos=>∃ ba:ByteArray,w.heap[b]? = some (.stringIter ba pos)∧ba.data.toList=s
theorem b9.mono {g g':Gh} (hg:g.le g') {w:World} {b:Nat} {o:ar} (h:b9 g w b o):b9 g' w b o:=by
 cases o with
 | cells vs=>obtain ⟨c,t,fz,h1,h2,h3,h4⟩:=h;exact ⟨c,t,fz,h1,h2,h3,fun j hj=>(h4 j hj).mono hg⟩
 | arr sz xs=>obtain ⟨c,t,fz,h1,h2,h3,h4,h6,h5⟩:=h;exact ⟨c,t,fz,h1,h2,h3,h4,h6,fun i j hi hj=>(h5 i j hi hj).mono hg⟩
 | map ks ag es clock=>obtain ⟨⟨ents,h1,h2⟩,h4⟩:=h;exact ⟨⟨ents,h1,h2.mono hg⟩,h4⟩
 | loop l n fr r=>obtain ⟨h1,h2,h3,h4⟩:=h;exact ⟨h1,h2,h3,fun t ht=>(h4 t ht).mono hg⟩
 | dfr=>exact h
 | iter m since seen last =>
  obtain ⟨r,sa,h1,h2,h3⟩:=h
  refine ⟨r,sa,h1,h2,?_⟩
  cases m with
  | none=>exact h3
  | some id=>obtain ⟨k,hk,hr⟩:=h3;exact ⟨k,hg.1 _ _ hk,hr⟩
 | siter s pos=>exact h
theorem b9.block {g:Gh} {w w':World} {b:Nat} {o:ar} (hb:w'.heap[b]? = w.heap[b]?) (h:b9 g w b o):b9 g w' b o:=by
 cases o<;>simpa only [b9,hb] using h
theorem b9.lt {g:Gh} {w:World} {b:Nat} {o:ar} (h:b9 g w b o):b < w.heap.size:=by
 have:w.heap[b]? ≠ none:=by
  cases o with
  | cells vs=>obtain ⟨c,t,fz,h1,_⟩:=h;simp [h1]
  | arr sz xs=>obtain ⟨c,t,fz,h1,_⟩:=h;simp [h1]
  | map ks ag es clock=>obtain ⟨⟨ents,h1,_⟩,_⟩:=h;simp [h1]
  | loop l n fr r=>obtain ⟨_,h1,_⟩:=h;simp [h1]
  | dfr=>have h1:w.heap[b]? = some (.deferred (some [])):=h;simp [h1]
  | iter m since seen last=>obtain ⟨r,sa,h1,_⟩:=h;simp [h1]
  | siter s pos=>obtain ⟨ba,h1,_⟩:=h;simp [h1]
 rcases Nat.lt_or_ge b w.heap.size with h'|h'
 ·exact h'
 ·simp [Array.getElem?_eq_none h'] at this
abbrev Mem:=Oid→Option ar
def Mem.emp:Mem:=fun _=>none
def Mem.set (m:Mem) (id:Oid) (o:Option ar):Mem:=fun x=>if x=id then o else m x
def Mem.aF (m:Mem):List (Oid × Option ar)→Mem
 | []=>m
 | q::l=>(m.set q.1 q.2).aF l
def Mem.of:List (Oid × ar)→Mem
 | []=>Mem.emp
 | q::l=>(Mem.of l).set q.1 (some q.2)
def Oid.under (p:Oid):Oid→Prop
 | .root n=>p = .root n
 | .sub c i q=>p = .sub c i q∨Oid.under p q
 | .ty t q=>p = .ty t q∨Oid.under p q
def Oid.tyd:Oid→Option Nat
 | .ty t _=>some t
 | _=>none
def dB (p:Oid) (c:Nat) (x:Oid):Prop:=∃ c' i,c≤c'∧Oid.under (.sub c' i p) x
def Oid.mono:Oid→Bool
 | .root _=>false
 | .sub _ i q=>i == 999983 || q.mono
 | .ty _ q=>q.mono
theorem Oid.qf (c i:Nat) (p:Oid):(Oid.sub c i p).mono=(i == 999983 || p.mono):=rfl
theorem Oid.Dz (t:Nat) (p:Oid):(Oid.ty t p).mono=p.mono:=rfl
theorem Oid.lF {p q:Oid} (h:Oid.under p q) (hm:p.mono=true):q.mono=true:=by
 induction q with
 | root n=>simp only [Oid.under] at h;rw [← h];exact hm
 | sub c i q ih =>
  simp only [Oid.under] at h
  rcases h with h|h
  ·rw [← h];exact hm
  ·rw [Oid.qf,ih h,Bool.or_true]
 | ty t q ih =>
  simp only [Oid.under] at h
  rcases h with h|h
  ·rw [← h];exact hm
  ·rw [Oid.Dz,ih h]
theorem Oid.az (p:Oid):Oid.under p p:=by cases p<;>simp [Oid.under]
theorem Oid.ay {c i:Nat} {p x:Oid} (h:Oid.under (.sub c i p) x):Oid.under p x:=by
 induction x with
 | root n=>simp [Oid.under] at h
 | sub c' i' q ih =>
  simp only [Oid.under] at h ⊢
  rcases h with h|h
  ·injection h with _ _ h;subst h;exact .inr (Oid.az _)
  ·exact .inr (ih h)
 | ty t q ih =>
  simp only [Oid.under] at h ⊢
  rcases h with h|h
  ·cases h
  ·exact .inr (ih h)
theorem Oid.fM (t:Nat) (p:Oid):Oid.under p (.ty t p):=.inr (Oid.az p)
theorem dB.under {p:Oid} {c:Nat} {x:Oid} (h:dB p c x):Oid.under p x:=let ⟨_,_,_,h⟩:=h;Oid.ay h
theorem dB.mono {p:Oid} {c c':Nat} {x:Oid} (hc:c≤c') (h:dB p c' x):dB p c x:=let ⟨k,i,hk,h⟩:=h;⟨k,i,Nat.le_trans hc hk,h⟩
structure Ctx where
 ng:Nat
 g0:Gh
 w0:World
 may0:Nat→Prop
 p:Oid
 rd:Option Nat
class Laid (P:Program) where
 facts:Gh→Prop
 mono:∀ {g g':Gh},g.le g'→facts g→facts g'
def Fit (P:Program) [Laid P] (x:Ctx):Prop:=P.globals.size≤x.ng∧Laid.facts P x.g0
theorem Fit.inner {P:Program} [Laid P] {x y:Ctx} (h:Fit P x) (hn:y.ng=x.ng) (hg:x.g0.le y.g0):Fit P y:=⟨by rw [hn];exact h.1,Laid.mono hg h.2⟩
def Fc (rd:Option Nat):Fence:={ fn:=fun _=>True,depth:=none,alive:=false,round:=rd }
def Ctx.may (x:Ctx) (b:Nat):Prop:=x.may0 b∨x.w0.heap.size≤b
structure aD (x:Ctx) (g:Gh) (m:Mem) (w:World):Prop where
 le:x.g0.le g
 locs:∀ i,¬ Oid.under x.p i→g.loc i=x.g0.loc i
 glob:∀ k,k < x.ng→g.loc (.root k)=some (some k)
 coms:∀ b o v,g.com b o=some v→x.g0.com b o=some v∨x.may b
 obj0:∀ i o,m i=some o→(o.void=true∧g.loc i=some none)∨∃ b,g.loc i=some (some b)∧(∀ k,g.com b k=none)∧x.may b∧b9 g w b o
 inj:∀ i j o o' b,m i=some o→m j=some o'→g.loc i=some (some b)→g.loc j=some (some b)→i=j
 com:∀ b o v,g.com b o=some v→w.cell? ⟨b,o,none⟩=some v
 one:∀ b o v,g.com b o=some v→v.oneCell' = true
 rows:∀ b r,g.row b=some r→∃ c t fz,w.heap[b]? = some (.cells c t fz)∧c.size=r
 os:w.os=x.w0.os
 tape:w.tape=x.w0.tape
 output:w.output=x.w0.output∧(x.p.mono=true→x.w0.drawn≤w.drawn)
 size:x.w0.heap.size≤w.heap.size
 kept:∀ b,b < x.w0.heap.size→¬ x.may0 b→w.heap[b]? = x.w0.heap[b]?
 typs:∀ t q b,g.loc (.ty t q)=some (some b)→∃ c fz,w.heap[b]? = some (.cells c t fz)
theorem aD.obj {x:Ctx} {g:Gh} {m:Mem} {w:World} (h:aD x g m w) (i:Oid) (o:ar) (hi:m i=some o) (hv:o.void=false:=by rfl):∃ b,g.loc i=some (some b)∧(∀ k,g.com b k=none)∧x.may b∧b9 g w b o :=
 (h.obj0 i o hi).resolve_left fun hh=>by rw [hv] at hh;cases hh.1
theorem aD.fO {x:Ctx} {g:Gh} {m:Mem} {w:World} (h:aD x g m w) {i:Oid} {o:ar} (hi:m i=some o) {b0:Nat} (hb:g.loc i=some (some b0)):∃ b,g.loc i=some (some b)∧(∀ k,g.com b k=none)∧x.may b∧b9 g w b o :=
 (h.obj0 i o hi).resolve_left fun hv=>by rw [hb] at hv;cases hv.2
theorem aD.taken {x:Ctx} {g:Gh} {m:Mem} {w:World} (h:aD x g m w) {i:Oid} {o:ar} (hi:m i=some o):g.loc i≠none:=by
 rcases h.obj0 i o hi with ⟨_,h⟩|⟨b,h,_⟩<;>simp [h]
inductive AD where
 | coll (id:Oid)
 | call (f:Fn) (cap args:List AV)
inductive DR (g:Gh):AD→Deferred→Prop
 | coll (id:Oid) (b:Nat) (h:g.loc id=some (some b)):DR g (.coll id) ⟨.collected b,#[]⟩
 | call (f:Fn) (cap args:List AV) (c a:Array Value) (h1:VRs g cap c) (h2:VRs g args a):DR g (.call f cap args) ⟨.fn f c,a⟩
theorem DR.mono {g g':Gh} (hg:g.le g') {a:AD} {d:Deferred} (h:DR g a d):DR g' a d:=by
 cases h with
 | coll id b h=>exact .coll id b (hg.1 _ _ h)
 | call f cap args c a h1 h2=>exact .call f cap args c a (h1.mono hg) (h2.mono hg)
inductive DRs (g:Gh):List AD→List Deferred→Prop
 | nil:DRs g [] []
 | cons {a:AD} {d:Deferred} {l:List AD} {l':List Deferred} (h:DR g a d) (t:DRs g l l'):DRs g (a::l) (d::l')
theorem DRs.mono {g g':Gh} (hg:g.le g') {a:List AD} {d:List Deferred} (h:DRs g a d):DRs g' a d:=by
 induction h with
 | nil=>exact .nil
 | cons h _ ih=>exact .cons (h.mono hg) ih
theorem DRs.DA {g:Gh} {d:List Deferred} (h:DRs g [] d):d=[]:=by cases h;rfl
structure AS where
 fr:List (Nat × AV)
 mem:Mem
 c:Nat
 ds:List AD
def put (d:Option Nat) (v:AV) (l:List (Nat × AV)):List (Nat × AV) :=
 match d with
 | some d=>(d,v)::l
 | none=>l
structure Rel (x:Ctx) (n:Nat) (g:Gh) (s:AS) (a:Act) (w:World):Prop where
 mr:aD x g s.mem w
 tm:a.tmps.size=n
 df:DRs g s.ds a.defers
 fr:∀ t,t < n→VR g (F s.fr t) (a.tmps.getD t undef)
 young:∀ i,dB x.p s.c i→g.loc i=none
inductive AX where
 | normal
 | exit (id:Nat)
 | ret
 | panic (v:AV)
def AX.fits (g:Gh):AX→Exit→Prop
 | .normal,.normal=>True
 | .exit i,.exit j=>i=j
 | .ret,.ret=>True
 | .panic v,.panic [e]=>VR g v e.v∧e.recovered=false∧e.goexit=false
 | _,_=>False
def T (P:Program) (x:Ctx) (n:Nat) (c:Code) (s:AS) (Q:AX→AS→Prop):Prop :=
 ∀ g a w,Rel x n g s a w→c.wpIn (Fc x.rd) 0 P (fun e a' w'=>∃ g' ex s',Rel x n g' s' a' w'∧ex.fits g' e∧Q ex s') a w
end Go.Ab
namespace Go.Ab
section
variable {P:Program} [Laid P] {x:Ctx} {n:Nat} {s:AS} {Q:AX→AS→Prop}
omit [Laid P] in
theorem gT {c:Code} {Q':AX→AS→Prop} (h:T P x n c s Q) (hq:∀ e s,Q e s→Q' e s):T P x n c s Q' :=
 fun g a w hr=>wpIn_mono (h g a w hr) fun _ _ _ ⟨g',ex,s',h1,h2,h3⟩=>⟨g',ex,s',h1,h2,hq _ _ h3⟩
omit [Laid P] in
theorem Yg (h:Q .normal s):T P x n .skip s Q:=fun g _ _ hr=>wpIn_skip ⟨g,.normal,s,hr,trivial,h⟩
omit [Laid P] in
theorem Yh {id:Nat} (h:Q (.exit id) s):T P x n (.exit id) s Q:=fun g _ _ hr=>wpIn_exit ⟨g,.exit id,s,hr,rfl,h⟩
omit [Laid P] in
theorem afL (h:Q .ret s):T P x n .ret s Q:=fun g _ _ hr=>wpIn_ret ⟨g,.ret,s,hr,trivial,h⟩
def afM (k:AS→Prop) (Q:AX→AS→Prop):AX→AS→Prop
 | .normal,s=>k s
 | e,s=>Q e s
omit [Laid P] in
theorem afN {c d:Code} (h:T P x n c s (afM (fun s'=>T P x n d s' Q) Q)):T P x n (.seq c d) s Q:=by
 intro g a w hr
 refine wpIn_seq (wpIn_mono (h g a w hr) fun e a' w' ⟨g',ex,s',h1,h2,h3⟩=>?_)
 cases ex with
 | normal=>cases e<;>simp only [AX.fits] at h2;exact h3 g' a' w' h1
 | exit i=>cases e<;>simp only [AX.fits] at h2;exact ⟨g',.exit i,s',h1,h2,h3⟩
 | ret=>cases e<;>simp only [AX.fits] at h2;exact ⟨g',.ret,s',h1,trivial,h3⟩
 | panic v=>cases e<;>simp only [AX.fits] at h2;exact ⟨g',.panic v,s',h1,h2,h3⟩
omit [Laid P] in
theorem Yi {t:Operand} {c d:Code} {b:Bool} (v:AV) (hv:(match t with | .tmp i=>if i < n then F s.fr i else .undef | .const (.bool b)=>.bool b|_=>.undef)=v) (hb:v = .bool b)
  (h:T P x n (if b then c else d) s Q):T P x n (.cond t c d) s Q:=by
 intro g a w hr
 refine wpIn_cond (t:=b) ?_ (h g a w hr)
 subst hb
 cases t with
 | tmp i =>
  simp only at hv
  split at hv
  ·rename_i hi
   have:=hr.fr i hi
   rw [hv] at this
   exact this.bN
  ·cases hv
 | const u=>cases u<;>simp at hv;subst hv;rfl
 | global g=>cases hv
 | func f=>cases hv
def AX.inBlock (id:Nat) (Q:AX→AS→Prop):AX→AS→Prop
 | .exit i,s=>if i=id then Q .normal s else Q (.exit i) s
 | e,s=>Q e s
omit [Laid P] in
theorem DB {id:Nat} {c:Code} (h:T P x n c s (AX.inBlock id Q)):T P x n (.block id c) s Q:=by
 intro g a w hr
 refine wpIn_block (wpIn_mono (h g a w hr) fun e a' w' ⟨g',ex,s',h1,h2,h3⟩=>?_)
 cases ex with
 | normal=>cases e<;>simp only [AX.fits] at h2;exact ⟨g',.normal,s',h1,trivial,h3⟩
 | exit i =>
  cases e<;>simp only [AX.fits] at h2
  subst h2
  simp only [Exit.inBlock,AX.inBlock] at h3 ⊢
  split
  ·rename_i hi;simp only [hi,if_true] at h3;exact ⟨g',.normal,s',h1,trivial,h3⟩
  ·rename_i hi;simp only [hi,if_false] at h3;exact ⟨g',.exit i,s',h1,rfl,h3⟩
 | ret=>cases e<;>simp only [AX.fits] at h2;exact ⟨g',.ret,s',h1,trivial,h3⟩
 | panic v=>cases e<;>simp only [AX.fits] at h2;exact ⟨g',.panic v,s',h1,h2,h3⟩
theorem least (p:Nat→Prop) (h:∃ k,p k):∃ k,p k∧∀ j,p j→k≤j:=by
 obtain ⟨k,hk⟩:=h
 induction k using Nat.strongRecOn with
 | _ k ih =>
  by_cases h:∃ j,j < k∧p j
  ·obtain ⟨j,hj,hp⟩:=h;exact ih j hj hp
  ·exact ⟨k,hk,fun j hj=>by
    rcases Nat.lt_or_ge j k with h'|h'
    ·exact absurd ⟨j,h',hj⟩ h
    ·exact h'⟩
omit [Laid P] in
theorem Yj {c:Code} (I:Nat→AS→Prop) (k:Nat) (h0:I k s)
  (round:∀ k s,I k s→T P x n c s (afM (fun s'=>∃ k',k' < k∧I k' s') Q)):T P x n (.loop c) s Q:=by
 intro g a w hr
 let J:Act→World→Nat→Prop:=fun a w k=>∃ g s,Rel x n g s a w∧I k s
 have hm:∀ a w,∃ k,(∃ k,J a w k)→(J a w k∧∀ j,J a w j→k≤j):=fun a w=>by
  by_cases h:∃ k,J a w k
  ·obtain ⟨k,hk⟩:=least (J a w) h;exact ⟨k,fun _=>hk⟩
  ·exact ⟨0,fun h'=>absurd h' h⟩
 refine wpIn_loop (fun a w=>∃ k,J a w k) (fun a w=>Classical.choose (hm a w)) ⟨k,g,s,hr,h0⟩ ?_
 intro a w hI
 have hk:=Classical.choose_spec (hm a w) hI
 revert hk
 generalize Classical.choose (hm a w)=k
 rintro ⟨⟨g,s,hr,hi⟩,_⟩
 refine wpIn_mono (round k s hi g a w hr) fun e a' w' ⟨g',ex,s',h1,h2,h3⟩=>?_
 cases ex with
 | normal =>
  cases e<;>simp only [AX.fits] at h2
  obtain ⟨k',hlt,hi'⟩:=h3
  have hJ:J a' w' k':=⟨g',s',h1,hi'⟩
  exact ⟨⟨k',hJ⟩,Nat.lt_of_le_of_lt ((Classical.choose_spec (hm a' w') ⟨k',hJ⟩).2 k' hJ) hlt⟩
 | exit i=>cases e<;>simp only [AX.fits] at h2;exact ⟨g',.exit i,s',h1,h2,h3⟩
 | ret=>cases e<;>simp only [AX.fits] at h2;exact ⟨g',.ret,s',h1,trivial,h3⟩
 | panic v=>cases e<;>simp only [AX.fits] at h2;exact ⟨g',.panic v,s',h1,h2,h3⟩
omit [Laid P] in
theorem fg {c:Code} (s':AS) (hg:∀ g a w,Rel x n g s a w→∃ g',Rel x n g' s' a w) (h:T P x n c s' Q):T P x n c s Q :=
 fun g a w hr=>let ⟨g',hr'⟩:=hg g a w hr;h g' a w hr'
theorem Rel.forget {g:Gh} {a:Act} {w:World} (hr:Rel x n g s a w) (fr:List (Nat × AV)) (h:∀ t,t < n→F fr t = .undef∨F fr t=F s.fr t):Rel x n g { s with fr:=fr } a w :=
 ⟨hr.mr,hr.tm,hr.df,fun t ht=>by rcases h t ht with h|h<;>simp only [h];exact .unk _;exact hr.fr t ht,hr.young⟩
theorem aD.drop {g:Gh} {m m':Mem} {w:World} (hr:aD x g m w) (h:∀ i o,m' i=some o→m i=some o):aD x g m' w :=
 ⟨hr.le,hr.locs,hr.glob,hr.coms,fun i o hi=>hr.obj0 i o (h i o hi),fun i j o o' b hi hj=>hr.inj i j o o' b (h _ _ hi) (h _ _ hj),hr.com,hr.one,hr.rows,hr.os,hr.tape,hr.output,hr.size,hr.kept,hr.typs⟩
theorem Rel.drop {g:Gh} {a:Act} {w:World} (hr:Rel x n g s a w) (m:Mem) (h:∀ i o,m i=some o→s.mem i=some o):Rel x n g { s with mem:=m } a w :=
 ⟨hr.mr.drop h,hr.tm,hr.df,hr.fr,hr.young⟩
theorem Rel.later {g:Gh} {a:Act} {w:World} (hr:Rel x n g s a w) {c:Nat} (h:s.c≤c):Rel x n g { s with c:=c } a w :=
 ⟨hr.mr,hr.tm,hr.df,hr.fr,fun i hi=>hr.young i (hi.mono h)⟩
omit [Laid P] in
theorem gU {c:Code} (fr:List (Nat × AV)) (h:∀ t,t < n→F fr t = .undef∨F fr t=F s.fr t) (hT:T P x n c { s with fr:=fr } Q):T P x n c s Q :=
 fg _ (fun g _ _ hr=>⟨g,hr.forget fr h⟩) hT
omit [Laid P] in
theorem lG {c:Code} (m:Mem) (h:∀ i o,m i=some o→s.mem i=some o) (hT:T P x n c { s with mem:=m } Q):T P x n c s Q :=
 fg _ (fun g _ _ hr=>⟨g,hr.drop m h⟩) hT
end
end Go.Ab
namespace Go.Ab
theorem Oid.bY {a b x:Oid} (h:Oid.under a b) (k:Oid.under b x):Oid.under a x:=by
 induction x with
 | root n=>simp only [Oid.under] at k;subst k;exact h
 | sub c i q ih =>
  simp only [Oid.under] at k ⊢
  rcases k with k|k
  ·subst k;simpa only [Oid.under] using h
  ·exact .inr (ih k)
 | ty t q ih =>
  simp only [Oid.under] at k ⊢
  rcases k with k|k
  ·subst k;simpa only [Oid.under] using h
  ·exact .inr (ih k)
def Oid.depth:Oid→Nat
 | .root _=>0
 | .sub _ _ p=>p.depth+1
 | .ty _ p=>p.depth+1
theorem Oid.cn {a x:Oid} (h:Oid.under a x):a.depth≤x.depth:=by
 induction x with
 | root n=>simp only [Oid.under] at h;subst h;exact Nat.le_refl _
 | sub c i q ih =>
  simp only [Oid.under] at h
  rcases h with h|h
  ·subst h;exact Nat.le_refl _
  ·exact Nat.le_succ_of_le (ih h)
 | ty t q ih =>
  simp only [Oid.under] at h
  rcases h with h|h
  ·subst h;exact Nat.le_refl _
  ·exact Nat.le_succ_of_le (ih h)
theorem Oid.cE {a b x:Oid} (h:Oid.under a x) (k:Oid.under b x) (hd:a.depth=b.depth):a=b:=by
 induction x with
 | root n=>simp only [Oid.under] at h k;rw [h,k]
 | sub c i q ih =>
  simp only [Oid.under] at h k
  rcases h with h|h<;>rcases k with k|k
  ·rw [h,k]
  ·have:=Oid.cn k;rw [h] at hd;simp only [Oid.depth] at hd;omega
  ·have:=Oid.cn h;rw [k] at hd;simp only [Oid.depth] at hd;omega
  ·exact ih h k
 | ty t q ih =>
  simp only [Oid.under] at h k
  rcases h with h|h<;>rcases k with k|k
  ·rw [h,k]
  ·have:=Oid.cn k;rw [h] at hd;simp only [Oid.depth] at hd;omega
  ·have:=Oid.cn h;rw [k] at hd;simp only [Oid.depth] at hd;omega
  ·exact ih h k
theorem Oid.apart {p x:Oid} {c i c' i':Nat} (h:Oid.under (.sub c i p) x) (k:Oid.under (.sub c' i' p) x):c=c'∧i=i':=by
 have:=Oid.cE h k rfl
 injection this with h1 h2;exact ⟨h1,h2⟩
structure Eff where
 need:List (Oid × ar)
 val:AV
 upd:List (Oid × Option ar)
def gr:Value→AV
 | .bool b=>.bool b
 | .int k n=>.int k n
 | .string s=>.str s.data.toList
 | .pointer none=>.nilPtr
 | .slice none 0 0=>.nilSl
 | .map none=>.nilMap
 | .nilFunc=>.nilFn
 | .nilIface=>.nilIface
 | _=>.undef
def cB:Value→AV
 | .agg cs=>.agg (cs.toList.map gr)
 | .tuple cs=>.tuple (cs.toList.map gr)
 | .iface t v=>.iface t (gr v)
 | v=>gr v
theorem ix (g:Gh) (v:Value):VR g (gr v) v:=by
 unfold gr
 split
 ·exact .bool _
 ·exact .int _ _
 ·exact .str _ _ rfl
 ·exact .nilPtr
 ·exact .nilSl
 ·exact .nilMap
 ·exact .nilFn
 ·exact .nilIface
 ·exact .unk _
theorem eL (g:Gh) (v:Value):VR g (cB v) v:=by
 unfold cB
 split
 ·refine .agg _ _ (by simp) fun j hj=>?_
  simp only [List.length_map,Array.length_toList] at hj
  simp only [List.getD_eq_getElem?_getD,List.getElem?_map,Array.getElem?_toList,Array.getElem?_eq_getElem hj,Option.map_some,Option.getD_some,Array.getD_eq_getD_getElem?]
  exact ix g _
 ·refine .tuple _ _ (by simp) fun j hj=>?_
  simp only [List.length_map,Array.length_toList] at hj
  simp only [List.getD_eq_getElem?_getD,List.getElem?_map,Array.getElem?_toList,Array.getElem?_eq_getElem hj,Option.map_some,Option.getD_some,Array.getD_eq_getD_getElem?]
  exact ix g _
 ·exact .iface _ _ _ (ix g _)
 ·exact ix g _
def evF (f:Nat→AV):Operand→AV
 | .tmp t=>f t
 | .const v=>cB v
 | .global k=>.ptr (.root k) 0
 | .func f=>.fn (.func f) [] []
def evA (fr:List (Nat × AV)) (t:Operand):AV:=evF (F fr) t
def aG (P:Program) [Laid P] (o:Oper) (ρ:Operand→AV) (sp:Oid→Prop) (e:Eff):Prop :=
 ∀ (x:Ctx) (g:Gh) (a:Act) (w:World) (m:Mem),aD x g m w→(∀ q,q ∈ e.need→m q.1=some q.2) →
  (∀ t,t ∈ o.op.operands.toList→VR g (ρ t) (a.eval t))→(∀ i,sp i→g.loc i=none∧Oid.under x.p i)→(Fit P x) →
  ∀ (next:Act→World→Prop) (Q:Exit→Act→World→Prop),
   (∀ g' v w',g.le g'→(∀ i,¬ sp i→g'.loc i=g.loc i)→VR g' e.val v→aD x g' (m.aF e.upd) w'→next (a.put o.dst v) w') →
   o.wpIn (Fc x.rd) 0 P a w next Q
def fQ (ops:Array Oper) (o:Oper) (f:Nat→AV):Option Bool :=
 match o.guard with
 | none=>some true
 | some (j,want) =>
  match (ops[j]?).bind (·.dst) with
  | none=>none
  | some d=>match f d with
   | .bool b=>some (b == want)
   | .tuple []=>some false
   | _=>none
def XS (n:Nat):Operand→Bool
 | .tmp t=>t < n
 | _=>true
def XT (ng:Nat):Operand→Bool
 | .global k=>k < ng
 | _=>true
def lr (n:Nat) (ops:Array Oper) (o:Oper):Bool :=
 match o.guard with
 | none=>true
 | some (j,_)=>match (ops[j]?).bind (·.dst) with
  | some d=>d < n
  | none=>false
def dS (n ng:Nat) (ops:Array Oper) (o:Oper):Bool :=
 (match o.dst with|some d=>decide (d < n)|none=>true) && o.op.operands.toList.all (fun t=>XS n t && XT ng t) && lr n ops o
theorem VR.wanted {g:Gh} {n:Nat} {ops:Array Oper} {o:Oper} {f:Nat→AV} {a:Act} {b:Bool} (hg:lr n ops o=true)
  (hf:∀ t,t < n→(o.guard=none∨∃ j w,o.guard=some (j,w)∧(ops[j]?).bind (·.dst)=some t)→VR g (f t) (a.tmps.getD t undef)) (h:fQ ops o f=some b) :
  Region.wanted o (yielded ops a.tmps)=b:=by
 unfold fQ at h
 unfold Region.wanted
 unfold lr at hg
 cases hgd:o.guard with
 | none=>simp only [hgd] at h ⊢;simpa using h
 | some q =>
  obtain ⟨j,want⟩:=q
  simp only [hgd] at h hg ⊢
  cases hd:(ops[j]?).bind (·.dst) with
  | none=>simp only [hd] at h;cases h
  | some d =>
   simp only [hd,decide_eq_true_eq] at h hg
   have hv:=hf d hg (.inr ⟨j,want,hgd,hd⟩)
   have hy:yielded ops a.tmps j=match a.tmps.getD d undef with | .bool b=>some b|_=>none:=by
    simp only [yielded,hd,Option.bind_some,Array.getD_eq_getD_getElem?]
    cases a.tmps[d]? with
    | none=>rfl
    | some u=>cases u<;>rfl
   rw [hy]
   split at h
   ·rename_i b' hb';rw [hb'] at hv;rw [hv.bN];simpa using h
   ·rename_i hb';rw [hb'] at hv
    obtain ⟨arr,harr,_⟩:=hv.nJ
    rw [harr];simpa using h
   ·cases h
def cV (P:Program) [Laid P] (ops:Array Oper) (p:Oid) (c:Nat):Nat→List Oper→List (Nat × AV)→Mem→List Eff→(List (Nat × AV)→Mem→List Eff→Prop)→Prop
 | _,[],fr,m,log,K=>K fr m log
 | i,o::rest,fr,m,log,K =>
  match fQ ops o (F fr) with
  | some true=>∃ e,aG P o (evA fr) (Oid.under (.sub c i p)) e∧(∀ q,q ∈ e.need→m q.1=some q.2) ∧
    cV P ops p c (i+1) rest (put o.dst e.val fr) (m.aF e.upd) (e::log) K
  | some false=>cV P ops p c (i+1) rest (put o.dst (.tuple []) fr) m (⟨[],.tuple [],[]⟩::log) K
  | none=>False
structure RR (x:Ctx) (n:Nat) (ds:List AD) (g:Gh) (f:Nat→AV) (m:Mem) (a:Act) (w:World):Prop where
 mr:aD x g m w
 tm:a.tmps.size=n
 df:DRs g ds a.defers
 fr:∀ t,t < n→VR g (f t) (a.tmps.getD t undef)
def iX (d:Option Nat) (v:AV) (f:Nat→AV):Nat→AV:=fun t=>if d=some t then v else f t
theorem kK (d:Option Nat) (v:AV) (l:List (Nat × AV)):F (put d v l)=iX d v (F l):=by
 funext t
 cases d with
 | none=>simp [put,iX]
 | some d=>simp only [put,F,iX,Option.some.injEq];by_cases h:t=d<;>simp [h,eq_comm]
theorem lH {a:Act} {d:Nat} {v:Value} {t:Nat} (ht:t < a.tmps.size):((a.put (some d) v).tmps.getD t undef)=if d=t then v else a.tmps.getD t undef:=by
 simp only [Act.put,Array.getD_eq_getD_getElem?,Array.getElem?_setIfInBounds]
 by_cases h:d=t
 ·subst h;simp [ht]
 ·simp [h]
theorem RR.put {x:Ctx} {n:Nat} {ds:List AD} {g g':Gh} {f:Nat→AV} {m m':Mem} {a:Act} {w w':World} (h:RR x n ds g f m a w) (hg:g.le g') (hm:aD x g' m' w') (d:Option Nat) {u:AV} {v:Value} (hv:VR g' u v) :
  RR x n ds g' (iX d u f) m' (a.put d v) w':=by
 cases d with
 | none =>
  refine ⟨hm,h.tm,h.df.mono hg,fun t ht=>?_⟩
  simpa [iX,Act.put] using (h.fr t ht).mono hg
 | some d =>
  refine ⟨hm,by simp [Act.put,h.tm],by simpa [Act.put] using h.df.mono hg,fun t ht=>?_⟩
  rw [lH (by rw [h.tm];exact ht)]
  simp only [iX,Option.some.injEq]
  by_cases hd:d=t
  ·simpa [hd] using hv
  ·simpa [hd] using (h.fr t ht).mono hg
theorem gV {n ng:Nat} {ops:Array Oper} {o:Oper} (h:dS n ng ops o=true) :
  (∀ d,o.dst=some d→d < n)∧(∀ t,.tmp t ∈ o.op.operands.toList→t < n)∧(∀ k,.global k ∈ o.op.operands.toList→k < ng)∧lr n ops o=true:=by
 simp only [dS,Bool.and_eq_true,List.all_eq_true] at h
 obtain ⟨⟨h1,h2⟩,h3⟩:=h
 refine ⟨fun d hd=>by rw [hd] at h1;simpa using h1,fun t ht=>by simpa [XS] using (h2 _ ht).1,fun k hk=>by simpa [XT] using (h2 _ hk).2,h3⟩
theorem RR.operands {x:Ctx} {n:Nat} {ds:List AD} {g:Gh} {f:Nat→AV} {m:Mem} {a:Act} {w:World} (h:RR x n ds g f m a w) {ng:Nat} (hng:ng≤x.ng) {ops:Array Oper} {o:Oper} (ho:dS n ng ops o=true)
  {f':Nat→AV} (hf:∀ t,.tmp t ∈ o.op.operands.toList→f' t=f t):∀ t,t ∈ o.op.operands.toList→VR g (evF f' t) (a.eval t):=by
 obtain ⟨_,h2,h3,_⟩:=gV ho
 intro t ht
 cases t with
 | tmp t=>simp only [evF,Act.eval,hf t ht];exact h.fr t (h2 t ht)
 | const v=>exact eL g v
 | global k=>exact .ptr _ _ _ (h.mr.glob k (Nat.lt_of_lt_of_le (h3 k ht) hng))
 | func f=>exact .fn _ _ _ _ _ rfl rfl (fun j hj=>absurd hj (Nat.not_lt_zero _)) (fun j hj=>absurd hj (Nat.not_lt_zero _))
theorem RR.of {x:Ctx} {n:Nat} {g:Gh} {s:AS} {a:Act} {w:World} (h:Rel x n g s a w):RR x n s.ds g (F s.fr) s.mem a w:=⟨h.mr,h.tm,h.df,h.fr⟩
theorem RR.rel {x:Ctx} {n:Nat} {ds:List AD} {g:Gh} {fr:List (Nat × AV)} {m:Mem} {c:Nat} {a:Act} {w:World} (h:RR x n ds g (F fr) m a w) (hy:∀ i,dB x.p c i→g.loc i=none):Rel x n g ⟨fr,m,c,ds⟩ a w:=⟨h.mr,h.tm,h.df,h.fr,hy⟩
def qg (p:Oid) (c:Nat) (m:Mem):Prop:=∀ i,dB p c i→m i=none
theorem Rel.fresh {x:Ctx} {n:Nat} {g:Gh} {s:AS} {a:Act} {w:World} (h:Rel x n g s a w):qg x.p s.c s.mem:=fun i hi=>by
 cases hm:s.mem i with
 | none=>rfl
 | some o=>exact absurd (h.young i hi) (h.mr.taken hm)
end Go.Ab
namespace Go.Ab
def bits (acc:List Nat) (o:Oper):Nat :=
 o.after.toList.foldr (fun e s=>if Region.binds .any e then s ||| (2 ^ e.on ||| acc.getD e.on 0) else s) 0
def e9:List Oper→List Nat→List Nat
 | [],acc=>acc
 | o::l,acc=>e9 l (acc++[bits acc o])
theorem vm (acc:List Nat) (o:Oper) (k:Nat) (h:(bits acc o).testBit k=true) :
  ∃ e,e ∈ o.after∧Region.binds .any e=true∧(k=e.on∨(acc.getD e.on 0).testBit k=true):=by
 unfold bits at h
 have key:∀ (l:List Edge),(l.foldr (fun e s=>if Region.binds .any e then s ||| (2 ^ e.on ||| acc.getD e.on 0) else s) 0).testBit k=true →
   ∃ e,e ∈ l∧Region.binds .any e=true∧(k=e.on∨(acc.getD e.on 0).testBit k=true):=by
  intro l
  induction l with
  | nil=>intro h;simp at h
  | cons e l ih =>
   intro h
   simp only [List.foldr_cons] at h
   split at h
   ·rename_i hb
    simp only [Nat.testBit_or,Bool.or_eq_true,Nat.testBit_two_pow,decide_eq_true_eq] at h
    rcases h with h|h|h
    ·obtain ⟨e',he,hb',hk⟩:=ih h;exact ⟨e',List.mem_cons_of_mem _ he,hb',hk⟩
    ·exact ⟨e,List.mem_cons_self,hb,.inl h.symm⟩
    ·exact ⟨e,List.mem_cons_self,hb,.inr h⟩
   ·obtain ⟨e',he,hb',hk⟩:=ih h;exact ⟨e',List.mem_cons_of_mem _ he,hb',hk⟩
 obtain ⟨e,he,hb,hk⟩:=key _ h
 exact ⟨e,Array.mem_toList_iff.1 he,hb,hk⟩
theorem lI:∀ (l:List Oper) (acc:List Nat) (j:Nat),j < acc.length→(e9 l acc).getD j 0=acc.getD j 0
 | [],_,_,_=>rfl
 | o::l,acc,j,h=>by
  rw [e9,lI l _ j (by simp;omega)]
  simp [List.getD_eq_getElem?_getD,List.getElem?_append_left h]
theorem ue:∀ (l:List Oper) (acc:List Nat) (k:Nat) (o:Oper),l[k]? = some o →
  ∃ acc',acc'.length=acc.length+k∧(e9 l acc).getD (acc.length+k) 0=bits acc' o∧∀ j,j < acc.length+k→acc'.getD j 0=(e9 l acc).getD j 0
 | [],_,_,_,h=>by simp at h
 | o::l,acc,0,o',h=>by
  simp only [List.getElem?_cons_zero,Option.some.injEq] at h
  subst h
  refine ⟨acc,rfl,?_,fun j hj=>?_⟩
  ·rw [e9,lI l _ _ (by simp)];simp [List.getD_eq_getElem?_getD]
  ·exact (lI _ _ j (by simpa using hj)).symm
 | o::l,acc,k+1,o',h=>by
  obtain ⟨acc',h1,h2,h3⟩:=ue l (acc++[bits acc o]) k o' (by simpa using h)
  simp only [List.length_append,List.length_cons,List.length_nil] at h1 h2 h3
  have e:acc.length+(0+1)+k=acc.length+(k+1):=by omega
  rw [e] at h1 h2 h3
  exact ⟨acc',h1,by rw [e9];exact h2,fun j hj=>by rw [e9];exact h3 j hj⟩
def zP (ops:Array Oper):Bool:=(List.range ops.size).all fun i=>match ops[i]? with
 | some o=>o.after.all fun e=>!Region.binds .any e || e.on < i
 | none=>true
def uf (ops:Array Oper) (B:List Nat):Bool:=(List.range ops.size).all fun j=>(List.range j).all fun i=>(B.getD j 0).testBit i || match ops[i]?,ops[j]? with
 | some x,some y=>x.apart ops y
 | _,_=>true
def oR (ops:Array Oper):Bool:=zP ops && uf ops (e9 ops.toList [])
section
variable (dst:Nat→Option Nat) (val:Nat→AV) (upd:Nat→List (Oid × Option ar))
def bR (L:Nat→Bool) (f0:Nat→AV):Nat→Nat→AV
 | 0=>f0
 | k+1=>if L k then iX (dst k) (val k) (bR L f0 k) else bR L f0 k
def dv (L:Nat→Bool) (m0:Mem):Nat→Mem
 | 0=>m0
 | k+1=>if L k then (dv L m0 k).aF (upd k) else dv L m0 k
variable {dst val upd}
theorem fh {L L':Nat→Bool} {f0:Nat→AV} {t:Nat}:∀ k,(∀ j,j < k→dst j=some t→L j=L' j)→bR dst val L f0 k t=bR dst val L' f0 k t
 | 0,_=>rfl
 | k+1,h=>by
  have ih:=fh (f0:=f0) k (fun j hj=>h j (by omega))
  simp only [bR]
  by_cases hd:dst k=some t
  ·rw [h k (by omega) hd];split<;>simp [iX,hd,ih]
  ·split<;>split<;>simp [iX,hd,ih]
theorem iY {L:Nat→Bool} {f0:Nat→AV} {t i:Nat}:∀ k,i≤k→(∀ j,i≤j→j < k→L j=true→dst j≠some t)→bR dst val L f0 k t=bR dst val L f0 i t
 | 0,hi,_=>by have:i=0:=by omega
              subst this;rfl
 | k+1,hi,h=>by
  by_cases hk:i=k+1
  ·subst hk;rfl
  ·rw [← iY (f0:=f0) k (by omega) (fun j h1 h2=>h j h1 (by omega))]
   simp only [bR]
   split
   ·rename_i hl;have:=h k (by omega) (by omega) hl;simp [iX,this]
   ·rfl
theorem aU {l:List (Oid × Option ar)} {id:Oid}:∀ {m:Mem},(∀ q,q ∈ l→q.1≠id)→(m.aF l) id=m id:=by
 induction l with
 | nil=>intro m _;rfl
 | cons q l ih =>
  intro m h
  rw [Mem.aF,ih (fun q' hq=>h q' (List.mem_cons_of_mem _ hq))]
  simp only [Mem.set]
  rw [if_neg (fun e=>h q List.mem_cons_self e.symm)]
theorem fR {l:List (Oid × Option ar)} {id:Oid}:∀ {m m':Mem},(∃ q,q ∈ l∧q.1=id)→(m.aF l) id=(m'.aF l) id:=by
 induction l with
 | nil=>intro m m' ⟨q,hq,_⟩;cases hq
 | cons q l ih =>
  intro m m' h
  simp only [Mem.aF]
  by_cases h':∃ q',q' ∈ l∧q'.1=id
  ·exact ih h'
  ·rw [aU (fun q' hq e=>h' ⟨q',hq,e⟩),aU (fun q' hq e=>h' ⟨q',hq,e⟩)]
   obtain ⟨q',hq',e⟩:=h
   rcases List.mem_cons.1 hq' with rfl|hq'
   ·simp [Mem.set,e]
   ·exact absurd ⟨q',hq',e⟩ h'
theorem sF {l:List (Oid × Option ar)} {id:Oid} {m m':Mem} (h:m id=m' id):(m.aF l) id=(m'.aF l) id:=by
 by_cases h':∃ q,q ∈ l∧q.1=id
 ·exact fR h'
 ·rw [aU (fun q hq e=>h' ⟨q,hq,e⟩),aU (fun q hq e=>h' ⟨q,hq,e⟩),h]
theorem gu {L L':Nat→Bool} {m0:Mem} {id:Oid}:∀ k,(∀ j,j < k→(∃ q,q ∈ upd j∧q.1=id)→L j=L' j)→dv upd L m0 k id=dv upd L' m0 k id
 | 0,_=>rfl
 | k+1,h=>by
  have ih:=gu (m0:=m0) k (fun j hj=>h j (by omega))
  simp only [dv]
  by_cases hd:∃ q,q ∈ upd k∧q.1=id
  ·rw [h k (by omega) hd];split
   ·exact fR hd
   ·exact ih
  ·have hn:∀ q,q ∈ upd k→q.1≠id:=fun q hq e=>hd ⟨q,hq,e⟩
   split<;>split<;>simp [aU hn,ih]
theorem j7 {L:Nat→Bool} {m0:Mem} {id:Oid} {i:Nat}:∀ k,i≤k→(∀ j,i≤j→j < k→L j=true→∀ q,q ∈ upd j→q.1≠id)→dv upd L m0 k id=dv upd L m0 i id
 | 0,hi,_=>by have:i=0:=by omega
              subst this;rfl
 | k+1,hi,h=>by
  by_cases hk:i=k+1
  ·subst hk;rfl
  ·rw [← j7 (m0:=m0) k (by omega) (fun j h1 h2=>h j h1 (by omega))]
   simp only [dv]
   split
   ·rename_i hl;exact aU (h k (by omega) (by omega) hl)
   ·rfl
theorem vp {L L':Nat→Bool} {f0:Nat→AV} {n i:Nat} (hi:i < n) (hL:L i=false) (hL':∀ j,L' j=(L j || (j == i)))
  (h:∀ j d,i < j→j < n→L j=true→dst i=some d→dst j≠some d):bR dst val L' f0 n=iX (dst i) (val i) (bR dst val L f0 n):=by
 funext t
 simp only [iX]
 by_cases hd:dst i=some t
 ·rw [if_pos hd,iY (i:=i+1) n (by omega) (fun j h1 h2 hl=>?_)]
  ·simp [bR,hL',iX,hd]
  ·have hji:(j == i)=false:=by simp;omega
   rw [hL' j,hji,Bool.or_false] at hl
   exact h j t (by omega) h2 hl hd
 ·rw [if_neg hd]
  refine fh n fun j _ hj=>?_
  have hji:(j == i)=false:=by
   simp only [beq_eq_false_iff_ne,ne_eq];intro e;subst e;exact hd hj
  rw [hL' j,hji,Bool.or_false]
theorem zQ {L L':Nat→Bool} {m0:Mem} {n i:Nat} (hi:i < n) (hL:L i=false) (hL':∀ j,L' j=(L j || (j == i)))
  (h:∀ j,i < j→j < n→L j=true→∀ q,q ∈ upd i→∀ q',q' ∈ upd j→q.1≠q'.1):dv upd L' m0 n=(dv upd L m0 n).aF (upd i):=by
 funext id
 by_cases hd:∃ q,q ∈ upd i∧q.1=id
 ·obtain ⟨q0,hq0,e0⟩:=hd
  rw [j7 (i:=i+1) n (by omega) (fun j h1 h2 hl q hq=>?_)]
  ·have:L' i=true:=by simp [hL']
   simp only [dv,this,if_true]
   exact fR ⟨q0,hq0,e0⟩
  ·have hji:(j == i)=false:=by simp;omega
   rw [hL' j,hji,Bool.or_false] at hl
   rw [← e0];exact (h j (by omega) h2 hl q0 hq0 q hq).symm
 ·rw [aU (fun q hq e=>hd ⟨q,hq,e⟩)]
  refine gu n fun j _ hj=>?_
  have hji:(j == i)=false:=by
   simp only [beq_eq_false_iff_ne,ne_eq];intro e;subst e;exact hd hj
  rw [hL' j,hji,Bool.or_false]
end
end Go.Ab
namespace Go.Ab
def Eff.none:Eff:=⟨[],.tuple [],[]⟩
def DC (P:Program) [Laid P] (ops:Array Oper) (p:Oid) (c i:Nat) (o:Oper) (e:Eff) (f:Nat→AV) (m:Mem):Prop :=
 (fQ ops o f=some true∧aG P o (evF f) (Oid.under (.sub c i p)) e∧∀ q,q ∈ e.need→m q.1=some q.2)∨(fQ ops o f=some false∧e=Eff.none)
def dC (l:List Oper) (k:Nat):Option Nat:=(l[k]?).bind (·.dst)
def valOf (E:List Eff) (k:Nat):AV:=(E.getD k Eff.none).val
def cZ (E:List Eff) (k:Nat):List (Oid × Option ar):=(E.getD k Eff.none).upd
def dZ:Nat→Bool:=fun _=>true
theorem gW (o:Oper) (l:List Oper) (e:Eff) (E:List Eff) (f0:Nat→AV):∀ k,bR (dC (o::l)) (valOf (e::E)) dZ f0 (k+1)=bR (dC l) (valOf E) dZ (iX o.dst e.val f0) k
 | 0=>by simp [bR,dZ,dC,valOf]
 | k+1=>by
  rw [bR,gW o l e E f0 k]
  simp [bR,dZ,dC,valOf]
theorem iZ (e:Eff) (E:List Eff) (m0:Mem):∀ k,dv (cZ (e::E)) dZ m0 (k+1)=dv (cZ E) dZ (m0.aF e.upd) k
 | 0=>by simp [dv,dZ,cZ]
 | k+1=>by
  rw [dv,iZ e E m0 k]
  simp [dv,dZ,cZ]
theorem jz {P:Program} [Laid P] {ops:Array Oper} {p:Oid} {c:Nat} {K:List (Nat × AV)→Mem→List Eff→Prop} :
  ∀ (rest:List Oper) (i:Nat) (fr:List (Nat × AV)) (m:Mem) (log:List Eff),cV P ops p c i rest fr m log K →
   ∃ E:List Eff,E.length=rest.length∧(∃ fr',F fr' = bR (dC rest) (valOf E) dZ (F fr) rest.length∧K fr' (dv (cZ E) dZ m rest.length) (E.reverse++log)) ∧
    ∀ k o e,rest[k]? = some o→E[k]? = some e→DC P ops p c (i+k) o e (bR (dC rest) (valOf E) dZ (F fr) k) (dv (cZ E) dZ m k)
 | [],_,fr,m,log,h=>⟨[],rfl,⟨fr,rfl,h⟩,fun k o e hk=>by simp at hk⟩
 | o::rest,i,fr,m,log,h=>by
  have step:∀ e:Eff,DC P ops p c i o e (F fr) m→cV P ops p c (i+1) rest (put o.dst e.val fr) (m.aF e.upd) (e::log) K →
    ∃ E:List Eff,E.length=(o::rest).length∧(∃ fr',F fr' = bR (dC (o::rest)) (valOf E) dZ (F fr) (o::rest).length∧K fr' (dv (cZ E) dZ m (o::rest).length) (E.reverse++log)) ∧
    ∀ k o' e,(o::rest)[k]? = some o'→E[k]? = some e→DC P ops p c (i+k) o' e (bR (dC (o::rest)) (valOf E) dZ (F fr) k) (dv (cZ E) dZ m k):=by
   intro e hj hK
   obtain ⟨E,h1,⟨fr',h2,h3⟩,h4⟩:=jz rest (i+1) _ _ _ hK
   refine ⟨e::E,by simp [h1],⟨fr',?_,?_⟩,?_⟩
   ·rw [h2,List.length_cons,gW,kK]
   ·rw [List.length_cons,iZ];simpa using h3
   ·intro k o' e' hk he
    cases k with
    | zero =>
     simp only [List.getElem?_cons_zero,Option.some.injEq] at hk he
     subst hk;subst he;exact hj
    | succ k =>
     rw [gW,iZ]
     have:=h4 k o' e' (by simpa using hk) (by simpa using he)
     rw [kK] at this
     rwa [show i+(k+1)=i+1+k from by omega]
  simp only [cV] at h
  cases hw:fQ ops o (F fr) with
  | none=>simp only [hw] at h
  | some b =>
   cases b with
   | true=>simp only [hw] at h;obtain ⟨e,he,hn,hK⟩:=h;exact step e (.inl ⟨hw,he,hn⟩) hK
   | false=>simp only [hw] at h;exact step Eff.none (.inr ⟨hw,rfl⟩) h
def zR (a b:Eff):Prop:=(∀ q,q ∈ a.upd→∀ q',q' ∈ b.need→q.1≠q'.1)∧(∀ q,q ∈ a.upd→∀ q',q' ∈ b.upd→q.1≠q'.1)∧(∀ q,q ∈ a.need→∀ q',q' ∈ b.upd→q.1≠q'.1)
def oS (B:List Nat) (E:List Eff):Prop:=∀ i j ei ej,i < j→E[i]? = some ei→E[j]? = some ej→(B.getD j 0).testBit i=false→zR ei ej
theorem sG {ops:Array Oper} {o:Oper} {t:Nat} (h:.tmp t ∈ o.op.operands.toList):t ∈ o.looksAt ops:=by
 unfold Oper.looksAt
 refine List.mem_append.2 (.inl (List.mem_filterMap.2 ⟨.tmp t,h,rfl⟩))
theorem nb {ops:Array Oper} {o:Oper} {t j:Nat} {w:Bool} (h:o.guard=some (j,w)) (hd:(ops[j]?).bind (·.dst)=some t):t ∈ o.looksAt ops:=by
 unfold Oper.looksAt
 refine List.mem_append.2 (.inr ?_)
 rw [h];simp only [];rw [hd];simp
theorem kL {ops:Array Oper} {o:Oper} {f f':Nat→AV} (h:∀ t,t ∈ o.looksAt ops→f t=f' t):fQ ops o f=fQ ops o f':=by
 unfold fQ
 cases hg:o.guard with
 | none=>rfl
 | some q =>
  obtain ⟨j,w⟩:=q
  simp only []
  cases hd:(ops[j]?).bind (·.dst) with
  | none=>rfl
  | some d=>simp only [];rw [h d (nb hg hd)]
theorem aD.drew {x:Ctx} {g:Gh} {m:Mem} {w:World} (h:aD x g m w) (k:Nat) (hk:w.drawn≤k):aD x g m { w with drawn:=k } :=
 ⟨h.le,h.locs,h.glob,h.coms,fun i o hi=>(h.obj0 i o hi).imp id fun ⟨b,h1,h2,h3,h4⟩=>⟨b,h1,h2,h3,b9.block rfl h4⟩,h.inj,h.com,h.one,h.rows,h.os,h.tape,⟨h.output.1,fun hm=>Nat.le_trans (h.output.2 hm) hk⟩,h.size,h.kept,h.typs⟩
section
variable {P:Program} [Laid P] {x:Ctx} {n c:Nat} {ds:List AD} {ops:Array Oper} {E:List Eff} {f0:Nat→AV} {m0:Mem} {Q:Exit→Act→World→Prop}
structure Inv (x:Ctx) (n:Nat) (ds:List AD) (c:Nat) (ops:Array Oper) (E:List Eff) (f0:Nat→AV) (m0:Mem) (listed:Array Bool) (a:Act) (w:World):Prop where
 size:listed.size=ops.size
 closed:∀ j,listed.getD j false=true→∀ k,((e9 ops.toList []).getD j 0).testBit k=true→listed.getD k false=true
 rr:∃ g,RR x n ds g (bR (dC ops.toList) (valOf E) (fun j=>listed.getD j false) f0 ops.size) (dv (cZ E) (fun j=>listed.getD j false) m0 ops.size) a w ∧
  (∀ k,dB x.p (c+1) k→g.loc k=none)∧(∀ j k,listed.getD j false=false→Oid.under (.sub c j x.p) k→g.loc k=none)
theorem sH (hng:Fit P x) (hok:∀ (j:Nat) o,ops[j]? = some o→dS n P.globals.size ops o=true) (hd:oR ops=true) (hE:E.length=ops.size)
  (hj:∀ k o e,ops[k]? = some o→E[k]? = some e→DC P ops x.p c k o e (bR (dC ops.toList) (valOf E) dZ f0 k) (dv (cZ E) dZ m0 k))
  (hc:oS (e9 ops.toList []) E)
  (hQ:∀ g a w,RR x n ds g (bR (dC ops.toList) (valOf E) dZ f0 ops.size) (dv (cZ E) dZ m0 ops.size) a w→(∀ k,dB x.p (c+1) k→g.loc k=none)→Q .normal a w) :
  ∀ (fuel:Nat) (listed:Array Bool) (a:Act) (w:World),listed.toList.count false=fuel→Inv x n ds c ops E f0 m0 listed a w→wpAnyIn (Fc x.rd) 0 P .any ops Q fuel listed a w:=by
 simp only [oR,Bool.and_eq_true] at hd
 obtain ⟨hback,hap⟩:=hd
 have back:∀ i o,ops[i]? = some o→∀ e,e ∈ o.after→Region.binds .any e=true→e.on < i:=by
  intro i o ho e he hb
  have hi:i < ops.size:=by
   rcases Nat.lt_or_ge i ops.size with h|h
   ·exact h
   ·simp [Array.getElem?_eq_none h] at ho
  simp only [zP,List.all_eq_true,List.mem_range] at hback
  have:=hback i hi
  rw [ho] at this
  simp only [Array.all_eq_true'] at this
  have:=this e he
  simpa [hb] using this
 have apart:∀ i j oi oj,i < j→ops[i]? = some oi→ops[j]? = some oj→((e9 ops.toList []).getD j 0).testBit i=false→oi.apart ops oj=true:=by
  intro i j oi oj hij hi hj' hb
  have hlt:j < ops.size:=by
   rcases Nat.lt_or_ge j ops.size with h|h
   ·exact h
   ·simp [Array.getElem?_eq_none h] at hj'
  simp only [uf,List.all_eq_true,List.mem_range] at hap
  have:=hap j hlt i hij
  rw [hb,hi,hj'] at this
  simpa using this
 have bit:∀ i o k,ops[i]? = some o→((e9 ops.toList []).getD i 0).testBit k=true→∃ e,e ∈ o.after∧Region.binds .any e=true∧(k=e.on∨((e9 ops.toList []).getD e.on 0).testBit k=true):=by
  intro i o k ho hk
  obtain ⟨acc,h1,h2,h3⟩:=ue ops.toList [] i o (by simpa using ho)
  simp only [List.length_nil,Nat.zero_add] at h1 h2 h3
  rw [h2] at hk
  obtain ⟨e,he,hb,hk'⟩:=vm acc o k hk
  exact ⟨e,he,hb,hk'.imp id (fun h=>by rw [h3 _ (back i o ho e he hb)] at h;exact h)⟩
 intro fuel
 induction fuel with
 | zero =>
  intro listed a w hf hI
  have hall:∀ j,j < ops.size→listed.getD j false=true:=by
   intro j hlt
   have hlt':j < listed.size:=by rw [hI.size];exact hlt
   cases hv:listed.getD j false with
   | true=>rfl
   | false =>
    have hm:false ∈ listed.toList:=by
     have:listed[j]=false:=by simpa [hlt'] using hv
     rw [← this];simp
    have:=List.count_pos_iff.2 hm
    omega
  obtain ⟨g,hr,hy,_⟩:=hI.rr
  refine ⟨?_,hQ g a w ?_ hy⟩
  ·refine List.eq_nil_iff_forall_not_mem.2 fun j hm=>?_
   obtain ⟨h0,o,ho,_⟩:=mem_ready.1 hm
   have hlt:j < ops.size:=by
    rcases Nat.lt_or_ge j ops.size with h|h
    ·exact h
    ·simp [Array.getElem?_eq_none h] at ho
   have:=hall j hlt
   have hlt':j < listed.size:=by rw [hI.size];exact hlt
   simp [hlt'] at h0 this
   rw [h0] at this;cases this
  ·have e1:bR (dC ops.toList) (valOf E) (fun j=>listed.getD j false) f0 ops.size=bR (dC ops.toList) (valOf E) dZ f0 ops.size:=by
    funext t;exact fh _ fun j hlt _=>hall j hlt
   have e2:dv (cZ E) (fun j=>listed.getD j false) m0 ops.size=dv (cZ E) dZ m0 ops.size:=by
    funext t;exact gu _ fun j hlt _=>hall j hlt
   rwa [e1,e2] at hr
 | succ fuel ih =>
  intro listed a w hf hI
  refine ⟨fun hnil=>?_,fun i hi=>?_⟩
  ·-- the least that has not been carried out is ready
   exfalso
   have hm:false ∈ listed.toList:=List.count_pos_iff.1 (by omega)
   obtain ⟨j,hj1,hj2⟩:=List.mem_iff_getElem.1 hm
   have hp:∃ j,j < ops.size∧listed.getD j false=false:=⟨j,by rw [← hI.size];simpa using hj1,by
    have:j < listed.size:=by simpa using hj1
    simp only [Array.getElem_toList] at hj2
    simp [this,hj2]⟩
   obtain ⟨j,⟨hlt,hv⟩,hmin⟩:=least _ hp
   have hmem:j ∈ Region.ready .any ops listed:=by
    refine mem_ready.2 ⟨by have:j < listed.size:=by rw [hI.size];exact hlt
                           simp [this] at hv ⊢;exact hv,ops[j],by simp [hlt],fun e he hb=>?_⟩
    have h1:=back j ops[j] (by simp [hlt]) e he hb
    cases hv':listed.getD e.on false with
    | true=>rfl
    | false=>have:=hmin e.on ⟨by omega,hv'⟩;omega
   rw [hnil] at hmem;cases hmem
  ·obtain ⟨h0,o,ho,hall⟩:=mem_ready.1 hi
   have hlt:i < ops.size:=by
    rcases Nat.lt_or_ge i ops.size with h|h
    ·exact h
    ·simp [Array.getElem?_eq_none h] at ho
   have hlt':i < listed.size:=by rw [hI.size];exact hlt
   have hun:listed.getD i false=false:=by simpa [hlt'] using h0
   obtain ⟨e,he⟩:∃ e,E[i]? = some e:=⟨E[i]'(by rw [hE];exact hlt),by simp [hE,hlt]⟩
   obtain ⟨g,hr,hy,hs⟩:=hI.rr
   have pre:∀ k,((e9 ops.toList []).getD i 0).testBit k=true→listed.getD k false=true:=by
    intro k hk
    obtain ⟨ed,h1,h2,h3⟩:=bit i o k ho hk
    rcases h3 with h3|h3
    ·rw [h3];exact hall ed h1 h2
    ·exact hI.closed _ (hall ed h1 h2) k h3
   have post:∀ j,listed.getD j false=true→((e9 ops.toList []).getD j 0).testBit i=false:=by
    intro j hjl
    cases hb:((e9 ops.toList []).getD j 0).testBit i with
    | false=>rfl
    | true=>have:=hI.closed j hjl i hb;rw [hun] at this;cases this
   have hops:∀ j,listed.getD j false=true→∃ oj,ops[j]? = some oj:=by
    intro j hjl
    have:j < listed.size:=by
     rcases Nat.lt_or_ge j listed.size with h|h
     ·exact h
     ·simp [Array.getElem?_eq_none h] at hjl
    exact ⟨ops[j]'(by rw [← hI.size];exact this),by simp [← hI.size,this]⟩
   have hdst:∀ j oj,ops[j]? = some oj→dC ops.toList j=oj.dst:=fun j oj h=>by simp [dC,h]
   have cx:∀ t,t ∈ o.looksAt ops→bR (dC ops.toList) (valOf E) dZ f0 i t=bR (dC ops.toList) (valOf E) (fun j=>listed.getD j false) f0 ops.size t:=by
    intro t ht
    rw [iY (i:=i) (L:=fun j=>listed.getD j false) ops.size (by omega) (fun j h1 h2 hl hd=>?_)]
    ·refine fh i fun j hji hd=>?_
     obtain ⟨oj,hoj⟩:∃ oj,ops[j]? = some oj:=⟨ops[j]'(by omega),by simp⟩
     rw [hdst j oj hoj] at hd
     simp only [dZ]
     cases hb:((e9 ops.toList []).getD i 0).testBit j with
     | true=>exact (pre j hb).symm
     | false=>exact absurd ht ((Oper.apart_spec (apart j i oj o hji hoj ho hb)).1 t hd)
    ·obtain ⟨oj,hoj⟩:=hops j hl
     rw [hdst j oj hoj] at hd
     by_cases hji:j=i
     ·subst hji;rw [hun] at hl;cases hl
     ·exact absurd ht ((Oper.apart_spec (apart i j o oj (by omega) ho hoj (post j hl))).2.2 t hd)
   have hE':∀ j,j < ops.size→∃ ej,E[j]? = some ej∧cZ E j=ej.upd:=fun j hj=>⟨E[j]'(by rw [hE];exact hj),by simp [hE,hj],by simp [cZ,hE,hj,List.getD_eq_getElem?_getD]⟩
   have mems:∀ q,q ∈ e.need→dv (cZ E) dZ m0 i q.1=dv (cZ E) (fun j=>listed.getD j false) m0 ops.size q.1:=by
    intro q hq
    rw [j7 (i:=i) (L:=fun j=>listed.getD j false) ops.size (by omega) (fun j h1 h2 hl q' hq'=>?_)]
    ·refine gu i fun j hji ⟨q',hq',hid⟩=>?_
     simp only [dZ]
     cases hb:((e9 ops.toList []).getD i 0).testBit j with
     | true=>exact (pre j hb).symm
     | false =>
      obtain ⟨ej,hej,huj⟩:=hE' j (by omega)
      rw [huj] at hq'
      exact absurd hid ((hc j i ej e hji hej he hb).1 q' hq' q hq)
    ·by_cases hji:j=i
     ·subst hji;simp only [hun] at hl;cases hl
     ·obtain ⟨ej,hej,huj⟩:=hE' j h2
      rw [huj] at hq'
      exact ((hc i j e ej (by omega) he hej (post j hl)).2.2 q hq q' hq').symm
   have hval:valOf E i=e.val:=by simp [valOf,List.getD_eq_getElem?_getD,he]
   have hupd:cZ E i=e.upd:=by simp [cZ,List.getD_eq_getElem?_getD,he]
   have hset:∀ j,(listed.setIfInBounds i true).getD j false=(listed.getD j false || (j == i)):=by
    intro j
    by_cases hji:i=j
    ·subst hji;simp [hlt']
    ·rw [getD_set_ne false hji];simp [Ne.symm hji]
   have eslot:bR (dC ops.toList) (valOf E) (fun j=>(listed.setIfInBounds i true).getD j false) f0 ops.size=iX o.dst e.val (bR (dC ops.toList) (valOf E) (fun j=>listed.getD j false) f0 ops.size):=by
    rw [vp (L:=fun j=>listed.getD j false) hlt hun hset (fun j d h1 h2 hl hd hd'=>?_),hdst i o ho,hval]
    obtain ⟨oj,hoj⟩:=hops j hl
    rw [hdst i o ho] at hd
    rw [hdst j oj hoj] at hd'
    exact (Oper.apart_spec (apart i j o oj h1 ho hoj (post j hl))).2.1 d hd hd'
   have emem:dv (cZ E) (fun j=>(listed.setIfInBounds i true).getD j false) m0 ops.size=(dv (cZ E) (fun j=>listed.getD j false) m0 ops.size).aF e.upd:=by
    rw [zQ (L:=fun j=>listed.getD j false) hlt hun hset (fun j h1 h2 hl q hq q' hq'=>?_),hupd]
    rw [hupd] at hq
    obtain ⟨ej,hej,huj⟩:=hE' j h2
    rw [huj] at hq'
    exact (hc i j e ej h1 he hej (post j hl)).2.1 q hq q' hq'
   have hcnt:(listed.setIfInBounds i true).toList.count false=fuel:=by
    have hv:listed[i]=false:=by simpa [hlt'] using hun
    rw [Array.toList_setIfInBounds,List.count_set (by simpa using hlt')]
    simp [hv]
    have:listed.toList.count false=fuel+1:=hf
    simp at this
    omega
   have hclosed:∀ j,(listed.setIfInBounds i true).getD j false=true→∀ k,((e9 ops.toList []).getD j 0).testBit k=true→(listed.setIfInBounds i true).getD k false=true:=by
    intro j hj k hk
    rw [hset] at hj ⊢
    simp only [Bool.or_eq_true,beq_iff_eq] at hj
    rcases hj with hj|hj
    ·rw [hI.closed j hj k hk];rfl
    ·subst hj;rw [pre k hk];rfl
   obtain ⟨o1,o2,o3,o4⟩:=gV (hok i o ho)
   unfold wpOpIn
   rw [ho]
   simp only []
   rcases hj i o e ho he with ⟨hw,hok',hneed⟩|⟨hw,hno⟩
   ·rw [VR.wanted o4 (fun t ht _=>hr.fr t ht) (by rw [← kL cx];exact hw)]
    simp only [if_true]
    refine (hok' x g a w _ hr.mr (fun q hq=>by rw [← mems q hq];exact hneed q hq) (hr.operands hng.1 (hok i o ho) (fun t ht=>cx t (sG ht)))
     (fun k hk=>⟨hs i k hun hk,Oid.ay hk⟩) hng _ _ fun g' v w' hle hloc hv hm=>?_)
    refine ih _ _ _ hcnt ⟨by simp [hI.size],hclosed,g',?_,?_,?_⟩
    ·rw [eslot,emem];exact hr.put hle hm _ hv
    ·intro k hk
     rw [hloc k (fun hu=>?_)];exact hy k hk
     obtain ⟨c',i',hc',hk'⟩:=hk
     have:=(Oid.apart hu hk').1;omega
    ·intro j k hj hk
     rw [hset] at hj
     simp only [Bool.or_eq_false_iff,beq_eq_false_iff_ne] at hj
     rw [hloc k (fun hu=>hj.2 (Oid.apart hu hk).2.symm)];exact hs j k hj.1 hk
   ·rw [VR.wanted o4 (fun t ht _=>hr.fr t ht) (by rw [← kL cx];exact hw)]
    simp only [Bool.false_eq_true,if_false]
    refine ⟨fun _ _=>trivial,?_⟩
    refine ih _ _ _ hcnt ⟨by simp [hI.size],hclosed,g,?_,hy,?_⟩
    ·rw [eslot,emem]
     subst hno
     exact hr.put (Gh.le_refl g) hr.mr _ (.tuple _ _ rfl (fun j hj=>absurd hj (Nat.not_lt_zero _)))
    ·intro j k hj hk
     rw [hset] at hj
     simp only [Bool.or_eq_false_iff,beq_eq_false_iff_ne] at hj
     exact hs j k hj.1 hk
end
theorem nc {P:Program} [Laid P] {x:Ctx} {n:Nat} {s:AS} {Q:AX→AS→Prop} {id:Nat} {ops:Array Oper} (hmx:P.follows .mixedOrders=true) (hng:Fit P x)
  (hok:ops.all (dS n P.globals.size ops)=true) (hd:oR ops=true)
  (h:qg x.p s.c s.mem→cV P ops x.p s.c 0 ops.toList s.fr s.mem [] (fun fr m log=>oS (e9 ops.toList []) log.reverse∧∀ fr',F fr' = F fr→Q .normal ⟨fr',m,s.c+1,s.ds⟩)) :
  T P x n (.region id ops true) s Q:=by
 intro g a w hr
 have hok':∀ (j:Nat) o,ops[j]? = some o→dS n P.globals.size ops o=true:=fun j o hj=>by
  rw [Array.all_eq_true'] at hok
  exact hok o (Array.mem_of_getElem? hj)
 obtain ⟨E,h1,⟨fr',h2,h3,h4⟩,h5⟩:=jz _ _ _ _ _ (h hr.fresh)
 simp only [List.append_nil,List.reverse_reverse] at h3
 simp only [Array.length_toList] at h1 h2 h4
 refine wpIn_region_any hmx (sH (E:=E) (ds:=s.ds) (f0:=F s.fr) (m0:=s.mem) (x:=x) (n:=n) (c:=s.c) hng hok' hd h1 (fun k o e hk he=>?_) h3 (fun g a w hrr hy=>?_) _ _ _ _ ?_ ?_)
 ·have:=h5 k o e (by simpa using hk) he
  simpa using this
 ·rw [← h2] at hrr
  exact ⟨g,.normal,_,hrr.rel hy,trivial,h4 fr' rfl⟩
 ·simp [List.count_replicate]
 ·have hL:∀ j,(Array.replicate ops.size false).getD j false=false:=fun j=>by simp [Array.getElem?_replicate];split<;>rfl
  refine ⟨by simp,fun j hj=>absurd hj (by rw [hL j];simp),g,?_,fun k hk=>hr.young k (hk.mono (Nat.le_succ _)),fun j k _ hk=>hr.young k ⟨s.c,j,Nat.le_refl _,hk⟩⟩
  have e1:∀ k,bR (dC ops.toList) (valOf E) (fun j=>(Array.replicate ops.size false).getD j false) (F s.fr) k=F s.fr:=by
   intro k;induction k with
   | zero=>rfl
   | succ k ih=>simp only [bR,hL,Bool.false_eq_true,if_false];simpa only [hL] using ih
  have e2:∀ k,dv (cZ E) (fun j=>(Array.replicate ops.size false).getD j false) s.mem k=s.mem:=by
   intro k;induction k with
   | zero=>rfl
   | succ k ih=>simp only [dv,hL,Bool.false_eq_true,if_false];simpa only [hL] using ih
  rw [e1,e2]
  exact ⟨hr.mr.drew _ (Nat.le_add_right _ _),hr.tm,hr.df,hr.fr⟩
end Go.Ab
namespace Go.Ab
section
variable {P:Program} [Laid P] {o:Oper} {ρ:Operand→AV} {sp:Oid→Prop} {e:Eff}
theorem aG.of (h:∀ (x:Ctx) (g:Gh) (a:Act) (w:World) (m:Mem),aD x g m w→(∀ q,q ∈ e.need→m q.1=some q.2) →
  (∀ t,t ∈ o.op.operands.toList→VR g (ρ t) (a.eval t))→(∀ i,sp i→g.loc i=none∧Oid.under x.p i) →
  ∃ g' nx v w',(execOp a.eval o).run P w = .ok nx w'∧(nx = .value v∨nx = .skip∧v=undef)∧g.le g'∧(∀ i,¬ sp i→g'.loc i=g.loc i)∧VR g' e.val v∧aD x g' (m.aF e.upd) w') :
  aG P o ρ sp e:=by
 intro x g a w m hm hn ho hs _ next Q K
 obtain ⟨g',nx,v,w',hrun,hnx,h1,h2,h3,h4⟩:=h x g a w m hm hn ho hs
 refine ⟨fun _ _=>trivial,?_⟩
 have hsem:(o.semAt (Fc x.rd).round a.eval).run P w = .ok nx w':=by
  rw [← hrun]
  by_cases hd:∃ c,o.op = .defer c
  ·obtain ⟨c,hd⟩:=hd
   exfalso
   simp only [execOp,hd,Sem.run_bind] at hrun
   cases hres:(resolve a.eval c o.type).run P w with
   | ok d w1=>rw [hres] at hrun;simp only [Result.andThen_ok,Sem.run_pure,Result.ok.injEq] at hrun;rcases hnx with h|⟨h,_⟩<;>(rw [h] at hrun;cases hrun.1)
   | halt k w1=>rw [hres] at hrun;cases hrun
  ·rw [Oper.semAt_eq _ _ _ (fun c hc=>hd ⟨c,hc⟩)]
 rw [hsem]
 rcases hnx with rfl|⟨rfl,rfl⟩
 ·exact K g' v w' h1 h2 h3 h4
 ·exact K g' undef w' h1 h2 h3 h4
theorem aG.plain {val:AV} (h:∀ (g:Gh) (a:Act) (w:World),(∀ t,t ∈ o.op.operands.toList→VR g (ρ t) (a.eval t)) →
  ∃ v,(execOp a.eval o).run P w = .ok (.value v) w∧VR g val v):aG P o ρ sp ⟨[],val,[]⟩ :=
 aG.of fun _ g a w m hm _ ho _=>let ⟨v,h1,h2⟩:=h g a w ho;⟨g,.value v,v,w,h1,.inl rfl,Gh.le_refl g,fun _ _=>rfl,h2,hm⟩
end
def DD:TypeDesc→Bool
 | .struct _ | .array _ _=>true
 | _=>false
def shp (P:Program) (t:TypeId):Option (Bool × Nat) :=
 match P.underlying t,P.info? t with
 | some d,some i=>some (DD d,i.size)
 | _,_=>none
inductive TyK where
 | bool
 | int (k:IntKind)
 | str
 | slice (elem:TypeId) (agg:Bool) (sz bytes:Nat)
 | arr (n:Nat) (elem:TypeId) (agg:Bool) (sz:Nat)
 | struct (fs:List (Nat × Bool × Nat))
 | map (key elem:TypeId)
 | ptr (elem:TypeId)
 | func
 | iface (ms:Nat)
 | other
def tyk (P:Program) (t:TypeId):Option TyK :=
 match P.underlying t with
 | some .bool=>some .bool
 | some (.int k)=>some (.int k)
 | some .string=>some .str
 | some (.slice e)=>match shp P e,P.info? e with
  | some q,some i=>some (.slice e q.1 q.2 i.bytes)
  | _,_=>none
 | some (.array n e)=>(shp P e).map fun q=>.arr n e q.1 q.2
 | some (.struct fs)=>(fs.toList.mapM fun f=>(shp P f.type).map fun q=>(f.offset,q.1,q.2)).map .struct
 | some (.map k e)=>some (.map k e)
 | some (.pointer e)=>some (.ptr e)
 | some (.func ..)=>some .func
 | some (.interface ms)=>some (.iface ms.size)
 | some _=>some .other
 | none=>none
def zer (P:Program) (t:TypeId):Option (List AV):=((P.info? t).bind (·.zero)).map fun z=>(cB z).cells
section
variable {P:Program} [Laid P] {w:World} {t:TypeId}
omit [Laid P] in
theorem ea {b:Bool} {n:Nat} (h:shp P t=some (b,n)):∃ d i,P.underlying t=some d∧P.info? t=some i∧DD d=b∧i.size=n:=by
 unfold shp at h
 split at h
 ·rename_i d i hd hi;simp only [Option.some.injEq,Prod.mk.injEq] at h;exact ⟨d,i,hd,hi,h.1,h.2⟩
 ·cases h
omit [Laid P] in
theorem eM {b:Bool} {n:Nat} (h:shp P t=some (b,n)):(isAgg t).run P w = .ok b w:=by
 obtain ⟨d,i,hd,hi,hb,hn⟩:=ea h
 have hu:(underlying t).run P w = .ok d w:=by simp [underlying,hd]
 simp only [isAgg,Sem.run_bind,hu,Result.andThen_ok]
 cases d<;>simp_all [DD]
omit [Laid P] in
theorem run_sizeOf {b:Bool} {n:Nat} (h:shp P t=some (b,n)):(sizeOf t).run P w = .ok n w:=by
 obtain ⟨d,i,hd,hi,hb,hn⟩:=ea h
 simp [sizeOf,typeInfo,hi,hn]
omit [Laid P] in
theorem ax {d:TypeDesc} (h:P.underlying t=some d):(underlying t).run P w = .ok d w:=by simp [underlying,h]
end
def AV.known:AV→Bool
 | .undef=>false
 | _=>true
theorem VR.cells {g:Gh} {v:AV} {u:Value} (h:VR g v u) (hk:v.known=true):u.cells.size=v.cells.length∧∀ j,j < v.cells.length→VR g (v.cells.getD j .undef) (u.cells.getD j undef):=by
 cases v with
 | undef=>cases hk
 | agg cs =>
  obtain ⟨a,rfl,h1,h2⟩:=h.dY
  exact ⟨h1,h2⟩
 | _ =>
  have hc:u.cells=#[u]:=by cases h<;>rfl
  rw [hc]
  refine ⟨rfl,fun j hj=>?_⟩
  have:j=0:=by simp [AV.cells] at hj;exact hj
  subst this
  exact h
theorem oT (v:Value):(gr v).cells.length=1:=by
 unfold gr;split<;>rfl
theorem dI (v:Value):(cB v).cells.length=v.cells.size:=by
 cases v<;>first|rfl|exact oT _|(simp [cB,AV.cells,Value.cells];done)
theorem fi (g:Gh) (v:Value) (j:Nat) (hj:j < (cB v).cells.length):VR g ((cB v).cells.getD j .undef) (v.cells.getD j undef):=by
 by_cases hk:(cB v).known=true
 ·exact ((eL g v).cells hk).2 j hj
 ·have:cB v = .undef:=by cases h:cB v<;>simp_all [AV.known]
  rw [this] at hj ⊢
  simp only [AV.cells,List.length_cons,List.length_nil] at hj
  have:j=0:=by omega
  subst this
  exact .unk _
def Gh.bind (g:Gh) (i:Oid) (b:Nat):Gh:={ g with loc:=fun j=>if j=i then some (some b) else g.loc j }
theorem Gh.bs {g:Gh} {i:Oid} {b:Nat} (h:g.loc i=none):g.le (g.bind i b) :=
 ⟨fun j c hj=>by simp only [Gh.bind];split
                 ·rename_i e;subst e;rw [h] at hj;cases hj
                 ·exact hj,fun _ _ _ h=>h,fun _ _ h=>h⟩
def Gh.fix (g:Gh) (b:Nat) (c:Array Value):Gh:={ g with com:=fun b' k=>if b' = b then c[k]? else g.com b' k }
theorem Gh.zS {g:Gh} {b:Nat} {c:Array Value} (h:∀ k,g.com b k=none):g.le (g.fix b c) :=
 ⟨fun _ _ h=>h,fun b' k v hv=>by simp only [Gh.fix];split
                                 ·rename_i e;subst e;rw [h] at hv;cases hv
                                 ·exact hv,fun _ _ h=>h⟩
def Gh.measure (g:Gh) (b r:Nat):Gh:={ g with row:=fun b'=>if b' = b then some r else g.row b' }
theorem Gh.dw {g:Gh} {b r:Nat} (h:g.row b=none∨g.row b=some r):g.le (g.measure b r) :=
 ⟨fun _ _ h=>h,fun _ _ _ h=>h,fun b' r' hr=>by
  simp only [Gh.measure];split
  ·rename_i e;subst e;rcases h with h|h<;>rw [h] at hr
   ·cases hr
   ·exact hr
  ·exact hr⟩
section
variable {x:Ctx} {g:Gh} {m:Mem} {w:World}
theorem oU {b:Nat} {o:Obj} (h:w.heap[b]? = some o):b < w.heap.size:=(Array.getElem?_eq_some_iff.1 h).1
theorem aD.Yk (h:aD x g m w) {b k:Nat} {v:Value} (hc:g.com b k=some v):b < w.heap.size:=World.block_lt_of_cell? w _ (h.com b k v hc)
theorem aD.ug (h:aD x g m w) {b:Nat} (hb:w.heap.size≤b) (k:Nat):g.com b k=none:=by
 cases hc:g.com b k with
 | none=>rfl
 | some v=>have:=h.Yk hc;omega
theorem aD.jA (h:aD x g m w) {b:Nat} (hb:w.heap.size≤b):g.row b=none:=by
 cases hc:g.row b with
 | none=>rfl
 | some r=>obtain ⟨c,t,fz,h1,_⟩:=h.rows b r hc;simp [Array.getElem?_eq_none hb] at h1
theorem aD.measure (h:aD x g m w) {b r:Nat} (hr:∃ c t fz,w.heap[b]? = some (.cells c t fz)∧c.size=r) (hg:g.row b=none∨g.row b=some r):aD x (g.measure b r) m w :=
 ⟨Gh.le_trans h.le (Gh.dw hg),h.locs,h.glob,h.coms,fun i o hi=>(h.obj0 i o hi).imp id fun ⟨b',h1,h2,h3,h4⟩=>⟨b',h1,h2,h3,h4.mono (Gh.dw hg)⟩,h.inj,h.com,h.one,
  fun b' r' hr'=>by
   simp only [Gh.measure] at hr';split at hr'
   ·rename_i e;subst e;simp only [Option.some.injEq] at hr';subst hr';exact hr
   ·exact h.rows b' r' hr',h.os,h.tape,h.output,h.size,h.kept,h.typs⟩
theorem aD.new (h:aD x g m w) {i:Oid} (hi:g.loc i=none) (hu:Oid.under x.p i) {o:ar} {ob:Obj} (ho:b9 (g.bind i w.heap.size) (w.alloc ob) w.heap.size o) (hty:∀ t,i.tyd=some t→∃ c fz,ob = .cells c t fz) :
  aD x (g.bind i w.heap.size) (m.set i (some o)) (w.alloc ob):=by
 have hle:g.le (g.bind i w.heap.size):=Gh.bs hi
 have hold:∀ b,b < w.heap.size→(w.alloc ob).heap[b]? = w.heap[b]? := fun b hb=>by
  show (w.heap.push ob)[b]? = _
  rw [Array.getElem?_push,if_neg (by omega)]
 refine ⟨Gh.le_trans h.le hle,fun j hj=>?_,fun k hk=>hle.1 _ _ (h.glob k hk),h.coms,fun j o' hj=>?_,fun j j' o1 o2 b h1 h2 h3 h4=>?_,fun b k v hv=>?_,h.one,fun b r hr=>?_,h.os,h.tape,h.output,?_,fun b hb hm=>?_,fun t q b hb=>?_⟩
 ·simp only [Gh.bind]
  rw [if_neg (fun e=>hj (by rw [e];exact hu))];exact h.locs j hj
 ·by_cases e:j=i
  ·subst e
   simp only [Mem.set,if_true,Option.some.injEq] at hj
   subst hj
   exact .inr ⟨w.heap.size,by simp [Gh.bind],fun k=>h.ug (Nat.le_refl _) k,.inr h.size,ho⟩
  ·simp only [Mem.set,e,if_false] at hj
   rcases h.obj0 j o' hj with ⟨v1,v2⟩|⟨b,h1,h2,h3,h4⟩
   ·exact .inl ⟨v1,hle.1 _ _ v2⟩
   ·exact .inr ⟨b,hle.1 _ _ h1,h2,h3,(b9.block (hold b h4.lt) h4).mono hle⟩
 ·have key:∀ j o',(m.set i (some o)) j=some o'→j≠i→(∀ b',g.loc j=some (some b')→b' < w.heap.size)∧m j=some o':=fun j o' hj e=>by
   simp only [Mem.set,e,if_false] at hj
   refine ⟨fun b' hb'=>?_,hj⟩
   rcases h.obj0 j o' hj with ⟨_,v2⟩|⟨b,h1,_,_,h4⟩
   ·rw [hb'] at v2;cases v2
   ·rw [hb'] at h1;simp only [Option.some.injEq] at h1;subst h1;exact h4.lt
  simp only [Gh.bind] at h3 h4
  by_cases e1:j=i<;>by_cases e2:j' = i
  ·rw [e1,e2]
  ·rw [if_pos e1] at h3;rw [if_neg e2] at h4
   have hlt:=(key j' o2 h2 e2).1 b h4
   simp only [Option.some.injEq] at h3;omega
  ·rw [if_neg e1] at h3;rw [if_pos e2] at h4
   have hlt:=(key j o1 h1 e1).1 b h3
   simp only [Option.some.injEq] at h4;omega
  ·rw [if_neg e1] at h3;rw [if_neg e2] at h4
   obtain ⟨_,g1⟩:=key j o1 h1 e1
   obtain ⟨_,g2⟩:=key j' o2 h2 e2
   exact h.inj j j' o1 o2 b g1 g2 h3 h4
 ·have:=h.com b k v hv
  rw [World.cell?_alloc_lt w ob _ (World.block_lt_of_cell? w _ this)];exact this
 ·obtain ⟨c,t,fz,h1,h2⟩:=h.rows b r hr
  have hlt:b < w.heap.size:=by
   rcases Nat.lt_or_ge b w.heap.size with h'|h'
   ·exact h'
   ·simp [Array.getElem?_eq_none h'] at h1
  exact ⟨c,t,fz,by rw [hold b hlt];exact h1,h2⟩
 ·simp only [World.size_alloc];have:=h.size;omega
 ·rw [hold b (by have:=h.size;omega)];exact h.kept b hb hm
 ·simp only [Gh.bind] at hb
  split at hb
  ·rename_i e
   simp only [Option.some.injEq] at hb;subst hb
   obtain ⟨c,fz,rfl⟩:=hty t (by rw [← e];rfl)
   exact ⟨c,fz,by show (w.heap.push _)[w.heap.size]? = _;simp⟩
  ·obtain ⟨c,fz,h1⟩:=h.typs t q b hb
   exact ⟨c,fz,by rw [hold b (oU h1)];exact h1⟩
theorem aD.Yl (h:aD x g m w) (c:Array Value) (t:TypeId) (h1:∀ j (hj:j < c.size),c[j].oneCell' = true):aD x (g.fix w.heap.size c) m (w.alloc (.cells c t))∧g.le (g.fix w.heap.size c):=by
 have hle:g.le (g.fix w.heap.size c):=Gh.zS fun k=>h.ug (Nat.le_refl _) k
 have hold:∀ b,b < w.heap.size→(w.alloc (.cells c t)).heap[b]? = w.heap[b]? := fun b hb=>by
  show (w.heap.push _)[b]? = _
  rw [Array.getElem?_push,if_neg (by omega)]
 refine ⟨⟨Gh.le_trans h.le hle,h.locs,h.glob,fun b k v hv=>?_,fun j o' hj=>?_,h.inj,fun b k v hv=>?_,fun b k v hv=>?_,fun b r hr=>?_,h.os,h.tape,h.output,?_,fun b hb hm=>?_,fun t' q b hb=>?_⟩,hle⟩
 ·simp only [Gh.fix] at hv
  split at hv
  ·rename_i e;subst e;exact .inr (.inr h.size)
  ·exact h.coms b k v hv
 ·rcases h.obj0 j o' hj with hv|⟨b,h1,h2,h3,h4⟩
  ·exact .inl hv
  refine .inr ⟨b,h1,fun k=>?_,h3,(b9.block (hold b h4.lt) h4).mono hle⟩
  simp only [Gh.fix]
  rw [if_neg (by have:=h4.lt;omega)];exact h2 k
 ·simp only [Gh.fix] at hv
  split at hv
  ·rename_i e;subst e;rw [World.cell?_alloc_new];exact hv
  ·have:=h.com b k v hv
   rw [World.cell?_alloc_lt w _ _ (World.block_lt_of_cell? w _ this)];exact this
 ·simp only [Gh.fix] at hv
  split at hv
  ·have hk:k < c.size:=by
    rcases Nat.lt_or_ge k c.size with h'|h'
    ·exact h'
    ·simp [Array.getElem?_eq_none h'] at hv
   simp only [Array.getElem?_eq_getElem hk,Option.some.injEq] at hv
   subst hv;exact h1 k hk
  ·exact h.one b k v hv
 ·obtain ⟨c',t',fz,k1,k2⟩:=h.rows b r hr
  have hlt:b < w.heap.size:=by
   rcases Nat.lt_or_ge b w.heap.size with h'|h'
   ·exact h'
   ·simp [Array.getElem?_eq_none h'] at k1
  exact ⟨c',t',fz,by rw [hold b hlt];exact k1,k2⟩
 ·simp only [World.size_alloc];have:=h.size;omega
 ·rw [hold b (by have:=h.size;omega)];exact h.kept b hb hm
 ·obtain ⟨c',fz,h1⟩:=h.typs t' q b hb
  exact ⟨c',fz,by rw [hold b (oU h1)];exact h1⟩
theorem aD.fS (h:aD x g m w) {i:Oid} {o0 o:ar} {b:Nat} {w':World} (hi:m i=some o0) (hb:g.loc i=some (some b)) (hos:w'.os=w.os) (htape:w'.tape=w.tape) (hout:w'.output=w.output∧w.drawn≤w'.drawn)
  (hsize:w.heap.size≤w'.heap.size) (hother:∀ b',b'≠b→b' < w.heap.size→w'.heap[b']? = w.heap[b']?) (hrow:∀ r,g.row b=some r→∃ c t fz,w'.heap[b]? = some (.cells c t fz)∧c.size=r) (htyp:∀ c t fz,w.heap[b]? = some (.cells c t fz)→∃ c' fz',w'.heap[b]? = some (.cells c' t fz')) (ho:b9 g w' b o):aD x g (m.set i (some o)) w':=by
 obtain ⟨b0,hb0,hcom,hmay,hobj⟩:=h.fO hi hb
 rw [hb] at hb0
 simp only [Option.some.injEq] at hb0
 subst hb0
 refine ⟨h.le,h.locs,h.glob,h.coms,fun j o' hj=>?_,fun j j' o1 o2 c h1 h2 h3 h4=>?_,fun c k v hv=>?_,h.one,fun c r hr=>?_,hos.trans h.os,htape.trans h.tape,⟨hout.1.trans h.output.1,fun hm=>Nat.le_trans (h.output.2 hm) hout.2⟩,Nat.le_trans h.size hsize,fun c hc hm=>?_,fun t q c hc=>?_⟩
 ·by_cases e:j=i
  ·subst e
   simp only [Mem.set,if_true,Option.some.injEq] at hj
   subst hj
   exact .inr ⟨b,hb,hcom,hmay,ho⟩
  ·simp only [Mem.set,e,if_false] at hj
   rcases h.obj0 j o' hj with hv|⟨c,h1,h2,h3,h4⟩
   ·exact .inl hv
   refine .inr ⟨c,h1,h2,h3,b9.block (hother c (fun ec=>e ?_) h4.lt) h4⟩
   subst ec;exact h.inj j i o' o0 c hj hi h1 hb
 ·have key:∀ j o',(m.set i (some o)) j=some o'→∃ o'',m j=some o'':=fun j o' hj=>by
   by_cases e:j=i
   ·subst e;exact ⟨o0,hi⟩
   ·simp only [Mem.set,e,if_false] at hj;exact ⟨o',hj⟩
  obtain ⟨_,g1⟩:=key j o1 h1
  obtain ⟨_,g2⟩:=key j' o2 h2
  exact h.inj j j' _ _ c g1 g2 h3 h4
 ·have hcell:=h.com c k v hv
  have hne:c≠b:=fun e=>by subst e;rw [hcom k] at hv;cases hv
  have:=hother c hne (World.block_lt_of_cell? w _ hcell)
  simp only [World.cell?] at hcell ⊢
  rw [this];exact hcell
 ·by_cases e:c=b
  ·subst e;exact hrow r hr
  ·obtain ⟨c',t',fz,k1,k2⟩:=h.rows c r hr
   have hlt:c < w.heap.size:=by
    rcases Nat.lt_or_ge c w.heap.size with h'|h'
    ·exact h'
    ·simp [Array.getElem?_eq_none h'] at k1
   exact ⟨c',t',fz,by rw [hother c e hlt];exact k1,k2⟩
 ·by_cases e:c=b
  ·subst e
   rcases hmay with hm'|hm'
   ·exact absurd hm' hm
   ·omega
  ·rw [hother c e (by have:=h.size;omega)];exact h.kept c hc hm
 ·obtain ⟨c',fz,h1⟩:=h.typs t q c hc
  by_cases e:c=b
  ·subst e;exact htyp _ _ _ h1
  ·exact ⟨c',fz,by rw [hother c e (oU h1)];exact h1⟩
end
end Go.Ab
namespace Go.Ab
inductive OpR where
 | eff (e:Eff)
 | call (f:FuncId) (args:List AV)
 | no
def bJ (v:AV):OpR:=.eff ⟨[],v,[]⟩
section
variable {P:Program} [Laid P] {o:Oper} {ρ:Operand→AV} {sp:Oid→Prop}
theorem bC (w:World) (o:Obj):(w.alloc o).heap[w.heap.size]? = some o:=by simp only [World.alloc,Array.getElem?_push,if_true]
theorem addr_add (b k j:Nat):Addr.add ⟨b,k,none⟩ j=⟨b,k+j,none⟩:=by
 unfold Addr.add;split
 ·rename_i h;subst h;rfl
 ·rfl
theorem qh {y:Operand} (ho:o.op = .move y∨o.op = .assign y):aG P o ρ sp ⟨[],ρ y,[]⟩:=by
 refine aG.plain fun g a w h=>⟨a.eval y,?_,h y ?_⟩
 ·rcases ho with ho|ho<;>simp [execOp,ho]
 ·rcases ho with ho|ho<;>simp [Op.operands,ho]
theorem zT {c y z:Operand} {b:Bool} (ho:o.op = .pick c y z) (hc:ρ c = .bool b):aG P o ρ sp ⟨[],if b then ρ y else ρ z,[]⟩:=by
 refine aG.plain fun g a w h=>⟨if b then a.eval y else a.eval z,?_,?_⟩
 ·have:=(hc ▸ h c (by simp [Op.operands,ho])).bN
  simp [execOp,ho,this,asBool]
 ·cases b
  ·exact h z (by simp [Op.operands,ho])
  ·exact h y (by simp [Op.operands,ho])
def iy (m:Mem):AV→Option (List (Oid × ar) × List AV)
 | .ptr id off=>match m id with
  | some (.cells vs)=>some ([(id,.cells vs)],vs.drop off)
  | _=>none
 | .aptr id sz i off=>match m id with
  | some (.arr sz' xs)=>if sz' = sz∧i < xs.length then some ([(id,.arr sz' xs)],(xs.getD i .undef).cells.drop off) else none
  | _=>none
 | .eptr v=>some ([],v.cells)
 | _=>none
theorem cW (l:List AV) (k j:Nat) (d:AV):(l.drop k).getD j d=l.getD (k+j) d:=by simp [List.getD_eq_getElem?_getD,List.getElem?_drop]
theorem getD_take (l:List AV) (n j:Nat) (d:AV) (h:j < n):(l.take n).getD j d=l.getD j d:=by simp [List.getD_eq_getElem?_getD,List.getElem?_take,h]
theorem eG {x:Ctx} {g:Gh} {m m0:Mem} {w:World} (hm:aD x g m w) {v:AV} {u:Value} (hv:VR g v u) {nd:List (Oid × ar)} {l:List AV} (h:iy m0 v=some (nd,l))
  (hn:∀ q,q ∈ nd→m q.1=some q.2):∃ b k,u = .pointer (some ⟨b,k,none⟩)∧∃ f:Nat→Value,∀ j,j < l.length→w.cell? ⟨b,k+j,none⟩=some (f j)∧VR g (l.getD j .undef) (f j):=by
 cases v<;>simp only [iy] at h<;>try (cases h;done)
 case ptr id off =>
  obtain ⟨b,rfl,hb⟩:=hv.cA
  split at h
  ·rename_i vs hvs
   simp only [Option.some.injEq,Prod.mk.injEq] at h
   obtain ⟨rfl,rfl⟩:=h
   obtain ⟨b',h1,h2,h3,h4⟩:=hm.obj id _ (hn (id,.cells vs) (by simp))
   rw [hb] at h1;simp only [Option.some.injEq] at h1;subst h1
   obtain ⟨c,t,fz,c1,c2,c3,c4⟩:=h4
   refine ⟨b,off,rfl,fun j=>c.getD (off+j) undef,fun j hj=>?_⟩
   simp only [List.length_drop] at hj
   refine ⟨?_,?_⟩
   ·have:off+j < c.size:=by omega
    simp [World.cell?,c1,this]
   ·rw [cW];exact c4 _ (by omega)
  ·cases h
 case aptr id sz i off =>
  obtain ⟨b,rfl,hb⟩:=hv.fL
  split at h
  ·rename_i sz' xs hvs
   split at h
   ·rename_i hc
    obtain ⟨rfl,hi⟩:=hc
    simp only [Option.some.injEq,Prod.mk.injEq] at h
    obtain ⟨rfl,rfl⟩:=h
    obtain ⟨b',h1,h2,h3,h4⟩:=hm.fO (hn (id,.arr sz' xs) (by simp)) hb
    rw [hb] at h1;simp only [Option.some.injEq] at h1;subst h1
    obtain ⟨c,t,fz,c1,c2,c3,c4,c6,c5⟩:=h4
    refine ⟨b,i * sz' + off,rfl,fun j=>c.getD (i * sz' + off+j) undef,fun j hj=>?_⟩
    simp only [List.length_drop,c4 i hi] at hj
    have hle:i * sz' + sz'≤xs.length * sz':=by
     have:=Nat.mul_le_mul_right sz' (Nat.succ_le_of_lt hi)
     rwa [Nat.succ_mul] at this
    refine ⟨?_,?_⟩
    ·have:i * sz' + off+j < c.size:=by omega
     simp [World.cell?,c1,this]
    ·rw [cW]
     have:=c5 i (off+j) hi (by omega)
     rwa [← Nat.add_assoc] at this
   ·cases h
  ·cases h
 case eptr v =>
  simp only [Option.some.injEq,Prod.mk.injEq] at h
  obtain ⟨rfl,rfl⟩:=h
  obtain ⟨b,k,cs,rfl,h1,h2⟩:=hv.jy
  exact ⟨b,k,rfl,cs,fun j hj=>⟨hm.com _ _ _ (h1 j hj),h2 j hj⟩⟩
theorem eH {m:Mem} {v:AV} {nd:List (Oid × ar)} {l:List AV} (h:iy m v=some (nd,l)):∀ q,q ∈ nd→m q.1=some q.2:=by
 cases v<;>simp only [iy] at h<;>try (cases h;done)
 case ptr id off =>
  split at h
  ·rename_i vs hvs
   simp only [Option.some.injEq,Prod.mk.injEq] at h
   obtain ⟨rfl,rfl⟩:=h
   intro q hq;simp only [List.mem_singleton] at hq;subst hq;exact hvs
  ·cases h
 case aptr id sz i off =>
  split at h
  ·rename_i sz' xs hvs
   split at h
   ·simp only [Option.some.injEq,Prod.mk.injEq] at h
    obtain ⟨rfl,rfl⟩:=h
    intro q hq;simp only [List.mem_singleton] at hq;subst hq;exact hvs
   ·cases h
  ·cases h
 case eptr v =>
  simp only [Option.some.injEq,Prod.mk.injEq] at h
  obtain ⟨rfl,rfl⟩:=h
  intro q hq;cases hq
def gN (s:Option (Bool × Nat)) (m:Mem) (v:AV):OpR :=
 match s,iy m v with
 | some (true,n),some (nd,l)=>if n≤l.length then .eff ⟨nd,.agg (l.take n),[]⟩ else .no
 | some (false,_),some (nd,l)=>if 0 < l.length then .eff ⟨nd,l.getD 0 .undef,[]⟩ else .no
 | _,_=>.no
theorem zU {t:TypeId} {y:Operand} {m0:Mem} {e:Eff} (ho:o.op = .load t y) (h:gN (shp P t) m0 (ρ y) = .eff e):aG P o ρ sp e∧∀ q,q ∈ e.need→m0 q.1=some q.2:=by
 unfold gN at h
 split at h
 ·rename_i s v n nd l hs hc
  split at h
  ·rename_i hn
   simp only [OpR.eff.injEq] at h;subst h
   refine ⟨aG.of fun x g a w m hm hnd hop _=>?_,eH hc⟩
   obtain ⟨b,k,hu,f,hf⟩:=eG hm (hop y (by simp [Op.operands,ho])) hc hnd
   refine ⟨g,.value (.agg ((List.range n).map f).toArray),_,w,?_,.inl rfl,Gh.le_refl g,fun _ _=>rfl,?_,hm⟩
   ·have hl:=run_loadCells (P:=P) w ⟨b,k,none⟩ n f (fun j hj=>by rw [addr_add];exact (hf j (by omega)).1)
    simp [execOp,ho,Instr.loadAt,hu,Instr.sureAddr,loadVar,eM hs,run_sizeOf hs,hl]
   ·refine .agg _ _ (by simp;omega) fun j hj=>?_
    have hj':j < n:=by simp at hj;omega
    rw [getD_take _ _ _ _ hj']
    have:=(hf j (by omega)).2
    simpa [hj'] using this
  ·cases h
 ·rename_i s v n nd l hs hc
  split at h
  ·rename_i hn
   simp only [OpR.eff.injEq] at h;subst h
   refine ⟨aG.of fun x g a w m hm hnd hop _=>?_,eH hc⟩
   obtain ⟨b,k,hu,f,hf⟩:=eG hm (hop y (by simp [Op.operands,ho])) hc hnd
   refine ⟨g,.value (f 0),_,w,?_,.inl rfl,Gh.le_refl g,fun _ _=>rfl,(hf 0 hn).2,hm⟩
   have:=(hf 0 hn).1
   simp only [Nat.add_zero] at this
   simp [execOp,ho,Instr.loadAt,hu,Instr.sureAddr,loadVar,eM hs,this]
  ·cases h
 ·cases h
theorem vq {t:TypeId} {z:List AV} {nid:Oid} (ho:o.op = .alloc t) (hz:zer P t=some z) (hs:sp nid) (hnt:∀ t',nid.tyd=some t'→t' = t):aG P o ρ sp ⟨[],.ptr nid 0,[(nid,some (.cells z))]⟩:=by
 unfold zer at hz
 simp only [Option.map_eq_some_iff,Option.bind_eq_some_iff] at hz
 obtain ⟨v,⟨i,hi,hv⟩,rfl⟩:=hz
 refine aG.of fun x g a w m hm _ _ hsp=>?_
 obtain ⟨hl,hu⟩:=hsp nid hs
 refine ⟨g.bind nid w.heap.size,.value (.pointer (some ⟨w.heap.size,0,none⟩)),_,w.alloc (.cells v.cells t),?_,.inl rfl,Gh.bs hl,fun j hj=>?_,.ptr _ _ _ (by simp [Gh.bind]),hm.new hl hu ?_ (fun t' ht=>by rw [hnt t' ht];exact ⟨_,_,rfl⟩)⟩
 ·simp [execOp,ho,Instr.alloc,zeroValue,typeInfo,hi,hv,newVar,newRow]
 ·simp only [Gh.bind];rw [if_neg (fun e=>hj (by rw [e];exact hs))]
 ·refine ⟨v.cells,t,(0,0),bC w _,(dI v).symm,fun j _ h=>by omega,fun j hj=>fi _ v j hj⟩
theorem DE {t:TypeId} {y:Operand} {nid:Oid} (ho:o.op = .box t y) (hk:(ρ y).known=true) (hs:sp nid) (hnt:∀ t',nid.tyd=some t'→t' = t):aG P o ρ sp ⟨[],.ptr nid 0,[(nid,some (.cells (ρ y).cells))]⟩:=by
 refine aG.of fun x g a w m hm _ hop hsp=>?_
 obtain ⟨hl,hu⟩:=hsp nid hs
 obtain ⟨h1,h2⟩:=(hop y (by simp [Op.operands,ho])).cells hk
 refine ⟨g.bind nid w.heap.size,.value (.pointer (some ⟨w.heap.size,0,none⟩)),_,w.alloc (.cells (a.eval y).cells t),?_,.inl rfl,Gh.bs hl,fun j hj=>?_,.ptr _ _ _ (by simp [Gh.bind]),hm.new hl hu ?_ (fun t' ht=>by rw [hnt t' ht];exact ⟨_,_,rfl⟩)⟩
 ·simp [execOp,ho,Instr.box,newVar,newRow]
 ·simp only [Gh.bind];rw [if_neg (fun e=>hj (by rw [e];exact hs))]
 ·exact ⟨(a.eval y).cells,t,(0,0),bC w _,h1,fun j _ h=>by omega,fun j hj=>(h2 j hj).mono (Gh.bs hl)⟩
def spl (vs:List AV) (k:Nat) (cs:List AV):List AV:=vs.take k++cs++vs.drop (k+cs.length)
theorem dx {vs:List AV} {k:Nat} {cs:List AV} (h:k+cs.length≤vs.length):(spl vs k cs).length=vs.length:=by simp [spl];omega
theorem jB {vs:List AV} {k:Nat} {cs:List AV} (h:k+cs.length≤vs.length) (j:Nat) (d:AV):(spl vs k cs).getD j d=if k≤j∧j < k+cs.length then cs.getD (j - k) d else vs.getD j d:=by
 simp only [spl,List.getD_eq_getElem?_getD]
 by_cases h1:j < k
 ·rw [if_neg (by omega),List.append_assoc,List.getElem?_append_left (by simp;omega),List.getElem?_take_of_lt h1]
 ·by_cases h2:j < k+cs.length
  ·rw [if_pos ⟨by omega,h2⟩,List.append_assoc,List.getElem?_append_right (by simp;omega),List.getElem?_append_left (by simp;omega)]
   congr 2;simp;omega
  ·rw [if_neg (by omega),List.getElem?_append_right (by simp;omega),List.getElem?_drop]
   congr 2;simp;omega
def AV.one:AV→Bool
 | .undef | .agg _ | .tuple _=>false
 | _=>true
theorem VR.one {g:Gh} {v:AV} {u:Value} (h:VR g v u) (ho:v.one=true):u.oneCell' = true:=by
 cases h<;>first|rfl|(cases ho;done)
def ja (s:Option (Bool × Nat)) (m:Mem) (ad v:AV):OpR :=
 match s,ad with
 | some (_,n),.ptr id off=>match m id with
  | some (.cells vs)=>if v.cells.all AV.one=true∧v.cells.length=n∧off+n≤vs.length then .eff ⟨[(id,.cells vs)],.tuple [],[(id,some (.cells (spl vs off v.cells)))]⟩ else .no
  | _=>.no
 | some (_,n),.aptr id sz i off=>match m id with
  | some (.arr sz' xs) =>
   if v.cells.all AV.one=true∧v.cells.length=n∧sz' = sz∧i < xs.length∧off+n≤sz then
    .eff ⟨[(id,.arr sz' xs)],.tuple [],[(id,some (.arr sz' (xs.set i (if off=0∧n=sz then v else .agg (spl (xs.getD i .undef).cells off v.cells)))))]⟩
   else .no
  | _=>.no
 | _,_=>.no
theorem cQ {P:Program} (b:Nat) (c:Array Value) (t:TypeId) (fz:Nat × Nat):∀ (vs:List Value) (k i:Nat) (w:World) (c:Array Value),w.heap[b]? = some (.cells c t fz)→(∀ j,j < c.size→¬ (fz.1≤j∧j < fz.2)) →
  k+i+vs.length≤c.size→(∀ v,v ∈ vs→v.oneCell' = true) →
  ∃ w' c',(storeCells ⟨b,k,none⟩ vs i).run P w = .ok () w'∧w'.heap[b]? = some (.cells c' t fz)∧c'.size=c.size∧(∀ j,c'.getD j undef=if k+i≤j∧j < k+i+vs.length then vs.getD (j - (k+i)) undef else c.getD j undef) ∧
   w'.os=w.os∧w'.tape=w.tape∧(w'.output=w.output∧w.drawn≤w'.drawn)∧w'.heap.size=w.heap.size∧∀ b',b'≠b→w'.heap[b']? = w.heap[b']?
 | [],k,i,w,c,hb,_,_,_=>⟨w,c,by simp [storeCells],hb,rfl,fun j=>by rw [if_neg (by simp only [List.length_nil];omega)],rfl,rfl,⟨rfl,Nat.le_refl _⟩,rfl,fun _ _=>rfl⟩
 | v::vs,k,i,w,c,hb,hfz,hl,h1=>by
  simp only [List.length_cons] at hl
  have hk:k+i < c.size:=by omega
  have hcell:w.cell? ⟨b,k+i,none⟩=some c[k+i]:=by simp [World.cell?,hb,hk]
  have hfr:w.frozen? ⟨b,k+i,none⟩=false:=by
   have:=hfz (k+i) hk
   simp only [World.frozen?,hb]
   by_cases h:fz.1≤k+i
   ·simp [h];omega
   ·simp [h]
  have hset:(w.setCell ⟨b,k+i,none⟩ v).heap[b]? = some (.cells (c.setIfInBounds (k+i) v) t fz):=by simp [World.setCell,Array.getElem?_modify,hb]
  obtain ⟨w',c',r1,r2,r3,r4,r5,r6,r7,r8,r9⟩:=cQ b c t fz vs k (i+1) (w.setCell ⟨b,k+i,none⟩ v) (c.setIfInBounds (k+i) v) hset (fun j hj=>hfz j (by simpa using hj)) (by simp;omega) (fun u hu=>h1 u (List.mem_cons_of_mem _ hu))
  refine ⟨w',c',?_,r2,by simpa using r3,fun j=>?_,r5,r6,r7,by simpa using r8,fun b' hb'=>?_⟩
  ·simp only [storeCells,Sem.run_bind,addr_add]
   rw [run_store P w _ v .plain (h1 v List.mem_cons_self),hcell]
   simp only [hfr,Bool.false_eq_true,if_false,Result.andThen_ok]
   exact r1
  ·rw [r4]
   simp only [List.length_cons]
   by_cases e:j=k+i
   ·subst e
    rw [if_neg (by omega),if_pos (by omega)]
    simp [hk]
   ·by_cases h2:k+(i+1)≤j∧j < k+(i+1)+vs.length
    ·rw [if_pos h2,if_pos (by omega)]
     have:j - (k+i)=(j - (k+(i+1)))+1:=by omega
     rw [this];simp [List.getD_eq_getElem?_getD]
    ·rw [if_neg h2,if_neg (by omega)]
     simp [Array.getElem?_setIfInBounds_ne (Ne.symm e)]
  ·rw [r9 b' hb']
   simp only [World.setCell,Array.getElem?_modify]
   rw [if_neg (fun e=>hb' e.symm)]
theorem AV.eN {v:AV} (h:v.cells.all AV.one=true):v.known=true:=by
 cases v<;>first|rfl|(simp [AV.cells,AV.one] at h)
theorem VR.DF {g:Gh} {v:AV} {u:Value} (h:VR g v u) (ho:v.cells.all AV.one=true):∀ c,c ∈ u.cells.toList→c.oneCell' = true:=by
 intro c hc
 obtain ⟨h1,h2⟩:=h.cells (AV.eN ho)
 obtain ⟨j,hj,rfl⟩:=List.mem_iff_getElem.1 hc
 simp only [Array.length_toList] at hj
 have hj':j < v.cells.length:=by omega
 have h3:=h2 j hj'
 have h4:(v.cells.getD j .undef).one=true:=by
  simp only [List.getD_eq_getElem?_getD,List.getElem?_eq_getElem hj',Option.getD_some]
  exact List.all_eq_true.1 ho _ (List.getElem_mem hj')
 have:=h3.one h4
 simpa [hj] using this
theorem vr {t:TypeId} {y z:Operand} {m0:Mem} {e:Eff} (ho:o.op = .store t y z) (h:ja (shp P t) m0 (ρ y) (ρ z) = .eff e):aG P o ρ sp e∧∀ q,q ∈ e.need→m0 q.1=some q.2:=by
 unfold ja at h
 split at h
 ·rename_i s ad ag n id off hs had
  split at h
  ·rename_i vs hvs
   split at h
   ·rename_i hc
    obtain ⟨hone,hlen,hle⟩:=hc
    simp only [OpR.eff.injEq] at h;subst h
    refine ⟨aG.of fun x g a w m hm hnd hop _=>?_,fun q hq=>by simp only [List.mem_singleton] at hq;subst hq;exact hvs⟩
    have hv:=hop z (by simp [Op.operands,ho])
    have had':=hop y (by simp [Op.operands,ho])
    rw [had] at had'
    obtain ⟨b,hu,hb⟩:=had'.cA
    have hmi:=hnd (id,.cells vs) (by simp)
    obtain ⟨b',h1,h2,h3,h4⟩:=hm.obj id _ hmi
    rw [hb] at h1;simp only [Option.some.injEq] at h1;subst h1
    obtain ⟨c,ty,fz,c1,c2,c3,c4⟩:=h4
    obtain ⟨k1,k2⟩:=hv.cells (AV.eN hone)
    obtain ⟨w',c',r1,r2,r3,r4,r5,r6,r7,r8,r9⟩:=cQ (P:=P) b c ty fz (a.eval z).cells.toList off 0 w c c1 c3 (by simp;omega) (hv.DF hone)
    have hsz:(a.eval z).cells.size=n:=by omega
    refine ⟨g,.skip,undef,w',?_,.inr ⟨rfl,rfl⟩,Gh.le_refl g,fun _ _=>rfl,.tuple _ _ rfl (fun j hj=>absurd hj (Nat.not_lt_zero _)),hm.fS hmi hb r5 r6 r7 (by omega) (fun b' hb' _=>r9 b' hb') (fun r hr=>?_) (fun c9 t9 fz9 h9=>by rw [c1] at h9;cases h9;exact ⟨c',fz,r2⟩) ?_⟩
    ·simp [execOp,ho,Instr.storeAt,hu,Instr.sureAddr,storeVar,run_sizeOf hs,hsz,r1]
    ·obtain ⟨c0,t0,fz0,k1,k2⟩:=hm.rows b r hr
     rw [c1] at k1;simp only [Option.some.injEq,Obj.cells.injEq] at k1
     exact ⟨c',ty,fz,r2,by rw [r3,← k2,k1.1]⟩
    ·refine ⟨c',ty,fz,r2,by rw [r3,dx (by omega)];exact c2,fun j hj=>c3 j (by omega),fun j hj=>?_⟩
     rw [dx (by omega)] at hj
     rw [jB (by omega),r4]
     simp only [Array.length_toList,Nat.add_zero]
     by_cases hin:off≤j∧j < off+(ρ z).cells.length
     ·rw [if_pos hin,if_pos (by omega)]
      have:=k2 (j - off) (by omega)
      simpa using this
     ·rw [if_neg hin,if_neg (by omega)];exact c4 j (by omega)
   ·cases h
  ·cases h
 ·rename_i s ad ag n id sz i off hs had
  split at h
  ·rename_i sz' xs hvs
   split at h
   ·rename_i hc
    obtain ⟨hone,hlen,rfl,hi,hle⟩:=hc
    simp only [OpR.eff.injEq] at h;subst h
    refine ⟨aG.of fun x g a w m hm hnd hop _=>?_,fun q hq=>by simp only [List.mem_singleton] at hq;subst hq;exact hvs⟩
    have hv:=hop z (by simp [Op.operands,ho])
    have had':=hop y (by simp [Op.operands,ho])
    rw [had] at had'
    obtain ⟨b,hu,hb⟩:=had'.fL
    have hmi:=hnd (id,.arr sz' xs) (by simp)
    obtain ⟨b',h1,h2,h3,h4⟩:=hm.fO hmi hb
    rw [hb] at h1;simp only [Option.some.injEq] at h1;subst h1
    obtain ⟨c,ty,fz,c1,c2,c3,c4,c6,c5⟩:=h4
    obtain ⟨k1,k2⟩:=hv.cells (AV.eN hone)
    have hlei:i * sz' + sz'≤xs.length * sz':=by
     have:=Nat.mul_le_mul_right sz' (Nat.succ_le_of_lt hi)
     rwa [Nat.succ_mul] at this
    obtain ⟨w',c',r1,r2,r3,r4,r5,r6,r7,r8,r9⟩:=cQ (P:=P) b c ty fz (a.eval z).cells.toList (i * sz' + off) 0 w c c1 c3 (by simp;omega) (hv.DF hone)
    have hsz:(a.eval z).cells.size=n:=by omega
    refine ⟨g,.skip,undef,w',?_,.inr ⟨rfl,rfl⟩,Gh.le_refl g,fun _ _=>rfl,.tuple _ _ rfl (fun j hj=>absurd hj (Nat.not_lt_zero _)),hm.fS hmi hb r5 r6 r7 (by omega) (fun b' hb' _=>r9 b' hb') (fun r hr=>?_) (fun c9 t9 fz9 h9=>by rw [c1] at h9;cases h9;exact ⟨c',fz,r2⟩) ?_⟩
    ·simp [execOp,ho,Instr.storeAt,hu,Instr.sureAddr,storeVar,run_sizeOf hs,hsz,r1]
    ·obtain ⟨c0,t0,fz0,k1,k2⟩:=hm.rows b r hr
     rw [c1] at k1;simp only [Option.some.injEq,Obj.cells.injEq] at k1
     exact ⟨c',ty,fz,r2,by rw [r3,← k2,k1.1]⟩
    ·-- the element's new cells
     have hnew:∀ v':AV,v' = (if off=0∧n=sz' then ρ z else .agg (spl (xs.getD i .undef).cells off (ρ z).cells))→v'.cells.length=sz'∧∀ j,j < sz'→v'.cells.getD j .undef=if off≤j∧j < off+n then (ρ z).cells.getD (j - off) .undef else (xs.getD i .undef).cells.getD j .undef:=by
      intro v' hv'
      split at hv'
      ·rename_i hh;obtain ⟨rfl,rfl⟩:=hh;subst hv'
       exact ⟨hlen,fun j hj=>by rw [if_pos (by omega)];rfl⟩
      ·subst hv'
       show (spl (xs.getD i .undef).cells off (ρ z).cells).length=sz'∧∀ j,j < sz'→(spl (xs.getD i .undef).cells off (ρ z).cells).getD j .undef=_
       rw [dx (by rw [c4 i hi];omega)]
       exact ⟨c4 i hi,fun j hj=>by rw [jB (by rw [c4 i hi];omega),hlen]⟩
     generalize hv':(if off=0∧n=sz' then ρ z else AV.agg (spl (xs.getD i .undef).cells off (ρ z).cells))=v'
     obtain ⟨n1,n2⟩:=hnew v' hv'.symm
     refine ⟨c',ty,fz,r2,by simpa [r3] using c2,fun j hj=>c3 j (by omega),fun j hj=>?_,fun j hj=>?_,fun j k hj hk=>?_⟩
     ·simp only [List.length_set] at hj
      by_cases e:i=j
      ·subst e;simpa [List.getD_eq_getElem?_getD,hi] using n1
      ·have:=c4 j hj;simpa [List.getD_eq_getElem?_getD,List.getElem?_set_ne e] using this
     ·simp only [List.length_set] at hj
      rw [r4]
      split
      ·rename_i hin
       simp only [Array.length_toList,Nat.add_zero] at hin ⊢
       have hlt:j - (i * sz' + off) < (a.eval z).cells.toList.length:=by simp only [Array.length_toList];omega
       rw [List.getD_eq_getElem?_getD,List.getElem?_eq_getElem hlt]
       exact hv.DF hone _ (List.getElem_mem hlt)
      ·exact c6 j hj
     ·simp only [List.length_set] at hj
      rw [r4]
      simp only [Array.length_toList,Nat.add_zero]
      by_cases e:i=j
      ·subst e
       have hx:(xs.set i v').getD i .undef=v':=by simp [List.getD_eq_getElem?_getD,hi]
       rw [hx,n2 k hk]
       by_cases hin:off≤k∧k < off+n
       ·rw [if_pos hin,if_pos (by omega)]
        have:=k2 (k - off) (by omega)
        have e1:i * sz' + k - (i * sz' + off)=k - off:=by omega
        rw [e1];simpa using this
       ·rw [if_neg hin,if_neg (by omega)];exact c5 i k hi hk
      ·have hx:(xs.set i v').getD j .undef=xs.getD j .undef:=by simp [List.getD_eq_getElem?_getD,List.getElem?_set_ne e]
       rw [hx,if_neg ?_]
       ·exact c5 j k hj hk
       ·rcases Nat.lt_or_ge j i with hlt|hge
        ·have:=Nat.mul_le_mul_right sz' (Nat.succ_le_of_lt hlt)
         rw [Nat.succ_mul] at this;omega
        ·have hlt:i < j:=by omega
         have:=Nat.mul_le_mul_right sz' (Nat.succ_le_of_lt hlt)
         rw [Nat.succ_mul] at this;omega
   ·cases h
  ·cases h
 ·cases h
end
end Go.Ab
namespace Go.Ab
section
variable {P:Program} [Laid P] {o:Oper} {ρ:Operand→AV} {sp:Oid→Prop}
def fb (op:BinOp) (k:IntKind) (a b:Int):Option AV :=
 match op with
 | .add=>some (.int k (k.wrap (a+b)))
 | .sub=>some (.int k (k.wrap (a - b)))
 | .mul=>some (.int k (k.wrap (a * b)))
 | .quo=>if b≠0 then some (.int k (k.wrap (a.tdiv b))) else none
 | .rem=>if b≠0 then some (.int k (a.tmod b)) else none
 | .and=>some (.int k (k.wrap (BitVec.ofInt k.bits a &&& BitVec.ofInt k.bits b).toNat))
 | .or=>some (.int k (k.wrap (BitVec.ofInt k.bits a ||| BitVec.ofInt k.bits b).toNat))
 | .xor=>some (.int k (k.wrap (BitVec.ofInt k.bits a ^^^ BitVec.ofInt k.bits b).toNat))
 | .andNot=>some (.int k (k.wrap (BitVec.ofInt k.bits a &&& ~~~ BitVec.ofInt k.bits b).toNat))
 | .eql=>some (.bool (a == b))
 | .neq=>some (.bool (a != b))
 | .lss=>some (.bool (decide (a < b)))
 | .leq=>some (.bool (decide (a≤b)))
 | .gtr=>some (.bool (decide (b < a)))
 | .geq=>some (.bool (decide (b≤a)))
 | _=>none
def gX (op:BinOp) (k:IntKind) (a b:Int):Option AV :=
 if b < 0 then none else
 match op with
 | .shl=>some (.int k (k.wrap (a * 2 ^ (min b.toNat k.bits))))
 | .shr=>some (.int k (a.fdiv (2 ^ (min b.toNat k.bits))))
 | _=>none
def jC (op:BinOp) (a b:List UInt8):Option AV :=
 match op with
 | .add=>if (a.length+b.length:Nat)≤9223372036854775807 then some (.str (a++b)) else none
 | .eql=>some (.bool (a == b))
 | .neq=>some (.bool (a != b))
 | .lss=>some (.bool (Op.bytesLess a b))
 | .leq=>some (.bool (Op.bytesLess a b || a == b))
 | .gtr=>some (.bool (!(Op.bytesLess a b || a == b)))
 | .geq=>some (.bool (!Op.bytesLess a b))
 | _=>none
def DG (op:BinOp) (x y:AV):Option AV :=
 match x,y with
 | .int k a,.int k' b =>
  match op with
  | .shl=>gX .shl k a b
  | .shr=>gX .shr k a b
  | op=>if k=k' then fb op k a b else none
 | .str a,.str b=>jC op a b
 | _,_=>none
omit [Laid P] in
theorem gw {t t':TypeId} {p q:Operand} {op:BinOp} {a:Act} {w:World} {r:Value} (ho:o.op = .binOp op t p q t') (h1:(eqGuard op t p q (a.eval p) (a.eval q)).run P w = .ok () w)
  (h2:(binOp op t (a.eval p) (a.eval q)).run P w = .ok r w):(execOp a.eval o).run P w = .ok (.value r) w:=by
 simp [execOp,ho,h1,h2]
omit [Laid P] in
theorem qi (op:BinOp) (t:TypeId) (p q:Operand) (k k':IntKind) (a b:Int) (w:World):(eqGuard op t p q (.int k a) (.int k' b)).run P w = .ok () w:=by
 cases op<;>rfl
omit [Laid P] in
theorem lJ (op:BinOp) (t:TypeId) (p q:Operand) (a b:ByteArray) (w:World):(eqGuard op t p q (.string a) (.string b)).run P w = .ok () w:=by
 cases op<;>rfl
omit [Laid P] in
theorem zV {op:BinOp} {k:IntKind} {a b:Int} {v:AV} (h:fb op k a b=some v) (t:TypeId) (g:Gh) (w:World):∃ r,(binOp op t (.int k a) (.int k b)).run P w = .ok r w∧VR g v r:=by
 cases op<;>simp only [fb] at h<;>first|(cases h;done)|skip
 case quo =>
  split at h
  ·rename_i hb;simp only [Option.some.injEq] at h;subst h;refine ⟨_,?_,.int _ _⟩;simp [binOp,Op.intDiv,hb]
  ·cases h
 case rem =>
  split at h
  ·rename_i hb;simp only [Option.some.injEq] at h;subst h;refine ⟨_,?_,.int _ _⟩;simp [binOp,Op.intDiv,hb]
  ·cases h
 all_goals (simp only [Option.some.injEq] at h;subst h)
 all_goals first|(refine ⟨_,?_,.int _ _⟩;simp [binOp,Op.intArith,Op.intBits];done)|(refine ⟨_,?_,.bool _⟩;simp [binOp,Op.intCmp];done)
omit [Laid P] in
theorem lK {op:BinOp} {k k':IntKind} {a b:Int} {v:AV} (h:gX op k a b=some v) (t:TypeId) (g:Gh) (w:World):∃ r,(binOp op t (.int k a) (.int k' b)).run P w = .ok r w∧VR g v r:=by
 unfold gX at h
 split at h
 ·cases h
 ·rename_i hb
  cases op<;>simp only at h<;>first|(cases h;done)|skip
  all_goals (simp only [Option.some.injEq] at h;subst h;refine ⟨_,?_,.int _ _⟩;simp [binOp,Op.shift,hb])
omit [Laid P] in
theorem zW {op:BinOp} {x y:ByteArray} {v:AV} (h:jC op x.data.toList y.data.toList=some v) (t:TypeId) (g:Gh) (w:World):∃ r,(binOp op t (.string x) (.string y)).run P w = .ok r w∧VR g v r:=by
 cases op<;>simp only [jC] at h<;>first|(cases h;done)|skip
 case add =>
  split at h
  ·rename_i hl
   simp only [Option.some.injEq] at h;subst h
   refine ⟨.string (x++y),?_,.str _ _ (by simp)⟩
   have hl':¬ ((x.size+y.size:Nat):Int) > IntKind.i64.max:=by
    simp only [Array.length_toList] at hl
    have e1:x.data.size=x.size:=rfl
    have e2:y.data.size=y.size:=rfl
    have e3:IntKind.i64.max=9223372036854775807:=by decide
    rw [e3];omega
   simp only [binOp,Op.stringOp,if_neg hl',Sem.run_pure]
  ·cases h
 all_goals (simp only [Option.some.injEq] at h;subst h;refine ⟨_,?_,.bool _⟩;simp [binOp,Op.stringOp,ByteArray.toList_eq,bne])
theorem DH {t t':TypeId} {p q:Operand} {op:BinOp} {v:AV} (ho:o.op = .binOp op t p q t') (h:DG op (ρ p) (ρ q)=some v):aG P o ρ sp ⟨[],v,[]⟩:=by
 refine aG.plain fun g a w hop=>?_
 have hp:=hop p (by simp [Op.operands,ho])
 have hq:=hop q (by simp [Op.operands,ho])
 unfold DG at h
 split at h
 ·rename_i k a' k' b' e1 e2
  rw [e1] at hp;rw [e2] at hq
  have ep:=hp.aY;have eq:=hq.aY
  have fin:(∃ r,(binOp op t (.int k a') (.int k' b')).run P w = .ok r w∧VR g v r)→∃ r,(execOp a.eval o).run P w = .ok (.value r) w∧VR g v r:=by
   rintro ⟨r,h1,h2⟩
   exact ⟨r,gw ho (by rw [ep,eq];exact qi ..) (by rw [ep,eq];exact h1),h2⟩
  split at h
  ·exact fin (lK h t g w)
  ·exact fin (lK h t g w)
  ·split at h
   ·rename_i hk;subst hk;exact fin (zV h t g w)
   ·cases h
 ·rename_i a' b' e1 e2
  rw [e1] at hp;rw [e2] at hq
  obtain ⟨x,ex,rfl⟩:=hp.bf
  obtain ⟨y,ey,rfl⟩:=hq.bf
  obtain ⟨r,h1,h2⟩:=zW h t g w
  exact ⟨r,gw ho (by rw [ex,ey];exact lJ ..) (by rw [ex,ey];exact h1),h2⟩
 ·cases h
def uh (P:Program) (op:BinOp) (t:TypeId) (x y:AV):Option AV :=
 match tyk P t,op,x,y with
 | some .bool,.eql,.bool a,.bool b=>some (.bool (a == b))
 | some .bool,.neq,.bool a,.bool b=>some (.bool (a != b))
 | _,_,_,_=>none
theorem zX {t t':TypeId} {p q:Operand} {op:BinOp} {v:AV} (ho:o.op = .binOp op t p q t') (h:uh P op t (ρ p) (ρ q)=some v):aG P o ρ sp ⟨[],v,[]⟩:=by
 refine aG.plain fun g a w hop=>?_
 have hp:=hop p (by simp [Op.operands,ho])
 have hq:=hop q (by simp [Op.operands,ho])
 have ht:tyk P t=some .bool→P.underlying t=some .bool:=by
  intro h;unfold tyk at h
  split at h<;>first|assumption|(simp at h;done)|(split at h<;>simp at h;done)
 unfold uh at h
 split at h
 ·rename_i a' b' e0 e1 e2
  rw [e1] at hp;rw [e2] at hq
  have ep:=hp.bN;have eq:=hq.bN
  simp only [Option.some.injEq] at h;subst h
  exact ⟨.bool (a' == b'),gw ho (by rw [ep,eq];rfl) (by rw [ep,eq];simp only [binOp,Op.equal,Op.maxDepth,Sem.run_bind,run_equalIn_bool w 9999 t a' b' (ht e0),Result.andThen_ok,Sem.run_pure]),.bool _⟩
 ·rename_i a' b' e0 e1 e2
  rw [e1] at hp;rw [e2] at hq
  have ep:=hp.bN;have eq:=hq.bN
  simp only [Option.some.injEq] at h;subst h
  exact ⟨.bool (a' != b'),gw ho (by rw [ep,eq];rfl) (by rw [ep,eq];simp only [binOp,Op.equal,Op.maxDepth,Sem.run_bind,run_equalIn_bool w 9999 t a' b' (ht e0),Result.andThen_ok,Sem.run_pure,bne]),.bool _⟩
 ·cases h
end
end Go.Ab
namespace Go.Ab
def eqS:AV→AV→Bool
 | .bool a,.bool b=>a == b
 | .int _ a,.int _ b=>a == b
 | .str a,.str b=>a == b
 | _,_=>false
def bp:List AV→List AV→Bool
 | [],[]=>true
 | x::xs,y::ys=>eqS x y && bp xs ys
 | _,_=>false
def j8 (ft:TypeId→Option (List TyS)):Nat→List Field→Option (List TyS)
 | _,[]=>some []
 | off,f::fs=>if f.name ≠ "_" ∧ f.offset=off then match ft f.type with
   | some a=>match j8 ft (off+a.length) fs with
    | some b=>some (a++b)
    | none=>none
   | none=>none
  else none
def aW (P:Program):Nat→TypeId→Option (List TyS)
 | 0,_=>none
 | d+1,t=>match P.underlying t with
  | some .bool=>if shp P t=some (false,1) then some [.sb] else none
  | some (.int k)=>if shp P t=some (false,1) then some [.si k] else none
  | some .string=>if shp P t=some (false,1) then some [.ss] else none
  | some (.struct fs)=>if P.stoodInHeld t then none else match j8 (aW P d) 0 fs.toList with
   | some l=>if shp P t=some (true,l.length) then some l else none
   | none=>none
  | _=>none
theorem bP:∀ {ks:List TyS} {xs:List AV},fits ks xs=true→xs.length=ks.length
 | [],[],_=>rfl
 | _::ks,_::xs,h=>by simp only [fits,Bool.and_eq_true] at h;simp [bP h.2]
 | [],_::_,h=>by simp [fits] at h
 | _::_,[],h=>by simp [fits] at h
theorem fj:∀ {ks ls:List TyS} {xs:List AV},fits (ks++ls) xs=true→fits ks (xs.take ks.length)=true∧fits ls (xs.drop ks.length)=true
 | [],ls,xs,h=>by simpa [fits] using h
 | k::ks,ls,[],h=>by simp [fits] at h
 | k::ks,ls,x::xs,h=>by
  simp only [List.cons_append,fits,Bool.and_eq_true] at h
  obtain ⟨h1,h2⟩:=fj h.2
  simp [fits,h.1,h1,h2]
theorem gY:∀ {xs ys:List AV} (n:Nat),xs.length=ys.length→bp xs ys=(bp (xs.take n) (ys.take n) && bp (xs.drop n) (ys.drop n))
 | xs,ys,0,_=>by simp [bp]
 | [],[],n+1,_=>by simp [bp]
 | x::xs,y::ys,n+1,h=>by simp [bp,gY (xs:=xs) (ys:=ys) n (by simpa using h),Bool.and_assoc]
 | [],_::_,_+1,h=>by simp at h
 | _::_,[],_+1,h=>by simp at h
def Made (g:Gh) (agg:Bool) (xs:List AV) (u:Value):Prop :=
 if agg then ∃ a:Array Value,u = .agg a∧a.size=xs.length∧∀ j,j < xs.length→VR g (xs.getD j .undef) (a.getD j undef)
 else xs.length=1∧VR g (xs.getD 0 .undef) u
section
variable {P:Program} [Laid P]
omit [Laid P] in
theorem gZ {t:TypeId} {agg:Bool} {n:Nat} (hs:shp P t=some (agg,n)) (hn:agg=false→n=1) {g:Gh} {xs:List AV} {a:Array Value} (h1:a.size=xs.length) (h2:∀ j,j < xs.length→VR g (xs.getD j .undef) (a.getD j undef))
  (off:Nat) (hoff:off+n≤xs.length) (w:World):∃ u,(part t a off).run P w = .ok u w∧Made g agg ((xs.drop off).take n) u:=by
 cases agg with
 | true =>
  refine ⟨.agg (a.extract off (off+n)),by simp [part,eM hs,run_sizeOf hs],a.extract off (off+n),rfl,by simp;omega,fun j hj=>?_⟩
  simp only [List.length_take,List.length_drop] at hj
  rw [getD_take _ _ _ _ (by omega),cW]
  have:=h2 (off+j) (by omega)
  have e:(a.extract off (off+n)).getD j undef=a.getD (off+j) undef:=by
   have:j < n:=by omega
   simp [Array.getElem?_extract]
   rw [if_pos (by omega)]
  rw [e];exact this
 | false =>
  have hn1:=hn rfl
  subst hn1
  have hlt:off < a.size:=by omega
  refine ⟨a[off],by simp [part,eM hs,hlt],by simp;omega,?_⟩
  rw [getD_take _ _ _ _ (by omega),cW]
  have:=h2 off (by omega)
  simpa [hlt] using this
omit [Laid P] in
theorem lL {d:Nat} {t:TypeId} {ks:List TyS} (h:aW P d t=some ks):∃ agg,shp P t=some (agg,ks.length)∧(agg=false→ks.length=1):=by
 cases d with
 | zero=>cases h
 | succ d =>
  unfold aW at h
  split at h
  ·split at h
   ·rename_i hs;simp only [Option.some.injEq] at h;subst h;exact ⟨false,hs,fun _=>rfl⟩
   ·cases h
  ·split at h
   ·rename_i hs;simp only [Option.some.injEq] at h;subst h;exact ⟨false,hs,fun _=>rfl⟩
   ·cases h
  ·split at h
   ·rename_i hs;simp only [Option.some.injEq] at h;subst h;exact ⟨false,hs,fun _=>rfl⟩
   ·cases h
  ·split at h
   ·cases h
   ·split at h
    ·split at h
     ·rename_i hs;simp only [Option.some.injEq] at h;subst h;exact ⟨true,hs,fun h=>by cases h⟩
     ·cases h
    ·cases h
  ·cases h
omit [Laid P] in
theorem jD {g:Gh} {w:World} {e:Nat} {ft:TypeId→Option (List TyS)} (hft:∀ t ks,ft t=some ks→∃ agg,shp P t=some (agg,ks.length)∧(agg=false→ks.length=1) ∧
   ∀ xs ys u v,fits ks xs=true→fits ks ys=true→Made g agg xs u→Made g agg ys v→(Op.equalIn e t u v).run P w = .ok (bp xs ys) w)
  {xs ys:List AV} {a b:Array Value} (ha1:a.size=xs.length) (ha2:∀ j,j < xs.length→VR g (xs.getD j .undef) (a.getD j undef)) (hb1:b.size=ys.length) (hb2:∀ j,j < ys.length→VR g (ys.getD j .undef) (b.getD j undef)) :
  ∀ (fs:List Field) (off:Nat) (l:List TyS),j8 ft off fs=some l→fits l (xs.drop off)=true→fits l (ys.drop off)=true→xs.length=off+l.length→ys.length=off+l.length →
   (Op.eqFields e a b fs).run P w = .ok (bp (xs.drop off) (ys.drop off)) w
 | [],off,l,h,_,_,h3,h4=>by
  simp only [j8,Option.some.injEq] at h;subst h
  simp only [List.length_nil,Nat.add_zero] at h3 h4
  rw [List.drop_eq_nil_of_le (by omega),List.drop_eq_nil_of_le (by omega)]
  simp [Op.eqFields,bp]
 | f::fs,off,l,h,h1,h2,h3,h4=>by
  simp only [j8] at h
  split at h
  ·rename_i hc
   obtain ⟨hnm,hoff⟩:=hc
   split at h
   ·rename_i ks hks
    split at h
    ·rename_i rest hrest
     simp only [Option.some.injEq] at h;subst h
     obtain ⟨agg,hs,hn,heq⟩:=hft _ _ hks
     obtain ⟨p1,p2⟩:=fj h1
     obtain ⟨q1,q2⟩:=fj h2
     simp only [List.length_append] at h3 h4
     obtain ⟨u,hu,hmu⟩:=gZ hs hn ha1 ha2 off (by omega) w
     obtain ⟨v,hv,hmv⟩:=gZ hs hn hb1 hb2 off (by omega) w
     rw [List.drop_drop] at p2 q2
     have ih:=jD hft ha1 ha2 hb1 hb2 fs (off+ks.length) rest hrest p2 q2 (by omega) (by omega)
     have hee:=heq _ _ u v p1 q1 hmu hmv
     rw [gY (xs:=xs.drop off) (ys:=ys.drop off) ks.length (by simp;omega),List.drop_drop,List.drop_drop]
     simp only [Op.eqFields,hnm,ne_eq,not_false_eq_true,if_true,Sem.run_bind,hoff,hu,hv,Result.andThen_ok,hee,Sem.run_ite]
     cases hc:bp ((xs.drop off).take ks.length) ((ys.drop off).take ks.length) with
     | false=>simp
     | true=>simpa using ih
    ·cases h
   ·cases h
  ·cases h
omit [Laid P] in
theorem dT {g:Gh} {w:World}:∀ (d:Nat) (t:TypeId) (ks:List TyS),aW P d t=some ks→∀ e,d≤e→∃ agg,shp P t=some (agg,ks.length)∧(agg=false→ks.length=1) ∧
  ∀ xs ys u v,fits ks xs=true→fits ks ys=true→Made g agg xs u→Made g agg ys v→(Op.equalIn e t u v).run P w = .ok (bp xs ys) w
 | 0,_,_,h,_,_=>by cases h
 | d+1,t,ks,h,e,he=>by
  obtain ⟨e,rfl⟩:∃ e',e=e' + 1:=⟨e - 1,by omega⟩
  obtain ⟨agg,hs,hn⟩:=lL h
  refine ⟨agg,hs,hn,fun xs ys u v fx fy hu hv=>?_⟩
  obtain ⟨dd,ii,hd,hi,hag,hsz⟩:=ea hs
  unfold aW at h
  split at h
  ·rename_i hund
   split at h
   ·rename_i hs'
    rw [hs] at hs';simp only [Option.some.injEq,Prod.mk.injEq] at hs';obtain ⟨rfl,_⟩:=hs'
    simp only [Option.some.injEq] at h;subst h
    obtain ⟨x,rfl⟩:∃ x,xs=[x]:=List.length_eq_one_iff.1 (bP fx)
    obtain ⟨y,rfl⟩:∃ y,ys=[y]:=List.length_eq_one_iff.1 (bP fy)
    simp only [Made,Bool.false_eq_true,if_false] at hu hv
    simp only [fits,Bool.and_true] at fx fy
    cases x<;>simp only [eD] at fx<;>try (cases fx;done)
    cases y<;>simp only [eD] at fy<;>try (cases fy;done)
    have e1:=hu.2.bN;have e2:=hv.2.bN
    subst e1;subst e2
    rw [run_equalIn_bool w e t _ _ hund];simp [bp,eqS]
   ·cases h
  ·rename_i k hund
   split at h
   ·rename_i hs'
    rw [hs] at hs';simp only [Option.some.injEq,Prod.mk.injEq] at hs';obtain ⟨rfl,_⟩:=hs'
    simp only [Option.some.injEq] at h;subst h
    obtain ⟨x,rfl⟩:∃ x,xs=[x]:=List.length_eq_one_iff.1 (bP fx)
    obtain ⟨y,rfl⟩:∃ y,ys=[y]:=List.length_eq_one_iff.1 (bP fy)
    simp only [Made,Bool.false_eq_true,if_false] at hu hv
    simp only [fits,Bool.and_true] at fx fy
    cases x<;>simp only [eD] at fx<;>try (cases fx;done)
    cases y<;>simp only [eD] at fy<;>try (cases fy;done)
    simp only [beq_iff_eq] at fx fy
    subst fx;subst fy
    have e1:=hu.2.aY;have e2:=hv.2.aY
    subst e1;subst e2
    rw [run_equalIn_int w e t _ _ _ _ hund];simp [bp,eqS]
   ·cases h
  ·rename_i hund
   split at h
   ·rename_i hs'
    rw [hs] at hs';simp only [Option.some.injEq,Prod.mk.injEq] at hs';obtain ⟨rfl,_⟩:=hs'
    simp only [Option.some.injEq] at h;subst h
    obtain ⟨x,rfl⟩:∃ x,xs=[x]:=List.length_eq_one_iff.1 (bP fx)
    obtain ⟨y,rfl⟩:∃ y,ys=[y]:=List.length_eq_one_iff.1 (bP fy)
    simp only [Made,Bool.false_eq_true,if_false] at hu hv
    simp only [fits,Bool.and_true] at fx fy
    cases x<;>simp only [eD] at fx<;>try (cases fx;done)
    cases y<;>simp only [eD] at fy<;>try (cases fy;done)
    obtain ⟨b1,e1,f1⟩:=hu.2.bf;obtain ⟨b2,e2,f2⟩:=hv.2.bf
    subst e1;subst e2;subst f1;subst f2
    rw [run_equalIn_string w e t _ _ hund];simp [bp,eqS,ByteArray.toList_eq]
   ·cases h
  ·rename_i fs hund
   split at h
   ·cases h
   ·rename_i hst
    split at h
    ·rename_i l hl
     split at h
     ·rename_i hs'
      rw [hs] at hs';simp only [Option.some.injEq,Prod.mk.injEq] at hs';obtain ⟨rfl,_⟩:=hs'
      simp only [Option.some.injEq] at h;subst h
      simp only [Made,if_true] at hu hv
      obtain ⟨a,rfl,ha1,ha2⟩:=hu
      obtain ⟨b,rfl,hb1,hb2⟩:=hv
      have hf:P.fieldsOf t=fs:=by simp [Program.fieldsOf,hund]
      rw [run_equalIn_struct w e t a b (by rw [hf];exact hund) (by simpa using hst),hf]
      have:=jD (w:=w) (e:=e) (fun t' ks' h'=>dT d t' ks' h' e (by omega)) ha1 ha2 hb1 hb2 fs.toList 0 l hl (by simpa using fx) (by simpa using fy) (by simpa using bP fx) (by simpa using bP fy)
      simpa using this
     ·cases h
    ·cases h
  ·cases h
omit [Laid P] in
theorem aI {t:TypeId} {k:TyK} (h:tyk P t=some k):∃ d,P.underlying t=some d∧(match k with
  | .bool=>d = .bool
  | .int k=>d = .int k
  | .str=>d = .string
  | .slice e ag sz by'=>d = .slice e∧shp P e=some (ag,sz)∧∃ i,P.info? e=some i∧i.bytes=by'
  | .arr n e ag sz=>d = .array n e∧shp P e=some (ag,sz)
  | .struct l=>∃ fs,d = .struct fs∧fs.toList.mapM (fun f=>(shp P f.type).map fun q=>(f.offset,q.1,q.2))=some l
  | .map k e=>d = .map k e
  | .ptr e=>d = .pointer e
  | .func=>∃ a b c,d = .func a b c
  | .iface n=>∃ ms,d = .interface ms∧ms.size=n
  | .other=>True):=by
 unfold tyk at h
 split at h
 ·rename_i hd;simp only [Option.some.injEq] at h;subst h;exact ⟨_,hd,rfl⟩
 ·rename_i k hd;simp only [Option.some.injEq] at h;subst h;exact ⟨_,hd,rfl⟩
 ·rename_i hd;simp only [Option.some.injEq] at h;subst h;exact ⟨_,hd,rfl⟩
 ·rename_i e hd
  split at h
  ·rename_i q i hq hi;simp only [Option.some.injEq] at h;subst h;exact ⟨_,hd,rfl,hq,i,hi,rfl⟩
  ·cases h
 ·rename_i n e hd
  simp only [Option.map_eq_some_iff] at h
  obtain ⟨q,hq,rfl⟩:=h
  exact ⟨_,hd,rfl,hq⟩
 ·rename_i fs hd
  simp only [Option.map_eq_some_iff] at h
  obtain ⟨l,hl,rfl⟩:=h
  exact ⟨_,hd,fs,rfl,hl⟩
 ·rename_i k e hd;simp only [Option.some.injEq] at h;subst h;exact ⟨_,hd,rfl⟩
 ·rename_i e hd;simp only [Option.some.injEq] at h;subst h;exact ⟨_,hd,rfl⟩
 ·rename_i a b c hd;simp only [Option.some.injEq] at h;subst h;exact ⟨_,hd,_,_,_,rfl⟩
 ·rename_i ms hd;simp only [Option.some.injEq] at h;subst h;exact ⟨_,hd,ms,rfl,rfl⟩
 ·rename_i d hd;simp only [Option.some.injEq] at h;subst h;exact ⟨_,hd,trivial⟩
 ·cases h
theorem VR.made {g:Gh} {cs:List AV} {u:Value} (h:VR g (.agg cs) u):Made g true cs u:=by
 obtain ⟨a,h1,h2,h3⟩:=h.dY
 simp only [Made,if_true];exact ⟨a,h1,h2,h3⟩
def iN (op:BinOp) (b:Bool):Option AV :=
 match op with
 | .eql=>some (.bool b)
 | .neq=>some (.bool (!b))
 | _=>none
def DI (P:Program) (op:BinOp) (t:TypeId) (x y:AV):Option AV :=
 match x,y with
 | .agg xs,.agg ys=>match aW P 10 t,shp P t with
  | some ks,some (true,_)=>if P.eqGuardType P.depth t=false∧fits ks xs=true∧fits ks ys=true then iN op (bp xs ys) else none
  | _,_=>none
 | _,_=>none
omit [Laid P] in
theorem j9 {op:BinOp} {t:TypeId} {u v:Value} {w:World} {r:Bool} {val:AV} (h1:binOp .eql t u v=(do pure (.bool (← Op.equal t u v)))) (h2:binOp .neq t u v=(do pure (.bool (!(← Op.equal t u v)))))
  (he:(Op.equal t u v).run P w = .ok r w) (h:iN op r=some val) (g:Gh):∃ q,(binOp op t u v).run P w = .ok q w∧VR g val q:=by
 cases op<;>simp only [iN] at h<;>first|(cases h;done)|skip
 ·simp only [Option.some.injEq] at h;subst h
  refine ⟨.bool r,?_,.bool _⟩
  rw [h1];simp [he]
 ·simp only [Option.some.injEq] at h;subst h
  refine ⟨.bool (!r),?_,.bool _⟩
  rw [h2];simp [he]
theorem DK {o:Oper} {ρ:Operand→AV} {sp:Oid→Prop} {t t':TypeId} {p q:Operand} {op:BinOp} {v:AV} (ho:o.op = .binOp op t p q t') (h:DI P op t (ρ p) (ρ q)=some v):aG P o ρ sp ⟨[],v,[]⟩:=by
 refine aG.plain fun g a w hop=>?_
 have hp:=hop p (by simp [Op.operands,ho])
 have hq:=hop q (by simp [Op.operands,ho])
 unfold DI at h
 split at h
 ·rename_i xs ys e1 e2
  rw [e1] at hp;rw [e2] at hq
  obtain ⟨au,eu,_⟩:=hp.dY
  obtain ⟨av,ev,_⟩:=hq.dY
  split at h
  ·rename_i ks n hf hs
   split at h
   ·rename_i hc
    obtain ⟨hg,fx,fy⟩:=hc
    obtain ⟨agg,hs',hn,heq⟩:=dT (P:=P) (g:=g) (w:=w) 10 t ks hf 10000 (by omega)
    rw [hs] at hs'
    simp only [Option.some.injEq,Prod.mk.injEq] at hs'
    obtain ⟨rfl,_⟩:=hs'
    obtain ⟨r,h1,h2⟩:=j9 (P:=P) (op:=op) (t:=t) (u:=a.eval p) (v:=a.eval q) (w:=w) (by rw [eu,ev];rfl) (by rw [eu,ev];rfl) (heq xs ys _ _ fx fy hp.made hq.made) h g
    refine ⟨r,gw ho ?_ h1,h2⟩
    rw [eu,ev];unfold eqGuard;cases op<;>simp [hg]
   ·cases h
  ·cases h
 ·cases h
def DL (P:Program) (op:BinOp) (t:TypeId) (x y:AV):Option AV :=
 match tyk P t,x,y with
 | some (.ptr _),.nilPtr,.nilPtr|some (.slice ..),.nilSl,.nilSl|some (.map ..),.nilMap,.nilMap|some .func,.nilFn,.nilFn=>iN op true
 | some (.ptr _),.ptr ..,.nilPtr|some (.ptr _),.aptr ..,.nilPtr|some (.ptr _),.eptr ..,.nilPtr|some (.slice ..),.list _ (_::_),.nilSl|some (.slice ..),.sl _ _ (_+1),.nilSl|some (.map ..),.map ..,.nilMap|some .func,.fn ..,.nilFn=>iN op false
 | _,_,_=>none
theorem DM {o:Oper} {ρ:Operand→AV} {sp:Oid→Prop} {t t':TypeId} {p q:Operand} {op:BinOp} {v:AV} (ho:o.op = .binOp op t p q t') (h:DL P op t (ρ p) (ρ q)=some v):aG P o ρ sp ⟨[],v,[]⟩:=by
 refine aG.plain fun g a w hop=>?_
 have hp:=hop p (by simp [Op.operands,ho])
 have hq:=hop q (by simp [Op.operands,ho])
 have fin:∀ (u u':Value) (b:Bool),a.eval p=u→a.eval q=u'→(eqGuard op t p q u u').run P w = .ok () w→binOp .eql t u u' = (do pure (.bool (← Op.equal t u u')))→binOp .neq t u u' = (do pure (.bool (!(← Op.equal t u u')))) →
   (Op.equal t u u').run P w = .ok b w→iN op b=some v→∃ r,(execOp a.eval o).run P w = .ok (.value r) w∧VR g v r:=by
  intro u u' b e1 e2 hg h1 h2 he hr
  obtain ⟨r,k1,k2⟩:=j9 h1 h2 he hr g
  exact ⟨r,gw ho (by rw [e1,e2];exact hg) (by rw [e1,e2];exact k1),k2⟩
 have eqi:∀ {d:TypeDesc} {u u':Value} {b:Bool},P.underlying t=some d→(∀ n,(Op.equalIn (n+1) t u u').run P w = .ok b w)→(Op.equal t u u').run P w = .ok b w:=fun _ h=>h 9999
 unfold DL at h
 split at h
 ·rename_i e0 e1 e2;rw [e1] at hp;rw [e2] at hq;obtain ⟨d,hd,rfl⟩:=aI e0
  refine fin _ _ true hp.cP hq.cP (by cases op<;>rfl) rfl rfl (eqi hd fun n=>by simp [Op.equalIn,ax hd]) h
 ·rename_i e0 e1 e2;rw [e1] at hp;rw [e2] at hq;obtain ⟨d,hd,rfl,_⟩:=aI e0
  refine fin _ _ true hp.bu hq.bu (by cases op<;>rfl) rfl rfl (eqi hd fun n=>by simp [Op.equalIn,ax hd]) h
 ·rename_i e0 e1 e2;rw [e1] at hp;rw [e2] at hq;obtain ⟨d,hd,rfl⟩:=aI e0
  refine fin _ _ true hp.dt hq.dt (by cases op<;>rfl) rfl rfl (eqi hd fun n=>by simp [Op.equalIn,ax hd]) h
 ·rename_i e0 e1 e2;rw [e1] at hp;rw [e2] at hq;obtain ⟨d,hd,_,_,_,rfl⟩:=aI e0
  refine fin _ _ true hp.j5 hq.j5 (by cases op<;>rfl) rfl rfl (eqi hd fun n=>by simp [Op.equalIn,ax hd]) h
 ·rename_i e0 e1 e2;rw [e1] at hp;rw [e2] at hq;obtain ⟨d,hd,rfl⟩:=aI e0;obtain ⟨b,eb,_⟩:=hp.cA
  refine fin _ _ false eb hq.cP (by cases op<;>rfl) rfl rfl (eqi hd fun n=>by simp [Op.equalIn,ax hd]) h
 ·rename_i e0 e1 e2;rw [e1] at hp;rw [e2] at hq;obtain ⟨d,hd,rfl⟩:=aI e0;obtain ⟨b,eb,_⟩:=hp.fL
  refine fin _ _ false eb hq.cP (by cases op<;>rfl) rfl rfl (eqi hd fun n=>by simp [Op.equalIn,ax hd]) h
 ·rename_i e0 e1 e2;rw [e1] at hp;rw [e2] at hq;obtain ⟨d,hd,rfl⟩:=aI e0;obtain ⟨b,k,cs,eb,_⟩:=hp.jy
  refine fin _ _ false eb hq.cP (by cases op<;>rfl) rfl rfl (eqi hd fun n=>by simp [Op.equalIn,ax hd]) h
 ·rename_i e0 e1 e2;rw [e1] at hp;rw [e2] at hq;obtain ⟨d,hd,rfl,_⟩:=aI e0;obtain ⟨b,k,c,cs,eb,_⟩:=hp.dH.resolve_left (fun h=>by cases h.1)
  refine fin _ _ false eb hq.bu (by cases op<;>rfl) rfl rfl (eqi hd fun n=>by simp [Op.equalIn,ax hd]) h
 ·rename_i e0 e1 e2;rw [e1] at hp;rw [e2] at hq;obtain ⟨d,hd,rfl,_⟩:=aI e0;obtain ⟨b,c,eb,_⟩:=hp.dq.resolve_left (fun h=>by cases h.1)
  refine fin _ _ false eb hq.bu (by cases op<;>rfl) rfl rfl (eqi hd fun n=>by simp [Op.equalIn,ax hd]) h
 ·rename_i e0 e1 e2;rw [e1] at hp;rw [e2] at hq;obtain ⟨d,hd,rfl⟩:=aI e0;obtain ⟨b,eb,_⟩:=hp.eE
  refine fin _ _ false eb hq.dt (by cases op<;>rfl) rfl rfl (eqi hd fun n=>by simp [Op.equalIn,ax hd]) h
 ·rename_i e0 e1 e2;rw [e1] at hp;rw [e2] at hq;obtain ⟨d,hd,_,_,_,rfl⟩:=aI e0;obtain ⟨b,c,eb,_⟩:=hp.j6
  refine fin _ _ false eb hq.j5 (by cases op<;>rfl) rfl rfl (eqi hd fun n=>by simp [Op.equalIn,ax hd]) h
 ·cases h
def isC:Operand→Bool
 | .const _=>true
 | _=>false
def DN (P:Program) (op:BinOp) (t:TypeId) (c:Bool) (x y:AV):Option AV :=
 match tyk P t,c,x,y with
 | some (.iface _),true,.nilIface,.nilIface=>iN op true
 | some (.iface _),_,.iface ..,.nilIface=>iN op false
 | _,_,_,_=>none
theorem zY {o:Oper} {ρ:Operand→AV} {sp:Oid→Prop} {t t':TypeId} {p q:Operand} {op:BinOp} {v:AV} (ho:o.op = .binOp op t p q t') (h:DN P op t (isC q) (ρ p) (ρ q)=some v):aG P o ρ sp ⟨[],v,[]⟩:=by
 refine aG.plain fun g a w hop=>?_
 have hp:=hop p (by simp [Op.operands,ho])
 have hq:=hop q (by simp [Op.operands,ho])
 have fin:∀ (u u':Value) (b:Bool),a.eval p=u→a.eval q=u'→(eqGuard op t p q u u').run P w = .ok () w→binOp .eql t u u' = (do pure (.bool (← Op.equal t u u')))→binOp .neq t u u' = (do pure (.bool (!(← Op.equal t u u')))) →
   (Op.equal t u u').run P w = .ok b w→iN op b=some v→∃ r,(execOp a.eval o).run P w = .ok (.value r) w∧VR g v r:=by
  intro u u' b e1 e2 hg h1 h2 he hr
  obtain ⟨r,k1,k2⟩:=j9 h1 h2 he hr g
  exact ⟨r,gw ho (by rw [e1,e2];exact hg) (by rw [e1,e2];exact k1),k2⟩
 have eqi:∀ {d:TypeDesc} {u u':Value} {b:Bool},P.underlying t=some d→(∀ n,(Op.equalIn (n+1) t u u').run P w = .ok b w)→(Op.equal t u u').run P w = .ok b w:=fun _ h=>h 9999
 unfold DN at h
 split at h
 ·rename_i e0 ec e1 e2;rw [e1] at hp;rw [e2] at hq;obtain ⟨d,hd,ms,rfl,_⟩:=aI e0
  refine fin _ _ true hp.gq hq.gq ?_ rfl rfl (eqi hd fun n=>by simp [Op.equalIn,ax hd]) h
  cases q<;>simp only [isC] at ec<;>first|(cases ec;done)|skip
  cases op<;>simp [eqGuard]
 ·rename_i e0 e1 e2;rw [e1] at hp;rw [e2] at hq;obtain ⟨d,hd,ms,rfl,_⟩:=aI e0;obtain ⟨u,eb,_⟩:=hp.vl
  refine fin _ _ false eb hq.gq (by cases op<;>rfl) rfl rfl (eqi hd fun n=>by simp [Op.equalIn,ax hd]) h
 ·cases h
end
end Go.Ab
namespace Go.Ab
section
variable {P:Program} [Laid P] {o:Oper} {ρ:Operand→AV} {sp:Oid→Prop}
def unA (op:UnOp) (x:AV):Option AV :=
 match op,x with
 | .not,.bool b=>some (.bool (!b))
 | .neg,.int k n=>some (.int k (k.wrap (0 - n)))
 | .xor,.int k n=>some (.int k (k.wrap (BitVec.ofInt k.bits (if k.signed then -1 else k.max) ^^^ BitVec.ofInt k.bits n).toNat))
 | _,_=>none
theorem Ym {t:TypeId} {y:Operand} {op:UnOp} {v:AV} (ho:o.op = .unOp op t y) (h:unA op (ρ y)=some v):aG P o ρ sp ⟨[],v,[]⟩:=by
 refine aG.plain fun g a w hop=>?_
 have hy:=hop y (by simp [Op.operands,ho])
 unfold unA at h
 split at h
 ·rename_i b e;rw [e] at hy;simp only [Option.some.injEq] at h;subst h
  exact ⟨.bool (!b),by simp [execOp,ho,hy.bN,Op.unary],.bool _⟩
 ·rename_i k n e;rw [e] at hy;simp only [Option.some.injEq] at h;subst h
  exact ⟨.int k (k.wrap (0 - n)),by simp [execOp,ho,hy.aY,Op.unary,Op.intArith],.int _ _⟩
 ·rename_i k n e;rw [e] at hy;simp only [Option.some.injEq] at h;subst h
  refine ⟨_,?_,.int _ _⟩;simp [execOp,ho,hy.aY,Op.unary,Op.intBits]
 ·cases h
def ui (P:Program) (src dst:TypeId) (x:AV):Option AV :=
 match tyk P src,tyk P dst,x with
 | some (.int _),some (.int k),.int _ n=>some (.int k (k.wrap n))
 | some .str,some .str,.str s=>some (.str s)
 | _,_,_=>none
theorem zZ {s d:TypeId} {y:Operand} {v:AV} (ho:o.op = .convert s d y) (h:ui P s d (ρ y)=some v):aG P o ρ sp ⟨[],v,[]⟩:=by
 refine aG.plain fun g a w hop=>?_
 have hy:=hop y (by simp [Op.operands,ho])
 unfold ui at h
 split at h
 ·rename_i k' k k'' n e1 e2 e3
  rw [e3] at hy;simp only [Option.some.injEq] at h;subst h
  obtain ⟨_,h1,rfl⟩:=aI e1
  obtain ⟨_,h2,rfl⟩:=aI e2
  refine ⟨_,?_,.int _ _⟩
  simp [execOp,ho,hy.aY,convert,ax h1,ax h2,Conv.intToInt]
 ·rename_i l e1 e2 e3
  rw [e3] at hy;simp only [Option.some.injEq] at h;subst h
  obtain ⟨b,hb,_⟩:=hy.bf
  obtain ⟨_,h1,rfl⟩:=aI e1
  obtain ⟨_,h2,rfl⟩:=aI e2
  refine ⟨a.eval y,?_,hy⟩
  simp [execOp,ho,hb,convert,ax h1,ax h2]
 ·cases h
def uj:Fn→Bool
 | .func _=>true
 | _=>false
def lM:AV→Bool
 | .ptr .. | .aptr .. | .eptr .. => true
 | .fn f _ _=>uj f
 | _=>false
theorem oV {y:Operand} (ho:o.op = .nilCheck y) (h:lM (ρ y)=true):aG P o ρ sp ⟨[],ρ y,[]⟩:=by
 refine aG.plain fun g a w hop=>⟨a.eval y,?_,hop y (by simp [Op.operands,ho])⟩
 have hy:=hop y (by simp [Op.operands,ho])
 simp only [execOp,ho]
 cases hv:ρ y<;>rw [hv] at h hy<;>simp only [lM] at h<;>try (cases h;done)
 ·obtain ⟨b,hb,_⟩:=hy.cA;rw [hb];rfl
 ·obtain ⟨b,hb,_⟩:=hy.fL;rw [hb];rfl
 ·obtain ⟨b,k,cs,hb,_⟩:=hy.jy;rw [hb];rfl
 ·rename_i f xs ys
  obtain ⟨b,k,hb,_⟩:=hy.j6;rw [hb]
  cases f<;>first|rfl|(cases h;done)
def aB (P:Program) (t:TypeId) (k:Nat):Option (Nat × Bool × Nat) :=
 match tyk P t with
 | some (.struct l)=>l[k]?
 | _=>none
omit [Laid P] in
theorem lN {t:TypeId} {k off:Nat} {ag:Bool} {n:Nat} (h:aB P t k=some (off,ag,n)):∃ (fs:Array Field) (f:Field),P.underlying t=some (.struct fs)∧fs[k]? = some f∧f.offset=off∧shp P f.type=some (ag,n):=by
 unfold aB at h
 split at h
 ·rename_i l hl
  obtain ⟨d,hd,fs,rfl,hm⟩:=aI hl
  refine ⟨fs,?_⟩
  have key:∀ (fs:List Field) (l:List (Nat × Bool × Nat)),fs.mapM (fun (f:Field)=>(shp P f.type).map fun q=>(f.offset,q.1,q.2))=some l→∀ k:Nat,l[k]? = some (off,ag,n)→∃ f:Field,fs[k]? = some f∧f.offset=off∧shp P f.type=some (ag,n):=by
   intro fs
   induction fs with
   | nil=>intro l hl k hk;simp at hl;subst hl;simp at hk
   | cons f fs ih =>
    intro l hl k hk
    simp only [List.mapM_cons,Option.bind_eq_bind,Option.bind_eq_some_iff,Option.map_eq_some_iff,Option.pure_def,Option.some.injEq] at hl
    obtain ⟨q,⟨q',hq',rfl⟩,rest,hrest,rfl⟩:=hl
    cases k with
    | zero =>
     simp only [List.getElem?_cons_zero,Option.some.injEq,Prod.mk.injEq] at hk
     obtain ⟨h1,h2,h3⟩:=hk
     exact ⟨f,rfl,h1,by rw [hq',← h2,← h3]⟩
    | succ k=>simpa using ih rest hrest k (by simpa using hk)
  obtain ⟨f,h1,h2,h3⟩:=key fs.toList l hm k h
  exact ⟨f,hd,by simpa using h1,h2,h3⟩
 ·cases h
def iO (ag:Bool) (l:List AV) (off n:Nat):AV:=if ag then .agg ((l.drop off).take n) else l.getD off .undef
def eR (q:Option (Nat × Bool × Nat)) (x:AV):Option AV :=
 match q with
 | some (off,ag,n)=>if n=0 then none else match x with
  | .ptr id k=>some (.ptr id (k+off))
  | .aptr id sz i k=>some (.aptr id sz i (k+off))
  | .eptr v=>if off+n≤v.cells.length∧(ag=true∨n=1∧(v.cells.getD off .undef).one=true) then some (.eptr (iO ag v.cells off n)) else none
  | _=>none
 | none=>none
theorem nK {v:AV} (h:v.one=true):v.cells=[v]:=by cases v<;>first|rfl|(cases h;done)
theorem nf {t:TypeId} {y:Operand} {k:Nat} {v:AV} (ho:o.op = .fieldAddr t y k) (h:eR (aB P t k) (ρ y)=some v):aG P o ρ sp ⟨[],v,[]⟩:=by
 refine aG.plain fun g a w hop=>?_
 have hy:=hop y (by simp [Op.operands,ho])
 unfold eR at h
 split at h
 ·rename_i off ag n hq
  obtain ⟨fs,f,h1,h2,h3,h4⟩:=lN hq
  split at h
  ·cases h
  ·rename_i hn
   have run:∀ (b c:Nat),a.eval y = .pointer (some ⟨b,c,none⟩)→(execOp a.eval o).run P w = .ok (.value (.pointer (some ⟨b,c+off,none⟩))) w:=by
    intro b c hu
    simp [execOp,ho,Instr.fieldAt,ax h1,h2,hu,Instr.sureAddr,fieldPlace,run_sizeOf h4,hn,addr_add,h3]
   split at h
   ·rename_i id c e;rw [e] at hy;simp only [Option.some.injEq] at h;subst h
    obtain ⟨b,hu,hb⟩:=hy.cA
    exact ⟨_,run _ _ hu,.ptr _ _ _ hb⟩
   ·rename_i id sz i c e;rw [e] at hy;simp only [Option.some.injEq] at h;subst h
    obtain ⟨b,hu,hb⟩:=hy.fL
    refine ⟨_,run _ _ hu,?_⟩
    rw [Nat.add_assoc];exact .aptr _ _ _ _ _ hb
   ·rename_i u e;rw [e] at hy
    split at h
    ·rename_i hc
     obtain ⟨hle,hag⟩:=hc
     simp only [Option.some.injEq] at h;subst h
     obtain ⟨b,c,cs,hu,hc1,hc2⟩:=hy.jy
     refine ⟨_,run _ _ hu,?_⟩
     cases ag with
     | true =>
      refine .eptr _ b (c+off) (fun j=>cs (off+j)) (fun j hj=>?_) (fun j hj=>?_)
      ·simp only [iO,if_true,AV.cells,List.length_take,List.length_drop] at hj
       rw [Nat.add_assoc];exact hc1 (off+j) (by omega)
      ·simp only [iO,if_true,AV.cells,List.length_take,List.length_drop] at hj ⊢
       have e1:((u.cells.drop off).take n).getD j .undef=u.cells.getD (off+j) .undef:=by rw [getD_take _ _ _ _ (by omega),cW]
       have:=hc2 (off+j) (by omega)
       rw [← e1] at this;exact this
     | false =>
      simp only [Bool.false_eq_true,false_or] at hag
      obtain ⟨rfl,hone⟩:=hag
      simp only [iO,Bool.false_eq_true,if_false]
      refine .eptr _ b (c+off) (fun _=>cs off) (fun j hj=>?_) (fun j hj=>?_)
      ·rw [nK hone] at hj;simp only [List.length_cons,List.length_nil] at hj
       have:j=0:=by omega
       subst this;exact hc1 off (by omega)
      ·rw [nK hone] at hj ⊢;simp only [List.length_cons,List.length_nil] at hj
       have:j=0:=by omega
       subst this;exact hc2 off (by omega)
    ·cases h
   ·cases h
 ·cases h
def lO (q:Option (Nat × Bool × Nat)) (x:AV):Option AV :=
 match q,x with
 | some (off,ag,n),.agg cs=>if off+n≤cs.length∧(ag=true∨n=1) then some (iO ag cs off n) else none
 | _,_=>none
theorem vt {t:TypeId} {y:Operand} {k:Nat} {v:AV} (ho:o.op = .field t y k) (h:lO (aB P t k) (ρ y)=some v):aG P o ρ sp ⟨[],v,[]⟩:=by
 refine aG.plain fun g a w hop=>?_
 have hy:=hop y (by simp [Op.operands,ho])
 unfold lO at h
 split at h
 ·rename_i off ag n cs hq e
  obtain ⟨fs,f,h1,h2,h3,h4⟩:=lN hq
  rw [e] at hy
  split at h
  ·rename_i hc
   obtain ⟨hle,hag⟩:=hc
   simp only [Option.some.injEq] at h;subst h
   obtain ⟨u,hu,hsz,hv⟩:=hy.dY
   obtain ⟨r,hr,hm⟩:=gZ (P:=P) h4 (fun h=>by rcases hag with h'|h';rw [h] at h';cases h';exact h') hsz hv off hle w
   refine ⟨r,by simp [execOp,ho,Instr.field,ax h1,h2,hu,asAgg,h3,hr],?_⟩
   cases ag with
   | true =>
    simp only [Made,if_true] at hm
    obtain ⟨arr,rfl,m1,m2⟩:=hm
    exact .agg _ _ m1 m2
   | false =>
    simp only [Made,Bool.false_eq_true,if_false] at hm
    simp only [iO,Bool.false_eq_true,if_false]
    have h1n:n=1:=by rcases hag with h'|h';cases h';exact h'
    have:=hm.2
    rw [getD_take _ _ _ _ (by omega),cW] at this
    exact this
  ·cases h
 ·cases h
def dy (k:Option TyK) (x i:AV):Option AV :=
 match k,x,i with
 | some (.slice _ _ sz _),.list sz' xs,.int _ n=>if sz' = sz∧0≤n∧n < xs.length then some (.eptr (xs.getD n.toNat .undef)) else none
 | some (.slice _ _ sz _),.sl id sz' len,.int _ n=>if sz' = sz∧0≤n∧n < len then some (.aptr id sz n.toNat 0) else none
 | some (.arr len _ _ sz),.ptr id off,.int _ n=>if 0≤n∧n < len then some (.ptr id (off+n.toNat * sz)) else none
 | _,_,_=>none
theorem nh {t:TypeId} {y z:Operand} {v:AV} (ho:o.op = .indexAddr t y z) (h:dy (tyk P t) (ρ y) (ρ z)=some v):aG P o ρ sp ⟨[],v,[]⟩:=by
 refine aG.plain fun g a w hop=>?_
 have hy:=hop y (by simp [Op.operands,ho])
 have hz:=hop z (by simp [Op.operands,ho])
 unfold dy at h
 split at h
 ·rename_i el ag sz by' sz' xs k n e1 e2 e3
  rw [e2] at hy;rw [e3] at hz
  split at h
  ·rename_i hc
   obtain ⟨rfl,h0,hlt⟩:=hc
   simp only [Option.some.injEq] at h;subst h
   obtain ⟨d,hd,rfl,hs,_⟩:=aI e1
   have hn:n.toNat < xs.length:=by omega
   rcases hy.dH with ⟨rfl,_⟩|⟨b,c,cap,cs,hu,hcap,hl,hc1,hc2⟩
   ·exact absurd hn (Nat.not_lt_zero _)
   refine ⟨.pointer (some ⟨b,c+n.toNat * sz',none⟩),?_,.eptr _ b _ (cs n.toNat) (fun j hj=>hc1 _ _ hn (by rw [hl _ hn] at hj;exact hj)) (fun j hj=>hc2 _ _ hn (by rw [hl _ hn] at hj;exact hj))⟩
   simp [execOp,ho,Instr.indexAt,hz.aY,hu,asIntOf,ax hd,run_sizeOf hs,h0,hlt,addr_add]
  ·cases h
 ·rename_i el ag sz by' id sz' len k n e1 e2 e3
  rw [e2] at hy;rw [e3] at hz
  split at h
  ·rename_i hc
   obtain ⟨rfl,h0,hlt⟩:=hc
   simp only [Option.some.injEq] at h;subst h
   obtain ⟨d,hd,rfl,hs,_⟩:=aI e1
   obtain ⟨b,cap,hu,hb,hcap,hrw⟩:=hy.dq.resolve_left (fun h=>by omega)
   refine ⟨.pointer (some ⟨b,n.toNat * sz' + 0,none⟩),?_,.aptr _ _ _ _ _ hb⟩
   simp [execOp,ho,Instr.indexAt,hz.aY,hu,asIntOf,ax hd,run_sizeOf hs,h0,hlt,addr_add]
  ·cases h
 ·rename_i len el ag sz id off k n e1 e2 e3
  rw [e2] at hy;rw [e3] at hz
  split at h
  ·rename_i hc
   obtain ⟨h0,hlt⟩:=hc
   simp only [Option.some.injEq] at h;subst h
   obtain ⟨d,hd,rfl,hs⟩:=aI e1
   obtain ⟨b,hu,hb⟩:=hy.cA
   refine ⟨.pointer (some ⟨b,off+n.toNat * sz,none⟩),?_,.ptr _ _ _ hb⟩
   simp [execOp,ho,Instr.indexAt,hz.aY,hu,asIntOf,ax hd,run_sizeOf hs,h0,hlt,addr_add,Instr.sureAddr]
  ·cases h
 ·cases h
def ka (k:Option TyK) (x i:AV):Option AV :=
 match k,x,i with
 | some .str,.str s,.int _ n=>if 0≤n∧n < s.length then some (.int .u8 (s.getD n.toNat 0).toNat) else none
 | some (.arr len _ ag sz),.agg cs,.int _ n=>if 0≤n∧n < len∧n.toNat * sz+sz≤cs.length∧(ag=true∨sz=1) then some (iO ag cs (n.toNat * sz) sz) else none
 | _,_,_=>none
theorem vu {t:TypeId} {y z:Operand} {v:AV} (ho:o.op = .index t y z) (h:ka (tyk P t) (ρ y) (ρ z)=some v):aG P o ρ sp ⟨[],v,[]⟩:=by
 refine aG.plain fun g a w hop=>?_
 have hy:=hop y (by simp [Op.operands,ho])
 have hz:=hop z (by simp [Op.operands,ho])
 unfold ka at h
 split at h
 ·rename_i s k n e1 e2 e3
  rw [e2] at hy;rw [e3] at hz
  split at h
  ·rename_i hc
   obtain ⟨h0,hlt⟩:=hc
   simp only [Option.some.injEq] at h;subst h
   obtain ⟨d,hd,rfl⟩:=aI e1
   obtain ⟨b,hu,hb⟩:=hy.bf
   have hsz:n.toNat < b.size:=by
    have:b.data.toList.length=s.length:=by rw [hb]
    simp only [Array.length_toList] at this
    have e:b.data.size=b.size:=rfl
    omega
   have hget:b[n.toNat]? = some b[n.toNat]:=by simp [hsz]
   have hval:b[n.toNat]=s.getD n.toNat 0:=by
    subst hb
    have:b[n.toNat]=b.data[n.toNat]'hsz:=rfl
    rw [this]
    have h3:n.toNat < b.data.size:=hsz
    simp [List.getD_eq_getElem?_getD,Array.getElem?_eq_getElem h3]
   refine ⟨.int .u8 (b[n.toNat]).toNat,?_,by rw [hval];exact .int _ _⟩
   simp [execOp,ho,Instr.index,hz.aY,hu,asIntOf,ax hd,h0,hget]
  ·cases h
 ·rename_i len el ag sz cs k n e1 e2 e3
  rw [e2] at hy;rw [e3] at hz
  split at h
  ·rename_i hc
   obtain ⟨h0,hlt,hle,hag⟩:=hc
   simp only [Option.some.injEq] at h;subst h
   obtain ⟨d,hd,rfl,hs⟩:=aI e1
   obtain ⟨u,hu,hsz,hv⟩:=hy.dY
   obtain ⟨r,hr,hm⟩:=gZ (P:=P) hs (fun h=>by rcases hag with h'|h';rw [h] at h';cases h';exact h') hsz hv (n.toNat * sz) hle w
   refine ⟨r,by simp [execOp,ho,Instr.index,hz.aY,hu,asIntOf,ax hd,run_sizeOf hs,h0,hlt,hr],?_⟩
   cases ag with
   | true =>
    simp only [Made,if_true] at hm
    obtain ⟨arr,rfl,m1,m2⟩:=hm
    exact .agg _ _ m1 m2
   | false =>
    simp only [Made,Bool.false_eq_true,if_false] at hm
    simp only [iO,Bool.false_eq_true,if_false]
    have h1n:sz=1:=by rcases hag with h'|h';cases h';exact h'
    have:=hm.2
    rw [getD_take _ _ _ _ (by omega),cW] at this
    exact this
  ·cases h
 ·cases h
def ia (x:AV) (i:Nat):Option AV:=match x with
 | .tuple vs=>vs[i]?
 | _=>none
theorem qj {y:Operand} {i:Nat} {v:AV} (ho:o.op = .extract y i) (h:ia (ρ y) i=some v):aG P o ρ sp ⟨[],v,[]⟩:=by
 refine aG.plain fun g a w hop=>?_
 have hy:=hop y (by simp [Op.operands,ho])
 unfold ia at h
 split at h
 ·rename_i vs e
  rw [e] at hy
  obtain ⟨arr,hu,hsz,hv⟩:=hy.nJ
  have hi:i < vs.length:=by
   rcases Nat.lt_or_ge i vs.length with h'|h'
   ·exact h'
   ·simp [List.getElem?_eq_none h'] at h
  have:=hv i hi
  rw [List.getD_eq_getElem?_getD,h] at this
  have hia:i < arr.size:=by omega
  refine ⟨arr[i],by simp [execOp,ho,Instr.extract,hu,hia],?_⟩
  simpa [hia] using this
 ·cases h
theorem oW {g:Gh} {a:Act} {l:List Operand} (h:∀ t,t ∈ l→VR g (ρ t) (a.eval t)):∀ j,j < (l.map ρ).length→VR g ((l.map ρ).getD j .undef) ((l.map a.eval).toArray.getD j undef):=by
 intro j hj
 simp only [List.length_map] at hj
 have:=h l[j] (List.getElem_mem hj)
 simpa [List.getD_eq_getElem?_getD,hj] using this
theorem oX {f:Fn} {xs ys:Array Operand} (ho:o.op = .makeFunc f xs ys):aG P o ρ sp ⟨[],.fn f (xs.toList.map ρ) (ys.toList.map ρ),[]⟩:=by
 refine aG.plain fun g a w hop=>⟨.func f (xs.map a.eval) (ys.map a.eval),by simp [execOp,ho,Instr.makeFunc],?_⟩
 have h1:∀ t,t ∈ xs.toList→VR g (ρ t) (a.eval t):=fun t ht=>hop t (by have:t ∈ xs∨t ∈ ys:=.inl (by simpa using ht);simpa [Op.operands,ho] using this)
 have h2:∀ t,t ∈ ys.toList→VR g (ρ t) (a.eval t):=fun t ht=>hop t (by have:t ∈ xs∨t ∈ ys:=.inr (by simpa using ht);simpa [Op.operands,ho] using this)
 have e1:xs.map a.eval=(xs.toList.map a.eval).toArray:=by apply Array.ext';simp only [Array.toList_map]
 have e2:ys.map a.eval=(ys.toList.map a.eval).toArray:=by apply Array.ext';simp only [Array.toList_map]
 rw [e1,e2]
 exact .fn _ _ _ _ _ (by simp) (by simp) (oW h1) (oW h2)
def kb (k:Option TyK) (t:TypeId) (x:AV):Option AV:=match k with
 | some (.iface _)=>none
 | none=>none
 | _=>some (.iface t x)
theorem jE {t:TypeId} {y:Operand} {v:AV} (ho:o.op = .makeInterface t y) (h:kb (tyk P t) t (ρ y)=some v):aG P o ρ sp ⟨[],v,[]⟩:=by
 refine aG.plain fun g a w hop=>?_
 have hy:=hop y (by simp [Op.operands,ho])
 refine ⟨.iface t (a.eval y),?_,?_⟩
 ·simp only [execOp,ho,Instr.makeInterface]
  unfold tyk at h
  cases hd:P.underlying t with
  | none=>rw [hd] at h;cases h
  | some d =>
   rw [hd] at h
   cases d<;>simp [ax hd]
   simp [kb] at h
 ·unfold kb at h
  split at h
  ·cases h
  ·cases h
  ·simp only [Option.some.injEq] at h;subst h;exact .iface _ _ _ hy
end
end Go.Ab
namespace Go.Ab
section
variable {P:Program} [Laid P] {o:Oper} {ρ:Operand→AV} {sp:Oid→Prop}
def bL (d:Int):Option AV→Option Int
 | none=>some d
 | some (.int _ n)=>some n
 | some _=>none
def bB (k:Option TyK) (x:AV) (lo hi:Option AV):Option AV :=
 match k,x with
 | some .str,.str s=>match bL 0 lo,bL s.length hi with
  | some l,some h=>if 0≤l∧l≤h∧h≤s.length then some (.str ((s.take h.toNat).drop l.toNat)) else none
  | _,_=>none
 | some (.slice _ _ sz _),.list sz' xs=>match bL 0 lo,bL xs.length hi with
  | some l,some h=>if sz' = sz∧0≤l∧l≤h∧h≤xs.length then some (.list sz ((xs.take h.toNat).drop l.toNat)) else none
  | _,_=>none
 | some (.slice ..),.sl id sz len=>match bL 0 lo,bL len hi with
  | some l,some h=>if l=0∧0≤h∧h≤len then some (.sl id sz h.toNat) else none
  | _,_=>none
 | some (.slice ..),.nilSl=>match bL 0 lo,bL 0 hi with
  | some l,some h=>if l=0∧h=0 then some .nilSl else none
  | _,_=>none
 | some (.arr n _ _ sz),.ptr id off=>match bL 0 lo,bL n hi with
  | some l,some h=>if off=0∧0≤l∧l < n∧l≤h∧h≤n then some (.win id sz l.toNat (h.toNat - l.toNat)) else none
  | _,_=>none
 | _,_=>none
theorem a8 {g:Gh} {a:Act} {d:Int} {lo:Option Operand} {l:Int} (h:bL d (lo.map ρ)=some l) (hv:∀ t,lo=some t→VR g (ρ t) (a.eval t)) :
  (lo=none∧l=d)∨∃ t k,lo=some t∧a.eval t = .int k l:=by
 cases lo with
 | none=>simp only [Option.map_none,bL,Option.some.injEq] at h;exact .inl ⟨rfl,h.symm⟩
 | some t =>
  simp only [Option.map_some] at h
  have:=hv t rfl
  cases hr:ρ t<;>rw [hr] at h this<;>simp only [bL] at h<;>try (cases h;done)
  simp only [Option.some.injEq] at h;subst h
  exact .inr ⟨t,_,rfl,this.aY⟩
omit [Laid P] in
theorem bz {a:Act} {w:World} {b:Bool} {len cap:Nat} {lo hi:Option Operand} {l h:Int} (h1:(lo=none∧l=0)∨∃ t k,lo=some t∧a.eval t = .int k l)
  (h2:(hi=none∧h=len)∨∃ t k,hi=some t∧a.eval t = .int k h) (h0:0≤l) (hlh:l≤h) (hc:h≤cap) :
  (Instr.sliceBounds b len cap (lo.map a.eval) (hi.map a.eval) none).run P w = .ok (l.toNat,h.toNat,cap) w:=by
 have hh:(h.toNat:Int)=h:=by omega
 have h0':0≤h:=by omega
 rcases h1 with ⟨rfl,rfl⟩|⟨t,k,rfl,ht⟩<;>rcases h2 with ⟨rfl,rfl⟩|⟨t',k',rfl,ht'⟩
 ·simp [Instr.sliceBounds]
 ·simp [Instr.sliceBounds,Instr.sliceBound,asIntOf,ht',h0',hc]
 ·simp [Instr.sliceBounds,Instr.sliceBound,asIntOf,ht,h0,hlh]
 ·simp [Instr.sliceBounds,Instr.sliceBound,asIntOf,ht',h0',hc,ht,h0,hlh,hh]
theorem extract_toList (b:ByteArray) (i j:Nat):(b.extract i j).data.toList=(b.data.toList.take j).drop i:=by
 simp [ByteArray.data_extract,List.extract_eq_take_drop,List.drop_take]
theorem vw {t:TypeId} {y:Operand} {lo hi:Option Operand} {v:AV} (ho:o.op = .slice t y lo hi none) (h:bB (tyk P t) (ρ y) (lo.map ρ) (hi.map ρ)=some v):aG P o ρ sp ⟨[],v,[]⟩:=by
 refine aG.plain fun g a w hop=>?_
 have hy:=hop y (by simp [Op.operands,ho])
 have hlo:∀ t,lo=some t→VR g (ρ t) (a.eval t):=fun t ht=>hop t (by subst ht;simp [Op.operands,ho])
 have hhi:∀ t,hi=some t→VR g (ρ t) (a.eval t):=fun t ht=>hop t (by subst ht;simp [Op.operands,ho])
 unfold bB at h
 split at h
 ·rename_i s e1 e2
  rw [e2] at hy
  obtain ⟨d,hd,rfl⟩:=aI e1
  obtain ⟨b,hu,hb⟩:=hy.bf
  split at h
  ·rename_i l hh hl hr
   split at h
   ·rename_i hc
    obtain ⟨h0,hlh,hle⟩:=hc
    simp only [Option.some.injEq] at h;subst h
    have hsz:b.size=s.length:=by
     have:b.data.toList.length=s.length:=by rw [hb]
     simpa using this
    have hb':=bz (P:=P) (w:=w) (b:=false) (len:=b.size) (cap:=b.size) (a8 hl hlo) (by rw [← hsz] at hr;exact a8 hr hhi) h0 hlh (by omega)
    refine ⟨.string (b.extract l.toNat hh.toNat),?_,.str _ _ (by rw [extract_toList,hb])⟩
    simp [execOp,ho,Instr.sliceAt,ax hd,Instr.slice,hu,hb']
   ·cases h
  ·cases h
 ·rename_i el ag sz by' sz' xs e1 e2
  rw [e2] at hy
  obtain ⟨d,hd,rfl,hs,_⟩:=aI e1
  rcases hy.dH with ⟨rfl,hu|⟨a0,cap,hu⟩⟩|⟨b,c,cap,cs,hu,hcap,hln,hc1,hc2⟩
  rotate_left
  ·split at h
   ·rename_i l hh hl hr
    split at h
    ·rename_i hc
     obtain ⟨rfl,h0,hlh,hle⟩:=hc
     simp only [List.length_nil,Int.natCast_zero] at hr hle
     obtain rfl:l=0:=by omega
     obtain rfl:hh=0:=by omega
     simp only [Option.some.injEq] at h;subst h
     have hb':=bz (P:=P) (w:=w) (b:=true) (len:=0) (cap:=cap) (a8 hl hlo) (a8 hr hhi) (Int.le_refl _) (Int.le_refl _) (by omega)
     refine ⟨.slice (some a0) 0 cap,?_,.listAny _ _ _⟩
     simp [execOp,ho,Instr.sliceAt,ax hd,Instr.slice,hu,hb',run_sizeOf hs,Addr.add]
    ·cases h
   ·cases h
  rotate_left
  ·split at h
   ·rename_i l hh hl hr
    split at h
    ·rename_i hc
     obtain ⟨rfl,h0,hlh,hle⟩:=hc
     simp only [List.length_nil,Int.natCast_zero] at hr hle
     obtain rfl:l=0:=by omega
     obtain rfl:hh=0:=by omega
     simp only [Option.some.injEq] at h;subst h
     have hb':=bz (P:=P) (w:=w) (b:=true) (len:=0) (cap:=0) (a8 hl hlo) (a8 hr hhi) (Int.le_refl _) (Int.le_refl _) (by omega)
     refine ⟨.slice none 0 0,?_,.listNil _⟩
     simp [execOp,ho,Instr.sliceAt,ax hd,Instr.slice,hu,hb',run_sizeOf hs]
    ·cases h
   ·cases h
  split at h
  ·rename_i l hh hl hr
   split at h
   ·rename_i hc
    obtain ⟨rfl,h0,hlh,hle⟩:=hc
    simp only [Option.some.injEq] at h;subst h
    have hb':=bz (P:=P) (w:=w) (b:=true) (len:=xs.length) (cap:=cap) (a8 hl hlo) (a8 hr hhi) h0 hlh (by omega)
    have hlen:((xs.take hh.toNat).drop l.toNat).length=hh.toNat - l.toNat:=by simp;omega
    have hget:∀ i,i < hh.toNat - l.toNat→((xs.take hh.toNat).drop l.toNat).getD i .undef=xs.getD (l.toNat+i) .undef:=fun i hi=>by
     rw [cW,getD_take _ _ _ _ (by omega)]
    have key:VR g (.list sz' ((xs.take hh.toNat).drop l.toNat)) (.slice (some ⟨b,c+l.toNat * sz',none⟩) (hh.toNat - l.toNat) (cap - l.toNat)):=by
     have:=VR.list (g:=g) sz' ((xs.take hh.toNat).drop l.toNat) b (c+l.toNat * sz') (cap - l.toNat) (fun i j=>cs (l.toNat+i) j) (by omega)
      (fun i hi=>by rw [hlen] at hi;rw [hget i hi];exact hln _ (by omega))
      (fun i j hi hj=>by
       rw [hlen] at hi
       have:=hc1 (l.toNat+i) j (by omega) hj
       rw [Nat.add_mul,← Nat.add_assoc] at this;exact this)
      (fun i j hi hj=>by rw [hlen] at hi;rw [hget i hi];exact hc2 _ _ (by omega) hj)
     rwa [hlen] at this
    have run:(execOp a.eval o).run P w = .ok (.value (.slice (if cap=l.toNat then some ⟨b,c,none⟩ else some ⟨b,c+l.toNat * sz',none⟩) (hh.toNat - l.toNat) (cap - l.toNat))) w:=by
     simp [execOp,ho,Instr.sliceAt,ax hd,Instr.slice,hu,hb',run_sizeOf hs,addr_add]
    refine ⟨_,run,?_⟩
    by_cases e:cap=l.toNat
    ·rw [if_pos e]
     have hz:hh.toNat - l.toNat=0:=by omega
     have hnil:(xs.take hh.toNat).drop l.toNat=[]:=List.eq_nil_of_length_eq_zero (by omega)
     rw [hnil,hz,e,Nat.sub_self]
     exact VR.list sz' [] b c 0 (fun _ _=>undef) (Nat.le_refl _) (fun i hi=>absurd hi (Nat.not_lt_zero _)) (fun i j hi=>absurd hi (Nat.not_lt_zero _)) (fun i j hi=>absurd hi (Nat.not_lt_zero _))
    ·rw [if_neg e];exact key
   ·cases h
  ·cases h
 ·rename_i el ag sz by' id sz' len e1 e2
  rw [e2] at hy
  obtain ⟨d,hd,rfl,hs,_⟩:=aI e1
  rcases hy.dq with ⟨rfl,hu,hb⟩|⟨b,cap,hu,hb,hcap,hrw⟩
  ·split at h
   ·rename_i l hh hl hr
    split at h
    ·rename_i hc
     obtain ⟨rfl,h0,hle⟩:=hc
     simp only [Int.natCast_zero] at hr hle
     obtain rfl:hh=0:=by omega
     simp only [Option.some.injEq] at h;subst h
     have hb':=bz (P:=P) (w:=w) (b:=true) (len:=0) (cap:=0) (a8 hl hlo) (a8 hr hhi) (Int.le_refl _) (Int.le_refl _) (by omega)
     refine ⟨.slice none 0 0,?_,.slNil _ _ hb⟩
     simp [execOp,ho,Instr.sliceAt,ax hd,Instr.slice,hu,hb',run_sizeOf hs]
    ·cases h
   ·cases h
  split at h
  ·rename_i l hh hl hr
   split at h
   ·rename_i hc
    obtain ⟨rfl,h0,hle⟩:=hc
    simp only [Option.some.injEq] at h;subst h
    have hb':=bz (P:=P) (w:=w) (b:=true) (len:=len) (cap:=cap) (a8 hl hlo) (a8 hr hhi) (Int.le_refl _) h0 (by omega)
    refine ⟨.slice (some ⟨b,0,none⟩) hh.toNat cap,?_,.sl _ _ _ _ _ hb (by omega) hrw⟩
    have e0:Addr.add ⟨b,0,none⟩ 0=⟨b,0,none⟩:=by simp [Addr.add]
    simp [execOp,ho,Instr.sliceAt,ax hd,Instr.slice,hu,hb',run_sizeOf hs,e0]
   ·cases h
  ·cases h
 ·rename_i el ag sz by' e1 e2
  rw [e2] at hy
  obtain ⟨d,hd,rfl,hs,_⟩:=aI e1
  have hu:=hy.bu
  split at h
  ·rename_i l hh hl hr
   split at h
   ·rename_i hc
    obtain ⟨rfl,rfl⟩:=hc
    simp only [Option.some.injEq] at h;subst h
    have hb':=bz (P:=P) (w:=w) (b:=true) (len:=0) (cap:=0) (a8 hl hlo) (a8 hr hhi) (Int.le_refl _) (Int.le_refl _) (by omega)
    refine ⟨.slice none 0 0,?_,.nilSl⟩
    simp [execOp,ho,Instr.sliceAt,ax hd,Instr.slice,hu,hb',run_sizeOf hs]
   ·cases h
  ·cases h
 ·rename_i n el ag sz id off e1 e2
  rw [e2] at hy
  obtain ⟨d,hd,rfl,hs⟩:=aI e1
  obtain ⟨b,hu,hb⟩:=hy.cA
  split at h
  ·rename_i l hh hl hr
   split at h
   ·rename_i hc
    obtain ⟨rfl,h0,hln,hlh,hle⟩:=hc
    simp only [Option.some.injEq] at h;subst h
    have hb':=bz (P:=P) (w:=w) (b:=false) (len:=n) (cap:=n) (a8 hl hlo) (a8 hr hhi) h0 hlh hle
    have hne:¬ n=l.toNat:=by omega
    refine ⟨.slice (some ⟨b,l.toNat * sz,none⟩) (hh.toNat - l.toNat) (n - l.toNat),?_,.win _ _ _ _ _ _ hb⟩
    have e0:Addr.add ⟨b,0,none⟩ (l.toNat * sz)=⟨b,l.toNat * sz,none⟩:=by rw [addr_add,Nat.zero_add]
    simp [execOp,ho,Instr.sliceAt,ax hd,hu,Instr.sureAddr,hb',run_sizeOf hs,e0,hne]
   ·cases h
  ·cases h
 ·cases h
def qo (m:Mem) (k:Option TyK) (x:AV):OpR :=
 match k,x with
 | some .str,.str s=>bJ (.int .i64 s.length)
 | some (.slice ..),.list _ xs=>bJ (.int .i64 xs.length)
 | some (.slice ..),.sl _ _ n=>bJ (.int .i64 n)
 | some (.slice ..),.nilSl=>bJ (.int .i64 0)
 | some (.map ..),.nilMap=>bJ (.int .i64 0)
 | some (.map ..),.map id=>match m id with
  | some (.map ks ag es clock)=>.eff ⟨[(id,.map ks ag es clock)],.int .i64 es.length,[]⟩
  | _=>.no
 | some (.arr n ..),_=>bJ (.int .i64 n)
 | _,_=>.no
omit [Laid P] in
theorem bd {a:Act} {w w':World} {b:Builtin} {args:Array Operand} {ats:Array TypeId} {r:Value} (ho:o.op = .call ⟨.builtin b,args,ats⟩)
  (h:(builtin b ats o.type (args.map fun | .const _=>true|_=>false) (args.map a.eval)).run P w = .ok (.value r) w'):(execOp a.eval o).run P w = .ok (.value r) w':=by
 simp only [execOp,ho,resolve,Sem.run_bind,Sem.run_pure,Result.andThen_ok,invoke]
 exact h
theorem DO {y:Operand} {t:TypeId} {m0:Mem} {e:Eff} (ho:o.op = .call ⟨.builtin .len,#[y],#[t]⟩) (h:qo m0 (tyk P t) (ρ y) = .eff e):aG P o ρ sp e∧∀ q,q ∈ e.need→m0 q.1=some q.2:=by
 have run:∀ {a:Act} {w:World} {r:Value},(Builtin.len_ #[t] o.type #[a.eval y]).run P w = .ok r w→(execOp a.eval o).run P w = .ok (.value r) w:=fun h =>
  bd ho (by simp [builtin,h])
 have plain:∀ {val:AV},e=⟨[],val,[]⟩→(∀ (g:Gh) (a:Act) (w:World),VR g (ρ y) (a.eval y)→∃ v,(Builtin.len_ #[t] o.type #[a.eval y]).run P w = .ok v w∧VR g val v)→aG P o ρ sp e∧∀ q,q ∈ e.need→m0 q.1=some q.2:=by
  rintro val rfl hh
  refine ⟨aG.plain fun g a w hop=>?_,fun q hq=>by cases hq⟩
  obtain ⟨v,h1,h2⟩:=hh g a w (hop y (by simp [Op.operands,Call.operands,ho]))
  exact ⟨v,run h1,h2⟩
 unfold qo bJ at h
 split at h
 ·rename_i s e1 e2
  obtain ⟨d,hd,rfl⟩:=aI e1
  simp only [OpR.eff.injEq] at h
  refine plain h.symm fun g a w hv=>?_
  rw [e2] at hv
  obtain ⟨b,hu,hb⟩:=hv.bf
  refine ⟨.int .i64 s.length,?_,.int _ _⟩
  have:b.size=s.length:=by rw [← hb];simp
  simp [Builtin.len_,ax hd,hu,goInt,this]
 ·rename_i el ag sz by' sz' xs e1 e2
  obtain ⟨d,hd,rfl,hs,_⟩:=aI e1
  simp only [OpR.eff.injEq] at h
  refine plain h.symm fun g a w hv=>?_
  rw [e2] at hv
  rcases hv.dH with ⟨rfl,hu|⟨a0,cap,hu⟩⟩|⟨b,c,cap,cs,hu,_⟩
  ·exact ⟨.int .i64 0,by simp [Builtin.len_,ax hd,hu,goInt],.int _ _⟩
  ·exact ⟨.int .i64 0,by simp [Builtin.len_,ax hd,hu,goInt],.int _ _⟩
  exact ⟨.int .i64 xs.length,by simp [Builtin.len_,ax hd,hu,goInt],.int _ _⟩
 ·rename_i el ag sz by' id sz' n e1 e2
  obtain ⟨d,hd,rfl,hs,_⟩:=aI e1
  simp only [OpR.eff.injEq] at h
  refine plain h.symm fun g a w hv=>?_
  rw [e2] at hv
  rcases hv.dq with ⟨rfl,hu,_⟩|⟨b,cap,hu,_⟩
  ·exact ⟨.int .i64 0,by simp [Builtin.len_,ax hd,hu,goInt],.int _ _⟩
  exact ⟨.int .i64 n,by simp [Builtin.len_,ax hd,hu,goInt],.int _ _⟩
 ·rename_i el ag sz by' e1 e2
  obtain ⟨d,hd,rfl,hs,_⟩:=aI e1
  simp only [OpR.eff.injEq] at h
  refine plain h.symm fun g a w hv=>?_
  rw [e2] at hv
  exact ⟨.int .i64 0,by simp [Builtin.len_,ax hd,hv.bu,goInt],.int _ _⟩
 ·rename_i k el e1 e2
  obtain ⟨d,hd,rfl⟩:=aI e1
  simp only [OpR.eff.injEq] at h
  refine plain h.symm fun g a w hv=>?_
  rw [e2] at hv
  exact ⟨.int .i64 0,by simp [Builtin.len_,ax hd,hv.dt,goInt],.int _ _⟩
 ·rename_i k el id e1 e2
  obtain ⟨d,hd,rfl⟩:=aI e1
  split at h
  ·rename_i ks ag es clock hm0
   simp only [OpR.eff.injEq] at h;subst h
   refine ⟨aG.of fun x g a w m hm hnd hop _=>?_,fun q hq=>by simp only [List.mem_singleton] at hq;subst hq;exact hm0⟩
   have hv:=hop y (by simp [Op.operands,Call.operands,ho])
   rw [e2] at hv
   obtain ⟨b,hu,hb⟩:=hv.eE
   obtain ⟨b',h1,h2,h3,h4⟩:=hm.obj id _ (hnd (id,.map ks ag es clock) (by simp))
   rw [hb] at h1;simp only [Option.some.injEq] at h1;subst h1
   obtain ⟨⟨ents,c1,c2⟩,_⟩:=h4
   refine ⟨g,.value (.int .i64 es.length),_,w,run ?_,.inl rfl,Gh.le_refl g,fun _ _=>rfl,.int _ _,hm⟩
   have c3:ents.size=es.length:=by rw [← Array.length_toList];exact c2.length
   simp [Builtin.len_,ax hd,hu,getObj,Sem.run,c1,goInt,c3]
  ·cases h
 ·rename_i n el ag sz e1
  obtain ⟨d,hd,rfl,hs⟩:=aI e1
  simp only [OpR.eff.injEq] at h
  refine plain h.symm fun g a w hv=>?_
  exact ⟨.int .i64 n,by simp [Builtin.len_,ax hd,goInt],.int _ _⟩
 ·cases h
def DP (x y:AV):Option AV:=match x,y with
 | .int k a,.int k' b=>if k=k' then some (.int k (if b > a then b else a)) else none
 | _,_=>none
def DQ (x y:AV):Option AV:=match x,y with
 | .int k a,.int k' b=>if k=k' then some (.int k (if b < a then b else a)) else none
 | _,_=>none
theorem DS {y z:Operand} {ts:Array TypeId} {v:AV} (ho:o.op = .call ⟨.builtin .max,#[y,z],ts⟩) (h:DP (ρ y) (ρ z)=some v):aG P o ρ sp ⟨[],v,[]⟩:=by
 refine aG.plain fun g a w hop=>?_
 have hy:=hop y (by simp [Op.operands,Call.operands,ho])
 have hz:=hop z (by simp [Op.operands,Call.operands,ho])
 unfold DP at h
 split at h
 ·rename_i k a' k' b' e1 e2
  rw [e1] at hy;rw [e2] at hz
  split at h
  ·rename_i hk;subst hk
   simp only [Option.some.injEq] at h;subst h
   refine ⟨_,bd ho ?_,.int _ _⟩
   simp [builtin,Builtin.max_,Builtin.max2,hy.aY,hz.aY]
  ·cases h
 ·cases h
theorem DT {y z:Operand} {ts:Array TypeId} {v:AV} (ho:o.op = .call ⟨.builtin .min,#[y,z],ts⟩) (h:DQ (ρ y) (ρ z)=some v):aG P o ρ sp ⟨[],v,[]⟩:=by
 refine aG.plain fun g a w hop=>?_
 have hy:=hop y (by simp [Op.operands,Call.operands,ho])
 have hz:=hop z (by simp [Op.operands,Call.operands,ho])
 unfold DQ at h
 split at h
 ·rename_i k a' k' b' e1 e2
  rw [e1] at hy;rw [e2] at hz
  split at h
  ·rename_i hk;subst hk
   simp only [Option.some.injEq] at h;subst h
   refine ⟨_,bd ho ?_,.int _ _⟩
   simp [builtin,Builtin.min_,Builtin.min2,hy.aY,hz.aY]
  ·cases h
 ·cases h
end
end Go.Ab
namespace Go.Ab
section
variable {P:Program} [Laid P] {o:Oper} {ρ:Operand→AV} {sp:Oid→Prop}
theorem vx (vs:List Value):∀ (off k:Nat) (c:Array Value),off+k+vs.length≤c.size →
  ((vs.zipIdx k).foldl (fun cs q=>cs.setIfInBounds (off+q.2) q.1) c).size=c.size ∧
  ∀ j,((vs.zipIdx k).foldl (fun cs q=>cs.setIfInBounds (off+q.2) q.1) c).getD j undef=if off+k≤j∧j < off+k+vs.length then vs.getD (j - (off+k)) undef else c.getD j undef:=by
 induction vs with
 | nil=>intro off k c _;exact ⟨rfl,fun j=>by rw [if_neg (by simp only [List.length_nil];omega)];rfl⟩
 | cons v vs ih =>
  intro off k c h
  simp only [List.length_cons] at h
  simp only [List.zipIdx_cons,List.foldl_cons]
  obtain ⟨h1,h2⟩:=ih off (k+1) (c.setIfInBounds (off+k) v) (by simp;omega)
  refine ⟨by rw [h1];simp,fun j=>?_⟩
  rw [h2]
  simp only [List.length_cons]
  by_cases e:j=off+k
  ·subst e
   rw [if_neg (by omega),if_pos (by omega)]
   simp [show off+k < c.size from by omega]
  ·by_cases hin:off+(k+1)≤j∧j < off+(k+1)+vs.length
   ·rw [if_pos hin,if_pos (by omega)]
    have:j - (off+k)=(j - (off+(k+1)))+1:=by omega
    rw [this];simp [List.getD_eq_getElem?_getD]
   ·rw [if_neg hin,if_neg (by omega)]
    simp [Array.getElem?_setIfInBounds_ne (Ne.symm e)]
theorem lP {u:Value} {off:Nat} {c:Array Value} (h:off+u.cells.size≤c.size) :
  (u.cells.zipIdx.foldl (fun cs (q:Value × Nat)=>cs.setIfInBounds (off+q.2) q.1) c).size=c.size ∧
  ∀ j,(u.cells.zipIdx.foldl (fun cs (q:Value × Nat)=>cs.setIfInBounds (off+q.2) q.1) c).getD j undef=if off≤j∧j < off+u.cells.size then u.cells.getD (j - off) undef else c.getD j undef:=by
 have:=vx u.cells.toList off 0 c (by simpa using h)
 rw [← Array.foldl_toList,Array.toList_zipIdx]
 simpa using this
def lQ (pl:Nat→Option (Nat × Nat)):List AV→List (Nat × AV)→Option (List AV)
 | cells,[]=>some cells
 | cells,(k,v)::r=>match pl k with
  | some (off,n)=>if v.known=true∧v.cells.length=n∧off+n≤cells.length then lQ pl (spl cells off v.cells) r else none
  | none=>none
theorem kc {g:Gh} {pl:Nat→Option (Nat × Nat)}:∀ {ps:List (Nat × AV)} {qs:List (Nat × Value)} {cells out:List AV} {c:Array Value},lQ pl cells ps=some out→ps.length=qs.length →
  (∀ j (h:j < ps.length) (h':j < qs.length),ps[j].1=qs[j].1∧VR g ps[j].2 qs[j].2)→c.size=cells.length→(∀ j,j < cells.length→VR g (cells.getD j .undef) (c.getD j undef)) →
  ∃ c',Instr.fill pl c qs=some c'∧c'.size=out.length∧∀ j,j < out.length→VR g (out.getD j .undef) (c'.getD j undef)
 | [],[],cells,out,c,h,_,_,hs,hv=>by
  simp only [lQ,Option.some.injEq] at h;subst h
  exact ⟨c,rfl,hs,hv⟩
 | [],_::_,_,_,_,_,hl,_,_,_=>by simp at hl
 | _::_,[],_,_,_,_,hl,_,_,_=>by simp at hl
 | (k,v)::ps,(k',u)::qs,cells,out,c,h,hl,hp,hs,hv=>by
  obtain ⟨e,hvu⟩:=hp 0 (by simp) (by simp)
  simp only [List.getElem_cons_zero] at e hvu
  subst e
  simp only [lQ] at h
  split at h
  ·rename_i off n hpl
   split at h
   ·rename_i hc
    obtain ⟨hk,hn,hle⟩:=hc
    obtain ⟨u1,u2⟩:=hvu.cells hk
    have hsz:¬ (u.cells.size≠n || off+u.cells.size > c.size)=true:=by simp;omega
    obtain ⟨f1,f2⟩:=lP (u:=u) (off:=off) (c:=c) (by omega)
    have:=kc (qs:=qs) (c:=u.cells.zipIdx.foldl (fun cs (q:Value × Nat)=>cs.setIfInBounds (off+q.2) q.1) c) h (by simpa using hl)
     (fun j h1 h2=>by have:=hp (j+1) (by simp;omega) (by simp;omega);simpa using this) (by rw [f1,dx (by omega)];exact hs)
     (fun j hj=>by
      rw [dx (by omega)] at hj
      rw [jB (by omega),f2]
      by_cases hin:off≤j∧j < off+v.cells.length
      ·rw [if_pos hin,if_pos (by omega)];exact u2 _ (by omega)
      ·rw [if_neg hin,if_neg (by omega)];exact hv j hj)
    obtain ⟨c',h1,h2,h3⟩:=this
    refine ⟨c',?_,h2,h3⟩
    simp only [Instr.fill,hpl]
    rw [if_neg hsz]
    exact h1
   ·cases h
  ·cases h
def lR (P:Program) (t:TypeId) (ps:List (Nat × AV)):Option AV :=
 match tyk P t,zer P t with
 | some (.struct l),some z=>(lQ (fun k=>(l[k]?).map fun q=>(q.1,q.2.2)) z ps).map .agg
 | some (.arr _ _ _ sz),some z=>(lQ (fun k=>some (k * sz,sz)) z ps).map .agg
 | _,_=>none
theorem z1 {g:Gh} {a:Act} {ps:Array (Nat × Operand)} (h:∀ t,t ∈ ps.toList.map (·.2)→VR g (ρ t) (a.eval t)) :
  (ps.toList.map fun q=>(q.1,ρ q.2)).length=(ps.map fun q=>(q.1,a.eval q.2)).toList.length ∧
  ∀ j (h1:j < (ps.toList.map fun q=>(q.1,ρ q.2)).length) (h2:j < (ps.map fun q=>(q.1,a.eval q.2)).toList.length),
   (ps.toList.map fun q=>(q.1,ρ q.2))[j].1=((ps.map fun q=>(q.1,a.eval q.2)).toList[j]).1∧VR g (ps.toList.map fun q=>(q.1,ρ q.2))[j].2 ((ps.map fun q=>(q.1,a.eval q.2)).toList[j]).2:=by
 refine ⟨by simp,fun j h1 h2=>?_⟩
 simp only [List.length_map,Array.length_toList] at h1
 refine ⟨by simp,?_⟩
 have:=h (ps[j]).2 (List.mem_map.2 ⟨ps[j],by simp,rfl⟩)
 simpa using this
theorem vA {t:TypeId} {ps:Array (Nat × Operand)} {v:AV} (ho:o.op = .build t ps) (h:lR P t (ps.toList.map fun q=>(q.1,ρ q.2))=some v):aG P o ρ sp ⟨[],v,[]⟩:=by
 refine aG.plain fun g a w hop=>?_
 have hop':∀ t,t ∈ ps.toList.map (·.2)→VR g (ρ t) (a.eval t):=fun t ht=>hop t (by rw [ho];simpa [Op.operands] using ht)
 obtain ⟨pl,pv⟩:=z1 hop'
 unfold lR at h
 split at h
 ·rename_i l z e1 e2
  obtain ⟨d,hd,fs,rfl,hm⟩:=aI e1
  simp only [Option.map_eq_some_iff] at h
  obtain ⟨out,hf,rfl⟩:=h
  unfold zer at e2
  simp only [Option.map_eq_some_iff,Option.bind_eq_some_iff] at e2
  obtain ⟨zv,⟨i,hi,hz⟩,rfl⟩:=e2
  have hpl:∃ places,fs.toList.mapM (fun f=>(P.info? f.type).map fun i=>(f.offset,i.size))=some places∧∀ k:Nat,places[k]? = (l[k]?).map fun (q:Nat × Bool × Nat)=>(q.1,q.2.2):=by
   have key:∀ (fs:List Field) (l:List (Nat × Bool × Nat)),fs.mapM (fun (f:Field)=>(shp P f.type).map fun q=>(f.offset,q.1,q.2))=some l →
     ∃ places,fs.mapM (fun (f:Field)=>(P.info? f.type).map fun i=>(f.offset,i.size))=some places∧∀ k:Nat,places[k]? = (l[k]?).map fun q=>(q.1,q.2.2):=by
    intro fs
    induction fs with
    | nil=>intro l hl;simp at hl;subst hl;exact ⟨[],by simp,fun k=>by simp⟩
    | cons f fs ih =>
     intro l hl
     simp only [List.mapM_cons,Option.bind_eq_bind,Option.bind_eq_some_iff,Option.map_eq_some_iff,Option.pure_def,Option.some.injEq] at hl
     obtain ⟨q,⟨q',hq',rfl⟩,rest,hrest,rfl⟩:=hl
     obtain ⟨places,p1,p2⟩:=ih rest hrest
     obtain ⟨d,i,hd,hi,_,hsz⟩:=ea (b:=q'.1) (n:=q'.2) hq'
     refine ⟨(f.offset,q'.2)::places,by simp [List.mapM_cons,hi,hsz,p1],fun k=>?_⟩
     cases k with
     | zero=>rfl
     | succ k=>simpa using p2 k
   exact key fs.toList l hm
  obtain ⟨places,p1,p2⟩:=hpl
  have hpf:(fun (k:Nat)=>(l[k]?).map fun (q:Nat × Bool × Nat)=>(q.1,q.2.2))=fun k=>places[k]? := funext fun k=>(p2 k).symm
  rw [hpf] at hf
  obtain ⟨c',f1,f2,f3⟩:=kc (g:=g) (c:=zv.cells) hf pl pv (dI zv).symm (fun j hj=>fi g zv j hj)
  refine ⟨.agg c',?_,.agg _ _ f2 f3⟩
  have hb:P.built t (ps.map fun q=>(q.1,a.eval q.2)).toList=some c':=by
   simp only [Program.built,hi,hd,hz,p1]
   simpa using f1
  simp [execOp,ho,run_build w t _ c' hb]
 ·rename_i n el ag sz z e1 e2
  obtain ⟨d,hd,rfl,hs⟩:=aI e1
  simp only [Option.map_eq_some_iff] at h
  obtain ⟨out,hf,rfl⟩:=h
  unfold zer at e2
  simp only [Option.map_eq_some_iff,Option.bind_eq_some_iff] at e2
  obtain ⟨zv,⟨i,hi,hz⟩,rfl⟩:=e2
  obtain ⟨_,ie,_,hie,_,hsz⟩:=ea hs
  obtain ⟨c',f1,f2,f3⟩:=kc (g:=g) (c:=zv.cells) hf pl pv (dI zv).symm (fun j hj=>fi g zv j hj)
  refine ⟨.agg c',?_,.agg _ _ f2 f3⟩
  have hb:P.built t (ps.map fun q=>(q.1,a.eval q.2)).toList=some c':=by
   simp only [Program.built,hi,hd,hz,hie,hsz]
   exact f1
  simp [execOp,ho,run_build w t _ c' hb]
 ·cases h
def jF:Nat→List (Nat × AV)→Bool
 | _,[]=>true
 | n,q::r=>q.1 == n && jF (n+1) r
def lS (P:Program) (k:Option TyK) (n:Nat) (ps:List (Nat × AV)):Option (Nat × List AV) :=
 match k with
 | some (.slice el _ sz _)=>if (zer P el).isSome=true∧ps.length=n∧jF 0 ps=true∧n * sz≤16777216∧0 < sz∧(ps.all fun q=>q.2.cells.all AV.one && q.2.cells.length == sz)=true then some (sz,ps.map (·.2)) else none
 | _=>none
theorem qp {sz:Nat}:∀ (ps:List (Nat × Value)) (k:Nat) (c:Array Value),(∀ j (h:j < ps.length),ps[j].1=k+j∧ps[j].2.cells.size=sz)→(k+ps.length) * sz≤c.size →
  ∃ c',Instr.fill (fun i=>some (i * sz,sz)) c ps=some c'∧c'.size=c.size∧(∀ i j,i < ps.length→j < sz→c'.getD ((k+i) * sz+j) undef=((ps.getD i (0,undef)).2.cells.getD j undef))∧∀ j,j < k * sz→c'.getD j undef=c.getD j undef
 | [],k,c,_,_=>⟨c,rfl,rfl,fun i j h=>by simp at h,fun _ _=>rfl⟩
 | (k',u)::ps,k,c,hp,hc=>by
  obtain ⟨e,hu⟩:=hp 0 (by simp)
  simp only [List.getElem_cons_zero,Nat.add_zero] at e hu
  subst e
  simp only [List.length_cons] at hc
  have hc':k' * sz+sz+ps.length * sz≤c.size:=by
   have:(k' + (ps.length+1)) * sz=k' * sz+sz+ps.length * sz:=by rw [Nat.add_mul,Nat.add_mul];omega
   omega
  obtain ⟨f1,f2⟩:=lP (u:=u) (off:=k' * sz) (c:=c) (by omega)
  obtain ⟨c',h1,h2,h3,h4⟩:=qp ps (k' + 1) (u.cells.zipIdx.foldl (fun cs (q:Value × Nat)=>cs.setIfInBounds (k' * sz+q.2) q.1) c) (fun j h=>by
   have:=hp (j+1) (by simp;omega)
   simp only [List.getElem_cons_succ] at this
   exact ⟨by omega,this.2⟩) (by rw [f1,Nat.add_mul,Nat.add_mul];omega)
  have hsz:¬ (u.cells.size≠sz || k' * sz+u.cells.size > c.size)=true:=by simp;omega
  refine ⟨c',by simp only [Instr.fill];rw [if_neg hsz];exact h1,by rw [h2,f1],fun i j hi hj=>?_,fun j hj=>?_⟩
  ·cases i with
   | zero =>
    rw [Nat.add_zero,h4 _ (by rw [Nat.add_mul];omega),f2,if_pos (by omega)]
    simp
   | succ i =>
    have:=h3 i j (by simpa using hi) hj
    rw [show k' + 1+i=k' + (i+1) from by omega] at this
    rw [this];simp [List.getD_eq_getElem?_getD]
  ·rw [h4 j (by rw [Nat.add_mul];omega),f2,if_neg (by omega)]
omit [Laid P] in
theorem qx {t:TypeId} {n sz:Nat} {ps:Array (Nat × Operand)} {vs:List AV} (h:lS P (tyk P t) n (ps.toList.map fun q=>(q.1,ρ q.2))=some (sz,vs)) {g:Gh} {a:Act} {w:World} (hop:∀ t,t ∈ ps.toList.map (·.2)→VR g (ρ t) (a.eval t)) :
  vs.length=n∧(∀ i,i < n→(vs.getD i .undef).cells.length=sz)∧∃ (e:TypeId) (c:Array Value),(Instr.buildSlice t n (ps.map fun q=>(q.1,a.eval q.2))).run P w = .ok (.slice (some ⟨w.heap.size,0,none⟩) n n) (w.alloc (.cells c e))∧c.size=n * sz ∧
   (∀ j (hj:j < c.size),c[j].oneCell' = true)∧∀ i j,i < n→j < sz→VR g ((vs.getD i .undef).cells.getD j .undef) (c.getD (i * sz+j) undef):=by
 unfold lS at h
 split at h
 ·rename_i el ag sz' by' e1
  obtain ⟨d,hd,rfl,hs,_⟩:=aI e1
  split at h
  ·rename_i hc
   obtain ⟨hzer,hl,hord,hmax,hpos,hall⟩:=hc
   simp only [Option.some.injEq,Prod.mk.injEq] at h
   obtain ⟨rfl,rfl⟩:=h
   simp only [List.length_map,Array.length_toList] at hl
   have hall':∀ j,j < n→((ρ (ps.getD j (0,.const .nilFunc)).2).cells.all AV.one=true)∧(ρ (ps.getD j (0,.const .nilFunc)).2).cells.length=sz':=by
    intro j hj
    have hj':j < ps.size:=by omega
    have:=List.all_eq_true.1 hall (ps[j].1,ρ ps[j].2) (List.mem_map.2 ⟨ps[j],by simp,rfl⟩)
    simpa [hj'] using this
   have hord':∀ j,j < n→(ps.getD j (0,.const .nilFunc)).1=j:=by
    have key:∀ (l:List (Nat × AV)) (k:Nat),jF k l=true→∀ j (h:j < l.length),l[j].1=k+j:=by
     intro l
     induction l with
     | nil=>intro k _ j h;simp at h
     | cons q l ih =>
      intro k hk j h
      simp only [jF,Bool.and_eq_true,beq_iff_eq] at hk
      cases j with
      | zero=>simpa using hk.1
      | succ j=>have:=ih (k+1) hk.2 j (by simpa using h);simp only [List.getElem_cons_succ];omega
    intro j hj
    have:=key _ 0 hord j (by simpa using (by omega:j < ps.size))
    have hj':j < ps.size:=by omega
    simpa [hj'] using this
   have hvr:∀ j,j < n→VR g (ρ (ps.getD j (0,.const .nilFunc)).2) (a.eval (ps.getD j (0,.const .nilFunc)).2):=by
    intro j hj
    have hj':j < ps.size:=by omega
    exact hop _ (List.mem_map.2 ⟨ps.getD j (0,.const .nilFunc),by simp [hj'],rfl⟩)
   have hgetv:∀ i,i < n→((ps.toList.map fun q=>(q.1,ρ q.2)).map (·.2)).getD i .undef=ρ (ps.getD i (0,.const .nilFunc)).2:=by
    intro i hi
    have hi':i < ps.size:=by omega
    simp [List.getD_eq_getElem?_getD,hi']
   refine ⟨by simpa using hl,fun i hi=>by rw [hgetv i hi];exact (hall' i hi).2,el,?_⟩
   obtain ⟨_,inf,hdu,hinf,_,hsz⟩:=ea hs
   have hlt:¬ n * sz' > 2 ^ 24:=by simpa using hmax
   have hgetq:∀ i,i < n→(ps.map fun q=>(q.1,a.eval q.2)).toList.getD i (0,undef)=(i,a.eval (ps.getD i (0,.const .nilFunc)).2):=by
    intro i hi
    have hi':i < ps.size:=by omega
    have:=hord' i hi
    simp only [hi',Array.getD_eq_getD_getElem?,Array.getElem?_eq_getElem,Option.getD_some] at this ⊢
    simp [List.getD_eq_getElem?_getD,hi',this]
   have hfill:∀ c0:Array Value,c0.size=n * sz'→∃ c',Instr.fill (fun i=>some (i * sz',sz')) c0 (ps.map fun q=>(q.1,a.eval q.2)).toList=some c'∧c'.size=n * sz'∧∀ i j,i < n→j < sz'→c'.getD (i * sz' + j) undef=(a.eval (ps.getD i (0,.const .nilFunc)).2).cells.getD j undef:=by
    intro c0 hc0
    have:=qp (sz:=sz') (ps.map fun q=>(q.1,a.eval q.2)).toList 0 c0 (fun j hj=>by
     have hj':j < n:=by simpa [hl] using hj
     have h1:=hgetq j hj'
     rw [List.getD_eq_getElem?_getD,List.getElem?_eq_getElem hj,Option.getD_some] at h1
     rw [h1]
     refine ⟨by simp,?_⟩
     have:=((hvr j hj').cells (AV.eN (hall' j hj').1)).1
     rw [(hall' j hj').2] at this;exact this) (by simp [hl,hc0])
    obtain ⟨c',h1,h2,h3,_⟩:=this
    refine ⟨c',h1,by rw [h2,hc0],fun i j hi hj=>?_⟩
    have:=h3 i j (by simpa [hl] using hi) hj
    rw [Nat.zero_add,hgetq i hi] at this
    exact this
   have hrun:∃ c,(Instr.buildSlice t n (ps.map fun q=>(q.1,a.eval q.2))).run P w = .ok (.slice (some ⟨w.heap.size,0,none⟩) n n) (w.alloc (.cells c el))∧c.size=n * sz'∧∀ i j,i < n→j < sz'→c.getD (i * sz' + j) undef=(a.eval (ps.getD i (0,.const .nilFunc)).2).cells.getD j undef:=by
    by_cases h0:n * sz' = 0
    ·obtain ⟨c',h1,h2,h3⟩:=hfill #[] (by simp [h0])
     refine ⟨c',?_,h2,h3⟩
     have hn0:n=0:=by
      rcases Nat.mul_eq_zero.1 h0 with h|h
      ·exact h
      ·omega
     subst hn0
     simp only [Nat.zero_mul] at hlt
     simp [Instr.buildSlice,ax hd,run_sizeOf hs,newRow]
     have hps:ps=#[]:=by simpa using hl
     subst hps
     simp only [Instr.fill,List.map_toArray,List.map_nil,Option.some.injEq] at h1 ⊢
     simp [Instr.fill,← h1,show Array.range 0=#[] from rfl]
    ·cases hz:inf.zero with
     | none=>simp [zer,hinf,hz] at hzer
     | some zv =>
      obtain ⟨c',h1,h2,h3⟩:=hfill ((Array.range (n * sz')).map (zv.cells[· % zv.cells.size]!)) (by simp)
      refine ⟨c',?_,h2,h3⟩
      simp only [Instr.buildSlice,Sem.run_bind,ax hd,Result.andThen_ok,run_sizeOf hs,hlt,if_false,h0,zeroValue,typeInfo,run_program,hinf,Sem.run_pure,hz,h1,newRow,run_newObj,World.alloc_eq]
   obtain ⟨c,hc1,hc2,hc3⟩:=hrun
   refine ⟨c,hc1,hc2,fun j hj=>?_,fun i j hi hj=>?_⟩
   ·have hq:j / sz' < n:=by rw [Nat.div_lt_iff_lt_mul hpos];omega
    have hr:j % sz' < sz':=Nat.mod_lt _ hpos
    have:=hc3 (j / sz') (j % sz') hq hr
    rw [Nat.div_add_mod' j sz'] at this
    have hone:=(hvr _ hq).DF (hall' _ hq).1
    have hsz2:=((hvr _ hq).cells (AV.eN (hall' _ hq).1)).1
    rw [(hall' _ hq).2] at hsz2
    generalize (a.eval (ps.getD (j / sz') (0,.const .nilFunc)).2).cells=A at *
    have hlt2:j % sz' < A.size:=by omega
    simp only [Array.getD_eq_getD_getElem?,Array.getElem?_eq_getElem hj,Array.getElem?_eq_getElem hlt2,Option.getD_some] at this
    rw [this]
    exact hone _ (by simp)
   ·rw [hgetv i hi,hc3 i j hi hj]
    exact ((hvr i hi).cells (AV.eN (hall' i hi).1)).2 j (by rw [(hall' i hi).2];exact hj)
  ·cases h
 ·cases h
end
end Go.Ab
namespace Go.Ab
section
variable {P:Program} [Laid P] {o:Oper} {ρ:Operand→AV} {sp:Oid→Prop}
theorem nL {t:TypeId} {n:Nat} {ps:Array (Nat × Operand)} (ho:o.op = .buildSlice t n ps) {x:Operand} (hx:x ∈ ps.toList.map (·.2)):x ∈ o.op.operands.toList:=by
 rw [ho];simpa [Op.operands] using hx
theorem qy {t:TypeId} {n sz:Nat} {ps:Array (Nat × Operand)} {vs:List AV} (ho:o.op = .buildSlice t n ps) (h:lS P (tyk P t) n (ps.toList.map fun q=>(q.1,ρ q.2))=some (sz,vs)):aG P o ρ sp ⟨[],.list sz vs,[]⟩:=by
 refine aG.of fun x g a w m hm _ hop _=>?_
 obtain ⟨h1,h2,e,c,h3,h4,h5,h6⟩:=qx h (g:=g) (a:=a) (w:=w) (fun t ht=>hop t (nL ho ht))
 obtain ⟨hm',hle⟩:=hm.Yl c e h5
 refine ⟨g.fix w.heap.size c,.value (.slice (some ⟨w.heap.size,0,none⟩) n n),_,w.alloc (.cells c e),by simp [execOp,ho,h3],.inl rfl,hle,fun _ _=>rfl,?_,hm'⟩
 subst h1
 refine .list sz vs _ _ _ (fun i j=>c.getD (i * sz+j) undef) (Nat.le_refl _) h2 (fun i j hi hj=>?_) (fun i j hi hj=>(h6 i j hi hj).mono hle)
 have:i * sz+j < c.size:=by
  have:=Nat.mul_le_mul_right sz (Nat.succ_le_of_lt hi)
  rw [Nat.succ_mul] at this;omega
 simp [Gh.fix,this]
theorem sI {t:TypeId} {n sz:Nat} {ps:Array (Nat × Operand)} {vs:List AV} {nid:Oid} (ho:o.op = .buildSlice t n ps) (hs:sp nid) (hnt:nid.tyd=none) (h:lS P (tyk P t) n (ps.toList.map fun q=>(q.1,ρ q.2))=some (sz,vs)) :
  aG P o ρ sp ⟨[],.sl nid sz n,[(nid,some (.arr sz vs))]⟩:=by
 refine aG.of fun x g a w m hm _ hop hsp=>?_
 obtain ⟨h1,h2,e,c,h3,h4,h5,h6⟩:=qx h (g:=g) (a:=a) (w:=w) (fun t ht=>hop t (nL ho ht))
 obtain ⟨hl,hu⟩:=hsp nid hs
 subst h1
 have hnew:=hm.new (o:=.arr sz vs) (ob:=.cells c e) hl hu ⟨c,e,(0,0),bC w _,by omega,fun j _ h=>by omega,h2,fun j hj=>by
  have hj':j < c.size:=by omega
  have:=h5 j hj'
  simpa [hj'] using this,fun i j hi hj=>(h6 i j hi hj).mono (Gh.bs hl)⟩ (fun t' ht=>by rw [hnt] at ht;cases ht)
 have hrow:(g.bind nid w.heap.size).row w.heap.size=none:=hm.jA (Nat.le_refl _)
 refine ⟨(g.bind nid w.heap.size).measure w.heap.size (vs.length * sz),.value (.slice (some ⟨w.heap.size,0,none⟩) vs.length vs.length),_,w.alloc (.cells c e),by simp [execOp,ho,h3],.inl rfl,
  Gh.le_trans (Gh.bs hl) (Gh.dw (.inl hrow)),fun j hj=>?_,.sl _ _ _ _ _ (by simp [Gh.bind,Gh.measure]) (Nat.le_refl _) (by simp [Gh.measure]),hnew.measure ⟨c,e,(0,0),bC w _,h4⟩ (.inl hrow)⟩
 simp only [Gh.bind,Gh.measure];rw [if_neg (fun e=>hj (by rw [e];exact hs))]
def nO (m:Mem) (k:Option TyK) (x y:AV):OpR :=
 match k,x,y with
 | some (.slice _ _ sz _),.win i s k1 n1,.win j s' k2 n2=>match m i,m j with
  | some (.cells vs),some (.cells us) =>
   if s=sz∧s' = sz∧k1 * sz+min n2 n1 * sz≤vs.length∧k2 * sz+min n2 n1 * sz≤us.length∧((us.drop (k2 * sz)).take (min n2 n1 * sz)).all AV.one=true then
    .eff ⟨[(i,.cells vs),(j,.cells us)],.int .i64 (min n2 n1:Nat),[(i,some (.cells (spl vs (k1 * sz) ((us.drop (k2 * sz)).take (min n2 n1 * sz)))))]⟩
   else .no
  | _,_=>.no
 | _,_,_=>.no
theorem z6 {y z:Operand} {t u:TypeId} {m0:Mem} {e:Eff} (ho:o.op = .call ⟨.builtin .copy,#[y,z],#[t,u]⟩) (h:nO m0 (tyk P t) (ρ y) (ρ z) = .eff e):aG P o ρ sp e∧∀ q,q ∈ e.need→m0 q.1=some q.2:=by
 unfold nO at h
 split at h
 ·rename_i el ag sz by' i s k1 n1 j s' k2 n2 e1 e2 e3
  split at h
  ·rename_i vs us hvs hus
   split at h
   ·rename_i hc
    obtain ⟨rfl,rfl,hl1,hl2,hone⟩:=hc
    simp only [OpR.eff.injEq] at h;subst h
    refine ⟨aG.of fun x g a w m hm hnd hop _=>?_,fun q hq=>by
     simp only [List.mem_cons,List.not_mem_nil,or_false] at hq
     rcases hq with rfl|rfl
     ·exact hvs
     ·exact hus⟩
    have hy:=hop y (by simp [Op.operands,Call.operands,ho])
    have hz:=hop z (by simp [Op.operands,Call.operands,ho])
    rw [e2] at hy;rw [e3] at hz
    obtain ⟨d,hd,rfl,hs,_⟩:=aI e1
    obtain ⟨b,cap,hu,hb⟩:=hy.ud
    obtain ⟨b2,cap2,hu2,hb2⟩:=hz.ud
    have hmi:=hnd (i,.cells vs) (by simp)
    have hmj:=hnd (j,.cells us) (by simp)
    obtain ⟨b',h1,h2,h3,h4⟩:=hm.obj i _ hmi
    rw [hb] at h1;simp only [Option.some.injEq] at h1;subst h1
    obtain ⟨b'',g1,g2,g3,g4⟩:=hm.obj j _ hmj
    rw [hb2] at g1;simp only [Option.some.injEq] at g1;subst g1
    obtain ⟨c,ty,fz,c1,c2,c3,c4⟩:=h4
    obtain ⟨c',ty',fz',d1,d2,d3,d4⟩:=g4
    generalize hn:min n2 n1=n at *
    generalize hB:(us.drop (k2 * s')).take (n * s')=B at *
    have hBl:B.length=n * s':=by rw [← hB];simp;omega
    have hBv:∀ q,q < n * s'→VR g (B.getD q .undef) (c'.getD (k2 * s' + q) undef):=fun q hq=>by
     rw [← hB,getD_take _ _ _ _ hq,cW];exact d4 _ (by omega)
    have hload:=run_loadCells (P:=P) w ⟨b2,k2 * s',none⟩ (n * s') (fun q=>c'.getD (k2 * s' + q) undef) (fun q hq=>by
     rw [addr_add]
     have:k2 * s' + q < c'.size:=by omega
     simp [World.cell?,d1,this])
    have hones:∀ v,v ∈ ((List.range (n * s')).map fun q=>c'.getD (k2 * s' + q) undef)→v.oneCell' = true:=fun v hv=>by
     simp only [List.mem_map,List.mem_range] at hv
     obtain ⟨q,hq,rfl⟩:=hv
     refine (hBv q hq).one ?_
     rw [List.getD_eq_getElem?_getD,List.getElem?_eq_getElem (by omega),Option.getD_some]
     exact List.all_eq_true.1 hone _ (List.getElem_mem _)
    obtain ⟨w',cc,r1,r2,r3,r4,r5,r6,r7,r8,r9⟩:=cQ (P:=P) b c ty fz ((List.range (n * s')).map fun q=>c'.getD (k2 * s' + q) undef) (k1 * s') 0 w c c1 c3 (by simp;omega) hones
    refine ⟨g,.value (.int .i64 n),_,w',?_,.inl rfl,Gh.le_refl g,fun _ _=>rfl,.int _ _,hm.fS hmi hb r5 r6 r7 (by omega) (fun b' hb' _=>r9 b' hb') (fun r hr=>?_) (fun c9 t9 fz9 h9=>by rw [c1] at h9;cases h9;exact ⟨cc,fz,r2⟩) ?_⟩
    ·have hrun:(Builtin.copy_ #[t,u] o.type #[a.eval y,a.eval z]).run P w = .ok (.int .i64 n) w':=by
      have hmin:Nat.min n2 n1=n:=hn
      generalize (List.range (n * s')).map (fun q=>c'.getD (k2 * s' + q) undef)=L at hload r1
      simp only [Builtin.copy_,hu,hu2]
      simp [ax hd,Builtin.lenOf,run_sizeOf hs,Builtin.firstCells,hmin,hload,r1,goInt]
     exact bd ho (by simp [builtin,hrun])
    ·obtain ⟨c0,t0,fz0,q1,q2⟩:=hm.rows b r hr
     rw [c1] at q1;simp only [Option.some.injEq,Obj.cells.injEq] at q1
     exact ⟨cc,ty,fz,r2,by rw [r3,← q2,q1.1]⟩
    ·refine ⟨cc,ty,fz,r2,by rw [r3,dx (by omega)];exact c2,fun q hq=>c3 q (by omega),fun q hq=>?_⟩
     rw [dx (by omega)] at hq
     rw [jB (by omega),r4]
     simp only [List.length_map,List.length_range,Nat.add_zero,hBl]
     by_cases hin:k1 * s'≤q∧q < k1 * s' + n * s'
     ·rw [if_pos hin,if_pos hin]
      have:=hBv (q - k1 * s') (by omega)
      have hlt:q - k1 * s' < n * s':=by omega
      simpa [hlt] using this
     ·rw [if_neg hin,if_neg hin];exact c4 q hq
   ·cases h
  ·cases h
 ·cases h
def qz (m:Mem) (sz:Nat):AV→Option (List (Oid × ar) × List AV)
 | .nilSl=>some ([],[])
 | .list sz' ys=>if sz' = sz then some ([],ys) else none
 | .sl id sz' n=>match m id with
  | some (.arr s ys)=>if sz' = sz∧s=sz∧n≤ys.length then some ([(id,.arr s ys)],ys.take n) else none
  | _=>none
 | .str s=>if sz=1 then some ([],s.map fun b=>.int .u8 b.toNat) else none
 | _=>none
theorem nP {m:Mem} {sz:Nat} {x:AV} {nd:List (Oid × ar)} {ys:List AV} (h:qz m sz x=some (nd,ys)):∀ q,q ∈ nd→m q.1=some q.2:=by
 unfold qz at h
 split at h
 ·simp only [Option.some.injEq,Prod.mk.injEq] at h;obtain ⟨rfl,rfl⟩:=h;intro q hq;cases hq
 ·split at h
  ·simp only [Option.some.injEq,Prod.mk.injEq] at h;obtain ⟨rfl,rfl⟩:=h;intro q hq;cases hq
  ·cases h
 ·split at h
  ·rename_i hm
   split at h
   ·simp only [Option.some.injEq,Prod.mk.injEq] at h;obtain ⟨rfl,rfl⟩:=h
    intro q hq;simp only [List.mem_singleton] at hq;subst hq;exact hm
   ·cases h
  ·cases h
 ·split at h
  ·simp only [Option.some.injEq,Prod.mk.injEq] at h;obtain ⟨rfl,rfl⟩:=h;intro q hq;cases hq
  ·cases h
 ·cases h
omit [Laid P] in
theorem nQ {x:Ctx} {g:Gh} {m m0:Mem} {w:World} (hm:aD x g m w) {sz:Nat} {v:AV} {u:Value} (hv:VR g v u) {nd:List (Oid × ar)} {ys:List AV} (h:qz m0 sz v=some (nd,ys)) (hn:∀ q,q ∈ nd→m q.1=some q.2) :
  (∀ i,i < ys.length→(ys.getD i .undef).cells.length=sz)∧∃ news:Array Value,news.size=ys.length * sz∧(∀ j (hj:j < news.size),news[j].oneCell' = true) ∧
   (∀ i j,i < ys.length→j < sz→VR g ((ys.getD i .undef).cells.getD j .undef) (news.getD (i * sz+j) undef)) ∧
   (∀ k,(Builtin.lenOf u).run P { w with drawn:=k } = .ok ys.length { w with drawn:=k })∧∀ k,(Builtin.firstCells sz ys.length u).run P { w with drawn:=k } = .ok news { w with drawn:=k }:=by
 have fromCells:∀ (b off:Nat) (n:Nat) (f:Nat→Value),(∀ j,j < n→w.cell? ⟨b,off+j,none⟩=some (f j))→∀ k,(loadCells ⟨b,off,none⟩ n).run P { w with drawn:=k } = .ok ((List.range n).map f).toArray { w with drawn:=k }:=by
  intro b off n f hf k
  exact run_loadCells (P:=P) { w with drawn:=k } ⟨b,off,none⟩ n f (fun j hj=>by rw [addr_add];exact hf j hj)
 unfold qz at h
 split at h
 ·simp only [Option.some.injEq,Prod.mk.injEq] at h;obtain ⟨rfl,rfl⟩:=h
  rw [hv.bu]
  exact ⟨fun i hi=>absurd hi (Nat.not_lt_zero _),#[],by simp,fun j hj=>absurd hj (Nat.not_lt_zero _),fun i j hi=>absurd hi (Nat.not_lt_zero _),fun k=>by simp [Builtin.lenOf],fun k=>by simp [Builtin.firstCells]⟩
 ·rename_i sz' ys'
  split at h
  ·rename_i e;subst e
   simp only [Option.some.injEq,Prod.mk.injEq] at h;obtain ⟨rfl,rfl⟩:=h
   rcases hv.dH with ⟨rfl,hu|⟨a0,cap,hu⟩⟩|⟨b,off,cap,cs,hu,hcap,hl,h1,h2⟩
   rotate_left
   ·rw [hu]
    exact ⟨fun i hi=>absurd hi (Nat.not_lt_zero _),#[],by simp,fun j hj=>absurd hj (Nat.not_lt_zero _),fun i j hi=>absurd hi (Nat.not_lt_zero _),fun k=>by simp [Builtin.lenOf],fun k=>by
     simp only [Builtin.firstCells]
     simpa using run_loadCells (P:=P) { w with drawn:=k } a0 0 (fun _=>undef) (fun j hj=>absurd hj (Nat.not_lt_zero _))⟩
   rotate_left
   ·rw [hu]
    exact ⟨fun i hi=>absurd hi (Nat.not_lt_zero _),#[],by simp,fun j hj=>absurd hj (Nat.not_lt_zero _),fun i j hi=>absurd hi (Nat.not_lt_zero _),fun k=>by simp [Builtin.lenOf],fun k=>by simp [Builtin.firstCells]⟩
   rw [hu]
   have hpos:∀ j,j < ys'.length * sz'→0 < sz':=fun j hj=>by
    rcases Nat.eq_zero_or_pos sz' with h|h
    ·rw [h] at hj;simp at hj
    ·exact h
   have hcell:∀ j,j < ys'.length * sz'→g.com b (off+j)=some (cs (j / sz') (j % sz')):=fun j hj=>by
    have hp:=hpos j hj
    have:=h1 (j / sz') (j % sz') (by rw [Nat.div_lt_iff_lt_mul hp];exact hj) (Nat.mod_lt _ hp)
    rwa [Nat.add_assoc,Nat.div_add_mod' j sz'] at this
   refine ⟨hl,((List.range (ys'.length * sz')).map fun j=>cs (j / sz') (j % sz')).toArray,by simp,fun j hj=>?_,fun i j hi hj=>?_,fun k=>by simp [Builtin.lenOf],fun k=>?_⟩
   ·have hj':j < ys'.length * sz':=by simpa using hj
    simpa using hm.one _ _ _ (hcell j hj')
   ·have hlt:i * sz' + j < ys'.length * sz':=by
     have:=Nat.mul_le_mul_right sz' (Nat.succ_le_of_lt hi)
     rw [Nat.succ_mul] at this;omega
    have e1:(i * sz' + j) / sz' = i:=by rw [Nat.mul_comm,Nat.mul_add_div (by omega),Nat.div_eq_of_lt hj,Nat.add_zero]
    have e2:(i * sz' + j) % sz' = j:=by rw [Nat.mul_comm,Nat.mul_add_mod,Nat.mod_eq_of_lt hj]
    have:=h2 i j hi hj
    simpa [hlt,e1,e2] using this
   ·simp only [Builtin.firstCells]
    exact fromCells b off _ _ (fun j hj=>hm.com _ _ _ (hcell j hj)) k
  ·cases h
 ·rename_i id sz' n
  split at h
  ·rename_i s ys' hmid
   split at h
   ·rename_i hc
    obtain ⟨rfl,rfl,hle⟩:=hc
    simp only [Option.some.injEq,Prod.mk.injEq] at h;obtain ⟨rfl,rfl⟩:=h
    rcases hv.dq with ⟨rfl,hu,_⟩|⟨b,cap,hu,hb,hcap,_⟩
    ·rw [hu]
     exact ⟨fun i hi=>absurd hi (by simp),#[],by simp,fun j hj=>absurd hj (Nat.not_lt_zero _),fun i j hi=>absurd hi (by simp),fun k=>by simp [Builtin.lenOf],fun k=>by simp [Builtin.firstCells]⟩
    obtain ⟨b',g1,g2,g3,g4⟩:=hm.fO (hn (id,.arr s ys') (by simp)) hb
    rw [hb] at g1;simp only [Option.some.injEq] at g1;subst g1
    obtain ⟨c,t,fz,c1,c2,c3,c4,c6,c5⟩:=g4
    rw [hu]
    have hlen:(ys'.take n).length=n:=by simp;omega
    have hmul:n * s≤ys'.length * s:=Nat.mul_le_mul_right s hle
    rw [hlen]
    refine ⟨fun i hi=>by rw [getD_take _ _ _ _ hi];exact c4 i (by omega),((List.range (n * s)).map fun j=>c.getD j undef).toArray,by simp,fun j hj=>?_,fun i j hi hj=>?_,fun k=>by simp [Builtin.lenOf],fun k=>?_⟩
    ·have hj':j < n * s:=by simpa using hj
     simpa using c6 j (by omega)
    ·have hlt:i * s+j < n * s:=by
      have:=Nat.mul_le_mul_right s (Nat.succ_le_of_lt hi)
      rw [Nat.succ_mul] at this;omega
     rw [getD_take _ _ _ _ hi]
     have:=c5 i j (by omega) hj
     simpa [hlt] using this
    ·simp only [Builtin.firstCells]
     refine fromCells b 0 _ _ (fun j hj=>?_) k
     have hlt:j < c.size:=by omega
     simp [World.cell?,c1,hlt]
   ·cases h
  ·cases h
 ·rename_i s
  split at h
  ·rename_i e;subst e
   simp only [Option.some.injEq,Prod.mk.injEq] at h;obtain ⟨rfl,rfl⟩:=h
   obtain ⟨b,hu,hb⟩:=hv.bf
   rw [hu];subst hb
   have hsz:b.size=b.data.toList.length:=by simp
   refine ⟨fun i hi=>?_,b.data.map fun x=>.int .u8 x.toNat,by simp,fun j hj=>by simp [Value.oneCell'],fun i j hi hj=>?_,fun k=>by simp [Builtin.lenOf],fun k=>?_⟩
   ·simp only [List.length_map] at hi
    simp only [List.getD_eq_getElem?_getD,List.getElem?_map,List.getElem?_eq_getElem hi,Option.map_some,Option.getD_some];rfl
   ·simp only [List.length_map] at hi
    have hj0:j=0:=by omega
    subst hj0
    have hi':i < b.data.size:=by simpa using hi
    simp only [List.getD_eq_getElem?_getD,List.getElem?_map,List.getElem?_eq_getElem hi,Option.map_some,Option.getD_some,Nat.mul_one,Nat.add_zero,Array.getD_eq_getD_getElem?,Array.getElem?_map,Array.getElem?_eq_getElem hi',Array.getElem_toList]
    exact .int _ _
   ·simp only [Builtin.firstCells,List.length_map,Sem.run_pure]
    rw [← hsz]
    have:b.extract 0 b.size=b:=by
     apply ByteArray.ext;rw [ByteArray.data_extract];simp
    rw [this]
  ·cases h
 ·cases h
end
end Go.Ab
namespace Go.Ab
section
variable {x:Ctx} {g:Gh} {m:Mem} {w:World}
theorem aD.rename (h:aD x g m w) {i j:Oid} {o:ar} {b:Nat} (hi:m i=some o) (hb:g.loc i=some (some b)) (hj:g.loc j=none) (hu:Oid.under x.p j) (hty:∀ t,j.tyd=some t→i.tyd=some t) :
  aD x (g.bind j b) ((m.set i none).set j (some o)) w:=by
 have hle:g.le (g.bind j b):=Gh.bs hj
 have hij:i≠j:=fun e=>by rw [e,hj] at hb;cases hb
 obtain ⟨b0,g1,g2,g3,g4⟩:=h.fO hi hb
 rw [hb] at g1;simp only [Option.some.injEq] at g1;subst g1
 have key:∀ k o',((m.set i none).set j (some o)) k=some o'→k≠j→m k=some o'∧k≠i:=fun k o' hk e=>by
  simp only [Mem.set,e,if_false] at hk
  split at hk
  ·cases hk
  ·exact ⟨hk,‹_›⟩
 refine ⟨Gh.le_trans h.le hle,fun k hk=>?_,fun k hk=>hle.1 _ _ (h.glob k hk),h.coms,fun k o' hk=>?_,fun k k' o1 o2 c h1 h2 h3 h4=>?_,h.com,h.one,h.rows,h.os,h.tape,h.output,h.size,h.kept,fun t q c hc=>?_⟩
 ·simp only [Gh.bind];rw [if_neg (fun e=>hk (by rw [e];exact hu))];exact h.locs k hk
 ·by_cases e:k=j
  ·subst e
   simp only [Mem.set,if_true,Option.some.injEq] at hk
   subst hk
   exact .inr ⟨b,by simp [Gh.bind],g2,g3,g4.mono hle⟩
  ·obtain ⟨k1,k2⟩:=key k o' hk e
   rcases h.obj0 k o' k1 with ⟨v1,v2⟩|⟨c,c1,c2,c3,c4⟩
   ·exact .inl ⟨v1,hle.1 _ _ v2⟩
   ·exact .inr ⟨c,hle.1 _ _ c1,c2,c3,c4.mono hle⟩
 ·simp only [Gh.bind] at h3 h4
  by_cases e1:k=j<;>by_cases e2:k' = j
  ·rw [e1,e2]
  ·obtain ⟨m2,n2⟩:=key k' o2 h2 e2
   rw [if_pos e1] at h3;rw [if_neg e2] at h4
   simp only [Option.some.injEq] at h3;subst h3
   exact absurd (h.inj k' i o2 o b m2 hi h4 hb) n2
  ·obtain ⟨m1,n1⟩:=key k o1 h1 e1
   rw [if_neg e1] at h3;rw [if_pos e2] at h4
   simp only [Option.some.injEq] at h4;subst h4
   exact absurd (h.inj k i o1 o b m1 hi h3 hb) n1
  ·rw [if_neg e1] at h3;rw [if_neg e2] at h4
   exact h.inj k k' o1 o2 c (key k o1 h1 e1).1 (key k' o2 h2 e2).1 h3 h4
 ·simp only [Gh.bind] at hc
  split at hc
  ·rename_i e
   simp only [Option.some.injEq] at hc;subst hc
   have h1:=hty t (by rw [← e];rfl)
   cases i with
   | ty t' q' =>
    have h2:t' = t:=by simpa [Oid.tyd] using h1
    subst h2;exact h.typs _ _ _ hb
   | _=>cases h1
  ·exact h.typs t q c hc
def Gh.cg (g:Gh) (i:Oid):Gh:={ g with loc:=fun j=>if j=i then some none else g.loc j }
theorem Gh.jb {g:Gh} {i:Oid} (h:g.loc i=none):g.le (g.cg i) :=
 ⟨fun j b hj=>by simp only [Gh.cg];rw [if_neg (fun e=>by rw [e,h] at hj;cases hj)];exact hj,fun _ _ _ h=>h,fun _ _ h=>h⟩
theorem aD.uk (h:aD x g m w) {j:Oid} (sz:Nat) (hj:g.loc j=none) (hu:Oid.under x.p j):aD x (g.cg j) (m.set j (some (.arr sz []))) w:=by
 have hle:g.le (g.cg j):=Gh.jb hj
 refine ⟨Gh.le_trans h.le hle,fun k hk=>?_,fun k hk=>hle.1 _ _ (h.glob k hk),h.coms,fun k o' hk=>?_,fun k k' o1 o2 c h1 h2 h3 h4=>?_,h.com,h.one,h.rows,h.os,h.tape,h.output,h.size,h.kept,fun t q c hc=>?_⟩
 ·simp only [Gh.cg];rw [if_neg (fun e=>hk (by rw [e];exact hu))];exact h.locs k hk
 ·by_cases e:k=j
  ·subst e
   simp only [Mem.set,if_true,Option.some.injEq] at hk
   subst hk
   exact .inl ⟨rfl,by simp [Gh.cg]⟩
  ·simp only [Mem.set,e,if_false] at hk
   rcases h.obj0 k o' hk with ⟨v1,v2⟩|⟨c,c1,c2,c3,c4⟩
   ·exact .inl ⟨v1,hle.1 _ _ v2⟩
   ·exact .inr ⟨c,hle.1 _ _ c1,c2,c3,c4.mono hle⟩
 ·simp only [Gh.cg] at h3 h4
  by_cases e1:k=j
  ·rw [if_pos e1] at h3;cases h3
  ·by_cases e2:k' = j
   ·rw [if_pos e2] at h4;cases h4
   ·rw [if_neg e1] at h3;rw [if_neg e2] at h4
    simp only [Mem.set,e1,if_false] at h1
    simp only [Mem.set,e2,if_false] at h2
    exact h.inj k k' o1 o2 c h1 h2 h3 h4
 ·simp only [Gh.cg] at hc
  split at hc
  ·cases hc
  ·exact h.typs t q c hc
theorem aD.freeze (h:aD x g m w) {i:Oid} {sz:Nat} {xs:List AV} (hi:m i=some (.arr sz xs)):∃ g',g.le g'∧(∀ k,g'.loc k=g.loc k)∧aD x g' (m.set i none) w ∧
  ∀ n u,VR g (.sl i sz n) u→n≤xs.length→VR g' (.list sz (xs.take n)) u:=by
 rcases h.obj0 i _ hi with ⟨v1,v2⟩|⟨b,g1,g2,g3,g4⟩
 ·refine ⟨g,Gh.le_refl g,fun _=>rfl,h.drop (fun k o hk=>by simp only [Mem.set] at hk;split at hk;cases hk;exact hk),fun n u hu hn=>?_⟩
  have hx:xs=[]:=by cases xs with
   | nil=>rfl
   | cons _ _=>cases v1
  subst hx
  rcases hu.dq with ⟨rfl,hu',_⟩|⟨b,cap,_,hb,_⟩
  ·rw [hu'];exact .listNil sz
  ·rw [v2] at hb;cases hb
 obtain ⟨c,t,fz,c1,c2,c3,c4,c6,c5⟩:=g4
 have hle:g.le (g.fix b (c.extract 0 (xs.length * sz))):=Gh.zS g2
 have hget:∀ k v,(c.extract 0 (xs.length * sz))[k]? = some v→c[k]? = some v∧k < xs.length * sz:=fun k v hk=>by
  rw [Array.getElem?_extract] at hk
  split at hk
  ·rename_i hlt
   have:k < xs.length * sz:=by omega
   exact ⟨by simpa using hk,this⟩
  ·cases hk
 have hgot:∀ k,k < xs.length * sz→(c.extract 0 (xs.length * sz))[k]? = some (c.getD k undef):=fun k hk=>by
  have hkc:k < c.size:=by omega
  rw [Array.getElem?_extract]
  rw [if_pos (by omega)]
  simp [hkc]
 refine ⟨g.fix b (c.extract 0 (xs.length * sz)),hle,fun _=>rfl,⟨Gh.le_trans h.le hle,h.locs,h.glob,fun b' k v hv=>?_,fun j o' hj=>?_,fun j j' o1 o2 b' h1 h2 h3 h4=>?_,fun b' k v hv=>?_,fun b' k v hv=>?_,h.rows,h.os,h.tape,h.output,h.size,h.kept,h.typs⟩,fun n u hu hn=>?_⟩
 ·simp only [Gh.fix] at hv
  split at hv
  ·rename_i e;subst e;exact .inr g3
  ·exact h.coms b' k v hv
 ·simp only [Mem.set] at hj
  split at hj
  ·cases hj
  ·rename_i hne
   rcases h.obj0 j o' hj with hv|⟨b',k1,k2,k3,k4⟩
   ·exact .inl hv
   refine .inr ⟨b',k1,fun k=>?_,k3,k4.mono hle⟩
   simp only [Gh.fix]
   rw [if_neg (fun e=>hne (by subst e;exact h.inj j i o' _ b' hj hi k1 g1))]
   exact k2 k
 ·simp only [Mem.set] at h1 h2
  split at h1
  ·cases h1
  ·split at h2
   ·cases h2
   ·exact h.inj j j' o1 o2 b' h1 h2 h3 h4
 ·simp only [Gh.fix] at hv
  split at hv
  ·rename_i e;subst e
   obtain ⟨k1,k2⟩:=hget k v hv
   simp [World.cell?,c1,k1]
  ·exact h.com b' k v hv
 ·simp only [Gh.fix] at hv
  split at hv
  ·obtain ⟨k1,k2⟩:=hget k v hv
   have:=c6 k k2
   rw [Array.getD_eq_getD_getElem?,k1] at this
   exact this
  ·exact h.one b' k v hv
 ·obtain ⟨b',cap,rfl,e1,e2,e3⟩:=hu.dq.resolve_left (fun hv=>by rw [g1] at hv;cases hv.2.2)
  rw [g1] at e1;simp only [Option.some.injEq] at e1;subst e1
  have hlen:(xs.take n).length=n:=by simp;omega
  have:=VR.list (g:=g.fix b (c.extract 0 (xs.length * sz))) sz (xs.take n) b 0 cap (fun i j=>c.getD (i * sz+j) undef) (by omega)
   (fun i hi=>by rw [hlen] at hi;rw [getD_take _ _ _ _ hi];exact c4 i (by omega))
   (fun i j hi hj=>by
    rw [hlen] at hi
    have hlt:0+i * sz+j < xs.length * sz:=by
     have h1:=Nat.mul_le_mul_right sz (Nat.succ_le_of_lt hi)
     have h2:=Nat.mul_le_mul_right sz hn
     rw [Nat.succ_mul] at h1;omega
    simp only [Gh.fix,if_true]
    rw [hgot _ hlt,Nat.zero_add])
   (fun i j hi hj=>by rw [hlen] at hi;rw [getD_take _ _ _ _ hi];exact (c5 i j (by omega) hj).mono hle)
  rwa [hlen] at this
end
section
variable {P:Program} [Laid P] {o:Oper} {ρ:Operand→AV} {sp:Oid→Prop}
def lT (P:Program) (el:TypeId) (sz:Nat):Bool:=match zer P el with
 | some z=>z.length == sz
 | none=>false
def sJ (P:Program) (m:Mem) (nid:Oid) (t:TypeId) (s x:AV):OpR :=
 match tyk P t with
 | some (.slice el _ sz by')=>match s,qz m sz x with
  | .nilSl,some (nd,ys) =>
   if lT P el sz=true∧0 < by'∧ys.length * by'≤140737488355328 then .eff ⟨nd,.sl nid sz ys.length,[(nid,some (.arr sz ys))]⟩ else .no
  | .sl id sz' len,some (nd,ys)=>match m id with
   | some (.arr s' xs) =>
    if lT P el sz=true∧sz' = sz∧s' = sz∧xs.length=len∧0 < by'∧(len+ys.length) * by'≤140737488355328 then
     .eff ⟨(id,.arr s' xs)::nd,.sl nid sz (len+ys.length),[(id,none),(nid,some (.arr sz (xs++ys)))]⟩
    else .no
   | _=>.no
  | _,_=>.no
 | _=>.no
theorem bg {a b:Array Value} {j:Nat} (h:j < a.size):(a++b).getD j undef=a.getD j undef:=by simp [Array.getElem?_append,h]
theorem dJ {a b:Array Value} {j:Nat} (h:a.size≤j):(a++b).getD j undef=b.getD (j - a.size) undef:=by simp [Array.getElem?_append,Nat.not_lt.2 h]
theorem iP {need old:Nat} {el:TypeId} {t:Nat} (h:need < 2 ^ 63):need≤(Question.appendCap need old el).cut t:=by simp only [Question.cut];omega
section
variable {t u ty el:TypeId} {du:TypeDesc} {inf:TypeInfo} {ag:Bool} {sz:Nat} {zv:Value} {v:Value} {news old:Array Value} {n sLen sCap:Nat} {base:Option Addr} {w:World}
omit [Laid P] in
theorem fT (hd:P.underlying t=some (.slice el)) (hdu:P.underlying u=some du) (hdi:∀ k,du≠.int k) (hsh:shp P el=some (ag,sz)) (hinf:P.info? el=some inf) (hzv:inf.zero=some zv)
  (hlen:(Builtin.lenOf v).run P w = .ok n w) (hnews:(Builtin.firstCells sz n v).run P w.drew = .ok news w.drew) (hold:(Builtin.firstCells sz sLen (.slice base sLen sCap)).run P w.drew = .ok old w.drew)
  (hgt:sCap < sLen+n) (hbp:0 < inf.bytes) (hbd:(sLen+n) * inf.bytes≤140737488355328) :
  (Builtin.append_ #[t,u] ty #[.slice base sLen sCap,v]).run P w = .ok (.slice (some ⟨w.heap.size,0,none⟩) (sLen+n) ((Question.appendCap (sLen+n) sCap el).cut (w.tape w.drawn (.appendCap (sLen+n) sCap el))))
   (w.drew.alloc (.cells (old++news++Builtin.zeroCells zv.cells ((Question.appendCap (sLen+n) sCap el).cut (w.tape w.drawn (.appendCap (sLen+n) sCap el)) - (sLen+n))) el)):=by
 have h1:¬ (sLen+n≤sCap):=by omega
 have h2:¬ inf.bytes=0:=by omega
 have h3:¬ (Builtin.nextslicecap (sLen+n) sCap * inf.bytes > 2 ^ 48):=by
  have:=growslice_fits hgt hbd;omega
 have hmatch:(match du with | .int _=>true|_=>false)=false:=by cases du<;>first|rfl|exact absurd rfl (hdi _)
 have h3':¬ (281474976710656 < Builtin.nextslicecap (sLen+n) sCap * inf.bytes):=by omega
 have hf:(Question.appendCap (sLen+n) sCap el).forced=false:=rfl
 simp [Builtin.append_,ax hd,run_sizeOf hsh,ax hdu,hmatch,hlen,h1,typeInfo,hinf,h2,h3',hf,hold,hnews,zeroValue,hzv,newRow]
omit [Laid P] in
theorem kd (hd:P.underlying t=some (.slice el)) (hdu:P.underlying u=some du) (hdi:∀ k,du≠.int k) (hsh:shp P el=some (ag,sz))
  (hlen:(Builtin.lenOf v).run P w = .ok n w) (hnews:(Builtin.firstCells sz n v).run P w = .ok news w) (hle:sLen+n≤sCap) {a:Addr} {w':World} (hst:(storeCells (a.add (sLen * sz)) news.toList).run P w = .ok () w') :
  (Builtin.append_ #[t,u] ty #[.slice (some a) sLen sCap,v]).run P w = .ok (.slice (some a) (sLen+n) sCap) w':=by
 have hmatch:(match du with | .int _=>true|_=>false)=false:=by cases du<;>first|rfl|exact absurd rfl (hdi _)
 simp [Builtin.append_,ax hd,run_sizeOf hsh,ax hdu,hmatch,hlen,hle,hnews,hst]
end
def uo:Option TyK→Bool
 | some (.slice ..)=>true
 | some .str=>true
 | _=>false
omit [Laid P] in
theorem iQ {x:Ctx} {g:Gh} {m:Mem} {w:World} (hm:aD x g m w) {a:Act} {t u el:TypeId} {y z:Operand} {nid:Oid} {du:TypeDesc} {inf:TypeInfo} {ag:Bool} {sz:Nat} {zv:Value} {ys:List AV} {news:Array Value}
  (ho:o.op = .call ⟨.builtin .append,#[y,z],#[t,u]⟩) (hs:sp nid) (hd:P.underlying t=some (.slice el)) (hdu:P.underlying u=some du) (hdi:∀ k,du≠.int k) (hsh:shp P el=some (ag,sz)) (hinf:P.info? el=some inf) (hzv:inf.zero=some zv) (hzc:zv.cells.size=sz)
  (hbp:0 < inf.bytes) (hbd:ys.length * inf.bytes≤140737488355328) (hyu:a.eval y = .slice none 0 0)
  (n0:∀ i,i < ys.length→(ys.getD i .undef).cells.length=sz) (n1:news.size=ys.length * sz) (n2:∀ j (hj:j < news.size),news[j].oneCell' = true)
  (n3:∀ i j,i < ys.length→j < sz→VR g ((ys.getD i .undef).cells.getD j .undef) (news.getD (i * sz+j) undef))
  (n4:∀ k,(Builtin.lenOf (a.eval z)).run P { w with drawn:=k } = .ok ys.length { w with drawn:=k }) (n5:∀ k,(Builtin.firstCells sz ys.length (a.eval z)).run P { w with drawn:=k } = .ok news { w with drawn:=k })
  (hl:g.loc nid=none) (hup:Oid.under x.p nid) (hnt:∀ t',nid.tyd=some t'→t' = el) :
  ∃ g' nx v w',(execOp a.eval o).run P w = .ok nx w'∧(nx = .value v∨nx = .skip∧v=undef)∧g.le g'∧(∀ i,¬ sp i→g'.loc i=g.loc i)∧VR g' (.sl nid sz ys.length) v∧aD x g' (m.set nid (some (.arr sz ys))) w':=by
 have hmatch:(match du with | .int _=>true|_=>false)=false:=by cases du<;>first|rfl|exact absurd rfl (hdi _)
 cases ys with
 | nil =>
  refine ⟨g.cg nid,.value (.slice none 0 0),_,w,bd ho ?_,.inl rfl,Gh.jb hl,fun j hj=>?_,.slNil _ _ (by simp [Gh.cg]),hm.uk sz hl hup⟩
  ·have k4:=n4 w.drawn;have k5:=n5 w.drawn
   simp only [List.length_nil] at k4 k5
   simp [builtin,Builtin.append_,ax hd,hyu,run_sizeOf hsh,ax hdu,hmatch,k4,k5]
  ·simp only [Gh.cg];rw [if_neg (fun e=>hj (by rw [e];exact hs))]
 | cons v vs =>
  simp only [List.length_cons] at n0 n1 n3 n4 n5 hbd ⊢
  generalize hn:vs.length+1=n at *
  have hn0:n≠0:=by omega
  have hnb:n≤140737488355328:=Nat.le_trans (Nat.le_mul_of_pos_right n hbp) hbd
  have hrun:=fT (P:=P) (ty:=o.type) (sLen:=0) (sCap:=0) (base:=none) (old:=#[]) hd hdu hdi hsh hinf hzv (n4 w.drawn) (n5 (w.drawn+1)) (by simp [Builtin.firstCells]) (by omega) hbp (by simpa using hbd)
  have hcap:=iP (need:=0+n) (old:=0) (el:=el) (t:=w.tape w.drawn (.appendCap (0+n) 0 el)) (by omega)
  generalize (Question.appendCap (0+n) 0 el).cut (w.tape w.drawn (.appendCap (0+n) 0 el))=C at hcap hrun
  rw [Nat.zero_add] at hcap hrun
  generalize hR:(#[]++news++Builtin.zeroCells zv.cells (C - n))=row at hrun
  have hrow:row.size=C * sz:=by
   rw [← hR]
   simp only [Array.size_append,n1,Builtin.zeroCells,Array.size_map,Array.size_range,hzc]
   rw [show (#[]:Array Value).size=0 from rfl,Nat.zero_add,← Nat.add_mul];congr 1;omega
  have hrg:∀ j,j < news.size→row.getD j undef=news.getD j undef:=fun j hj=>by
   rw [← hR,bg (by simpa using hj)];simp
  have hmd:aD x g m w.drew:=hm.drew _ (Nat.le_succ _)
  have hnew:=hmd.new (o:=.arr sz (v::vs)) (ob:=.cells row el) hl hup ⟨row,el,(0,0),bC _ _,by
    rw [hrow,List.length_cons,hn];exact Nat.mul_le_mul_right sz (by omega),fun j _ h=>by omega,by simpa [hn] using n0,fun j hj=>by
    rw [List.length_cons,hn] at hj
    have hj':j < news.size:=by omega
    rw [hrg j hj']
    have:=n2 j hj'
    simpa [hj'] using this,fun i j hi hj=>by
    rw [List.length_cons,hn] at hi
    have hj':i * sz+j < news.size:=by
     have:=Nat.mul_le_mul_right sz (Nat.succ_le_of_lt hi)
     rw [Nat.succ_mul] at this;omega
    rw [hrg _ hj']
    exact (n3 i j hi hj).mono (Gh.bs hl)⟩ (fun t' ht=>by rw [hnt t' ht];exact ⟨_,_,rfl⟩)
  have hrn:(g.bind nid w.drew.heap.size).row w.drew.heap.size=none:=hmd.jA (Nat.le_refl _)
  refine ⟨(g.bind nid w.drew.heap.size).measure w.drew.heap.size (C * sz),.value (.slice (some ⟨w.heap.size,0,none⟩) n C),_,w.drew.alloc (.cells row el),bd ho ?_,.inl rfl,Gh.le_trans (Gh.bs hl) (Gh.dw (.inl hrn)),fun j hj=>?_,?_,hnew.measure ⟨row,el,(0,0),bC _ _,hrow⟩ (.inl hrn)⟩
  ·simp [builtin,hyu,hrun]
  ·simp only [Gh.bind,Gh.measure];rw [if_neg (fun e=>hj (by rw [e];exact hs))]
  ·exact .sl _ _ _ _ _ (by simp [Gh.bind,Gh.measure]) hcap (by simp [Gh.measure])
theorem sK {t u:TypeId} {y z:Operand} {nid:Oid} {m0:Mem} {e:Eff} (ho:o.op = .call ⟨.builtin .append,#[y,z],#[t,u]⟩) (hs:sp nid) (hu:uo (tyk P u)=true)
  (hnt:∀ t',nid.tyd=some t'→(∀ el ag sz by',tyk P t=some (.slice el ag sz by')→t' = el)∧∀ id sz n,ρ y = .sl id sz n→id.tyd=some t')
  (h:sJ P m0 nid t (ρ y) (ρ z) = .eff e):aG P o ρ sp e∧∀ q,q ∈ e.need→m0 q.1=some q.2:=by
 have hund:∃ d,P.underlying u=some d∧(∀ k,d≠.int k):=by
  unfold uo at hu
  split at hu
  ·rename_i h1;obtain ⟨d,hd,h2⟩:=aI h1;exact ⟨d,hd,fun k e=>by rw [h2.1] at e;cases e⟩
  ·rename_i h1;obtain ⟨d,hd,h2⟩:=aI h1;exact ⟨d,hd,fun k e=>by rw [h2] at e;cases e⟩
  ·cases hu
 obtain ⟨du,hdu,hdi⟩:=hund
 have hmatch:(match du with | .int _=>true|_=>false)=false:=by cases du<;>first|rfl|exact absurd rfl (hdi _)
 unfold sJ at h
 split at h
 ·rename_i el ag sz by' e1
  obtain ⟨d,hd,rfl,hsh,inf,hinf,hby⟩:=aI e1
  subst hby
  have zero_of:lT P el sz=true→∃ zv,inf.zero=some zv∧zv.cells.size=sz:=by
   intro hz
   unfold lT zer at hz
   rw [hinf] at hz
   cases hzz:inf.zero with
   | none=>simp [hzz] at hz
   | some zv=>simp [hzz,dI] at hz;exact ⟨zv,rfl,hz⟩
  split at h
  ·-- to nil
   rename_i nd ys e2 e3
   split at h
   ·rename_i hc
    obtain ⟨hzer,hbp,hbd⟩:=hc
    simp only [OpR.eff.injEq] at h;subst h
    obtain ⟨zv,hzv,hzc⟩:=zero_of hzer
    refine ⟨aG.of fun x g a w m hm hnd hop hsp=>?_,nP e3⟩
    have hy:=hop y (by simp [Op.operands,Call.operands,ho])
    have hz:=hop z (by simp [Op.operands,Call.operands,ho])
    rw [e2] at hy
    obtain ⟨n0,news,n1,n2,n3,n4,n5⟩:=nQ (P:=P) hm hz e3 hnd
    obtain ⟨hl,hup⟩:=hsp nid hs
    exact iQ hm ho hs hd hdu hdi hsh hinf hzv hzc hbp hbd hy.bu n0 n1 n2 n3 n4 n5 hl hup (fun t' ht=>(hnt t' ht).1 _ _ _ _ e1)
   ·cases h
  ·-- to a row
   rename_i id sz' len nd ys e2 e3
   split at h
   ·rename_i s' xs hmid
    split at h
    ·rename_i hc
     obtain ⟨hzer,rfl,rfl,rfl,hbp,hbd⟩:=hc
     simp only [OpR.eff.injEq] at h;subst h
     obtain ⟨zv,hzv,hzc⟩:=zero_of hzer
     refine ⟨aG.of fun x g a w m hm hnd hop hsp=>?_,fun q hq=>?_⟩
     ·have hy:=hop y (by simp [Op.operands,Call.operands,ho])
      have hz:=hop z (by simp [Op.operands,Call.operands,ho])
      rw [e2] at hy
      obtain ⟨n0,news,n1,n2,n3,n4,n5⟩:=nQ (P:=P) hm hz e3 (fun q hq=>hnd q (List.mem_cons_of_mem _ hq))
      obtain ⟨hl,hup⟩:=hsp nid hs
      have hmi:m id=some (.arr s' xs):=hnd (id,.arr s' xs) List.mem_cons_self
      rcases hy.dq with ⟨hz0,hyu,hb0⟩|⟨b,cap,hyu,hb,hcap,hrb⟩
      ·have hx:xs=[]:=List.eq_nil_of_length_eq_zero hz0
       subst hx
       have hbd':ys.length * inf.bytes≤140737488355328:=by simpa using hbd
       obtain ⟨g',nx,v,w',q1,q2,q3,q4,q5,q6⟩:=iQ (m:=m.set id none) (hm.drop (fun k o hk=>by simp only [Mem.set] at hk;split at hk;cases hk;exact hk)) ho hs hd hdu hdi hsh hinf hzv hzc hbp hbd' hyu n0 n1 n2 n3 n4 n5 hl hup (fun t' ht=>(hnt t' ht).1 _ _ _ _ e1)
       exact ⟨g',nx,v,w',q1,q2,q3,q4,by simpa using q5,by simpa [Mem.aF] using q6⟩
      obtain ⟨b',g1,g2,g3,g4⟩:=hm.fO hmi hb
      rw [hb] at g1;simp only [Option.some.injEq] at g1;subst g1
      obtain ⟨c,ct,fz,c1,c2,c3,c4,c6,c5⟩:=g4
      have hcs:c.size=cap * s':=by
       obtain ⟨c',t',fz',k1,k2⟩:=hm.rows b _ hrb
       rw [c1] at k1;simp only [Option.some.injEq,Obj.cells.injEq] at k1
       rw [k1.1];exact k2
      have hidn:id≠nid:=fun e=>by rw [e,hl] at hb;cases hb
      have joinLen:(xs++ys).length=xs.length+ys.length:=List.length_append
      have joinGet:∀ i,(xs++ys).getD i .undef=if i < xs.length then xs.getD i .undef else ys.getD (i - xs.length) .undef:=fun i=>by
       simp only [List.getD_eq_getElem?_getD]
       by_cases hi:i < xs.length
       ·rw [if_pos hi,List.getElem?_append_left hi]
       ·rw [if_neg hi,List.getElem?_append_right (by omega)]
      have mY:∀ (row:Array Value),(∀ j,j < xs.length * s'→row.getD j undef=c.getD j undef)→(∀ j,j < ys.length * s'→row.getD (xs.length * s' + j) undef=news.getD j undef) →
        (∀ i,i < (xs++ys).length→((xs++ys).getD i .undef).cells.length=s')∧(∀ j,j < (xs++ys).length * s'→(row.getD j undef).oneCell' = true) ∧
        ∀ i j,i < (xs++ys).length→j < s'→VR g (((xs++ys).getD i .undef).cells.getD j .undef) (row.getD (i * s' + j) undef):=by
       intro row r1 r2
       refine ⟨fun i hi=>?_,fun j hj=>?_,fun i j hi hj=>?_⟩
       ·rw [joinGet];rw [joinLen] at hi
        split
        ·exact c4 i ‹_›
        ·exact n0 _ (by omega)
       ·rw [joinLen,Nat.add_mul] at hj
        rcases Nat.lt_or_ge j (xs.length * s') with h1|h1
        ·rw [r1 j h1];exact c6 j h1
        ·have:=r2 (j - xs.length * s') (by omega)
         rw [Nat.add_sub_cancel' h1] at this
         rw [this]
         have hj':j - xs.length * s' < news.size:=by omega
         have:=n2 _ hj'
         simpa [hj'] using this
       ·rw [joinLen] at hi
        rw [joinGet]
        split
        ·rename_i h1
         have hlt:i * s' + j < xs.length * s':=by
          have:=Nat.mul_le_mul_right s' (Nat.succ_le_of_lt h1)
          rw [Nat.succ_mul] at this;omega
         rw [r1 _ hlt];exact c5 i j h1 hj
        ·rename_i h1
         have hi2:i - xs.length < ys.length:=by omega
         have hlt:(i - xs.length) * s' + j < ys.length * s':=by
          have:=Nat.mul_le_mul_right s' (Nat.succ_le_of_lt hi2)
          rw [Nat.succ_mul] at this;omega
         have:=r2 _ hlt
         rw [← Nat.add_assoc,← Nat.add_mul,Nat.add_sub_cancel' (by omega)] at this
         rw [this];exact n3 _ j hi2 hj
      by_cases hfit:xs.length+ys.length≤cap
      ·-- there is room
       have hmul:(xs.length+ys.length) * s'≤cap * s':=Nat.mul_le_mul_right s' hfit
       rw [Nat.add_mul] at hmul
       obtain ⟨w',c',r1,r2,r3,r4,r5,r6,r7,r8,r9⟩:=cQ (P:=P) b c ct fz news.toList (xs.length * s') 0 w c c1 c3 (by simp only [Array.length_toList,n1];omega) (fun v hv=>by
        obtain ⟨j,hj,rfl⟩:=List.mem_iff_getElem.1 hv
        simpa using n2 j (by simpa using hj))
       have hrun:=kd (P:=P) (ty:=o.type) (sLen:=xs.length) (sCap:=cap) (a:=⟨b,0,none⟩) hd hdu hdi hsh (n4 w.drawn) (n5 w.drawn) hfit (w':=w') (by rw [addr_add];simpa using r1)
       obtain ⟨j1,j2,j3⟩:=mY c' (fun j hj=>by rw [r4,if_neg (by omega)]) (fun j hj=>by
        rw [r4]
        simp only [Array.length_toList,n1,Nat.add_zero]
        rw [if_pos (by omega)]
        have hj':j < news.size:=by omega
        simp [List.getD_eq_getElem?_getD,hj'])
       have hturn:=hm.fS (o:=.arr s' (xs++ys)) hmi hb r5 r6 r7 (by omega) (fun b' hb' _=>r9 b' hb') (fun r hr=>by
        rw [hrb] at hr;simp only [Option.some.injEq] at hr
        exact ⟨c',ct,fz,r2,by rw [r3,hcs,hr]⟩) (fun c9 t9 fz9 h9=>by rw [c1] at h9;cases h9;exact ⟨c',fz,r2⟩) ⟨c',ct,fz,r2,by rw [r3,hcs,joinLen,Nat.add_mul];exact hmul,fun j hj=>c3 j (by omega),j1,j2,j3⟩
       have hren:=hturn.rename (i:=id) (j:=nid) (o:=.arr s' (xs++ys)) (by simp [Mem.set]) hb hl hup (fun t' ht=>(hnt t' ht).2 _ _ _ e2)
       have hmem:(((m.set id (some (.arr s' (xs++ys)))).set id none).set nid (some (.arr s' (xs++ys))))=m.aF [(id,none),(nid,some (.arr s' (xs++ys)))]:=by
        funext k
        simp only [Mem.aF,Mem.set]
        by_cases e1:k=nid
        ·simp [e1]
        ·by_cases e2:k=id<;>simp [e1,e2]
       rw [hmem] at hren
       refine ⟨g.bind nid b,.value (.slice (some ⟨b,0,none⟩) (xs.length+ys.length) cap),_,w',bd ho ?_,.inl rfl,Gh.bs hl,fun j hj=>?_,?_,hren⟩
       ·simp [builtin,hyu,hrun]
       ·simp only [Gh.bind];rw [if_neg (fun e=>hj (by rw [e];exact hs))]
       ·exact .sl _ _ _ _ _ (by simp [Gh.bind]) hfit hrb
      ·-- a new row
       have hnb:xs.length+ys.length≤140737488355328:=Nat.le_trans (Nat.le_mul_of_pos_right _ hbp) hbd
       have holdrun:(Builtin.firstCells s' xs.length (.slice (some ⟨b,0,none⟩) xs.length cap)).run P w.drew = .ok ((List.range (xs.length * s')).map fun j=>c.getD j undef).toArray w.drew:=by
        simp only [Builtin.firstCells]
        refine run_loadCells (P:=P) w.drew ⟨b,0,none⟩ _ _ (fun j hj=>?_)
        rw [addr_add]
        have hlt:j < c.size:=by omega
        rw [World.cell?_drew];simp [World.cell?,c1,hlt]
       have hrun:=fT (P:=P) (ty:=o.type) (sLen:=xs.length) (sCap:=cap) (base:=some ⟨b,0,none⟩) hd hdu hdi hsh hinf hzv (n4 w.drawn) (n5 (w.drawn+1)) holdrun (by omega) hbp hbd
       have hcap':=iP (need:=xs.length+ys.length) (old:=cap) (el:=el) (t:=w.tape w.drawn (.appendCap (xs.length+ys.length) cap el)) (by omega)
       generalize (Question.appendCap (xs.length+ys.length) cap el).cut (w.tape w.drawn (.appendCap (xs.length+ys.length) cap el))=C at hcap' hrun
       generalize hO:((List.range (xs.length * s')).map fun j=>c.getD j undef).toArray=old at hrun
       have hos:old.size=xs.length * s':=by rw [← hO];simp
       have hog:∀ j,j < xs.length * s'→old.getD j undef=c.getD j undef:=fun j hj=>by rw [← hO];simp [hj]
       generalize hR:(old++news++Builtin.zeroCells zv.cells (C - (xs.length+ys.length)))=row at hrun
       have hrow:row.size=C * s':=by
        rw [← hR]
        simp only [Array.size_append,n1,hos,Builtin.zeroCells,Array.size_map,Array.size_range,hzc]
        rw [← Nat.add_mul,← Nat.add_mul];congr 1;omega
       obtain ⟨j1,j2,j3⟩:=mY row (fun j hj=>by
         rw [← hR,bg (by rw [Array.size_append];omega),bg (by omega)];exact hog j hj) (fun j hj=>by
         rw [← hR,bg (by rw [Array.size_append];omega),dJ (by omega),hos,Nat.add_sub_cancel_left])
       have hmd:aD x g (m.set id none) w.drew:=(hm.drew _ (Nat.le_succ _)).drop (fun k o' hk=>by simp only [Mem.set] at hk;split at hk;cases hk;exact hk)
       have hnew:=hmd.new (o:=.arr s' (xs++ys)) (ob:=.cells row el) hl hup ⟨row,el,(0,0),bC _ _,by rw [hrow,joinLen];exact Nat.mul_le_mul_right s' hcap',fun j _ h=>by omega,j1,j2,fun i j hi hj=>(j3 i j hi hj).mono (Gh.bs hl)⟩ (fun t' ht=>by rw [(hnt t' ht).1 _ _ _ _ e1];exact ⟨_,_,rfl⟩)
       have hrn:(g.bind nid w.drew.heap.size).row w.drew.heap.size=none:=hmd.jA (Nat.le_refl _)
       refine ⟨(g.bind nid w.drew.heap.size).measure w.drew.heap.size (C * s'),.value (.slice (some ⟨w.heap.size,0,none⟩) (xs.length+ys.length) C),_,w.drew.alloc (.cells row el),bd ho ?_,.inl rfl,Gh.le_trans (Gh.bs hl) (Gh.dw (.inl hrn)),fun j hj=>?_,?_,hnew.measure ⟨row,el,(0,0),bC _ _,hrow⟩ (.inl hrn)⟩
       ·simp [builtin,hyu,hrun]
       ·simp only [Gh.bind,Gh.measure];rw [if_neg (fun e=>hj (by rw [e];exact hs))]
       ·exact .sl _ _ _ _ _ (by simp [Gh.bind,Gh.measure]) hcap' (by simp [Gh.measure])
     ·rcases List.mem_cons.1 hq with rfl|hq
      ·exact hmid
      ·exact nP e3 q hq
    ·cases h
   ·cases h
  ·cases h
 ·cases h
def eS (P:Program) (t:TypeId):Option (List TyS × Bool):=match tyk P t with
 | some (.map k _)=>match aW P 10 k,shp P k with
  | some ks,some (ag,_)=>some (ks,ag)
  | _,_=>none
 | _=>none
theorem qA {t:TypeId} {nid:Oid} (ks:List TyS) (ag:Bool) (ho:o.op = .makeMap t none) (hs:sp nid) (hnt:nid.tyd=none):aG P o ρ sp ⟨[],.map nid,[(nid,some (.map ks ag [] 0))]⟩:=by
 refine aG.of fun x g a w m hm _ _ hsp=>?_
 obtain ⟨hl,hu⟩:=hsp nid hs
 refine ⟨g.bind nid w.heap.size,.value (.map (some w.heap.size)),_,w.alloc (.map #[] 0),?_,.inl rfl,Gh.bs hl,fun j hj=>?_,.map _ _ (by simp [Gh.bind]),hm.new hl hu ?_ (fun t' ht=>by rw [hnt] at ht;cases ht)⟩
 ·simp [execOp,ho,Instr.makeMap]
 ·simp only [Gh.bind];rw [if_neg (fun e=>hj (by rw [e];exact hs))]
 ·exact ⟨⟨#[],bC w _,.nil⟩,(fun e he=>absurd he (by simp)),List.Pairwise.nil⟩
end
end Go.Ab
