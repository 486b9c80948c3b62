/- A part of the proof: the texts FwD, FwE, Ty, S0, Shelf, S1, FwL, Laid, SXU, S2, S2b, S6a, S7, S8, S3, S4, S5, S6, S9, S10, S11, S12, S13, S14, FwP, one behind the other. -/
import Derived.Test.YtfbnaalhioogoaaGreatDoorPYb
import Derived.ProofKit
import Derived.SizedLaws
import Derived.ReadAgain
import Derived.Below
import Derived.Deep.Draws
import Derived.Test.YtfbnaalhioogoaaGreatDoorProg
import Derived.KernelRfl
import Derived.Lib.Builder
import Derived.WalkKit
import Derived.Laws.Externs
import Derived.Laws.BitsLemmas
import Derived.Shelf.Strings.Builder1
import Derived.Shelf.Strings.Builder2
import Derived.Shelf.Strings.OnBuilder
import Derived.Shelf.Strings.Trim
import Derived.Shelf.Small.Utf8
import Derived.Shelf.Small.Bits
import Derived.Shelf.Small.Strs
import Derived.Shelf.Strconv.Atoi
import Derived.Shelf.Strconv.Itoa0
import Derived.Shelf.Strconv.Itoa1
import Derived.Shelf.LaysM
import Derived.Shelf.Strconv.Itoa2
import Derived.Shelf.Strconv.Itoa3
import Derived.Shelf.Strconv.AtoiErrFast
import Derived.Shelf.Strconv.ParseIntEmpty
import Derived.Shelf.Strconv.AtoiFail
import Derived.Shelf.Strconv.Clone
import Derived.Shelf.Strconv.SyntaxError
import Derived.Shelf.LaysC
import Derived.Shelf.Strconv.ToError
import Derived.Shelf.Strconv.Lower
import Derived.Shelf.Strconv.ParseUint10
import Derived.Shelf.Strconv.ParseUint10Empty
import Derived.Shelf.Strconv.ParseUint10Any
import Derived.Shelf.Strconv.ParseInt10
import Derived.Shelf.Strconv.AtoiLong
import Derived.Shelf.Strconv.AtoiInnerAll
import Derived.Shelf.Strconv.RangeError
import Derived.Shelf.Strconv.ToErrorRange
import Derived.Shelf.Strconv.AtoiAll
import Derived.Shelf.Strings.Search1
import Derived.Shelf.Strings.Search2
import Derived.Shelf.Strings.Search3
import Derived.Shelf.Strings.Cut
import Derived.Shelf.Strings.Count
import Derived.Shelf.Strings.Shaped
import Derived.Shelf.Sort.Plain
import Derived.Shelf.Strings.LastIndex
import Derived.Shelf.Strings.Prefix
import Derived.Shelf.Strings.Split
import Derived.Shelf.Strings.SplitShaped
import Derived.Shelf.Unicode.Decode
import Derived.Shelf.Strings.Runes
import Derived.Shelf.Strings.RuneCount
import Derived.Shelf.Strings.AsciiSet
import Derived.Shelf.Unicode.DecodeSlow
import Derived.Shelf.Slices.Turned
import Derived.Shelf.Slices.Equal
import Derived.Ground.Names2Prog
import Derived.Shelf.Slices.ReverseS
import Derived.Shelf.Slices.CompactS
import Derived.Shelf.Slices.Cells
import Derived.Shelf.Slices.In.SortNone
import Derived.Shelf.Slices.Empties2
import Derived.Ground.SlgnProg
import Derived.Shelf.SlicesE.Equal
import Derived.Shelf.SlicesE.Compact
import Derived.Ground.SlgfProg
import Derived.Shelf.SlicesE.IndexFunc
import Derived.Shelf.SlicesE.DeleteFunc
import Derived.Lib.LaidTab
import Derived.Deep.DeepHandedRow
import Derived.Test.YtfbnaalhioogoaaGreatDoorRows
import Derived.Test.YtfbnaalhioogoaaGreatDoorCards
import Derived.Test.YtfbnaalhioogoaaGreatDoorTie
import Derived.Lib.AtoiAllCases
import Derived.Lib.ItoaMem
import Derived.Lib.ItoaLen
import Derived.Lib.AtoiTie
set_option linter.unusedVariables false
set_option linter.unusedSimpArgs false
set_option linter.unusedSectionVars false
namespace Go.Ab
universe u
def both (b:Bool) (A B:Prop):Prop:=(b=true→A)∧(b=false→B)
theorem qp (A B:Prop):both true A B=A:=by simp [both]
theorem vm (A B:Prop):both false A B=B:=by simp [both]
structure LOp where
 dst:Option Nat
 op:Op
 guard:Option (Nat × Bool)
def om (o:Oper):LOp:=⟨o.dst,o.op,o.guard⟩
def dx:List Oper→List LOp
 | []=>[]
 | o::l=>om o::dx l
def prs (ρ:Operand→AV):List (Nat × Operand)→List (Nat × AV)
 | []=>[]
 | q::l=>(q.1,ρ q.2)::prs ρ l
theorem Eg (ρ:Operand→AV) (l:List (Nat × Operand)):l.map (fun q=>(q.1,ρ q.2))=prs ρ l:=by
 induction l with
 | nil=>rfl
 | cons q l ih=>simp only [List.map_cons,prs,ih]
def opL (P:Program) (m:Mem) (nid:Oid) (md:Nat→Bool) (ρ:Operand→AV) (dst:Option Nat) (op:Op):OpR :=
 match op with
 | .move x=>cb (ρ x)
 | .assign x=>cb (ρ x)
 | .pick c a b=>match ρ c with
  | .bool v=>cb (if v then ρ a else ρ b)
  | _=>.no
 | .alloc t=>match zer P t with
  | some z=>.eff ⟨[],.ptr (gk P t nid) 0,[(gk P t nid,some (.cells z))]⟩
  | none=>.no
 | .box t x=>if (ρ x).known=true then .eff ⟨[],.ptr (gk P t nid) 0,[(gk P t nid,some (.cells (ρ x).cells))]⟩ else .no
 | .build t ps=>ee (nU P t (prs ρ ps.toList))
 | .buildSlice t n ps=>match nV P (tyk P t) n (prs ρ ps.toList) with
  | some (sz,vs)=>if (match dst with|some d=>md d|none=>false)=true then .eff ⟨[],.sl nid sz n,[(nid,some (.arr sz vs))]⟩ else cb (.list sz vs)
  | none=>.no
 | .load t a=>iX (shp P t) m (ρ a)
 | .store t a v=>kz (shp P t) m (ρ a) (ρ v)
 | .nilCheck x=>if nP (ρ x)=true then cb (ρ x) else .no
 | .binOp op t x y _=>ee (Ec P op t (isC y) (ρ x) (ρ y))
 | .unOp op _ x=>ee (unA op (ρ x))
 | .convert s d x=>ee (wV P s d (ρ x))
 | .fieldAddr t x k=>ee (gh (bf P t k) (ρ x))
 | .field t x k=>ee (nR (bf P t k) (ρ x))
 | .indexAddr t x i=>ee (dZ (tyk P t) (ρ x) (ρ i))
 | .index t x i=>ee (lV (tyk P t) (ρ x) (ρ i))
 | .extract x i=>ee (jl (ρ x) i)
 | .makeFunc f xs ys=>cb (.fn f (xs.toList.map ρ) (ys.toList.map ρ))
 | .makeInterface t x=>ee (lW (tyk P t) t (ρ x))
 | .slice t x lo hi none=>ee (eE (tyk P t) (ρ x) (lo.map ρ) (hi.map ρ))
 | .makeMap t none=>match gi P t with
  | some (ks,ag)=>.eff ⟨[],.map nid,[(nid,some (.map ks ag [] 0))]⟩
  | none=>.no
 | .lookup t x k ok=>fF P m t (ρ x) (ρ k) ok
 | .mapUpdate t x k v=>cz P m t (ρ x) (ρ k) (ρ v)
 | .insert t x k v=>cz P m t (ρ x) (ρ k) (ρ v)
 | .mapEntry t x k=>eR P m t (ρ x) (ρ k)
 | .entryStore _ x k v=>dw m (ρ x) (ρ k) (ρ v)
 | .range t x=>kE (tyk P t) m nid (ρ x)
 | .entry x=>kF m (ρ x)
 | .call c=>lb P m nid ρ c
 | _=>.no
theorem vn (P:Program) (m:Mem) (nid:Oid) (md:Nat→Bool) (ρ:Operand→AV) (o:Oper):opF P m nid md ρ o=opL P m nid md ρ o.dst o.op:=by
 unfold opF opL;simp only [Eg];rfl
def qx:List (Nat × Nat)→Nat→Option Nat
 | [],_=>none
 | q::l,j=>if j=q.1 then some q.2 else qx l j
def mH (gl:List (Nat × Nat)) (g:Option (Nat × Bool)) (f:Nat→AV):Option Bool :=
 match g with
 | none=>some true
 | some (j,want)=>match qx gl j with
  | none=>none
  | some d=>match f d with
   | .bool b=>some (b == want)
   | .tuple []=>some false
   | _=>none
def pP (ops:Array Oper) (gl:List (Nat × Nat)):Bool:=gl.all fun q=>match ops[q.1]? with
 | some o=>o.dst == some q.2
 | none=>false
theorem tp {ops:Array Oper}:∀ {gl:List (Nat × Nat)},pP ops gl=true→∀ {j d:Nat},qx gl j=some d→(ops[j]?).bind (·.dst)=some d
 | [],_,_,_,h=>by cases h
 | q::l,hg,j,d,h=>by
  simp only [pP,List.all_cons,Bool.and_eq_true] at hg
  simp only [qx] at h
  split at h
  ·rename_i e
   simp only [Option.some.injEq] at h;subst h;subst e
   have:=hg.1
   split at this
   ·rename_i o ho;rw [ho];simpa using this
   ·cases this
  ·exact tp (by simpa [pP] using hg.2) h
theorem tq {ops:Array Oper} {gl:List (Nat × Nat)} (hg:pP ops gl=true) {o:Oper} {f:Nat→AV} {b:Bool} (h:mH gl o.guard f=some b):ic ops o f=some b:=by
 unfold mH at h
 unfold ic
 split at h
 ·rename_i e;rw [e];exact h
 ·rename_i j want e
  rw [e];simp only
  cases hl:qx gl j with
  | none=>rw [hl] at h;cases h
  | some d =>
   rw [hl] at h
   rw [tp hg hl]
   exact h
structure LE where
 need:List Oid
 upd:List Oid
def LE.none:LE:=⟨[],[]⟩
def kG {α β:Type}:List (α × β)→List α
 | []=>[]
 | q::l=>q.1::kG l
theorem il {α β:Type} {l:List (α × β)} {q:α × β} (h:q ∈ l):q.1 ∈ kG l:=by
 induction l with
 | nil=>cases h
 | cons a l ih =>
  rcases List.mem_cons.1 h with rfl|h
  ·exact List.mem_cons_self
  ·exact List.mem_cons_of_mem _ (ih h)
def kH (e:Eff):LE:=⟨kG e.need,kG e.upd⟩
def tt (lg:Bool) (e:LE) (log:List LE):List LE:=if lg then e::log else log
def ev (P:Program) (md:Nat→Bool) (gl:List (Nat × Nat)) (p:Oid) (c:Nat) (lg:Bool) (C:Nat→List LOp→FuncId→List AV→List (Nat × AV)→Mem→List LE→Prop) (S:Nat→List LOp→List (Nat × AV)→Mem→List LE→Prop)
    (K:List (Nat × AV)→Mem→List LE→Prop):Nat→List LOp→List (Nat × AV)→Mem→List LE→Prop
 | _,[],fr,m,log=>K fr m log
 | i,o::rest,fr,m,log =>
  match mH gl o.guard (F fr) with
  | some b=>both b
    (match opL P m (.sub c i p) md (evA fr) o.dst o.op with
     | .eff e=>ev P md gl p c lg C S K (i+1) rest (put o.dst e.val fr) (m.aI e.upd) (tt lg (kH e) log)
     | .call f xs=>C i (o::rest) f xs fr m log
     | .no=>S i (o::rest) fr m log)
    (ev P md gl p c lg C S K (i+1) rest (put o.dst (.tuple []) fr) m (tt lg LE.none log))
  | none=>False
section
variable (P:Program) (md:Nat→Bool) (gl:List (Nat × Nat)) (p:Oid) (c:Nat) (lg:Bool) (C:Nat→List LOp→FuncId→List AV→List (Nat × AV)→Mem→List LE→Prop) (S:Nat→List LOp→List (Nat × AV)→Mem→List LE→Prop)
  (K:List (Nat × AV)→Mem→List LE→Prop) (i:Nat) (o:LOp) (rest:List LOp) (fr:List (Nat × AV)) (m:Mem) (log:List LE)
def evR (r:OpR):Prop:=match r with
 | .eff e=>ev P md gl p c lg C S K (i+1) rest (put o.dst e.val fr) (m.aI e.upd) (tt lg (kH e) log)
 | .call f xs=>C i (o::rest) f xs fr m log
 | .no=>S i (o::rest) fr m log
def evG (b:Option Bool):Prop:=match b with
 | some b=>both b (evR P md gl p c lg C S K i o rest fr m log (opL P m (.sub c i p) md (evA fr) o.dst o.op)) (ev P md gl p c lg C S K (i+1) rest (put o.dst (.tuple []) fr) m (tt lg LE.none log))
 | none=>False
theorem nr {α:Sort u} {a b:α} (h:a=b):a=b:=h
theorem Ix:ev P md gl p c lg C S K i [] fr m log=K fr m log:=nr (by rw [ev])
theorem Iy (dst:Option Nat) (op:Op):ev P md gl p c lg C S K i (⟨dst,op,none⟩::rest) fr m log=evR P md gl p c lg C S K i ⟨dst,op,none⟩ rest fr m log (opL P m (.sub c i p) md (evA fr) dst op):=nr (by
 rw [ev];simp only [mH,qp];rfl)
theorem AZ (dst:Option Nat) (op:Op) (j:Nat) (w:Bool):ev P md gl p c lg C S K i (⟨dst,op,some (j,w)⟩::rest) fr m log=evG P md gl p c lg C S K i ⟨dst,op,some (j,w)⟩ rest fr m log (mH gl (some (j,w)) (F fr)):=nr (by
 rw [ev];rfl)
theorem Eh (e:Eff):evR P md gl p c lg C S K i o rest fr m log (.eff e)=ev P md gl p c lg C S K (i+1) rest (put o.dst e.val fr) (m.aI e.upd) (tt lg (kH e) log):=nr (by rw [evR])
theorem A1 (f:FuncId) (xs:List AV):evR P md gl p c lg C S K i o rest fr m log (.call f xs)=C i (o::rest) f xs fr m log:=nr (by rw [evR])
theorem Iz:evR P md gl p c lg C S K i o rest fr m log .no=S i (o::rest) fr m log:=nr (by rw [evR])
theorem A2:evG P md gl p c lg C S K i o rest fr m log (some true)=evR P md gl p c lg C S K i o rest fr m log (opL P m (.sub c i p) md (evA fr) o.dst o.op):=nr (by rw [evG];simp only [qp])
theorem yk:evG P md gl p c lg C S K i o rest fr m log (some false)=ev P md gl p c lg C S K (i+1) rest (put o.dst (.tuple []) fr) m (tt lg LE.none log):=nr (by rw [evG];simp only [vm])
variable {P md gl p c lg C S K i o rest fr m log}
theorem aD {b:Bool} (h1:b=true→evR P md gl p c lg C S K i o rest fr m log (opL P m (.sub c i p) md (evA fr) o.dst o.op)) (h2:b=false→ev P md gl p c lg C S K (i+1) rest (put o.dst (.tuple []) fr) m (tt lg LE.none log)) :
  evG P md gl p c lg C S K i o rest fr m log (some b):=⟨h1,h2⟩
end
section
variable {P:Program} [Laid P] {md:Nat→Bool} {ops:Array Oper} {p:Oid} {c:Nat} {gl:List (Nat × Nat)}
theorem im {i:Nat} {o:Oper} {rest:List Oper} (h:ops.toList.drop i=o::rest):ops.toList.drop (i+1)=rest:=by
 have:(ops.toList.drop i).drop 1=rest:=by rw [h];rfl
 rwa [List.drop_drop] at this
def Ei (P:Program) [Laid P] (md:Nat→Bool) (ops:Array Oper) (p:Oid) (c:Nat) (K:List (Nat × AV)→Mem→Prop) (Kp:AV→List (Nat × AV)→Mem→Prop):Nat→List LOp→FuncId→List AV→List (Nat × AV)→Mem→List LE→Prop :=
 fun i L f xs fr m _=>∀ o rest,ops.toList.drop i=o::rest→dx (o::rest)=L→∃ need R Rp,bV P f xs (Oid.under (.sub c i p)) need R Rp∧(∀ q,q ∈ need→m q.1=some q.2)∧(∀ val upd,R val upd→gp P md ops p c (i+1) rest (put o.dst val fr) (m.aI upd) K Kp)∧∀ pv upd,Rp pv upd→Kp pv fr (m.aI upd)
def MF (P:Program) [Laid P] (dst:Option Nat) (op:Op) (ρ:Operand→AV) (sp:Oid→Prop) (need:List (Oid × aw)) (R Rp:AV→List (Oid × Option aw)→Prop):Prop :=
 ∀ o:Oper,o.dst=dst→o.op=op→lj P o ρ sp need R Rp
def MG (P:Program) [Laid P] (dst:Option Nat) (op:Op) (ρ:Operand→AV) (sp:Oid→Prop) (e:Eff):Prop:=∀ o:Oper,o.dst=dst→o.op=op→aF P o ρ sp e
def Lv (P:Program) [Laid P] (md:Nat→Bool) (ops:Array Oper) (p:Oid) (c:Nat) (K:List (Nat × AV)→Mem→Prop) (Kp:AV→List (Nat × AV)→Mem→Prop):Nat→List LOp→List (Nat × AV)→Mem→List LE→Prop :=
 fun i L fr m _=>∀ o rest,ops.toList.drop i=o::rest→dx (o::rest)=L→∃ need R Rp,lj P o (evA fr) (Oid.under (.sub c i p)) need R Rp∧(∀ q,q ∈ need→m q.1=some q.2)∧(∀ val upd,R val upd→gp P md ops p c (i+1) rest (put o.dst val fr) (m.aI upd) K Kp)∧∀ pv upd,Rp pv upd→Kp pv fr (m.aI upd)
theorem iq {K:List (Nat × AV)→Mem→Prop} {Kp:AV→List (Nat × AV)→Mem→Prop} {lg:Bool} (hg:pP ops gl=true):∀ (rest:List Oper) (i:Nat) (fr:List (Nat × AV)) (m:Mem) (log:List LE),ops.toList.drop i=rest →
  ev P md gl p c lg (Ei P md ops p c K Kp) (Lv P md ops p c K Kp) (fun fr m _=>K fr m) i (dx rest) fr m log→gp P md ops p c i rest fr m K Kp
 | [],_,_,_,_,_,h=>h
 | o::rest,i,fr,m,log,hd,h=>by
  simp only [dx,ev] at h
  simp only [gp]
  cases hw:mH gl (om o).guard (F fr) with
  | none=>simp only [hw] at h
  | some b =>
   simp only [hw] at h
   rw [tq (o:=o) hg hw]
   cases b with
   | true =>
    have h:=h.1 rfl
    rw [vn]
    simp only [om] at h
    simp only
    cases ho:opL P m (.sub c i p) md (evA fr) o.dst o.op with
    | eff e=>simp only [ho] at h;exact iq hg rest _ _ _ _ (im hd) h
    | call f xs=>simp only [ho] at h;exact .inr (h o rest hd rfl)
    | no=>simp only [ho] at h;exact h o rest hd rfl
   | false=>exact iq hg rest _ _ _ _ (im hd) (h.2 rfl)
def mI (ops:Array Oper) (i:Nat) (rest:List Oper) (log:List Eff):Prop:=(∀ j,rest[j]? = ops[i+j]?)∧log.length=i∧∀ (k:Nat) o e,ops[k]? = some o→log.reverse[k]? = some e→yh o e
def KT (ops:Array Oper) (K:List (Nat × AV)→Mem→List Eff→Prop) (fr:List (Nat × AV)) (m:Mem) (log:List Eff):Prop:=K fr m log∧∀ (k:Nat) o e,ops[k]? = some o→log.reverse[k]? = some e→yh o e
theorem mI.step {i:Nat} {o:Oper} {rest:List Oper} {log:List Eff} (h:mI ops i (o::rest) log) {e:Eff} (he:yh o e):mI ops (i+1) rest (e::log):=by
 obtain ⟨hl,hn,ht⟩:=h
 have h0:ops[i]? = some o:=by simpa using (hl 0).symm
 refine ⟨fun j=>by have:=hl (j+1);simpa [Nat.add_assoc,Nat.add_comm 1 j] using this,by simp [hn],?_⟩
 intro k o' e' ho' he'
 rw [List.reverse_cons] at he'
 by_cases hk:k < log.reverse.length
 ·rw [List.getElem?_append_left hk] at he';exact ht k o' e' ho' he'
 ·rw [List.getElem?_append_right (by omega)] at he'
  have hk0:k - log.reverse.length=0:=by
   cases hz:k - log.reverse.length with
   | zero=>rfl
   | succ z=>rw [hz] at he';simp at he'
  have hki:k=i:=by rw [List.length_reverse,hn] at hk0 hk;omega
  subst hki
  rw [hk0] at he'
  simp only [List.getElem?_cons_zero,Option.some.injEq] at he'
  rw [h0] at ho';simp only [Option.some.injEq] at ho'
  subst ho';subst he';exact he
theorem mI.drop {i:Nat} {rest:List Oper} {log:List Eff} (h:mI ops i rest log):ops.toList.drop i=rest:=by
 apply List.ext_getElem?
 intro j
 rw [List.getElem?_drop,h.1 j];simp
def wW (P:Program) [Laid P] (ops:Array Oper) (p:Oid) (c:Nat) (K:List (Nat × AV)→Mem→List LE→Prop):Nat→List LOp→FuncId→List AV→List (Nat × AV)→Mem→List LE→Prop :=
 fun i L f xs fr m lg=>∀ o rest log,mI ops i (o::rest) log→log.map kH=lg→dx (o::rest)=L→(fi o.op=false∧gm o.op=false)→∃ e,af P f xs (Oid.under (.sub c i p)) e∧(∀ q,q ∈ e.need→m q.1=some q.2) ∧
     dF P ops p c (i+1) rest (put o.dst e.val fr) (m.aI e.upd) (e::log) (KT ops fun fr m log=>K fr m (log.map kH))
def HG (P:Program) [Laid P] (ops:Array Oper) (p:Oid) (c:Nat) (K:List (Nat × AV)→Mem→List LE→Prop):Nat→List LOp→List (Nat × AV)→Mem→List LE→Prop :=
 fun i L fr m lg=>∀ o rest log,mI ops i (o::rest) log→log.map kH=lg→dx (o::rest)=L→∃ e,aF P o (evA fr) (Oid.under (.sub c i p)) e∧(∀ q,q ∈ e.need→m q.1=some q.2) ∧
     dF P ops p c (i+1) rest (put o.dst e.val fr) (m.aI e.upd) (e::log) (KT ops fun fr m log=>K fr m (log.map kH))
theorem gq {K:List (Nat × AV)→Mem→List LE→Prop} (hg:pP ops gl=true):∀ (rest:List Oper) (i:Nat) (fr:List (Nat × AV)) (m:Mem) (log:List Eff),mI ops i rest log →
  ev P md gl p c true (wW P ops p c K) (HG P ops p c K) K i (dx rest) fr m (log.map kH)→dF P ops p c i rest fr m log (KT ops fun fr m log=>K fr m (log.map kH))
 | [],_,_,_,_,hL,h=>⟨h,hL.2.2⟩
 | o::rest,i,fr,m,log,hL,h=>by
  simp only [dx,ev] at h
  simp only [dF]
  cases hw:mH gl (om o).guard (F fr) with
  | none=>simp only [hw] at h
  | some b =>
   simp only [hw] at h
   rw [tq (o:=o) hg hw]
   cases b with
   | true =>
    have h:=h.1 rfl
    simp only [om] at h
    simp only
    cases ho:opL P m (.sub c i p) md (evA fr) o.dst o.op with
    | eff e =>
     simp only [ho] at h
     rw [← vn] at ho
     obtain ⟨h1,h2⟩:=AM (sp:=Oid.under (.sub c i p)) (Oid.az _) (fun t=>Oid.sQ t _) rfl ho
     exact ⟨e,h1,h2,gq hg rest _ _ _ (e::log) (hL.step ⟨fun hi=>AO hi ho,fun hi=>AP hi ho⟩) h⟩
    | call f xs =>
     simp only [ho] at h
     rw [← vn] at ho
     have i1:fi o.op=false:=by
      cases hi:fi o.op with
      | false=>rfl
      | true=>exact (pL hi ho).elim
     have i2:gm o.op=false:=by
      cases hi:gm o.op with
      | false=>rfl
      | true=>exact (pO hi ho).elim
     obtain ⟨e,h1,h2,h3⟩:=h o rest log hL rfl rfl ⟨i1,i2⟩
     exact ⟨e,tf ho h1,h2,h3⟩
    | no =>
     simp only [ho] at h
     exact h o rest log hL rfl rfl
   | false=>exact gq hg rest _ _ _ (Eff.none::log) (hL.step ⟨fun _=>⟨rfl,rfl⟩,fun _=>rfl⟩) (h.2 rfl)
def wX (a b:LE):Prop:=(∀ i,i ∈ a.upd→∀ j,j ∈ b.need→i≠j)∧(∀ i,i ∈ a.upd→∀ j,j ∈ b.upd→i≠j)∧(∀ i,i ∈ a.need→∀ j,j ∈ b.upd→i≠j)
def tu (E:List LE):List (Nat × Nat)→Prop
 | []=>True
 | (i,j)::r=>wX (E.getD i LE.none) (E.getD j LE.none)∧tu E r
theorem tw {a b:LE} (ha:a.upd=[]) (hb:b.upd=[]):wX a b:=by
 unfold wX;rw [ha,hb]
 refine ⟨?_,?_,?_⟩<;>intro i h j k<;>first|(cases h;done)|(cases k;done)
theorem aV {E:List LE} (h:(E.all fun e=>e.upd.isEmpty)=true):∀ {U:List (Nat × Nat)},tu E U
 | []=>trivial
 | (i,j)::r=>by
  have hget:∀ k,(E.getD k LE.none).upd=[]:=fun k=>by
   rw [List.getD_eq_getElem?_getD]
   cases hk:E[k]? with
   | none=>rfl
   | some e =>
    rw [List.all_eq_true] at h
    exact List.isEmpty_iff.1 (h e (List.mem_of_getElem? hk))
  exact ⟨tw (hget i) (hget j),aV h⟩
theorem qy {E:List Eff}:∀ {U:List (Nat × Nat)},tu (E.map kH) U→AQ E U
 | [],_=>trivial
 | (i,j)::r,h=>by
  have hget:∀ k,(E.map kH).getD k LE.none=kH (E.getD k Eff.none):=fun k=>by
   simp only [List.getD_eq_getElem?_getD,List.getElem?_map]
   cases E[k]? <;> rfl
  simp only [tu,hget] at h
  obtain ⟨⟨h1,h2,h3⟩,h4⟩:=h
  exact ⟨⟨fun q hq q' hq'=>h1 _ (il hq) _ (il hq'),fun q hq q' hq'=>h2 _ (il hq) _ (il hq'),fun q hq q' hq'=>h3 _ (il hq) _ (il hq')⟩,qy h4⟩
end
end Go.Ab
namespace Go.Ab
inductive Pc where
 | code (c:Code)
 | bend (id:Nat)
 | lend (ts:List Nat) (I:Nat→AS→Prop) (k:Nat)
def after (P:Program) (x:Ctx) (n:Nat) (Q:AX→AS→Prop):List Pc→AX→AS→Prop
 | [],e,s=>Q e s
 | k::ks,e,s=>match k,e with
  | .code c,.normal=>T P x n c s (after P x n Q ks)
  | .lend ts I k,.normal=>∃ k' m',k' < k∧(∀ i o,m' i=some o→s.mem i=some o)∧I k' ⟨cH ts s.fr,m',s.c,s.ds⟩
  | .bend j,.exit i=>if i=j then after P x n Q ks .normal s else after P x n Q ks (.exit i) s
  | _,e=>after P x n Q ks e s
section
variable {P:Program} [Laid P] {x:Ctx} {n:Nat} {Q:AX→AS→Prop} {ks:List Pc} {s:AS} {fr:List (Nat × AV)} {m:Mem} {c:Nat} {ds:List AD}
theorem ot {a:Code} (h:T P x n a s (after P x n Q ks)):after P x n Q (.code a::ks) .normal s:=h
theorem bZ {e:AX} (h:Q e s):after P x n Q [] e s:=h
theorem IA {i:Nat} (h:after P x n Q ks .normal s):after P x n Q (.bend i::ks) (.exit i) s:=by simp only [after,if_true];exact h
theorem MH {i j:Nat} (hj:(Nat.beq i j)=false) (h:after P x n Q ks (.exit i) s):after P x n Q (.bend j::ks) (.exit i) s:=by
 have:¬ i=j:=fun e=>by subst e;simp at hj
 simp only [after,if_neg this];exact h
theorem jO:∀ {ks:List Pc},Q .ret s→after P x n Q ks .ret s
 | [],h=>h
 | .code _::ks,h=>jO (ks:=ks) h
 | .bend _::ks,h=>jO (ks:=ks) h
 | .lend .. :: ks,h=>jO (ks:=ks) h
theorem e9 {v:AV}:∀ {ks:List Pc},Q (.panic v) s→after P x n Q ks (.panic v) s
 | [],h=>h
 | .code _::ks,h=>e9 (ks:=ks) h
 | .bend _::ks,h=>e9 (ks:=ks) h
 | .lend .. :: ks,h=>e9 (ks:=ks) h
theorem ou {a b:Code} (h:T P x n a s (after P x n Q (.code b::ks))):T P x n (.seq a b) s (after P x n Q ks) :=
 Lr (ku h fun e s h=>by cases e<;>exact h)
theorem IB (h:after P x n Q ks .normal s):T P x n .skip s (after P x n Q ks):=Il h
theorem aA (h:Q .ret s):T P x n .ret s (after P x n Q ks):=Lp (jO h)
theorem IC {i:Nat} (h:after P x n Q ks (.exit i) s):T P x n (.exit i) s (after P x n Q ks):=Im h
theorem gI {id:Nat} {a:Code} (h:T P x n a s (after P x n Q (.bend id::ks))):T P x n (.block id a) s (after P x n Q ks) :=
 DV (ku h fun e s h=>by cases e<;>first|exact h|(simp only [after] at h;simp only [AX.inBlock];split<;>simp_all))
theorem bm (ts:List Nat) {a:Code} (I:Nat→AS→Prop) (k:Nat) (h0:I k ⟨cH ts fr,m,c,ds⟩)
  (round:∀ k s,I k s→T P x n a s (after P x n Q (.lend ts I k::ks))):T P x n (.loop a) ⟨fr,m,c,ds⟩ (after P x n Q ks):=by
 refine Ip (fun k s=>∃ m',(∀ i o,m' i=some o→s.mem i=some o)∧I k ⟨cH ts s.fr,m',s.c,s.ds⟩) k ⟨m,fun _ _ h=>h,h0⟩ ?_
 rintro k ⟨fr',m1,c',ds'⟩ ⟨m',hm,hi⟩
 refine kU (s:=⟨fr',m1,c',ds'⟩) (cH ts fr') (fun t _=>nv ts fr' t) ?_
 refine rz (s:=⟨cH ts fr',m1,c',ds'⟩) m' hm ?_
 refine ku (round k _ hi) fun e s h=>?_
 cases e with
 | normal=>obtain ⟨k',m',h1,h2,h3⟩:=h;exact ⟨k',h1,m',h2,h3⟩
 | _=>exact h
theorem jr {t:Nat} {a b:Code} {v:Bool} (ht:(decide (t < n))=true) (hv:F fr t = .bool v) (h1:v=true→T P x n a ⟨fr,m,c,ds⟩ (after P x n Q ks)) (h2:v=false→T P x n b ⟨fr,m,c,ds⟩ (after P x n Q ks)) :
  T P x n (.cond (.tmp t) a b) ⟨fr,m,c,ds⟩ (after P x n Q ks):=Lt ht hv h1 h2
theorem aX {t:Nat} {a b:Code} {p:Prop} {i:Decidable p} (ht:(decide (t < n))=true) (hv:F fr t = .bool (decide p)) (h1:p→T P x n a ⟨fr,m,c,ds⟩ (after P x n Q ks)) (h2:¬ p→T P x n b ⟨fr,m,c,ds⟩ (after P x n Q ks)) :
  T P x n (.cond (.tmp t) a b) ⟨fr,m,c,ds⟩ (after P x n Q ks):=Lt ht hv (fun h=>h1 (of_decide_eq_true h)) (fun h=>h2 (of_decide_eq_false h))
theorem aq {t:Nat} {a b:Code} (ht:(decide (t < n))=true) (hv:F fr t = .bool true) (h1:T P x n a ⟨fr,m,c,ds⟩ (after P x n Q ks)):T P x n (.cond (.tmp t) a b) ⟨fr,m,c,ds⟩ (after P x n Q ks):=jr ht hv (fun _=>h1) (fun h=>by cases h)
theorem ar {t:Nat} {a b:Code} (ht:(decide (t < n))=true) (hv:F fr t = .bool false) (h1:T P x n b ⟨fr,m,c,ds⟩ (after P x n Q ks)):T P x n (.cond (.tmp t) a b) ⟨fr,m,c,ds⟩ (after P x n Q ks):=jr ht hv (fun h=>by cases h) (fun _=>h1)
def Cut (P:Program) (x:Ctx) (n:Nat) (Q:AX→AS→Prop) (ks:List Pc) (ts:List Nat) (R:AS→Prop):AX→AS→Prop
 | .normal,s=>∃ m',(∀ i o,m' i=some o→s.mem i=some o)∧R ⟨cH ts s.fr,m',s.c,s.ds⟩
 | e,s=>after P x n Q ks e s
theorem cQ {a b:Code} (ts:List Nat) (R:AS→Prop) (h:T P x n a s (after P x n (Cut P x n Q ks ts R) [])) (h2:∀ s,R s→T P x n b s (after P x n Q ks)):T P x n a s (after P x n Q (.code b::ks)) :=
 ku h fun e s h=>by
  cases e with
  | normal =>
   obtain ⟨m',h1,h3⟩:=h
   obtain ⟨fr',m1,c',ds'⟩:=s
   refine kU (s:=⟨fr',m1,c',ds'⟩) (cH ts fr') (fun t _=>nv ts fr' t) ?_
   exact rz (s:=⟨cH ts fr',m1,c',ds'⟩) m' h1 (h2 _ h3)
  | _=>exact h
theorem aT {ts:List Nat} {R:AS→Prop} (h:R ⟨cH ts fr,m,c,ds⟩):after P x n (Cut P x n Q ks ts R) [] .normal ⟨fr,m,c,ds⟩:=⟨m,fun _ _ h=>h,h⟩
theorem MI {a:Code} (fr':List (Nat × AV)) (hk:fr'.all (fun q=>decide (q.1 < n))=true) (hv:∀ q,q ∈ fr'→q.2=F fr q.1) (h:T P x n a ⟨fr',m,c,ds⟩ Q):T P x n a ⟨fr,m,c,ds⟩ Q:=by
 refine kU (s:=⟨fr,m,c,ds⟩) fr' (fun t _=>?_) h
 clear hk h
 induction fr' with
 | nil=>exact .inl rfl
 | cons q l ih =>
  simp only [F]
  split
  ·rename_i h;right;rw [hv q List.mem_cons_self,h]
  ·exact ih fun q' hq'=>hv q' (List.mem_cons_of_mem _ hq')
theorem l3 {a:Code} (t sz:Nat) (ht:F fr t = .nilSl) (h:T P x n a ⟨(t,.list sz [])::fr,m,c,ds⟩ Q):T P x n a ⟨fr,m,c,ds⟩ Q:=by
 refine jJ (s:=⟨fr,m,c,ds⟩) (s':=⟨(t,.list sz [])::fr,m,c,ds⟩) (fun g b w hr=>⟨g,hr.mr,hr.tm,hr.df,fun u hu=>?_,hr.young⟩) h
 simp only [F]
 split
 ·rename_i e;subst e
  have:=hr.fr u hu
  simp only [ht] at this
  rw [this.bJ];exact .listNil _
 ·exact hr.fr u hu
theorem js {a:Code} (t sz:Nat) (ht:F fr t = .nilSl) (h:T P x n a ⟨(t,.sl (.sub c 0 x.p) sz 0)::fr,m.set (.sub c 0 x.p) (some (.arr sz [])),c+1,ds⟩ Q):T P x n a ⟨fr,m,c,ds⟩ Q:=by
 refine jJ (s:=⟨fr,m,c,ds⟩) _ (fun g b w hr=>?_) h
 have hl:g.loc (.sub c 0 x.p)=none:=hr.young _ ⟨c,0,Nat.le_refl _,Oid.az _⟩
 have hle:=Gh.kA hl
 refine ⟨g.cN (.sub c 0 x.p),hr.mr.wT sz hl (Oid.ae (Oid.az _)),hr.tm,hr.df.mono hle,fun u hu=>?_,fun i hi=>?_⟩
 ·simp only [F]
  split
  ·rename_i e;subst e
   have:=hr.fr u hu
   simp only [ht] at this
   rw [this.bJ]
   exact .slNil _ _ (by simp [Gh.cN])
  ·exact (hr.fr u hu).mono hle
 ·simp only [Gh.cN]
  split
  ·rename_i e;subst e
   obtain ⟨c',i',h1,h2⟩:=hi
   have:=(Oid.apart (Oid.az _) h2).1
   simp only at h1
   omega
  ·exact hr.young i (hi.mono (Nat.le_succ _))
def pQ (i:Oid) (sz:Nat) (xs:List AV):AV→AV
 | .sl j s n=>if j=i∧s=sz∧n=xs.length then .list sz xs else .sl j s n
 | v=>v
def frz (i:Oid) (sz:Nat) (xs:List AV):List (Nat × AV)→List (Nat × AV)
 | []=>[]
 | q::l=>(q.1,pQ i sz xs q.2)::frz i sz xs l
theorem wY (i:Oid) (sz:Nat) (xs:List AV) (t:Nat):∀ fr,F (frz i sz xs fr) t=pQ i sz xs (F fr t)
 | []=>rfl
 | q::l=>by
  simp only [frz,F]
  split
  ·rfl
  ·exact wY i sz xs t l
theorem cI {a:Code} (i:Oid) (sz:Nat) (xs:List AV) (hi:m i=some (.arr sz xs)) (h:T P x n a ⟨frz i sz xs fr,m.set i none,c,ds⟩ Q):T P x n a ⟨fr,m,c,ds⟩ Q:=by
 refine AN (s:=⟨fr,m,c,ds⟩) i (frz i sz xs fr) hi (fun t _=>?_) h
 rw [wY]
 generalize F fr t=v
 unfold pQ
 split
 ·split
  ·rename_i h;obtain ⟨rfl,rfl,rfl⟩:=h;exact .inr (.inr ⟨rfl,rfl⟩)
  ·exact .inr (.inl rfl)
 ·exact .inr (.inl rfl)
theorem l4 {a:Code} (m':Mem) (hm:∀ i o,m' i=some o→m i=some o) (h:T P x n a ⟨fr,m',c,ds⟩ Q):T P x n a ⟨fr,m,c,ds⟩ Q:=rz (s:=⟨fr,m,c,ds⟩) m' hm h
theorem aj {id:Nat} {ops:Array Oper} (md:Nat→Bool) (gl:List (Nat × Nat)) (hng:Fit P x) (hok:(HF n P.globals.size ops && pP ops gl)=true)
  (h:sS x.p c m→∀ C S (K:List (Nat × AV)→Mem→List LE→Prop),
   (∀ {i o rest f xs fr m log} e,af P f xs (Oid.under (.sub c i x.p)) e→(∀ q,q ∈ e.need→m q.1=some q.2)→ev P md gl x.p c false C S K (i+1) rest (put o.dst e.val fr) (m.aI e.upd) log→C i (o::rest) f xs fr m log) →
   (∀ {i o rest f xs fr m log} need R Rp,bV P f xs (Oid.under (.sub c i x.p)) need R Rp→(∀ q,q ∈ need→m q.1=some q.2)→(∀ val upd,R val upd→ev P md gl x.p c false C S K (i+1) rest (put o.dst val fr) (m.aI upd) log) →
    (∀ pv upd,Rp pv upd→Q (.panic pv) ⟨fr,m.aI upd,c+1,ds⟩)→C i (o::rest) f xs fr m log) →
   (∀ {i o rest fr m log} need R Rp,MF P o.dst o.op (evA fr) (Oid.under (.sub c i x.p)) need R Rp→(∀ q,q ∈ need→m q.1=some q.2)→(∀ val upd,R val upd→ev P md gl x.p c false C S K (i+1) rest (put o.dst val fr) (m.aI upd) log) →
    (∀ pv upd,Rp pv upd→Q (.panic pv) ⟨fr,m.aI upd,c+1,ds⟩)→S i (o::rest) fr m log) →
   (∀ {fr m log},after P x n Q ks .normal ⟨fr,m,c+1,ds⟩→K fr m log) →
   ev P md gl x.p c false C S K 0 (dx ops.toList) fr m []):T P x n (.region id ops false) ⟨fr,m,c,ds⟩ (after P x n Q ks):=by
 simp only [Bool.and_eq_true] at hok
 obtain ⟨hok,hgl⟩:=hok
 refine th md hng hok fun hf=>?_
 let K0:List (Nat × AV)→Mem→Prop:=fun fr m=>after P x n Q ks .normal ⟨fr,m,c+1,ds⟩
 let Kp:AV→List (Nat × AV)→Mem→Prop:=fun pv fr m=>after P x n Q ks (.panic pv) ⟨fr,m,c+1,ds⟩
 refine iq (md:=md) (lg:=false) (K:=K0) (Kp:=Kp) hgl _ _ _ _ [] (by simp) ?_
 refine h hf _ _ _ ?_ ?_ ?_ ?_
 ·intro i o rest f xs fr m log e h1 h2 h3 o' rest' hd hl
  simp only [dx,List.cons.injEq] at hl
  obtain ⟨rfl,rfl⟩:=hl
  exact ⟨_,_,_,h1.nd,h2,fun val upd ⟨hv,hu⟩=>by subst hv;subst hu;exact iq hgl _ _ _ _ log (im hd) h3,fun _ _ h=>h.elim⟩
 ·intro i o rest f xs fr m log need R Rp h1 h2 h3 h4 o' rest' hd hl
  simp only [dx,List.cons.injEq] at hl
  obtain ⟨rfl,rfl⟩:=hl
  exact ⟨need,R,Rp,h1,h2,fun val upd hr=>iq hgl _ _ _ _ log (im hd) (h3 val upd hr),fun pv upd hr=>e9 (h4 pv upd hr)⟩
 ·intro i o rest fr m log need R Rp h1 h2 h3 h4 o' rest' hd hl
  simp only [dx,List.cons.injEq] at hl
  obtain ⟨rfl,rfl⟩:=hl
  exact ⟨need,R,Rp,h1 o' rfl rfl,h2,fun val upd hr=>iq hgl _ _ _ _ log (im hd) (h3 val upd hr),fun pv upd hr=>e9 (h4 pv upd hr)⟩
 ·intro fr m log h
  exact h
theorem cX {id:Nat} {ops:Array Oper} (md:Nat→Bool) (gl:List (Nat × Nat)) (U:List (Nat × Nat)) (hmx:P.follows .mixedOrders=true) (hng:Fit P x) (hok:(AT n P.globals.size ops U && pP ops gl)=true) (ts:List Nat)
  (h:sS x.p c m→∀ C S (K:List (Nat × AV)→Mem→List LE→Prop),
   (∀ {i o rest f xs fr m log} e,af P f xs (Oid.under (.sub c i x.p)) e→(∀ q,q ∈ e.need→m q.1=some q.2)→ev P md gl x.p c true C S (fun fr m log=>K (cH ts fr) m log) (i+1) rest (put o.dst e.val fr) (m.aI e.upd) (kH e::log)→C i (o::rest) f xs fr m log) →
   (∀ {i o rest fr m log} e,MG P o.dst o.op (evA fr) (Oid.under (.sub c i x.p)) e→fi o.op=false→gm o.op=false→(∀ q,q ∈ e.need→m q.1=some q.2)→ev P md gl x.p c true C S (fun fr m log=>K (cH ts fr) m log) (i+1) rest (put o.dst e.val fr) (m.aI e.upd) (kH e::log)→S i (o::rest) fr m log) →
   (∀ {fr m log},tu log.reverse U→after P x n Q ks .normal ⟨fr,m,c+1,ds⟩→K fr m log) →
   ev P md gl x.p c true C S (fun fr m log=>K (cH ts fr) m log) 0 (dx ops.toList) fr m []):T P x n (.region id ops true) ⟨fr,m,c,ds⟩ (after P x n Q ks):=by
 simp only [Bool.and_eq_true] at hok
 obtain ⟨hok,hgl⟩:=hok
 simp only [AT,Bool.and_eq_true] at hok
 obtain ⟨⟨k1,k2⟩,k3⟩:=hok
 have key:=pH (P:=P) (x:=x) (n:=n) (s:=⟨fr,m,c,ds⟩) (Q:=fun e s=>e = .normal∧after P x n Q ks .normal ⟨cH ts s.fr,s.mem,s.c,s.ds⟩) (id:=id) hmx hng k1 k2 fun hf=>by
  have h1:=gq (P:=P) (md:=md) (ops:=ops) (p:=x.p) (c:=c) (K:=fun fr m log=>tu log.reverse U∧after P x n Q ks .normal ⟨cH ts fr,m,c+1,ds⟩) hgl ops.toList 0 fr m [] ⟨fun j=>by simp,rfl,fun k o e _ he=>by simp at he⟩
   (h hf (wW P ops x.p c _) (HG P ops x.p c _) (fun fr m log=>tu log.reverse U∧after P x n Q ks .normal ⟨fr,m,c+1,ds⟩)
    (fun {i o rest f xs fr m log} e h1 h2 h3=>fun o' rest' log' hL hlg hl hi=>by
     simp only [dx,List.cons.injEq] at hl
     obtain ⟨rfl,rfl⟩:=hl
     subst hlg
     exact ⟨e,h1,h2,gq hgl _ _ _ _ (e::log') (hL.step (show yh o' e from ⟨fun h=>absurd h (by simp [hi.1]),fun h=>absurd h (by simp [hi.2])⟩)) h3⟩)
    (fun {i o rest fr m log} e h1 i1 i2 h2 h3=>fun o' rest' log' hL hlg hl=>by
     simp only [dx,List.cons.injEq] at hl
     obtain ⟨rfl,rfl⟩:=hl
     subst hlg
     simp only [om] at i1 i2
     exact ⟨e,h1 o' rfl rfl,h2,gq hgl _ _ _ _ (e::log') (hL.step (show yh o' e from ⟨fun h=>absurd h (by simp [i1]),fun h=>absurd h (by simp [i2])⟩)) h3⟩)
    (fun {fr m log} h1 h2=>⟨h1,h2⟩))
  refine gQ (N:=ops.size) ?_ _ _ _ _ _ (by simp) h1
  rintro fr1 m1 log hlen ⟨⟨hd,hq⟩,ht⟩
  refine ⟨yi k3 (by simpa using hlen) ht (qy (by rw [List.map_reverse];exact hd)),fun fr' hF=>⟨rfl,?_⟩⟩
  have:cH ts fr' = cH ts fr1:=by simp only [yg,hF]
  rw [this];exact hq
 intro g a w hr
 refine wpIn_mono (key g a w hr) fun e a' w' ⟨g',ex,s',h1,h2,h4,h5⟩=>?_
 subst h4
 exact ⟨g',.normal,⟨cH ts s'.fr,s'.mem,s'.c,s'.ds⟩,h1.forget _ (fun t _=>nv ts s'.fr t),h2,h5⟩
end
theorem gT {P:Program} [Laid P] {f:FuncId} {fn:Func} {n:Nat} {rs:List ResultVar} {c:Code} {xs:List AV} {p:Oid} {need:List (Oid × aw)} {R Rp:AV→List (Oid × Option aw)→Prop} (hf:P.funcs[f]? = some fn) (hn:fn.ntmps=n) (hr:fn.results.toList=rs)
  (hnm:(fn.name != "runtime.NumGoroutine")=true) (hl:(Nat.ble xs.length n)=true) (hok:fj n rs=true) (hb:fn.body=some c)
  (hT:∀ x:Ctx,x.p=p→x.rd=none→Fit P x→T P x n c ⟨cP 0 xs,Mem.of need,0,[]⟩ (after P x n (ez P rs need R Rp) [])):bV P f xs (Oid.under p) need R Rp :=
 yj hf hn hr hnm hl hok hb fun x h1 h2 h3=>ku (hT x h1 h2 h3) fun _ _ h=>h
theorem aJ {P:Program} [Laid P] {f:FuncId} {fn:Func} {n:Nat} {rs:List ResultVar} {c:Code} {xs:List AV} {p:Oid} {e:Eff} (hf:P.funcs[f]? = some fn) (hn:fn.ntmps=n) (hr:fn.results.toList=rs)
  (hnm:(fn.name != "runtime.NumGoroutine")=true) (hl:(Nat.ble xs.length n)=true) (hok:fj n rs=true) (hb:fn.body=some c)
  (hT:∀ x:Ctx,x.p=p→x.rd=none→Fit P x→T P x n c ⟨cP 0 xs,Mem.of e.need,0,[]⟩ (after P x n (ez P rs e.need (fun v u=>v=e.val∧u=e.upd) fun _ _=>False) [])):af P f xs (Oid.under p) e :=
 (gT hf hn hr hnm hl hok hb hT).ok
theorem bO {P:Program} {rs:List ResultVar} {need:List (Oid × aw)} {R Rp:AV→List (Oid × Option aw)→Prop} {fr:List (Nat × AV)} {m:Mem} {c:Nat} (val:AV) (upd:List (Oid × Option aw)) (h1:gR P m fr rs=some val) (h2:R val upd)
  (h3:∀ i o,((Mem.of need).aI upd) i=some o→m i=some o):ez P rs need R Rp .ret ⟨fr,m,c,[]⟩:=⟨val,upd,h1,h2,h3⟩
theorem b8 {P:Program} {rs:List ResultVar} {need:List (Oid × aw)} {R Rp:AV→List (Oid × Option aw)→Prop} {fr:List (Nat × AV)} {m:Mem} {c:Nat} (val:AV) (upd:List (Oid × Option aw)) (h1:gR P m fr rs=some val) (h2:R val upd)
  (h3:∀ i o,((Mem.of need).aI upd) i=some o→m i=some o):ez P rs need R Rp .normal ⟨fr,m,c,[]⟩:=⟨val,upd,h1,h2,h3⟩
theorem ay {P:Program} {rs:List ResultVar} {val:AV} {fr:List (Nat × AV)} {m:Mem} {c:Nat} (h1:gR P m fr rs=some val):ez P rs [] (fun v u=>v=val∧u=[]) (fun _ _=>False) .ret ⟨fr,m,c,[]⟩ :=
 bO val [] h1 ⟨rfl,rfl⟩ fun i o h=>by cases h
theorem bd {P:Program} {t:Nat} {val:AV} {fr:List (Nat × AV)} {m:Mem} {c:Nat} (h1:F fr t=val):ez P [.tmp t] [] (fun v u=>v=val∧u=[]) (fun _ _=>False) .ret ⟨fr,m,c,[]⟩ :=
 ay (by simp only [gR,rK,h1,Ef])
theorem rM {P:Program} [Laid P] {x:Ctx} {n:Nat} {ks:List Pc} {t sz k c:Nat} {id:Oid} {xs ys:List AV} {fr:List (Nat × AV)} {m:Mem} (hv:F fr t = .sl id sz k) (hi:m id=some (.arr sz xs)) (hk:k=xs.length) (hx:xs=ys) :
  T P x n .ret ⟨fr,m,c,[]⟩ (after P x n (ez P [.tmp t] [] (fun v u=>v = .list sz ys∧u=[]) (fun _ _=>False)) ks):=by
 subst hx
 refine cI id sz xs hi (aA (bd ?_))
 rw [wY,hv,pQ,if_pos ⟨rfl,rfl,hk⟩]
end Go.Ab
namespace Go.Ab
def gd (p:Prop) [Decidable p] (v:Option AV):Option AV:=if p then v else none
theorem ID {p:Prop} [Decidable p] {v:Option AV} (h:p):gd p v=v:=if_pos h
def gdR (p:Prop) [Decidable p] (v:OpR):OpR:=if p then v else .no
theorem Ej {p:Prop} [Decidable p] {v:OpR} (h:p):gdR p v=v:=if_pos h
theorem vo (s:List UInt8) (k:IntKind) (n:Int):lV (some .str) (.str s) (.int k n)=gd (0≤n∧n < s.length) (some (.int .u8 (s.getD n.toNat 0).toNat)):=rfl
theorem nc (el:TypeId) (ag:Bool) (sz by' sz':Nat) (xs:List AV) (k:IntKind) (n:Int):dZ (some (.slice el ag sz by')) (.list sz' xs) (.int k n)=gd (sz' = sz∧0≤n∧n < xs.length) (some (.eptr (xs.getD n.toNat .undef))):=rfl
theorem pR (el:TypeId) (ag:Bool) (sz by' sz' len:Nat) (id:Oid) (k:IntKind) (n:Int):dZ (some (.slice el ag sz by')) (.sl id sz' len) (.int k n)=gd (sz' = sz∧0≤n∧n < len) (some (.aptr id sz n.toNat 0)):=rfl
theorem ov (el:TypeId) (ag:Bool) (sz len off:Nat) (id:Oid) (k:IntKind) (n:Int):dZ (some (.arr len el ag sz)) (.ptr id off) (.int k n)=gd (0≤n∧n < len) (some (.ptr id (off+n.toNat * sz))):=rfl
theorem tx (s:List UInt8) (k:IntKind) (l:Int):eE (some .str) (.str s) (some (.int k l)) none=gd (0≤l∧l≤s.length) (some (.str (s.drop l.toNat))):=by
 simp only [eE,di,gd]
 by_cases h:0≤l∧l≤s.length
 ·rw [if_pos h,if_pos ⟨h.1,h.2,Int.le_refl _⟩];simp
 ·rw [if_neg h,if_neg (fun h'=>h ⟨h'.1,h'.2.1⟩)]
theorem tz (s:List UInt8) (k:IntKind) (h:Int):eE (some .str) (.str s) none (some (.int k h))=gd (0≤h∧h≤s.length) (some (.str (s.take h.toNat))):=by
 simp only [eE,di,gd]
 by_cases hc:0≤h∧h≤s.length
 ·rw [if_pos hc,if_pos ⟨Int.le_refl _,hc.1,hc.2⟩];simp
 ·rw [if_neg hc,if_neg (fun h'=>hc ⟨h'.2.1,h'.2.2⟩)]
theorem tA (s:List UInt8) (k k':IntKind) (l h:Int):eE (some .str) (.str s) (some (.int k l)) (some (.int k' h))=gd (0≤l∧l≤h∧h≤s.length) (some (.str ((s.take h.toNat).drop l.toNat))):=rfl
theorem rN (el:TypeId) (ag:Bool) (sz by' sz':Nat) (xs:List AV) (k:IntKind) (l:Int):eE (some (.slice el ag sz by')) (.list sz' xs) (some (.int k l)) none=gd (sz' = sz∧0≤l∧l≤xs.length) (some (.list sz (xs.drop l.toNat))):=by
 simp only [eE,di,gd]
 by_cases h:sz' = sz∧0≤l∧l≤xs.length
 ·rw [if_pos h,if_pos ⟨h.1,h.2.1,h.2.2,Int.le_refl _⟩];simp
 ·rw [if_neg h,if_neg (fun h'=>h ⟨h'.1,h'.2.1,h'.2.2.1⟩)]
theorem rO (el:TypeId) (ag:Bool) (sz by' sz':Nat) (xs:List AV) (k:IntKind) (h:Int):eE (some (.slice el ag sz by')) (.list sz' xs) none (some (.int k h))=gd (sz' = sz∧0≤h∧h≤xs.length) (some (.list sz (xs.take h.toNat))):=by
 simp only [eE,di,gd]
 by_cases hc:sz' = sz∧0≤h∧h≤xs.length
 ·rw [if_pos hc,if_pos ⟨hc.1,Int.le_refl _,hc.2.1,hc.2.2⟩];simp
 ·rw [if_neg hc,if_neg (fun h'=>hc ⟨h'.1,h'.2.2.1,h'.2.2.2⟩)]
theorem rP (el:TypeId) (ag:Bool) (sz by' sz':Nat) (xs:List AV) (k k':IntKind) (l h:Int):eE (some (.slice el ag sz by')) (.list sz' xs) (some (.int k l)) (some (.int k' h))=gd (sz' = sz∧0≤l∧l≤h∧h≤xs.length) (some (.list sz ((xs.take h.toNat).drop l.toNat))):=rfl
theorem vp (el:TypeId) (ag:Bool) (sz len:Nat) (cs:List AV) (k:IntKind) (n:Int):lV (some (.arr len el ag sz)) (.agg cs) (.int k n)=gd (0≤n∧n < len∧n.toNat * sz+sz≤cs.length∧(ag=true∨sz=1)) (some (kb ag cs (n.toNat * sz) sz)):=rfl
theorem A3 (k:IntKind) (a b:Int):gE .add k a b=some (.int k (k.wrap (a+b))):=rfl
theorem A4 (k:IntKind) (a b:Int):gE .sub k a b=some (.int k (k.wrap (a - b))):=rfl
theorem A5 (k:IntKind) (a b:Int):gE .mul k a b=some (.int k (k.wrap (a * b))):=rfl
theorem A6 (k:IntKind) (a b:Int):gE .quo k a b=gd (b≠0) (some (.int k (k.wrap (a.tdiv b)))):=rfl
theorem A7 (k:IntKind) (a b:Int):gE .rem k a b=gd (b≠0) (some (.int k (a.tmod b))):=rfl
theorem A8 (k:IntKind) (a b:Int):gE .and k a b=some (.int k (k.wrap (BitVec.ofInt k.bits a &&& BitVec.ofInt k.bits b).toNat)):=rfl
theorem Ek (k:IntKind) (a b:Int):gE .or k a b=some (.int k (k.wrap (BitVec.ofInt k.bits a ||| BitVec.ofInt k.bits b).toNat)):=rfl
theorem A9 (k:IntKind) (a b:Int):gE .xor k a b=some (.int k (k.wrap (BitVec.ofInt k.bits a ^^^ BitVec.ofInt k.bits b).toNat)):=rfl
theorem tB (k:IntKind) (a b:Int):gE .andNot k a b=some (.int k (k.wrap (BitVec.ofInt k.bits a &&& ~~~ BitVec.ofInt k.bits b).toNat)):=rfl
theorem ny {α:Type} [BEq α] [LawfulBEq α] [DecidableEq α] (a b:α):(a == b)=decide (a=b):=by
 rw [Bool.eq_iff_iff];simp
theorem wZ {α:Type} [BEq α] [LawfulBEq α] [DecidableEq α] (a b:α):(a != b)=decide (a≠b):=by
 rw [Bool.eq_iff_iff];simp
theorem Ba (k:IntKind) (a b:Int):gE .eql k a b=some (.bool (decide (a=b))):=by
 simp only [gE,ny]
theorem Bb (k:IntKind) (a b:Int):gE .neq k a b=some (.bool (decide (a≠b))):=by
 simp only [gE,wZ]
theorem Bc (k:IntKind) (a b:Int):gE .lss k a b=some (.bool (decide (a < b))):=rfl
theorem Bd (k:IntKind) (a b:Int):gE .leq k a b=some (.bool (decide (a≤b))):=rfl
theorem Be (k:IntKind) (a b:Int):gE .gtr k a b=some (.bool (decide (b < a))):=rfl
theorem Bf (k:IntKind) (a b:Int):gE .geq k a b=some (.bool (decide (b≤a))):=rfl
theorem vq (k:IntKind) (a b:Int):jh .shl k a b=gd (0≤b) (some (.int k (k.wrap (a * 2 ^ (min b.toNat k.bits))))):=by
 unfold jh gd
 by_cases h:0≤b
 ·rw [if_neg (by omega),if_pos h]
 ·rw [if_pos (by omega),if_neg h]
theorem vr (k:IntKind) (a b:Int):jh .shr k a b=gd (0≤b) (some (.int k (a.fdiv (2 ^ (min b.toNat k.bits))))):=by
 unfold jh gd
 by_cases h:0≤b
 ·rw [if_neg (by omega),if_pos h]
 ·rw [if_pos (by omega),if_neg h]
theorem Bg (a b:List UInt8):kW .add a b=gd (a.length+b.length≤9223372036854775807) (some (.str (a++b))):=rfl
theorem Bh (a b:List UInt8):kW .eql a b=some (.bool (decide (a=b))):=by
 simp only [kW,ny]
theorem Bi (a b:List UInt8):kW .neq a b=some (.bool (decide (a≠b))):=by
 simp only [kW,wZ]
def ltS (a b:List UInt8):Bool:=Op.bytesLess a b
theorem Bj (a b:List UInt8):kW .lss a b=some (.bool (ltS a b)):=rfl
theorem Bl (a b:List UInt8):kW .leq a b=some (.bool (ltS a b || decide (a=b))):=by
 simp only [kW,ltS,ny]
theorem Bm (a b:List UInt8):kW .gtr a b=some (.bool (!(ltS a b || decide (a=b)))):=by
 simp only [kW,ltS,ny]
theorem Bn (a b:List UInt8):kW .geq a b=some (.bool (!ltS a b)):=rfl
def yl (P:Program) (m:Mem) (nid:Oid) (k:Option TyK) (s:AV) (x:Option (List (Oid × aw) × List AV)):OpR :=
 match k,s,x with
 | some (.slice el _ sz by'),.nilSl,some (nd,ys)=>gdR (nW P el sz=true∧0 < by'∧ys.length * by'≤140737488355328) (.eff ⟨nd,.sl nid sz ys.length,[(nid,some (.arr sz ys))]⟩)
 | some (.slice el _ sz by'),.sl id sz' len,some (nd,ys)=>match m id with
  | some (.arr s' xs)=>gdR (nW P el sz=true∧sz' = sz∧s' = sz∧xs.length=len∧0 < by'∧(len+ys.length) * by'≤140737488355328)
     (.eff ⟨(id,.arr s' xs)::nd,.sl nid sz (len+ys.length),[(id,none),(nid,some (.arr sz (xs++ys)))]⟩)
  | _=>.no
 | _,_,_=>.no
def Bo:Option TyK→Nat
 | some (.slice _ _ sz _)=>sz
 | _=>0
theorem El (P:Program) (m:Mem) (nid:Oid) (t:TypeId) (s x:AV):vg P m nid t s x=yl P m nid (tyk P t) s (s4 m (Bo (tyk P t)) x):=by
 unfold vg yl
 cases tyk P t with
 | none=>rfl
 | some k =>
  cases k<;>try rfl
  simp only [Bo]
  generalize s4 m _ x=r
  cases r with
  | none=>cases s<;>rfl
  | some r =>
   obtain ⟨nd,ys⟩:=r
   cases s<;>rfl
def bP (i:Oid) (x:Option aw):List (Oid × aw)→List (Oid × aw)
 | []=>match x with
  | some o=>[(i,o)]
  | none=>[]
 | q::l=>if i=q.1 then (match x with
     | some o=>(i,o)::l
     | none=>bP i none l) else q::bP i x l
def bu:List (Oid × Option aw)→List (Oid × aw)→List (Oid × aw)
 | [],l=>l
 | q::u,l=>bu u (bP q.1 q.2 l)
theorem Mem.aP (i:Oid) (x:Option aw):∀ l,(Mem.of l).set i x=Mem.of (bP i x l)
 | []=>by cases x<;>(funext k;simp [Mem.of,Mem.set,bP,Mem.emp])
 | q::l=>by
  have ih:=fun x=>Mem.aP i x l
  simp only [bP]
  by_cases h:i=q.1
  ·rw [if_pos h]
   cases x with
   | some o=>funext k;simp only [Mem.of,Mem.set];subst h;split<;>rfl
   | none=>rw [← ih];funext k;simp only [Mem.of,Mem.set];subst h;split<;>rfl
  ·rw [if_neg h];funext k;simp only [Mem.of];rw [← ih];simp only [Mem.set]
   by_cases h1:k=i
   ·rw [if_pos h1,if_pos h1,if_neg (fun h2=>h (h1.symm.trans h2))]
   ·rw [if_neg h1,if_neg h1]
theorem Mem.aN:∀ (u:List (Oid × Option aw)) (l:List (Oid × aw)),(Mem.of l).aI u=Mem.of (bu u l)
 | [],_=>rfl
 | q::u,l=>by
  show ((Mem.of l).set q.1 q.2).aI u=_
  rw [Mem.aP,Mem.aN u];rfl
theorem Mem.IE:Mem.emp=Mem.of []:=rfl
theorem Mem.aG (i:Oid):Mem.of [] i=none:=rfl
theorem Mem.ao (q:Oid × aw) (l:List (Oid × aw)) (i:Oid):Mem.of (q::l) i=if i=q.1 then some q.2 else Mem.of l i:=rfl
theorem a7 {α:Type} (p:α→Prop):(∀ q,q ∈ ([]:List α)→p q)=True:=by simp
theorem aS {α:Type} (p:α→Prop) (a:α) (l:List α):(∀ q,q ∈ (a::l)→p q)=(p a∧∀ q,q ∈ l→p q):=by simp
theorem Oid.tC (c i:Nat) (p:Oid):(Oid.sub c i p=p)=False:=by
 apply eq_false
 intro h
 have:(Oid.sub c i p).depth=p.depth:=by rw [h]
 simp only [Oid.depth] at this;omega
theorem Oid.tD (c i:Nat) (p:Oid):(p=Oid.sub c i p)=False:=by
 apply eq_false
 intro h
 have:p.depth=(Oid.sub c i p).depth:=by rw [← h]
 simp only [Oid.depth] at this;omega
theorem Oid.IF {c c' i i':Nat} {p p':Oid} (h:c≠c'):(Oid.sub c i p=Oid.sub c' i' p')=False:=by
 apply eq_false;intro e;injection e with h1 _ _;exact h h1
theorem Oid.ab {p q:Oid} (h:¬ Oid.under p q) (c i:Nat):(q=Oid.sub c i p)=False:=by
 apply eq_false;intro e;subst e;exact h (Oid.ae (Oid.az _))
theorem Oid.aa {p q:Oid} (h:¬ Oid.under p q) (c i:Nat):(Oid.sub c i p=q)=False:=by
 apply eq_false;intro e;subst e;exact h (Oid.ae (Oid.az _))
theorem Oid.ow {p q:Oid} (h:¬ Oid.under p q):(q=p)=False:=by
 apply eq_false;intro e;subst e;exact h (Oid.az _)
theorem Oid.ox {p q:Oid} (h:¬ Oid.under p q):(p=q)=False:=by
 apply eq_false;intro e;subst e;exact h (Oid.az _)
theorem ym:s9 .nilSl=some .nilPtr:=rfl
theorem Bp (id:Oid) (sz n:Nat):s9 (.sl id sz n)=gd (0 < n) (some (.aptr id sz 0 0)):=rfl
theorem Bq (P:Program) (m:Mem) (t:TypeId) (n:Int):ta P m t .nilPtr (.int .i64 n)=gdR (n=0) (.eff ⟨[],.str [],[]⟩):=rfl
def Lw (P:Program) (id:Oid) (sz i off:Nat) (n:Int) (o:Option aw) (k:Option TyK):OpR :=
 match o,k with
 | some (.arr s xs),some (.ptr e)=>gdR (sz=1∧i=0∧off=0∧s=1∧id.tyd=some e∧shp P e=some (false,1)∧0 < xs.length∧n=xs.length∧xs.length≤140737488355328∧xs.all jm=true)
   (.eff ⟨[(id,.arr s xs)],.str (xs.map byteOf),[(id,none)]⟩)
 | _,_=>.no
theorem Br (P:Program) (m:Mem) (t:TypeId) (id:Oid) (sz i off:Nat) (n:Int):ta P m t (.aptr id sz i off) (.int .i64 n)=Lw P id sz i off n (m id) (tyk P t):=by
 simp only [ta]
 generalize m id=a
 generalize tyk P t=b
 cases a with
 | none=>rfl
 | some a=>cases a<;>first|rfl|(cases b with
  | none=>rfl
  | some b=>cases b<;>rfl)
def byA (b:UInt8):AV:=.int .u8 b.toNat
theorem vt (l:List UInt8):(l.map byA).all jm=true:=by
 rw [List.all_eq_true];intro v hv
 obtain ⟨b,_,rfl⟩:=List.mem_map.1 hv
 have:=b.toNat_lt
 show decide (b.toNat < 256)=true
 simp;omega
theorem vu (l:List UInt8):(l.map byA).map byteOf=l:=by
 rw [List.map_map]
 have:byteOf ∘ byA=id:=by funext b;simp [byteOf,byA,Int.toNat_natCast]
 rw [this,List.map_id]
def HH (P:Program) (sz:Nat) (xs:List AV) (a b:Option TyK):Option AV :=
 match a,b with
 | some (.slice el _ _ _),some .str=>gd (sz=1∧u8K (tyk P el)=true∧0 < xs.length∧xs.all jm=true) (some (.str (xs.map byteOf)))
 | _,_=>none
theorem vv (P:Program) (src dst:TypeId) (sz:Nat) (xs:List AV):oc P src dst (.list sz xs)=HH P sz xs (tyk P src) (tyk P dst):=by
 simp only [oc]
 generalize tyk P src=a
 generalize tyk P dst=b
 cases a with
 | none=>rfl
 | some a=>cases a<;>first|rfl|(cases b with
  | none=>rfl
  | some b=>cases b<;>rfl)
def HI (P:Program) (a b:Option TyK):Option AV :=
 match a,b with
 | some (.slice el _ _ _),some .str=>gd (u8K (tyk P el)=true) (some (.str []))
 | _,_=>none
theorem yn (P:Program) (src dst:TypeId):oc P src dst .nilSl=HI P (tyk P src) (tyk P dst):=by
 simp only [oc]
 generalize tyk P src=a
 generalize tyk P dst=b
 cases a with
 | none=>rfl
 | some a=>cases a<;>first|rfl|(cases b with
  | none=>rfl
  | some b=>cases b<;>rfl)
theorem vw (b:UInt8):jm (.int .u8 (b.toNat:Int))=true:=by
 have:=b.toNat_lt
 show decide (b.toNat < 256)=true
 simp;omega
theorem vx (b:UInt8):byteOf (.int .u8 (b.toNat:Int))=b:=by simp [byteOf,Int.toNat_natCast]
attribute [go_sem] vv yn HI HH vw vx
attribute [go_sem] ym Bp Bq Br Lw vt vu jM
def w5:Bool→Nat→Oid→Oid
 | true,t,nid=>.ty t nid
 | false,_,nid=>nid
theorem Bt (P:Program) (t:TypeId) (nid:Oid):gk P t nid=w5 (bA P t) t nid:=by
 unfold gk;cases bA P t<;>rfl
def w6:Bool→Option Nat→Nat→Oid→Oid
 | true,some t',t,nid=>if t' = t then .ty t nid else nid
 | _,_,_,nid=>nid
def Bu (P:Program) (k:Option TyK) (nid:Oid) (s:AV):Oid :=
 match k,s with
 | some (.slice el _ _ _),.nilSl=>w5 (rI (tyk P el)) el nid
 | some (.slice el _ _ _),.sl id _ _=>w6 (rI (tyk P el)) id.tyd el nid
 | _,_=>nid
theorem Bv (P:Program) (t:TypeId) (nid:Oid) (s:AV):mG P t nid s=Bu P (tyk P t) nid s:=by
 unfold mG Bu
 split
 ·rename_i el _ _ _ h
  try rw [h]
  show _=w5 (rI (tyk P el)) el nid
  cases rI (tyk P el)<;>rfl
 ·rename_i el _ _ _ id _ _ h
  try rw [h]
  show _=w6 (rI (tyk P el)) id.tyd el nid
  cases rI (tyk P el)<;>cases id.tyd<;>simp [w6]
 ·rename_i h1 h2
  first
   | rfl
   | (split
      ·rename_i h;exact (h1 _ _ _ _ h rfl).elim
      ·rename_i h;exact (h2 _ _ _ _ _ _ _ h rfl).elim
      ·rfl)
theorem Bw (n:Nat):(Oid.root n).tyd=none:=rfl
theorem Em (c i:Nat) (p:Oid):(Oid.sub c i p).tyd=none:=rfl
theorem IG (t:Nat) (p:Oid):(Oid.ty t p).tyd=some t:=rfl
theorem Oid.yo (t c i:Nat) (p q:Oid):(Oid.ty t p=Oid.sub c i q)=False:=by apply eq_false;intro e;cases e
theorem Oid.eG {p q:Oid} (h:¬ Oid.under p q) (t c i:Nat):(q=Oid.ty t (Oid.sub c i p))=False:=by
 apply eq_false;intro e;subst e;exact h (.inr (Oid.ae (Oid.az _)))
theorem Oid.fH {p q:Oid} (h:¬ Oid.under p q) (t c i:Nat):(Oid.ty t (Oid.sub c i p)=q)=False:=by
 apply eq_false;intro e;subst e;exact h (.inr (Oid.ae (Oid.az _)))
attribute [go_sem] Bt w5 w6 Bu Bv Bw Em IG rI Oid.yo Oid.eG Oid.fH Oid.ty.injEq
theorem mJ {α:Type} [Inhabited α] (f:α→AV) {l:List α} {i:Nat} (h:i < l.length) (d:AV):(l.map f).getD i d=f (l.getD i default):=by
 simp [List.getD_eq_getElem?_getD,List.getElem?_map,List.getElem?_eq_getElem h]
attribute [go_sem] ID Ej vp p9 vo nc pR ov tx tz tA rN rO rP
 A3 A4 A5 A6 A7 A8 Ek A9 tB Ba Bb Bc Bd Be Bf vq vr Bg Bh Bi Bj Bl Bm Bn
 El yl Bo nV nW Ix Iy AZ Eh A1 Iz A2 yk tt kH kG opL prs mH qx om dx tu wX bP bu Mem.aN Mem.IE Mem.aG Mem.ao Oid.IF Oid.ab Oid.aa Oid.ow Oid.ox Oid.tC Oid.tD Oid.sub.injEq
 mJ w64 Option.isSome_some Option.isSome_none beq_self_eq_true Option.bind_some Option.bind_none Option.map_some Option.map_none Int.toNat_natCast List.length_map List.length_take List.length_drop List.length_append List.length_cons List.length_nil List.map_cons List.map_nil List.getD_cons_zero List.getD_cons_succ List.getD_nil
 List.take_succ_cons List.take_zero List.take_nil List.drop_succ_cons List.drop_zero List.drop_nil List.cons_append List.nil_append List.all_cons List.all_nil Bool.and_true Bool.true_and Bool.and_false Bool.false_and Bool.or_true Bool.true_or Bool.or_false Bool.false_or Bool.not_true Bool.not_false
 true_and and_true and_self or_true true_or or_false false_or false_and and_false eq_self List.getElem?_cons_zero List.getElem?_cons_succ List.getElem?_toArray a7 aS rK gR Ef fj
theorem bt1 (b:Bool):(b == true)=b:=by cases b<;>rfl
theorem bt2 (b:Bool):(b == false) = !b:=by cases b<;>rfl
attribute [go_sem] frz pQ Mem.aP
attribute [go_sem] bt1 bt2 decide_true decide_false
attribute [go_sem] decide_eq_true_eq decide_eq_false_iff_not Bool.and_eq_true Bool.or_eq_true Bool.not_eq_true' Bool.not_eq_false'
def nmd:Nat→Bool:=fun _=>false
theorem IH (d:Nat):nmd d=false:=rfl
attribute [go_sem] IH List.contains_cons List.contains_nil
theorem cg {α:Type} {l:List α} {i:Nat} (h:i < l.length) (d:α):l.getD i d=l[i]:=by
 simp [List.getD_eq_getElem?_getD,List.getElem?_eq_getElem h]
theorem II {x:UInt8} {n:Nat} (hn:n < 256):((x.toNat:Int)=(n:Int))↔x=UInt8.ofNat n:=by
 constructor
 ·intro h
  apply UInt8.toNat_inj.1
  rw [UInt8.toNat_ofNat',Nat.mod_eq_of_lt (by omega)];omega
 ·rintro rfl
  rw [UInt8.toNat_ofNat',Nat.mod_eq_of_lt (by omega)]
theorem drop_cons {α:Type} [Inhabited α] {l:List α} {i:Nat} (h:i < l.length):l.drop i=l.getD i default::l.drop (i+1):=by
 rw [List.drop_eq_getElem_cons h,cg h]
theorem gU {α β:Type} [Inhabited α] (f:α→β) {l:List α} {i:Nat} (h:i < l.length):(l.take (i+1)).map f=(l.take i).map f++[f (l.getD i default)]:=by
 rw [List.take_succ_eq_append_getElem h,List.map_append,cg h];rfl
theorem IJ (x:UInt8):IntKind.i64.wrap (x.toNat:Int)=x.toNat:=by
 have:=x.toNat_lt;exact w64 (by omega) (by omega)
theorem Bx (x:UInt8):IntKind.u8.wrap (x.toNat:Int)=x.toNat:=by
 have:=x.toNat_lt
 simp [IntKind.wrap,IntKind.bits,IntKind.signed];omega
attribute [go_sem] IJ Bx
theorem oy (a b:Nat):(a:Int).tmod b=((a % b:Nat):Int):=by
 rw [Int.tmod_eq_emod_of_nonneg (by omega)];rfl
theorem By (a b:Nat):(a:Int).tdiv b=((a / b:Nat):Int):=by
 rw [Int.tdiv_eq_ediv_of_nonneg (by omega)];rfl
theorem w8 {n:Int} (h1:0≤n) (h2:n≤255):IntKind.u8.wrap n=n:=by
 simp [IntKind.wrap,IntKind.bits,IntKind.signed];omega
end Go.Ab
namespace Go.Ab
variable {α:Type} [DecidableEq α]
def kg (enc:α→AV):Prop:=∀ a b,ew (enc a) (enc b)=decide (a=b)
variable {enc:α→AV}
end Go.Ab
namespace Go.Ab
theorem eA {P:Program} [Laid P] {f:FuncId} {xs:List AV} {sp:Oid→Prop} {L:List (Oid × aw)} {R Rp:AV→List (Oid × Option aw)→Prop} (he:cj P f=true)
  (h:(∀ q ∈ L,Mem.of L q.1=some q.2)→bV P f xs sp L R Rp):bV P f xs sp L R Rp:=by
 by_cases hc:∀ q ∈ L,Mem.of L q.1=some q.2
 ·exact h hc
 ·refine ⟨he,fun x g args w m hm hn _ _ _=>absurd (fun q hq=>?_) hc⟩
  obtain ⟨o,ho⟩:=Mem.lh hq
  obtain ⟨q',h1,h2,h3⟩:=Mem.dM ho
  have h4:=hn q hq
  have h5:=hn q' h1
  rw [h2,h4,h3] at h5
  rw [ho];exact h5.symm
theorem l5 {B L L':List (Oid × aw)} {m:Mem} {upd:List (Oid × Option aw)} {sp:Oid→Prop} (hU:qi L sp upd L') (hL:∀ q ∈ L,m q.1=some q.2) (hB:∀ q ∈ B,m q.1=some q.2)
  (hd:∀ q ∈ B,(∀ q' ∈ L,¬ q'.1=q.1)∧¬ sp q.1):∀ q,q ∈ B++L'→(m.aI upd) q.1=some q.2:=by
 intro q hq
 rcases List.mem_append.1 hq with hq|hq
 ·rw [bc fun q' hq' e=>?_]
  ·exact hB q hq
  ·obtain ⟨h1,h2⟩:=hd q hq
   rcases hU.tou q' hq' with ⟨q2,h3,h4⟩|h3
   ·exact h1 q2 h3 (h4.trans e)
   ·exact h2 (e ▸ h3)
 ·exact tk hL (hU.got q hq)
theorem eH {B L:List (Oid × aw)} (hB:∀ q ∈ B,Mem.of (B++L) q.1=some q.2) (hd:∀ q ∈ L,∀ q' ∈ B,¬ q.1=q'.1) (hL:∀ q ∈ L,Mem.of L q.1=some q.2):∀ q ∈ B++L,Mem.of (B++L) q.1=some q.2:=by
 intro q hq
 rcases List.mem_append.1 hq with hq|hq
 ·exact hB q hq
 ·have:∀ (B:List (Oid × aw)),(∀ q' ∈ B,¬ q.1=q'.1)→Mem.of (B++L) q.1=Mem.of L q.1:=by
   intro B h
   induction B with
   | nil=>rfl
   | cons b B ih=>rw [List.cons_append,Mem.ao,if_neg (h b List.mem_cons_self)];exact ih fun q' hq'=>h q' (List.mem_cons_of_mem _ hq')
  rw [this B (hd q hq)];exact hL q hq
theorem kh {P:Program} [Laid P] {x:Ctx} {n:Nat} {a:Code} {Q:AX→AS→Prop} {fr:List (Nat × AV)} {m:Mem} {c:Nat} {ds:List AD} (L:List (Oid × aw)) (hm:∀ q,q ∈ L→m q.1=some q.2) (h:T P x n a ⟨fr,Mem.of L,c,ds⟩ Q):T P x n a ⟨fr,m,c,ds⟩ Q :=
 l4 (Mem.of L) (fun i o hi=>by obtain ⟨q,h1,rfl,rfl⟩:=Mem.dM hi;exact hm q h1) h
theorem iK {L:List (Oid × aw)} {m:Mem} (hm:∀ q,q ∈ L→m q.1=some q.2):∀ i o,Mem.of L i=some o→m i=some o:=fun i o hi=>by
 obtain ⟨q,h1,rfl,rfl⟩:=Mem.dM hi;exact hm q h1
theorem aK (i:Oid) (x:Option aw) (l:List (Oid × aw)) (j:Oid):Mem.of (bP i x l) j=if j=i then x else Mem.of l j:=by rw [← Mem.aP];rfl
end Go.Ab
namespace Go.Ab
open Go.ChangeShapes Go.WideShapes
def ln (a b:AV):Prop:=∀ g v,VR g a v→VR g b v
theorem ln.refl (a:AV):ln a a:=fun _ _ h=>h
theorem ln.nil (sz:Nat):ln .nilSl (.list sz []):=fun _ _ h=>by rw [h.bJ];exact .listNil sz
inductive dy:List AV→List AV→Prop
 | nil:dy [] []
 | cons {a b:AV} {l m:List AV} (h:ln a b) (t:dy l m):dy (a::l) (b::m)
theorem dy.length {l m:List AV} (h:dy l m):l.length=m.length:=by
 induction h with
 | nil=>rfl
 | cons _ _ ih=>simp [ih]
theorem dy.at {l m:List AV} (h:dy l m):∀ j,ln (l.getD j .undef) (m.getD j .undef):=by
 induction h with
 | nil=>exact fun j=>.refl _
 | cons h _ ih =>
  intro j
  cases j with
  | zero=>exact h
  | succ j=>simpa using ih j
theorem ln.agg {l m:List AV} (h:dy l m):ln (.agg l) (.agg m):=fun g v hv=>by
 obtain ⟨a,rfl,h1,h2⟩:=hv.eZ
 exact .agg _ _ (h1.trans h.length) fun j hj=>h.at j _ _ (h2 j (by rw [h.length];exact hj))
def En (a b:AV):Prop:=dy a.cells b.cells
theorem En.agg {l m:List AV} (h:dy l m):En (.agg l) (.agg m):=h
inductive mK:List AV→List AV→Prop
 | nil:mK [] []
 | cons {a b:AV} {l m:List AV} (h:En a b) (t:mK l m):mK (a::l) (b::m)
theorem mK.length {l m:List AV} (h:mK l m):l.length=m.length:=by
 induction h with
 | nil=>rfl
 | cons _ _ ih=>simp [ih]
theorem mK.at {l m:List AV} (h:mK l m):∀ j,En (l.getD j .undef) (m.getD j .undef):=by
 induction h with
 | nil=>exact fun j=>.cons (.refl _) .nil
 | cons h _ ih =>
  intro j
  cases j with
  | zero=>exact h
  | succ j=>simpa using ih j
theorem ln.list {sz:Nat} {l m:List AV} (h:mK l m):ln (.list sz l) (.list sz m):=fun g v hv=>by
 rcases hv.eD with ⟨rfl,hu|⟨a,cap,hu⟩⟩|⟨b,o,cap,cs,hu,h1,h2,h3,h4⟩
 ·cases h;rw [hu];exact .listNil _
 ·cases h;rw [hu];exact .listAny _ _ _
 ·rw [hu,h.length]
  have hl:=h.length
  exact .list sz m b o cap cs (by omega) (fun i hi=>by have:=(h.at i).length;have:=h2 i (by omega);omega) (fun i j hi hj=>h3 i j (by omega) hj) fun i j hi hj=>(h.at i).at j _ _ (h4 i j (by omega) hj)
theorem VRs.yr {g:Gh} {xs ys:List AV} {a:Array Value} (h:VRs g xs a) (k:dy xs ys):VRs g ys a:=⟨h.1.trans k.length,fun j hj=>k.at j _ _ (h.2 j (by rw [k.length];exact hj))⟩
theorem af.yr {P:Program} [Laid P] {f:FuncId} {xs ys:List AV} {sp:Oid→Prop} {e:Eff} (h:af P f ys sp e) (k:dy xs ys):af P f xs sp e :=
 ⟨h.enters,fun x g args w m h1 h2 h3=>h.calls x g args w m h1 h2 (h3.yr k)⟩
theorem bV.yr {P:Program} [Laid P] {f:FuncId} {xs ys:List AV} {sp:Oid→Prop} {need:List (Oid × aw)} {R Rp:AV→List (Oid × Option aw)→Prop} (h:bV P f ys sp need R Rp) (k:dy xs ys):bV P f xs sp need R Rp :=
 ⟨h.enters,fun x g args w m h1 h2 h3=>h.calls x g args w m h1 h2 (h3.yr k)⟩
def cR (ng:Nat) (w:World):Gh :=
 ⟨fun i=>match i with | .root k=>if k < ng then some (some k) else none | .sub .. => none | .ty .. => none,
  fun b o=>match w.cell? ⟨b,o,none⟩ with|some v=>if v.oneCell' = true then some v else none|none=>none,fun b=>match w.heap[b]? with|some (.cells c _ _)=>some c.size|_=>none⟩
theorem jP {ng:Nat} {w:World} {b o:Nat} {v:Value} (h:w.cell? ⟨b,o,none⟩=some v) (hv:v.oneCell' = true):(cR ng w).com b o=some v:=by
 simp only [cR,h,hv,if_true]
theorem oz {ng:Nat} {w:World} {b o:Nat} {v:Value} (h:(cR ng w).com b o=some v):w.cell? ⟨b,o,none⟩=some v∧v.oneCell' = true:=by
 simp only [cR] at h
 split at h
 ·rename_i u hu
  split at h
  ·rename_i h1;cases h;exact ⟨hu,h1⟩
  ·cases h
 ·cases h
theorem vz (ng:Nat) (w:World):aB ⟨ng,cR ng w,w,fun _=>False,.root ng,none⟩ (cR ng w) Mem.emp w where
 le:=Gh.le_refl _
 locs _ _:=rfl
 glob k hk:=by simp [cR,hk]
 coms _ _ _ h:=.inl h
 obj0 _ _ h:=by cases h
 inj _ _ _ _ _ h:=by cases h
 com _ _ _ h:=(oz h).1
 one _ _ _ h:=(oz h).2
 rows b r h:=by
  simp only [cR] at h
  split at h
  ·rename_i c t fz hc;simp only [Option.some.injEq] at h;exact ⟨c,t,fz,hc,h⟩
  ·cases h
 os:=rfl
 tape:=rfl
 output:=⟨rfl,fun _=>Nat.le_refl _⟩
 size:=Nat.le_refl _
 kept _ _ _:=rfl
 typs _ _ _ h:=by cases h
structure Rd (P:Program) (t:TypeId) {α:Type} (A:α→AV) (V:α→Prop):Prop where
 len:∀ a,(A a).cells.length=P.cellsOf t
 rd:∀ {H:Type} {enc:TypeId × Value→H} {w:World} {ng base fuel:Nat} {spare:Nat→Bool} {held:Bool} {cs:List Value} {x:DataW H × List MemPlace},DataW.trod enc P w base spare held fuel t cs=some x →
  (∀ n ∈ x.1.weights P t,n≤reachBytes)→∃ a:α,V a∧cs.length=P.cellsOf t∧∀ j,j < cs.length→(cs.getD j undef).oneCell' = true∧VR (cR ng w) ((A a).cells.getD j .undef) (cs.getD j undef)
section
variable {P:Program} [Laid P] {t:TypeId} {α β:Type} {A:α→AV} {V:α→Prop}
theorem Rd.map {B:β→AV} {W:β→Prop} (h:Rd P t A V) (f:α→β) (hA:∀ a,V a→A a=B (f a)) (hl:∀ b,(B b).cells.length=P.cellsOf t) (hV:∀ a,V a→W (f a)):Rd P t B W :=
 ⟨hl,fun {H enc w ng base fuel spare held cs x} h1 h2=>by
  obtain ⟨a,k1,k2,k3⟩:=h.rd (ng:=ng) h1 h2
  exact ⟨f a,hV a k1,k2,by rw [← hA a k1];exact k3⟩⟩
theorem rQ {a:AV} {v:Value} {g:Gh} (hc:a.cells=[a]) (hv:VR g a v) (h1:v.oneCell' = true):∀ j,j < [v].length→(([v]:List Value).getD j undef).oneCell' = true∧VR g (a.cells.getD j .undef) (([v]:List Value).getD j undef):=by
 intro j hj
 obtain rfl:j=0:=by simp at hj;exact hj
 rw [hc];exact ⟨h1,hv⟩
theorem IK {k:IntKind} (ht:P.underlying t=some (.int k)) (hc:P.cellsOf t=1):Rd P t (AV.int k) (fun n=>(Lit.int k n).wf=true) :=
 ⟨fun _=>hc.symm,fun h _=>by
  obtain ⟨n,rfl,rfl,hw⟩:=DataW.trod_int ht h
  exact ⟨n,hw,hc.symm,rQ rfl (.int k n) rfl⟩⟩
theorem rd_u8 (ht:P.underlying t=some (.int .u8)) (hc:P.cellsOf t=1):Rd P t (fun b:UInt8=>AV.int .u8 b.toNat) (fun _=>True) :=
 (IK ht hc).map (fun n=>UInt8.ofNat n.toNat) (fun n hn=>by
  have h1:0≤n∧n≤255:=by simpa [Lit.wf,IntKind.min,IntKind.max,IntKind.signed,IntKind.bits] using hn
  show AV.int .u8 n=AV.int .u8 _
  congr 1
  rw [UInt8.toNat_ofNat',Nat.mod_eq_of_lt (by omega)];omega) (fun _=>hc.symm) (fun _ _=>trivial)
theorem rd_str (ht:P.underlying t=some .string) (hc:P.cellsOf t=1):Rd P t AV.str (fun s=>s.length≤reachBytes) :=
 ⟨fun _=>hc.symm,fun h hw=>by
  obtain ⟨s,rfl,rfl,_⟩:=DataW.trod_string ht h
  exact ⟨s.data.toList,hw _ (by simp [DataW.weights]),hc.symm,rQ rfl (.str _ _ rfl) rfl⟩⟩
theorem jt {H:Type} {e:TypeId} {n:Nat}:∀ {l:List (DataW H)} {d:DataW H},d ∈ l→n ∈ d.weights P e→n ∈ DataW.weightsAll P e l
 | [],_,h,_=>by cases h
 | x::l,d,h,hn=>by
  rw [DataW.weightsAll]
  rcases List.mem_cons.1 h with rfl|h
  ·exact List.mem_append_left _ hn
  ·exact List.mem_append_right _ (jt h hn)
theorem mL {p:Nat→α→Prop}:∀ (n:Nat),(∀ i,i < n→∃ a,p i a)→∃ l:List α,l.length=n∧∀ i,i < n→∃ a,l[i]? = some a∧p i a
 | 0,_=>⟨[],rfl,fun i hi=>absurd hi (Nat.not_lt_zero _)⟩
 | n+1,h=>by
  obtain ⟨l,h1,h2⟩:=mL n fun i hi=>h i (Nat.lt_succ_of_lt hi)
  obtain ⟨a,ha⟩:=h n (Nat.lt_succ_self _)
  refine ⟨l++[a],by simp [h1],fun i hi=>?_⟩
  by_cases e:i < n
  ·obtain ⟨b,hb,hp⟩:=h2 i e
   exact ⟨b,by rw [List.getElem?_append_left (by omega)];exact hb,hp⟩
  ·obtain rfl:i=n:=by omega
   exact ⟨a,by rw [List.getElem?_append_right (by omega),h1,Nat.sub_self];rfl,ha⟩
theorem mapM_at {β:Type} {f:Nat→Option β}:∀ {l:List Nat} {r:List β},l.mapM f=some r→r.length=l.length∧∀ i,i < l.length→f (l.getD i 0)=r[i]?
 | [],r,h=>by simp at h;subst h;exact ⟨rfl,fun i hi=>absurd hi (Nat.not_lt_zero _)⟩
 | x::l,r,h=>by
  simp only [List.mapM_cons,Option.bind_eq_bind,Option.bind_eq_some_iff] at h
  obtain ⟨y,hy,ys,hys,e⟩:=h
  cases e
  obtain ⟨h1,h2⟩:=mapM_at hys
  refine ⟨by simp [h1],fun i hi=>?_⟩
  cases i with
  | zero=>simpa using hy
  | succ i=>simpa using h2 i (by simpa using hi)
theorem yt {w:World} {base n:Nat} {a:Addr} {cs:List Value} (h:w.cells? base a n=some cs):cs.length=n∧∀ j,j < n→w.cell? (a.add j)=cs[j]? := by
 unfold World.cells? at h
 split at h
 ·obtain ⟨h1,h2⟩:=mapM_at h
  rw [List.length_range] at h1
  refine ⟨h1,fun j hj=>?_⟩
  have:=h2 j (by simpa using hj)
  rwa [List.getD_eq_getElem?_getD,List.getElem?_range hj] at this
 ·cases h
theorem yu {w:World} {a:Addr} {v:Value} (h:w.cell? a=some v):a.spot=none:=by
 unfold World.cell? at h
 split at h
 ·split at h
  ·cases h
  ·rename_i e;simpa using e
 ·cases h
theorem qz {a:Addr} (h:a.spot=none) (n:Nat):a.add n=⟨a.block,a.off+n,none⟩:=by
 unfold Addr.add
 split
 ·rename_i e;subst e;cases a;simp_all
 ·rfl
theorem Bz {e:TypeId} (ht:P.underlying t=some (.slice e)) (hc:P.cellsOf t=1) (hp:0 < P.cellsOf e) (hE:Rd P e A V):Rd P t (fun l:List α=>.list (P.cellsOf e) (l.map A)) (fun l=>l.length * P.bytesOf e≤reachBytes∧∀ a ∈ l,V a) :=
 ⟨fun _=>hc.symm,fun {H enc w ng base fuel spare held cs x} h hw=>by
  rcases DataW.trod_slice ht h with ⟨rfl,rfl⟩|⟨a,len,cap,elems,rest,n,_,rfl,rfl,hb,hl,hm,hlen,hel,_,_⟩
  ·exact ⟨[],⟨by simp,fun _ h=>by cases h⟩,hc.symm,rQ rfl (.listNil _) rfl⟩
  simp only [DataW.weights,ht,List.mem_cons,List.mem_append] at hw
  have hwt:=hw _ (.inl rfl)
  simp only [List.length_map] at hwt
  have key:∀ i,i < len→∃ (y:α × (Nat→Value)),V y.1∧∀ j,j < P.cellsOf e→w.cell? ((a.add (i * P.cellsOf e)).add j)=some (y.2 j)∧(y.2 j).oneCell' = true∧VR (cR ng w) ((A y.1).cells.getD j .undef) (y.2 j):=by
   intro i hi
   have h1:=hel i hi
   rw [List.getElem?_eq_getElem (by omega)] at h1
   simp only [Option.bind_eq_some_iff] at h1
   obtain ⟨cs',h2,h3⟩:=h1
   obtain ⟨h4,h5⟩:=yt h2
   obtain ⟨y,k1,k2,k3⟩:=hE.rd (ng:=ng) h3 fun m hm=>hw m (.inr (.inl (jt (List.mem_map.2 ⟨_,List.getElem_mem (by omega:i < elems.length),rfl⟩) hm)))
   refine ⟨(y,fun j=>cs'.getD j undef),k1,fun j hj=>⟨?_,k3 j (by omega)⟩⟩
   show _=some (cs'.getD j undef)
   rw [h5 j hj,List.getD_eq_getElem?_getD,List.getElem?_eq_getElem (by omega)];rfl
  obtain ⟨l,hl1,hl2⟩:=mL len key
  have hsp:0 < len→a.spot=none:=fun h0=>by
   obtain ⟨y,_,_,h2⟩:=hl2 0 h0
   have h3:=yu (h2 0 hp).1
   simpa [Addr.add] using h3
  refine ⟨l.map (·.1),⟨?_,fun b hb=>?_⟩,hc.symm,rQ rfl ?_ rfl⟩
  ·rw [List.length_map,hl1]
   exact Nat.le_trans (Nat.mul_le_mul_right _ (by omega)) hwt
  ·obtain ⟨y,hy,rfl⟩:=List.mem_map.1 hb
   obtain ⟨i,hi,e1⟩:=List.getElem_of_mem hy
   obtain ⟨z,hz,h1,_⟩:=hl2 i (by omega)
   rw [List.getElem?_eq_getElem hi,e1] at hz
   cases hz;exact h1
  ·by_cases h0:len=0
   ·subst h0
    obtain rfl:=List.eq_nil_of_length_eq_zero hl1
    exact .listAny _ _ _
   have hs:=hsp (by omega)
   have e1:((l.map (·.1)).map A).length=len:=by simp [hl1]
   have hat:∀ i,i < len→∃ y:α × (Nat→Value),((l.map (·.1)).map A).getD i .undef=A y.1∧(l.getD i (y.1,fun _=>undef)).2=y.2∧(∀ j,j < P.cellsOf e→w.cell? ((a.add (i * P.cellsOf e)).add j)=some (y.2 j)∧(y.2 j).oneCell' = true∧VR (cR ng w) ((A y.1).cells.getD j .undef) (y.2 j)):=by
    intro i hi
    obtain ⟨y,hy,_,h2⟩:=hl2 i hi
    refine ⟨y,?_,?_,h2⟩
    ·simp [List.getD_eq_getElem?_getD,hy]
    ·simp [List.getD_eq_getElem?_getD,hy]
   have:=VR.list (g:=cR ng w) (P.cellsOf e) ((l.map (·.1)).map A) a.block a.off cap (fun i j=>(match l[i]? with|some y=>y.2|none=>fun _=>undef) j) (by omega)
    (fun i hi=>by
     obtain ⟨y,h1,_⟩:=hat i (by omega)
     rw [h1];exact hE.len _)
    (fun i j hi hj=>by
     obtain ⟨y,hy,_,h2⟩:=hl2 i (by omega)
     simp only [hy]
     obtain ⟨h3,h4,_⟩:=h2 j hj
     rw [qz hs,qz rfl] at h3
     exact jP h3 h4)
    (fun i j hi hj=>by
     obtain ⟨y,hy,_,h2⟩:=hl2 i (by omega)
     simp only [hy,List.getD_eq_getElem?_getD,List.getElem?_map,Option.map_some,Option.getD_some]
     have h5:=(h2 j hj).2.2
     rwa [List.getD_eq_getElem?_getD] at h5)
   rw [e1] at this
   have ea:a=⟨a.block,a.off,none⟩:=by cases a;simp_all
   rw [ea];exact this⟩
end
structure RdF (P:Program) (fs:List Field) (off tot:Nat) {β:Type} (B:β→List AV) (W:β→Prop):Prop where
 len:∀ b,(B b).length=tot
 rd:∀ {H:Type} {enc:TypeId × Value→H} {w:World} {ng base fuel:Nat} {spare:Nat→Bool} {held:Bool} {cs:List Value} {xs:List (DataW H × List MemPlace)},xs.length=fs.length →
  (∀ (i:Nat) (f:Field),fs[i]? = some f→DataW.trod enc P w base spare held fuel f.type ((cs.drop f.offset).take (P.cellsOf f.type))=xs[i]?)→(∀ n ∈ DataW.weightsEach P (fs.map (·.type)) (xs.map (·.1)),n≤reachBytes)→cs.length=off+tot →
  ∃ b:β,W b∧∀ j,j < tot→(cs.getD (off+j) undef).oneCell' = true∧VR (cR ng w) ((B b).getD j .undef) (cs.getD (off+j) undef)
section
variable {P:Program} [Laid P] {t:TypeId} {α β:Type} {A:α→AV} {V:α→Prop}
theorem Rd.rR (h:Rd P t A V) (hc:P.cellsOf t=1) {H:Type} {enc:TypeId × Value→H} {w:World} {ng base:Nat} {spare:Nat→Bool} {held:Bool} {v:Value} {d:DataW H} {ps:List MemPlace} (hone:v.oneCell' = true)
  (hA:∀ a,V a→(A a).cells=[A a]) (hd:DataW.Trod enc P w base spare held t v d ps) (hw:∀ n ∈ d.weights P t,n≤reachBytes):∃ a,V a∧VR (cR ng w) (A a) v:=by
 obtain ⟨fuel,hd⟩:=hd
 obtain ⟨a,k1,k2,k3⟩:=h.rd (ng:=ng) hd hw
 refine ⟨a,k1,?_⟩
 have e:v.cells.toList=[v]:=by cases v<;>first|rfl|(simp [Value.oneCell'] at hone)
 rw [e] at k3
 have:=(k3 0 (by simp)).2
 rwa [hA a k1] at this
theorem ki {H:Type} {enc:TypeId × Value→H} {w w':World} {base:Nat} {spare':Nat→Bool} (hl:laidOutB P=true) (hz:∀ t e,t < P.types.size→P.underlying t=some (.slice e)→0 < P.cellsOf e) :
  ∀ {ts:List TypeId} {vs:List Value} {ds:List (DataW H)} {ps:List MemPlace},(∀ t ∈ ts,P.readableRec t=true∧t < P.types.size)→DataW.TrodAll enc P w base (fun _=>true) true ts vs ds ps→(∀ p ∈ ps,w.sameAt w' p)→(∀ p ∈ ps,spare' p.block=true) →
   DataW.TrodAll enc P w' base spare' true ts vs ds ps
 | [],[],[],_,_,h,_,_=>h
 | t::ts,v::vs,d::ds,ps,hr,⟨p,q,h1,h2,e⟩,hs,hsp=>by
  have ht:=hr t List.mem_cons_self
  refine ⟨p,q,?_,ki hl hz (fun t ht=>hr t (List.mem_cons_of_mem _ ht)) h2 (fun x hx=>hs x (by rw [e];exact List.mem_append_right _ hx)) (fun x hx=>hsp x (by rw [e];exact List.mem_append_right _ hx)),e⟩
  have h3:DataW.Trod enc P w base spare' true t v d p:=h1.respare (kids_book hl ht.1) (fun u e' hu=>hz u e' hu.1) ⟨ht.2,book_self t⟩ fun x hx=>hsp x (by rw [e];exact List.mem_append_left _ hx)
  obtain ⟨n,hn⟩:=h3
  exact ⟨n,DataW.trod_carry n _ _ _ hn fun x hx=>hs x (by rw [e];exact List.mem_append_left _ hx)⟩
theorem BA {H:Type} {enc:TypeId × Value→H} {f:FuncId} {fn:Func} {s:ChangeSpec} {tb:TypeId} (hl:laidOutB P=true) (hz:∀ t e,t < P.types.size→P.underlying t=some (.slice e)→0 < P.cellsOf e) (hr:∀ t ∈ fn.params.toList,P.readableRec t=true∧t < P.types.size)
  (hrt:fn.resultTypes=#[tb]) (htb:P.underlying tb=some .bool) (hv:s.vars=[]) {W:World} {args:Array Value} {ds gs:List (DataW H)} {before:List MemPlace} (hW:DataW.Whole enc P fn.params.toList s.vars false W args.toList ds gs before)
  (hfn:s.fn H ds={ results:=[.lit (.bool true)],args:=ds }) {avs:List AV} (ha:VRs (cR P.globals.size W) avs args) (hcall:af P f avs (Oid.under (.root P.globals.size)) ⟨[],.bool true,[]⟩) (hLaid:Laid.facts P (cR P.globals.size W)) :
  Calls P f args W fun e W'=>∃ v,e = .returned v∧s.post enc P fn false true false false W args v W':=by
 refine (hcall.calls ⟨P.globals.size,cR P.globals.size W,W,fun _=>False,.root P.globals.size,none⟩ _ args W Mem.emp (vz _ _) (fun q hq=>by cases hq) ha (fun i hi=>⟨?_,hi⟩) ⟨Nat.le_refl _,hLaid⟩).mono ?_
 ·cases i with
  | root k =>
   simp only [Oid.under,Oid.root.injEq] at hi
   subst hi
   simp [cR]
  | sub=>rfl
  | ty=>rfl
 rintro en W' ⟨g',v,rfl,hle,hloc,hvr,hm⟩
 obtain rfl:=hvr.b5
 refine ⟨_,rfl,?_⟩
 have hW0:=hW
 obtain ⟨p,q,hA,hV,rfl,hfz,hnd⟩:=hW
 rw [hv] at hV
 obtain ⟨rfl,rfl⟩:=trodVars_none hV
 rw [List.append_nil] at hW0 hfz
 have hsame:∀ p' ∈ p,W.sameAt W' p':=fun p' hp'=>by
  have hlt:=hW0.lt p' hp'
  have hh:=hm.kept p'.block hlt (fun h=>h)
  cases p' with
  | cell b o=>simp only [World.sameAt,World.cell?];simp only [MemPlace.block] at hh;rw [hh]
  | map b=>exact hh
 have hargs:∀ sp:Nat→Bool,(∀ p' ∈ p,sp p'.block=true)→DataW.TrodAll enc P W' 0 sp true fn.params.toList args.toList ds p:=fun sp hsp=>ki hl hz hr hA hsame hsp
 have hres:∀ (b:Nat) (sp:Nat→Bool) (hd:Bool),DataW.TrodAll enc P W' b sp hd fn.resultTypes.toList ((Value.bool true).resultList fn.resultTypes.size) [.lit (.bool true)] []:=by
  intro b sp hd
  rw [hrt]
  exact ⟨[],[],RowKit.shut_bool htb _,rfl,rfl⟩
 have hold:∀ p' ∈ p,(fun b=>decide (b < W.heap.size)) p'.block=true:=fun p' hp'=>by simpa using hW0.lt p' hp'
 refine ⟨ds,[],p,[],p,[],hW0,by rw [List.append_nil,hfn];exact hres _ _ _,by rw [List.append_nil,hfn];exact hargs _ hold,by rw [hv,List.append_nil,hfn];exact rfl,?_,fun h=>by cases h⟩
 exact World.keptBut_mono (fun p' hp'=>hp'.elim) (may:=fun _=>False) ⟨hm.os,hm.output.1,fun i hi=>by
  have hk:W'.heap[i]? = W.heap[i]? := hm.kept i hi (fun h=>h)
  rw [hk]
  exact (World.keptBut_refl W (fun _=>False)).2.2 i hi⟩
structure RdA (P:Program) (ts:List TypeId) {β:Type} (B:β→List AV) (W:β→Prop):Prop where
 rd:∀ {H:Type} {enc:TypeId × Value→H} {w:World} {ng base b0:Nat} {r:Reach} {vs:List Value} {ds:List (DataW H)} {ps:List MemPlace},(∀ (j:Nat) t v,ts[j]? = some t→vs[j]? = some v→Value.okWide P w r base t v) →
  DataW.TrodAll enc P w b0 (fun _=>true) true ts vs ds ps→(∀ n ∈ DataW.weightsEach P ts ds,n≤reachBytes)→∃ b,W b∧vs.length=(B b).length∧∀ j,j < vs.length→VR (cR ng w) ((B b).getD j .undef) (vs.getD j undef)
theorem okWide_slice {w:World} {r:Reach} {base:Nat} {e:TypeId} {v:Value} (ht:P.underlying t=some (.slice e)) (h:Value.okWide P w r base t v):v.oneCell' = true:=by
 simp only [Value.okWide,ht,Cell.okWide,Cell.ok] at h
 cases v<;>first|rfl|exact h.elim
theorem okWide_int {w:World} {r:Reach} {base:Nat} {k:IntKind} {v:Value} (ht:P.underlying t=some (.int k)) (h:Value.okWide P w r base t v):v.oneCell' = true:=by
 simp only [Value.okWide,ht,Cell.okWide,Cell.ok] at h
 cases v<;>first|rfl|exact h.elim
theorem vA {w:World} {r:Reach} {base:Nat} {v:Value} (ht:P.underlying t=some .string) (h:Value.okWide P w r base t v):v.oneCell' = true:=by
 simp only [Value.okWide,ht,Cell.okWide,Cell.ok] at h
 cases v<;>first|rfl|exact h.elim
theorem rdA_nil:RdA P [] (fun _:Unit=>[]) (fun _=>True):=⟨fun {H enc w ng base b0 r vs ds ps} _ h _=>by
 obtain ⟨rfl,rfl,rfl⟩:=trodAll_nil h
 exact ⟨(),trivial,rfl,fun j hj=>absurd hj (Nat.not_lt_zero _)⟩⟩
theorem oA {ts:List TypeId} {B:β→List AV} {W:β→Prop} (k:∀ {H:Type} {enc:TypeId × Value→H} {w:World} {ng base b0:Nat} {r:Reach} {v:Value} {d:DataW H} {ps:List MemPlace},Value.okWide P w r base t v →
  DataW.Trod enc P w b0 (fun _=>true) true t v d ps→(∀ n ∈ d.weights P t,n≤reachBytes)→∃ a,V a∧VR (cR ng w) (A a) v) (hB:RdA P ts B W):RdA P (t::ts) (fun p:α × β=>A p.1::B p.2) (fun p=>V p.1∧W p.2) :=
 ⟨fun {H enc w ng base b0 r vs ds ps} hok h hw=>by
  obtain ⟨v,vs',d,ds',p,q,rfl,rfl,rfl,h1,h2⟩:=trodAll_cons h
  simp only [DataW.weightsEach,List.mem_append] at hw
  obtain ⟨a,k1,k2⟩:=k (ng:=ng) (hok 0 t v rfl rfl) h1 fun n hn=>hw n (.inl hn)
  obtain ⟨b,k3,k4,k5⟩:=hB.rd (ng:=ng) (fun j t v ht hv=>hok (j+1) t v ht hv) h2 fun n hn=>hw n (.inr hn)
  refine ⟨(a,b),⟨k1,k3⟩,by simp [k4],fun j hj=>?_⟩
  cases j with
  | zero=>exact k2
  | succ j=>simpa using k5 j (by simpa using hj)⟩
theorem rdA_slice {ts:List TypeId} {B:β→List AV} {W:β→Prop} {e:TypeId} (ht:P.underlying t=some (.slice e)) (hc:P.cellsOf t=1) (hA1:∀ a,(A a).cells=[A a]) (hA:Rd P t A V) (hB:RdA P ts B W):RdA P (t::ts) (fun p:α × β=>A p.1::B p.2) (fun p=>V p.1∧W p.2) :=
 oA (fun hok hd hw=>hA.rR hc (okWide_slice ht hok) (fun a _=>hA1 a) hd hw) hB
theorem rdA_str {ts:List TypeId} {B:β→List AV} {W:β→Prop} (ht:P.underlying t=some .string) (hc:P.cellsOf t=1) (hA1:∀ a,(A a).cells=[A a]) (hA:Rd P t A V) (hB:RdA P ts B W):RdA P (t::ts) (fun p:α × β=>A p.1::B p.2) (fun p=>V p.1∧W p.2) :=
 oA (fun hok hd hw=>hA.rR hc (vA ht hok) (fun a _=>hA1 a) hd hw) hB
theorem rdA_int {ts:List TypeId} {B:β→List AV} {W:β→Prop} {k:IntKind} (ht:P.underlying t=some (.int k)) (hc:P.cellsOf t=1) (hA1:∀ a,(A a).cells=[A a]) (hA:Rd P t A V) (hB:RdA P ts B W):RdA P (t::ts) (fun p:α × β=>A p.1::B p.2) (fun p=>V p.1∧W p.2) :=
 oA (fun hok hd hw=>hA.rR hc (okWide_int ht hok) (fun a _=>hA1 a) hd hw) hB
theorem ju {H:Type} {enc:TypeId × Value→H} {w:World} {base:Nat} {sp:Nat→Bool} {held:Bool}:∀ {ts:List TypeId} {vs:List Value} {ds:List (DataW H)} {ps:List MemPlace},DataW.TrodAll enc P w base sp held ts vs ds ps→ds.length=ts.length
 | [],[],[],_,_=>rfl
 | _::_,_::_,_::_,_,⟨_,_,_,h,_⟩=>by simp [ju h]
end
end Go.Ab
namespace Go.Ab
attribute [go_sem] Nat.reduceEqDiff Nat.reduceAdd Nat.reduceMul Nat.reduceLT Nat.reduceLeDiff reduceCtorEq Nat.reduceBEq Int.reduceToNat Int.reduceNeg
attribute [go_sem ↓] reduceIte
theorem zb1 {p:Prop} [Decidable p]:(decide p=true)=p:=decide_eq_true_eq
theorem zb2 {p:Prop} [Decidable p]:(decide p=false)=¬ p:=propext decide_eq_false_iff_not
theorem zb3 (b:Bool):((!b)=true)=(b=false):=Bool.not_eq_true' b
theorem zb4 (b:Bool):((!b)=false)=(b=true):=Bool.not_eq_false' b
theorem zb5 (a b:Bool):((a && b)=true)=(a=true∧b=true):=Bool.and_eq_true a b
inductive Ps where
 | at (c:Code)
 | nrm
 | ex (i:Nat)
@[irreducible] def BB (P:Prop):Prop:=P
theorem zl {p:Prop} (h:p):BB p:=by unfold BB;exact h
theorem Eo {p:Prop} (h:BB p):p:=by unfold BB at h;exact h
inductive Stp (P:Program) (x:Ctx) (n:Nat) (Q:AX→AS→Prop):Bool→Bool→Ps→List Pc→AS→Prop
 | seq {u v} {a b:Code} {ks s}:Stp P x n Q u true (.at a) (.code b::ks) s→Stp P x n Q u v (.at (.seq a b)) ks s
 | skip {u v ks s}:Stp P x n Q u true .nrm ks s→Stp P x n Q u v (.at .skip) ks s
 | block {v i a ks s}:Stp P x n Q true true (.at a) (.bend i::ks) s→Stp P x n Q true v (.at (.block i a)) ks s
 | exit {u v i ks s}:Stp P x n Q u true (.ex i) ks s→Stp P x n Q u v (.at (.exit i)) ks s
 | next {u v a ks s}:Stp P x n Q u true (.at a) ks s→Stp P x n Q u v .nrm (.code a::ks) s
 | bend {u v i ks s}:Stp P x n Q u true .nrm ks s→Stp P x n Q u v .nrm (.bend i::ks) s
 | lend {u v ts I k ks fr m c ds}:BB (∃ k' m',k' < k∧(∀ i o,m' i=some o→m i=some o)∧I k' ⟨cH ts fr,m',c,ds⟩)→Stp P x n Q u v .nrm (.lend ts I k::ks) ⟨fr,m,c,ds⟩
 | xcode {u v a i ks s}:Stp P x n Q u true (.ex i) ks s→Stp P x n Q u v (.ex i) (.code a::ks) s
 | xlend {u v ts I k i ks s}:Stp P x n Q u true (.ex i) ks s→Stp P x n Q u v (.ex i) (.lend ts I k::ks) s
 | xhere {u v i ks s}:Stp P x n Q u true .nrm ks s→Stp P x n Q u v (.ex i) (.bend i::ks) s
 | xon {u v i j ks s}:Nat.beq i j=false→Stp P x n Q u true (.ex i) ks s→Stp P x n Q u v (.ex i) (.bend j::ks) s
 | ofT {u c ks s}:T P x n c s (after P x n Q ks)→Stp P x n Q u true (.at c) ks s
 | ofN {u ks s}:after P x n Q ks .normal s→Stp P x n Q u true .nrm ks s
 | ofX {u i ks s}:after P x n Q ks (.exit i) s→Stp P x n Q u true (.ex i) ks s
def MJ (P:Program) (x:Ctx) (n:Nat) (Q:AX→AS→Prop):Ps→List Pc→AS→Prop
 | .at c,ks,s=>T P x n c s (after P x n Q ks)
 | .nrm,ks,s=>after P x n Q ks .normal s
 | .ex i,ks,s=>after P x n Q ks (.exit i) s
theorem Stp.ok {P:Program} [Laid P] {x:Ctx} {n:Nat} {Q:AX→AS→Prop} {p:Ps} {ks:List Pc} {s:AS} {u v:Bool} (h:Stp P x n Q u v p ks s):MJ P x n Q p ks s:=by
 induction h with
 | seq _ ih=>exact ou ih
 | skip _ ih=>exact IB ih
 | block _ ih=>exact gI ih
 | exit _ ih=>exact IC ih
 | next _ ih=>exact ih
 | bend _ ih=>exact ih
 | lend h=>exact Eo h
 | xcode _ ih=>exact ih
 | xlend _ ih=>exact ih
 | xhere _ ih=>exact IA ih
 | xon hb _ ih=>exact MH hb ih
 | ofT h=>exact h
 | ofN h=>exact h
 | ofX h=>exact h
section
variable {P:Program} [Laid P] {x:Ctx} {n:Nat} {Q:AX→AS→Prop} {ks:List Pc} {s:AS}
theorem zk {c:Code} (h:Stp P x n Q true false (.at c) ks s):T P x n c s (after P x n Q ks):=h.ok
theorem zn (h:Stp P x n Q true false .nrm ks s):after P x n Q ks .normal s:=h.ok
theorem ze {i:Nat} (h:Stp P x n Q true false (.ex i) ks s):after P x n Q ks (.exit i) s:=h.ok
theorem zu {c:Code} (h:Stp P x n Q false false (.at c) ks s):T P x n c s (after P x n Q ks):=h.ok
theorem zv (h:Stp P x n Q false false .nrm ks s):after P x n Q ks .normal s:=h.ok
theorem zw {i:Nat} (h:Stp P x n Q false false (.ex i) ks s):after P x n Q ks (.exit i) s:=h.ok
end
end Go.Ab
namespace Go.Ab
structure iL (q:Prop):Prop where
 out:q
theorem ai {a b:Prop} (h:a) (k:b):a∧b:=⟨h,k⟩
structure CC (a b:Prop):Prop where
 a:a
 b:b
theorem cq {a b:Prop} (h:a) (k:b):CC a b:=⟨h,k⟩
structure HD (U gl:List (Nat × Nat)) (ts:List Nat):Prop where
theorem HD.o:HD [] [] []:=⟨⟩
theorem HD.d (U gl:List (Nat × Nat)) (ts:List Nat):HD U gl ts:=⟨⟩
theorem uu {p q:Oid} (h:¬ Oid.under p q):(∀ c i,(q=Oid.sub c i p)=False)∧∀ c i,(Oid.sub c i p=q)=False:=⟨Oid.ab h,Oid.aa h⟩
section
variable {P:Program} [Laid P] {x:Ctx} {n:Nat} {Q:AX→AS→Prop} {ks:List Pc} {s:AS} {fr:List (Nat × AV)} {m:Mem} {c:Nat} {ds:List AD} {id:Nat} {ops:Array Oper}
theorem vB {U gl:List (Nat × Nat)} {ts:List Nat} (_:HD U gl ts) (hmx:P.follows .mixedOrders=true) (hng:Fit P x) (hok:(AT n P.globals.size ops U && pP ops gl)=true):type_of% (cX (P:=P) (x:=x) (n:=n) (Q:=Q) (ks:=ks) (fr:=fr) (m:=m) (c:=c) (ds:=ds) (id:=id) (ops:=ops) nmd gl U hmx hng hok ts):=cX nmd gl U hmx hng hok ts
theorem BC {U gl:List (Nat × Nat)} {ts:List Nat} (_:HD U gl ts) (hng:Fit P x) (hok:(HF n P.globals.size ops && pP ops gl)=true):type_of% (aj (P:=P) (x:=x) (n:=n) (Q:=Q) (ks:=ks) (fr:=fr) (m:=m) (c:=c) (ds:=ds) (id:=id) (ops:=ops) nmd gl hng hok):=aj nmd gl hng hok
end
theorem qs {p e:Prop} (e1:e) (h:e→p:=by intro e;simp (disch:=first|omega|assumption) only [go_sem,eq_self,decide_true,decide_false,ne_eq,not_true_eq_false,not_false_eq_true,e];first|done|fail):p:=h e1
theorem qs0 {p:Prop} (h:p:=by simp (disch:=first|omega|assumption) only [go_sem,eq_self,decide_true,decide_false,ne_eq,not_true_eq_false,not_false_eq_true];first|done|fail):p:=h
theorem qt {p q e:Prop} (e1:e) (k:q) (h:e→iL q→p:=by intro e k;simp (disch:=first|omega|assumption) only [go_sem,eq_self,decide_true,decide_false,ne_eq,not_true_eq_false,not_false_eq_true,e];exact k.out):p:=h e1 ⟨k⟩
theorem qt0 {p q:Prop} (k:q) (h:iL q→p:=by intro k;simp (disch:=first|omega|assumption) only [go_sem,eq_self,decide_true,decide_false,ne_eq,not_true_eq_false,not_false_eq_true];exact k.out):p:=h ⟨k⟩
theorem qv {p q:Prop} (k:q) (h:iL q→p:=by intro k;(first|refine zn ?_|refine ze ?_|refine zk ?_);with_reducible (constructor;repeat constructor);(try refine zl ?_);exact k.out):p:=h ⟨k⟩
theorem qn {p e:Prop} (e1:e) (h:e→p:=by intro e;first|(intro _ h;cases h;done)|exact qs e|exact nbu _|(refine nbA ?_ _;simp [hpN,hO.mem];done)|(simp only [List.mem_cons,forall_eq_or_imp];refine ⟨qs e,?_⟩;first|exact nbu _|(refine nbA ?_ _;simp [hpN,hO.mem];done))):p:=h e1
theorem qm {p c:Prop} (c1:c) (h:c→p:=by intro c;first|exact c|exact c (ax rfl hp)|exact c _ (ax rfl hp) (fun h=>hpp (Oid.ae h)) (hO.sub _ _)|exact c _ (ax rfl hp) (hO.sub _ _)):p:=h c1
theorem qr {p q e c:Prop} {U gl:List (Nat × Nat)} {ts:List Nat} (g:HD U gl ts) (e1:e) (c1:c) (k:q) (h:HD U gl ts→e→c→iL q→p:=by
  intro g e c k;(try refine qv ?_)
  refine BC g hng (by kernel_rfl) fun hf C S K hC1 hC hS hK=>?_;refine qt e ?_
  repeat (obtain ⟨c1,c⟩:CC _ _:=c;refine hC1 _ (qm c1) (qn e) ?_;refine qt e ?_)
  refine hK ?_;clear hK hS hC hC1 K S C hf;(try refine qv ?_)
  exact k.out):p:=h g e1 c1 ⟨k⟩
theorem qd {p q e c:Prop} {U gl:List (Nat × Nat)} {ts:List Nat} (g:HD U gl ts) (e1:e) (c1:c) (k:q) (h:HD U gl ts→e→c→iL q→p:=by
  intro g e c k;(try refine qv ?_)
  refine vB g mixed hng (by kernel_rfl) fun hf C S K hC hS hK=>?_;refine qt e ?_
  repeat (obtain ⟨c1,c⟩:CC _ _:=c;refine hC _ (qm c1) (qn e) ?_;refine qt e ?_)
  (first|refine hK (aV rfl) ?_|refine hK (by simp (disch:=first|omega|assumption) only [go_sem,List.reverse_cons,List.reverse_nil,ne_eq,not_false_eq_true,implies_true]) ?_);clear hK hS hC K S C hf;(try refine qv ?_)
  exact k.out):p:=h g e1 c1 ⟨k⟩
theorem qw {p q e:Prop} (e1:e) (k:q) (h:e→iL q→p:=by
  intro e k
  repeat (first|refine aq rfl rfl ?_|refine ar rfl rfl ?_|(refine aj nmd [] hng (by kernel_rfl) fun hf C S K hC1 hC hS hK=>?_;refine qt e ?_;refine hK ?_;clear hK hS hC hC1 K S C hf)|refine qv ?_)
  exact k.out):p:=h e1 ⟨k⟩
theorem qw0 {p q:Prop} (k:q) (h:iL q→p:=by
  intro k
  repeat (first|refine aq rfl rfl ?_|refine ar rfl rfl ?_|(refine aj nmd [] hng (by kernel_rfl) fun hf C S K hC1 hC hS hK=>?_;refine qt0 ?_;refine hK ?_;clear hK hS hC hC1 K S C hf)|refine qv ?_)
  exact k.out):p:=h ⟨k⟩
theorem qr0 {p q:Prop} (k:q) (h:iL q→p:=by intro k;refine qr .o trivial trivial ?_;exact k.out):p:=h ⟨k⟩
theorem qr1 {p q c:Prop} (c1:c) (k:q) (h:c→iL q→p:=by intro c k;refine qr .o trivial (cq c trivial) ?_;exact k.out):p:=h c1 ⟨k⟩
end Go.Ab
namespace Go.Ab
open Go.RowKit
theorem tE {p q:Oid} (h:Oid.under p q) (hq:q.mono=false):p.mono=false:=by
 cases hp:p.mono with
 | false=>rfl
 | true=>rw [Oid.nG h hp] at hq;cases hq
theorem aB.below {x:Ctx} {g:Gh} {m:Mem} {w w':World} (h:aB x g m w) (hb:Below w.heap.size w w') (hp:x.p.mono=false):aB x g m w' where
 le:=h.le
 locs:=h.locs
 glob:=h.glob
 coms:=h.coms
 obj0 i o hi:=(h.obj0 i o hi).imp id fun ⟨b,h1,h2,h3,h4⟩=>⟨b,h1,h2,h3,cM.block (hb.block b h4.lt) h4⟩
 inj:=h.inj
 com b o v hv:=by
  have h1:=h.com b o v hv
  have hlt:b < w.heap.size:=by
   rcases Nat.lt_or_ge b w.heap.size with h2|h2
   ·exact h2
   ·simp [World.cell?,Array.getElem?_eq_none h2] at h1
  simp only [World.cell?] at h1 ⊢
  rw [hb.block b hlt];exact h1
 one:=h.one
 rows b r hr:=by
  obtain ⟨c,t,fz,h1,h2⟩:=h.rows b r hr
  exact ⟨c,t,fz,by rw [hb.block b (Array.getElem?_eq_some_iff.1 h1).1];exact h1,h2⟩
 os:=hb.os.trans h.os
 tape:=hb.tape.trans h.tape
 output:=⟨hb.output.trans h.output.1,fun hm=>by rw [hp] at hm;cases hm⟩
 size:=Nat.le_trans h.size hb.size
 kept b hlt hm:=(hb.block b (Nat.lt_of_lt_of_le hlt h.size)).trans (h.kept b hlt hm)
 typs t q b hl:=(h.typs t q b hl).imp fun c ⟨fz,h1⟩=>⟨fz,by rw [hb.block b (Array.getElem?_eq_some_iff.1 h1).1];exact h1⟩
structure l6 (P:Program) [Laid P] (g:Gh) (w:World):Prop where
 com:∀ b o v,g.com b o=some v→w.cell? ⟨b,o,none⟩=some v
 rows:∀ b r,g.row b=some r→∃ c t fz,w.heap[b]? = some (.cells c t fz)∧c.size=r
 glob:∀ k,k < P.globals.size→g.loc (.root k)=some (some k)
 facts:Laid.facts P g
theorem aB.told {P:Program} [Laid P] {x:Ctx} {g:Gh} {m:Mem} {w:World} (h:aB x g m w) (hx:Fit P x):l6 P g w :=
 ⟨h.com,h.rows,fun k hk=>h.glob k (Nat.lt_of_lt_of_le hk hx.1),Laid.mono h.le hx.2⟩
theorem fI {P:Program} [Laid P] {f:FuncId} {xs:List AV} {p:Oid} {val:AV} (he:cj P f=true) (hp:p.mono=false)
  (h:∀ (g:Gh) (args:Array Value) (w:World),VRs g xs args→l6 P g w→Calls P f args w fun en w'=>∃ v,en = .returned v∧VR g val v∧Below w.heap.size w w'):af P f xs (Oid.under p) ⟨[],val,[]⟩ :=
 ⟨he,fun x g args w m hm _ ha hs hx=>(h g args w ha (hm.told hx)).mono fun _ _ ⟨v,h1,h2,h3⟩=>⟨g,v,h1,Gh.le_refl g,fun _ _=>rfl,h2,hm.below h3 (tE (hs p (Oid.az p)).2 hp)⟩⟩
theorem cm {P:Program} [Laid P] {f:FuncId} {xs:List AV} {sp:Oid→Prop} {val:AV} (he:cj P f=true)
  (h:∀ (g:Gh) (args:Array Value) (w:World),VRs g xs args→l6 P g w→Calls P f args w fun en w'=>∃ v,en = .returned v∧VR g val v∧w' = w):af P f xs sp ⟨[],val,[]⟩ :=
 ⟨he,fun x g args w m hm _ ha hs hx=>(h g args w ha (hm.told hx)).mono fun _ _ ⟨v,h1,h2,h3⟩=>⟨g,v,h1,Gh.le_refl g,fun _ _=>rfl,h2,by rw [h3];exact hm⟩⟩
theorem VRs.one {g:Gh} {x:AV} {args:Array Value} (h:VRs g [x] args):∃ v,args=#[v]∧VR g x v:=by
 obtain ⟨h1,h2⟩:=h
 refine ⟨args.getD 0 undef,?_,h2 0 (by simp)⟩
 apply Array.ext
 ·rw [h1];rfl
 ·intro i hi hj
  obtain rfl:i=0:=by simp at h1;omega
  simp [Array.getD_eq_getD_getElem?,Array.getElem?_eq_getElem hi]
theorem VRs.two {g:Gh} {x y:AV} {args:Array Value} (h:VRs g [x,y] args):∃ v u,args=#[v,u]∧VR g x v∧VR g y u:=by
 obtain ⟨h1,h2⟩:=h
 refine ⟨args.getD 0 undef,args.getD 1 undef,?_,h2 0 (by simp),h2 1 (by simp)⟩
 apply Array.ext
 ·rw [h1];rfl
 ·intro i hi hj
  have:i < 2:=by simpa using hj
  rcases i with _|_|i
  ·simp [Array.getD_eq_getD_getElem?,Array.getElem?_eq_getElem hi]
  ·simp [Array.getD_eq_getD_getElem?,Array.getElem?_eq_getElem hi]
  ·omega
end Go.Ab
namespace Go.Proofs.YtfbnaalhioogoaaGreatDoor
open Go Go.Ab
theorem Lx:tyk Tryz.prog 3=some (TyK.int .i64):=by kernel_rfl
theorem Ly:shp Tryz.prog 3=some (false,1):=by kernel_rfl
theorem Lz:zer Tryz.prog 3=some [(AV.int .i64 0)]:=by kernel_rfl
theorem LB:bA Tryz.prog 3=false:=by kernel_rfl
theorem LC:db Tryz.prog 10 3=some [(TyS.si .i64)]:=by kernel_rfl
theorem LD:Tryz.prog.eqGuardType Tryz.prog.depth 3=false:=by kernel_rfl
theorem LF:tyk Tryz.prog 4=some TyK.bool:=by kernel_rfl
theorem LG:shp Tryz.prog 4=some (false,1):=by kernel_rfl
theorem LH:zer Tryz.prog 4=some [(AV.bool false)]:=by kernel_rfl
theorem LI:bA Tryz.prog 4=false:=by kernel_rfl
theorem LJ:db Tryz.prog 10 4=some [TyS.sb]:=by kernel_rfl
theorem LM:Tryz.prog.eqGuardType Tryz.prog.depth 4=false:=by kernel_rfl
theorem LN:tyk Tryz.prog 5=some (TyK.int .u8):=by kernel_rfl
theorem LO:shp Tryz.prog 5=some (false,1):=by kernel_rfl
theorem LP:zer Tryz.prog 5=some [(AV.int .u8 0)]:=by kernel_rfl
theorem LQ:bA Tryz.prog 5=false:=by kernel_rfl
theorem LS:db Tryz.prog 10 5=some [(TyS.si .u8)]:=by kernel_rfl
theorem LU:Tryz.prog.eqGuardType Tryz.prog.depth 5=false:=by kernel_rfl
theorem LV:tyk Tryz.prog 9=some TyK.str:=by kernel_rfl
theorem LW:shp Tryz.prog 9=some (false,1):=by kernel_rfl
theorem LX:zer Tryz.prog 9=some [(AV.str [])]:=by kernel_rfl
theorem LY:bA Tryz.prog 9=false:=by kernel_rfl
theorem LZ:db Tryz.prog 10 9=some [TyS.ss]:=by kernel_rfl
theorem L3:Tryz.prog.eqGuardType Tryz.prog.depth 9=false:=by kernel_rfl
theorem IL:tyk Tryz.prog 20=some (TyK.iface 0):=by kernel_rfl
theorem IM:shp Tryz.prog 20=some (false,1):=by kernel_rfl
theorem IN:zer Tryz.prog 20=some [AV.nilIface]:=by kernel_rfl
theorem IP:bA Tryz.prog 20=false:=by kernel_rfl
theorem IQ:tyk Tryz.prog 22=some (TyK.slice 65 true 5 24):=by kernel_rfl
theorem IS:shp Tryz.prog 22=some (false,1):=by kernel_rfl
theorem IT:zer Tryz.prog 22=some [AV.nilSl]:=by kernel_rfl
theorem IU:bA Tryz.prog 22=false:=by kernel_rfl
theorem IV:tyk Tryz.prog 24=some (TyK.ptr 34):=by kernel_rfl
theorem IW:shp Tryz.prog 24=some (false,1):=by kernel_rfl
theorem IX:zer Tryz.prog 24=some [AV.nilPtr]:=by kernel_rfl
theorem IY:bA Tryz.prog 24=false:=by kernel_rfl
theorem IZ:tyk Tryz.prog 27=some (TyK.slice 9 false 1 16):=by kernel_rfl
theorem I0:shp Tryz.prog 27=some (false,1):=by kernel_rfl
theorem I1:zer Tryz.prog 27=some [AV.nilSl]:=by kernel_rfl
theorem I2:bA Tryz.prog 27=false:=by kernel_rfl
theorem I3:tyk Tryz.prog 28=some (TyK.int .i64):=by kernel_rfl
theorem I4:shp Tryz.prog 28=some (false,1):=by kernel_rfl
theorem I5:zer Tryz.prog 28=some [(AV.int .i64 0)]:=by kernel_rfl
theorem I6:bA Tryz.prog 28=false:=by kernel_rfl
theorem I7:db Tryz.prog 10 28=some [(TyS.si .i64)]:=by kernel_rfl
theorem I8:Tryz.prog.eqGuardType Tryz.prog.depth 28=false:=by kernel_rfl
theorem I9:tyk Tryz.prog 29=some (TyK.ptr 105):=by kernel_rfl
theorem Ja:shp Tryz.prog 29=some (false,1):=by kernel_rfl
theorem Jb:zer Tryz.prog 29=some [AV.nilPtr]:=by kernel_rfl
theorem Jc:bA Tryz.prog 29=false:=by kernel_rfl
theorem Jd:tyk Tryz.prog 30=some (TyK.ptr 91):=by kernel_rfl
theorem Je:shp Tryz.prog 30=some (false,1):=by kernel_rfl
theorem Jf:zer Tryz.prog 30=some [AV.nilPtr]:=by kernel_rfl
theorem Jg:bA Tryz.prog 30=false:=by kernel_rfl
theorem Jh:tyk Tryz.prog 31=some (TyK.ptr 158):=by kernel_rfl
theorem Ji:shp Tryz.prog 31=some (false,1):=by kernel_rfl
theorem Jj:zer Tryz.prog 31=some [AV.nilPtr]:=by kernel_rfl
theorem Jk:bA Tryz.prog 31=false:=by kernel_rfl
theorem Jl:tyk Tryz.prog 32=some (TyK.ptr 96):=by kernel_rfl
theorem Jm:shp Tryz.prog 32=some (false,1):=by kernel_rfl
theorem Jn:zer Tryz.prog 32=some [AV.nilPtr]:=by kernel_rfl
theorem Jo:bA Tryz.prog 32=false:=by kernel_rfl
theorem Jp:tyk Tryz.prog 34=some (TyK.struct [(0,(false,1)),(1,(false,1)),(2,(false,1)),(3,(false,1))]):=by kernel_rfl
theorem Jq:shp Tryz.prog 34=some (true,4):=by kernel_rfl
theorem Jr:zer Tryz.prog 34=some [AV.nilPtr,AV.nilPtr,AV.nilPtr,AV.nilPtr]:=by kernel_rfl
theorem Js:bA Tryz.prog 34=false:=by kernel_rfl
theorem BD:bf Tryz.prog 34 0=some (0,false,1):=by kernel_rfl
theorem BE:bf Tryz.prog 34 1=some (1,false,1):=by kernel_rfl
theorem BF:bf Tryz.prog 34 2=some (2,false,1):=by kernel_rfl
theorem BG:bf Tryz.prog 34 3=some (3,false,1):=by kernel_rfl
theorem Jt:tyk Tryz.prog 39=some (TyK.slice 27 false 1 24):=by kernel_rfl
theorem Ju:shp Tryz.prog 39=some (false,1):=by kernel_rfl
theorem Jv:zer Tryz.prog 39=some [AV.nilSl]:=by kernel_rfl
theorem Jw:bA Tryz.prog 39=false:=by kernel_rfl
theorem Jx:tyk Tryz.prog 45=some (TyK.struct [(0,(false,1)),(1,(false,1)),(2,(false,1))]):=by kernel_rfl
theorem Jy:shp Tryz.prog 45=some (true,3):=by kernel_rfl
theorem Jz:zer Tryz.prog 45=some [(AV.int .i64 0),(AV.str []),(AV.str [])]:=by kernel_rfl
theorem JA:bA Tryz.prog 45=false:=by kernel_rfl
theorem JB:db Tryz.prog 10 45=some [(TyS.si .i64),TyS.ss,TyS.ss]:=by kernel_rfl
theorem JC:Tryz.prog.eqGuardType Tryz.prog.depth 45=false:=by kernel_rfl
theorem BH:bf Tryz.prog 45 0=some (0,false,1):=by kernel_rfl
theorem BI:bf Tryz.prog 45 1=some (1,false,1):=by kernel_rfl
theorem BJ:bf Tryz.prog 45 2=some (2,false,1):=by kernel_rfl
theorem JD:tyk Tryz.prog 48=some (TyK.slice 74 true 3 40):=by kernel_rfl
theorem JE:shp Tryz.prog 48=some (false,1):=by kernel_rfl
theorem JF:zer Tryz.prog 48=some [AV.nilSl]:=by kernel_rfl
theorem JG:bA Tryz.prog 48=false:=by kernel_rfl
theorem JH:tyk Tryz.prog 52=some (TyK.slice 54 true 6 24):=by kernel_rfl
theorem JI:shp Tryz.prog 52=some (false,1):=by kernel_rfl
theorem JJ:zer Tryz.prog 52=some [AV.nilSl]:=by kernel_rfl
theorem JK:bA Tryz.prog 52=false:=by kernel_rfl
theorem JL:tyk Tryz.prog 56=some (TyK.struct [(0,(false,1)),(1,(false,1)),(2,(false,1))]):=by kernel_rfl
theorem JM:shp Tryz.prog 56=some (true,3):=by kernel_rfl
theorem JN:zer Tryz.prog 56=some [(AV.int .i64 0),(AV.int .i64 0),(AV.str [])]:=by kernel_rfl
theorem JO:bA Tryz.prog 56=false:=by kernel_rfl
theorem JP:db Tryz.prog 10 56=some [(TyS.si .i64),(TyS.si .i64),TyS.ss]:=by kernel_rfl
theorem JQ:Tryz.prog.eqGuardType Tryz.prog.depth 56=false:=by kernel_rfl
theorem BK:bf Tryz.prog 56 0=some (0,false,1):=by kernel_rfl
theorem BL:bf Tryz.prog 56 1=some (1,false,1):=by kernel_rfl
theorem BM:bf Tryz.prog 56 2=some (2,false,1):=by kernel_rfl
theorem JR:tyk Tryz.prog 65=some (TyK.struct [(0,(false,1)),(1,(false,1)),(2,(false,1)),(3,(false,1)),(4,(false,1))]):=by kernel_rfl
theorem JS:shp Tryz.prog 65=some (true,5):=by kernel_rfl
theorem JT:zer Tryz.prog 65=some [(AV.int .u8 0),(AV.int .u8 0),(AV.int .u8 0),(AV.int .u8 0),(AV.str [])]:=by kernel_rfl
theorem JU:bA Tryz.prog 65=false:=by kernel_rfl
theorem BN:bf Tryz.prog 65 0=some (0,false,1):=by kernel_rfl
theorem BO:bf Tryz.prog 65 1=some (1,false,1):=by kernel_rfl
theorem BP:bf Tryz.prog 65 2=some (2,false,1):=by kernel_rfl
theorem BQ:bf Tryz.prog 65 3=some (3,false,1):=by kernel_rfl
theorem BR:bf Tryz.prog 65 4=some (4,false,1):=by kernel_rfl
theorem JV:tyk Tryz.prog 74=some (TyK.struct [(0,(false,1)),(1,(false,1)),(2,(false,1))]):=by kernel_rfl
theorem JW:shp Tryz.prog 74=some (true,3):=by kernel_rfl
theorem JX:zer Tryz.prog 74=some [(AV.str []),(AV.bool false),(AV.str [])]:=by kernel_rfl
theorem JY:bA Tryz.prog 74=false:=by kernel_rfl
theorem JZ:db Tryz.prog 10 74=some [TyS.ss,TyS.sb,TyS.ss]:=by kernel_rfl
theorem J0:Tryz.prog.eqGuardType Tryz.prog.depth 74=false:=by kernel_rfl
theorem BS:bf Tryz.prog 74 0=some (0,false,1):=by kernel_rfl
theorem BT:bf Tryz.prog 74 1=some (1,false,1):=by kernel_rfl
theorem BU:bf Tryz.prog 74 2=some (2,false,1):=by kernel_rfl
theorem Ka:tyk Tryz.prog 91=some (TyK.struct [(0,(false,1)),(1,(false,1)),(2,(false,1))]):=by kernel_rfl
theorem Kb:shp Tryz.prog 91=some (true,3):=by kernel_rfl
theorem Kc:zer Tryz.prog 91=some [AV.nilPtr,(AV.str []),(AV.int .i64 0)]:=by kernel_rfl
theorem Kd:bA Tryz.prog 91=false:=by kernel_rfl
theorem BV:bf Tryz.prog 91 0=some (0,false,1):=by kernel_rfl
theorem BW:bf Tryz.prog 91 1=some (1,false,1):=by kernel_rfl
theorem BX:bf Tryz.prog 91 2=some (2,false,1):=by kernel_rfl
theorem Ke:tyk Tryz.prog 96=some (TyK.struct [(0,(false,1)),(1,(false,1)),(2,(false,1))]):=by kernel_rfl
theorem Kf:shp Tryz.prog 96=some (true,3):=by kernel_rfl
theorem Kg:zer Tryz.prog 96=some [AV.nilPtr,(AV.str []),(AV.int .i64 0)]:=by kernel_rfl
theorem Kh:bA Tryz.prog 96=false:=by kernel_rfl
theorem BY:bf Tryz.prog 96 0=some (0,false,1):=by kernel_rfl
theorem BZ:bf Tryz.prog 96 1=some (1,false,1):=by kernel_rfl
theorem B0:bf Tryz.prog 96 2=some (2,false,1):=by kernel_rfl
theorem Ep:tyk Tryz.prog 100=some (TyK.ptr 109):=by kernel_rfl
theorem Er:shp Tryz.prog 100=some (false,1):=by kernel_rfl
theorem Es:zer Tryz.prog 100=some [AV.nilPtr]:=by kernel_rfl
theorem Et:bA Tryz.prog 100=false:=by kernel_rfl
theorem Eu:tyk Tryz.prog 102=some (TyK.map 9 56):=by kernel_rfl
theorem Ev:shp Tryz.prog 102=some (false,1):=by kernel_rfl
theorem Ew:zer Tryz.prog 102=some [AV.nilMap]:=by kernel_rfl
theorem Ex:bA Tryz.prog 102=false:=by kernel_rfl
theorem Ey:nY Tryz.prog 102=some ([TyS.ss],(false,(AV.agg [(AV.int .i64 0),(AV.int .i64 0),(AV.str [])]))):=by kernel_rfl
theorem Ez:gi Tryz.prog 102=some ([TyS.ss],false):=by kernel_rfl
theorem EA:tyk Tryz.prog 105=some (TyK.struct [(0,(false,1)),(1,(false,1))]):=by kernel_rfl
theorem EB:shp Tryz.prog 105=some (true,2):=by kernel_rfl
theorem EC:zer Tryz.prog 105=some [AV.nilMap,AV.nilPtr]:=by kernel_rfl
theorem ED:bA Tryz.prog 105=false:=by kernel_rfl
theorem yv:bf Tryz.prog 105 0=some (0,false,1):=by kernel_rfl
theorem yw:bf Tryz.prog 105 1=some (1,false,1):=by kernel_rfl
theorem EE:tyk Tryz.prog 106=some (TyK.map 119 9):=by kernel_rfl
theorem EF:shp Tryz.prog 106=some (false,1):=by kernel_rfl
theorem EH:zer Tryz.prog 106=some [AV.nilMap]:=by kernel_rfl
theorem EI:bA Tryz.prog 106=false:=by kernel_rfl
theorem EJ:nY Tryz.prog 106=some ([TyS.ss,TyS.sb],(true,(AV.str []))):=by kernel_rfl
theorem EL:gi Tryz.prog 106=some ([TyS.ss,TyS.sb],true):=by kernel_rfl
theorem EM:tyk Tryz.prog 107=some (TyK.map 9 4):=by kernel_rfl
theorem EN:shp Tryz.prog 107=some (false,1):=by kernel_rfl
theorem EO:zer Tryz.prog 107=some [AV.nilMap]:=by kernel_rfl
theorem EP:bA Tryz.prog 107=false:=by kernel_rfl
theorem ER:nY Tryz.prog 107=some ([TyS.ss],(false,(AV.bool false))):=by kernel_rfl
theorem ES:gi Tryz.prog 107=some ([TyS.ss],false):=by kernel_rfl
theorem ET:tyk Tryz.prog 109=some (TyK.struct [(0,(false,1)),(1,(false,1)),(2,(false,1))]):=by kernel_rfl
theorem EU:shp Tryz.prog 109=some (true,3):=by kernel_rfl
theorem EV:zer Tryz.prog 109=some [AV.nilMap,AV.nilMap,AV.nilMap]:=by kernel_rfl
theorem EW:bA Tryz.prog 109=false:=by kernel_rfl
theorem yx:bf Tryz.prog 109 0=some (0,false,1):=by kernel_rfl
theorem yy:bf Tryz.prog 109 1=some (1,false,1):=by kernel_rfl
theorem yz:bf Tryz.prog 109 2=some (2,false,1):=by kernel_rfl
theorem EX:tyk Tryz.prog 113=some (TyK.map 9 110):=by kernel_rfl
theorem EY:shp Tryz.prog 113=some (false,1):=by kernel_rfl
theorem EZ:zer Tryz.prog 113=some [AV.nilMap]:=by kernel_rfl
theorem E0:bA Tryz.prog 113=false:=by kernel_rfl
theorem E3:nY Tryz.prog 113=some ([TyS.ss],(false,AV.nilFn)):=by kernel_rfl
theorem E4:gi Tryz.prog 113=some ([TyS.ss],false):=by kernel_rfl
theorem E5:tyk Tryz.prog 117=some (TyK.struct [(0,(false,1)),(1,(false,1)),(2,(false,1)),(3,(true,3))]):=by kernel_rfl
theorem E6:shp Tryz.prog 117=some (true,6):=by kernel_rfl
theorem E7:zer Tryz.prog 117=some [AV.nilPtr,(AV.str []),(AV.str []),(AV.int .i64 0),(AV.str []),(AV.str [])]:=by kernel_rfl
theorem E8:bA Tryz.prog 117=false:=by kernel_rfl
theorem yA:bf Tryz.prog 117 0=some (0,false,1):=by kernel_rfl
theorem yB:bf Tryz.prog 117 1=some (1,false,1):=by kernel_rfl
theorem yC:bf Tryz.prog 117 2=some (2,false,1):=by kernel_rfl
theorem yD:bf Tryz.prog 117 3=some (3,true,3):=by kernel_rfl
theorem E9:tyk Tryz.prog 119=some (TyK.struct [(0,(false,1)),(1,(false,1))]):=by kernel_rfl
theorem Fa:shp Tryz.prog 119=some (true,2):=by kernel_rfl
theorem Fb:zer Tryz.prog 119=some [(AV.str []),(AV.bool false)]:=by kernel_rfl
theorem Fe:bA Tryz.prog 119=false:=by kernel_rfl
theorem Ff:db Tryz.prog 10 119=some [TyS.ss,TyS.sb]:=by kernel_rfl
theorem Fg:Tryz.prog.eqGuardType Tryz.prog.depth 119=false:=by kernel_rfl
theorem yE:bf Tryz.prog 119 0=some (0,false,1):=by kernel_rfl
theorem yF:bf Tryz.prog 119 1=some (1,false,1):=by kernel_rfl
theorem Fh:tyk Tryz.prog 153=some (TyK.struct [(0,(false,1)),(1,(false,1)),(2,(false,1)),(3,(false,1)),(4,(false,1)),(5,(false,1))]):=by kernel_rfl
theorem Fi:shp Tryz.prog 153=some (true,6):=by kernel_rfl
theorem Fj:zer Tryz.prog 153=some [AV.nilPtr,(AV.str []),AV.nilSl,(AV.int .i64 0),(AV.bool false),(AV.bool false)]:=by kernel_rfl
theorem Fk:bA Tryz.prog 153=false:=by kernel_rfl
theorem yG:bf Tryz.prog 153 0=some (0,false,1):=by kernel_rfl
theorem yH:bf Tryz.prog 153 1=some (1,false,1):=by kernel_rfl
theorem yI:bf Tryz.prog 153 2=some (2,false,1):=by kernel_rfl
theorem yJ:bf Tryz.prog 153 3=some (3,false,1):=by kernel_rfl
theorem yK:bf Tryz.prog 153 4=some (4,false,1):=by kernel_rfl
theorem yL:bf Tryz.prog 153 5=some (5,false,1):=by kernel_rfl
theorem Fl:tyk Tryz.prog 156=some (TyK.slice 161 true 4 48):=by kernel_rfl
theorem Fm:shp Tryz.prog 156=some (false,1):=by kernel_rfl
theorem Fo:zer Tryz.prog 156=some [AV.nilSl]:=by kernel_rfl
theorem Fp:bA Tryz.prog 156=false:=by kernel_rfl
theorem Fq:tyk Tryz.prog 158=some (TyK.struct [(0,(false,1)),(1,(false,1)),(2,(false,1)),(3,(false,1)),(4,(false,1))]):=by kernel_rfl
theorem Fs:shp Tryz.prog 158=some (true,5):=by kernel_rfl
theorem Ft:zer Tryz.prog 158=some [AV.nilSl,AV.nilSl,AV.nilSl,AV.nilSl,(AV.bool false)]:=by kernel_rfl
theorem Fu:bA Tryz.prog 158=false:=by kernel_rfl
theorem yO:bf Tryz.prog 158 0=some (0,false,1):=by kernel_rfl
theorem yP:bf Tryz.prog 158 1=some (1,false,1):=by kernel_rfl
theorem yQ:bf Tryz.prog 158 2=some (2,false,1):=by kernel_rfl
theorem yR:bf Tryz.prog 158 3=some (3,false,1):=by kernel_rfl
theorem yS:bf Tryz.prog 158 4=some (4,false,1):=by kernel_rfl
theorem Fv:tyk Tryz.prog 161=some (TyK.struct [(0,(false,1)),(1,(true,3))]):=by kernel_rfl
theorem Fw:shp Tryz.prog 161=some (true,4):=by kernel_rfl
theorem Fx:zer Tryz.prog 161=some [(AV.str []),(AV.int .i64 0),(AV.int .i64 0),(AV.str [])]:=by kernel_rfl
theorem Fy:bA Tryz.prog 161=false:=by kernel_rfl
theorem yT:bf Tryz.prog 161 0=some (0,false,1):=by kernel_rfl
theorem yU:bf Tryz.prog 161 1=some (1,true,3):=by kernel_rfl
theorem Fz:tyk Tryz.prog 174=some (TyK.arr 2 9 false 1):=by kernel_rfl
theorem FA:shp Tryz.prog 174=some (true,2):=by kernel_rfl
theorem FB:zer Tryz.prog 174=some [(AV.str []),(AV.str [])]:=by kernel_rfl
theorem FC:bA Tryz.prog 174=false:=by kernel_rfl
theorem FD:tyk Tryz.prog 175=some (TyK.map 9 115):=by kernel_rfl
theorem FE:shp Tryz.prog 175=some (false,1):=by kernel_rfl
theorem FF:zer Tryz.prog 175=some [AV.nilMap]:=by kernel_rfl
theorem FG:bA Tryz.prog 175=false:=by kernel_rfl
theorem FH:nY Tryz.prog 175=some ([TyS.ss],(false,AV.nilFn)):=by kernel_rfl
theorem FI:gi Tryz.prog 175=some ([TyS.ss],false):=by kernel_rfl
theorem FJ:tyk Tryz.prog 179=some (TyK.int .u64):=by kernel_rfl
theorem FK:shp Tryz.prog 179=some (false,1):=by kernel_rfl
theorem FN:zer Tryz.prog 179=some [(AV.int .u64 0)]:=by kernel_rfl
theorem FO:bA Tryz.prog 179=false:=by kernel_rfl
theorem FP:db Tryz.prog 10 179=some [(TyS.si .u64)]:=by kernel_rfl
theorem FQ:Tryz.prog.eqGuardType Tryz.prog.depth 179=false:=by kernel_rfl
theorem FR:tyk Tryz.prog 192=some (TyK.slice 5 false 1 1):=by kernel_rfl
theorem FT:shp Tryz.prog 192=some (false,1):=by kernel_rfl
theorem FU:zer Tryz.prog 192=some [AV.nilSl]:=by kernel_rfl
theorem FV:bA Tryz.prog 192=false:=by kernel_rfl
theorem FW:tyk Tryz.prog 194=some (TyK.struct [(0,(false,1)),(1,(false,1))]):=by kernel_rfl
theorem FX:shp Tryz.prog 194=some (true,2):=by kernel_rfl
theorem FY:zer Tryz.prog 194=some [AV.nilPtr,AV.nilSl]:=by kernel_rfl
theorem FZ:bA Tryz.prog 194=true:=by kernel_rfl
theorem yV:bf Tryz.prog 194 0=some (0,false,1):=by kernel_rfl
theorem yW:bf Tryz.prog 194 1=some (1,false,1):=by kernel_rfl
theorem Ga:tyk Tryz.prog 196=some (TyK.iface 1):=by kernel_rfl
theorem Gb:shp Tryz.prog 196=some (false,1):=by kernel_rfl
theorem Gc:zer Tryz.prog 196=some [AV.nilIface]:=by kernel_rfl
theorem Gd:bA Tryz.prog 196=false:=by kernel_rfl
theorem Ge:tyk Tryz.prog 227=some (TyK.arr 256 3 false 1):=by kernel_rfl
theorem Gf:shp Tryz.prog 227=some (true,256):=by kernel_rfl
theorem Gg:bA Tryz.prog 227=false:=by kernel_rfl
theorem Gi:tyk Tryz.prog 239=some (TyK.slice 3 false 1 8):=by kernel_rfl
theorem Gj:shp Tryz.prog 239=some (false,1):=by kernel_rfl
theorem Gk:zer Tryz.prog 239=some [AV.nilSl]:=by kernel_rfl
theorem Gl:bA Tryz.prog 239=false:=by kernel_rfl
theorem Gm:tyk Tryz.prog 250=some (TyK.ptr 5):=by kernel_rfl
theorem Gn:shp Tryz.prog 250=some (false,1):=by kernel_rfl
theorem Gp:zer Tryz.prog 250=some [AV.nilPtr]:=by kernel_rfl
theorem Gq:bA Tryz.prog 250=false:=by kernel_rfl
attribute [go_sem] Lx Ly Lz LB LC LD LF LG LH LI LJ LM LN LO LP LQ LS LU
attribute [go_sem] LV LW LX LY LZ L3
attribute [go_sem] IL IM IN IP
attribute [go_sem] IQ IS IT IU IV IW IX IY IZ I0 I1 I2 I3 I4 I5 I6 I7 I8 I9 Ja Jb Jc
attribute [go_sem] Jd Je Jf Jg Jh Ji Jj Jk Jl Jm Jn Jo Jp Jq Jr Js BD BE BF BG
attribute [go_sem] Jt Ju Jv Jw Jx Jy Jz JA JB JC BH
attribute [go_sem] BI BJ JD JE JF JG JH JI JJ JK
attribute [go_sem] JL JM JN JO JP JQ BK BL BM
attribute [go_sem] JR JS JT JU BN BO BP
attribute [go_sem] BQ BR
attribute [go_sem] JV JW JX JY JZ J0 BS BT BU
attribute [go_sem] Ka Kb Kc Kd BV BW BX Ke Kf Kg Kh BY BZ B0
attribute [go_sem] Ep Er Es Et Eu Ev Ew Ex Ey Ez EA EB EC ED yv yw
attribute [go_sem] EE EF EH EI EJ EL EM EN EO EP ER ES ET EU EV EW yx yy yz EX EY
attribute [go_sem] EZ E0 E3 E4 E5 E6 E7 E8 yA yB yC yD E9 Fa Fb Fe
attribute [go_sem] Ff Fg yE yF
attribute [go_sem] Fh Fi Fj Fk yG yH yI yJ yK yL
attribute [go_sem] Fl Fm Fo Fp Fq Fs Ft Fu yO yP yQ yR yS Fv Fw Fx Fy
attribute [go_sem] yT yU
attribute [go_sem] Fz FA FB FC FD FE FF FG FH FI FJ FK FN FO FP FQ
attribute [go_sem] FR FT FU FV FW FX FY FZ yV yW Ga Gb Gc Gd
attribute [go_sem] Ge Gf Gg
attribute [go_sem] Gi Gj Gk Gl
attribute [go_sem] Gm Gn Gp Gq
theorem mixed:Tryz.prog.follows .mixedOrders=true:=by kernel_rfl
end Go.Proofs.YtfbnaalhioogoaaGreatDoor
namespace Go.Proofs.YtfbnaalhioogoaaGreatDoor
open Go
set_option maxRecDepth 100000
set_option maxHeartbeats 1000000
theorem w7:((Tryz.prog.info? 194).map (·.size))=some 2:=by kernel_rfl
theorem Gr:liesAt Tryz.prog Tryz.prog.depth 194 (2 / Tryz.prog.cellsOf 194) 0 194 1=true:=by kernel_rfl
theorem oB (b:Nat) (w:World) (h0:w.cell? ⟨b,0,none⟩=some (.pointer (some ⟨b,0,none⟩))) :
  Calls Tryz.prog 253 #[.pointer (some ⟨b,0,none⟩)] w fun e w'=>e = .returned (.tuple #[])∧w' = w:=by
 obtain ⟨j,hj,_⟩:=Option.map_eq_some_iff.1 w7
 go_enter Tryz.func253,Tryz.ntmps253
 go_wp2
 rw [Lib.run_neq_ptr_same w _ Tryz.underlying190 hj]
 go_wp2
 go_end0
 exact ⟨rfl,rfl⟩
theorem nf (b:Nat) (w:World) (h0:w.cell? ⟨b,0,none⟩=some (.pointer none)) (hsh:w.shape? b=some (194,2)) (hfz:w.frozen? ⟨b,0,none⟩=false) :
  Calls Tryz.prog 253 #[.pointer (some ⟨b,0,none⟩)] w fun e w'=>e = .returned (.tuple #[])∧w' = w.setCell ⟨b,0,none⟩ (.pointer (some ⟨b,0,none⟩)):=by
 obtain ⟨j,hj,hjs⟩:=Option.map_eq_some_iff.1 w7
 go_enter Tryz.func253,Tryz.ntmps253
 go_wp2
 rw [Lib.run_to_unsafe w ⟨b,0,none⟩ Tryz.underlying190 Tryz.underlying272 hj (by rw [hjs];decide) hsh (Nat.zero_lt_succ 1)]
 simp only [Result.andThen]
 rw [Oper.upon_value]
 go_wp2
 rw [run_callFunc_extern Tryz.func298 (by kernel_rfl) (by kernel_rfl) (by kernel_rfl) (e:=Extern.AbiNoEscape.same) (by kernel_rfl)]
 rw [Lib.run_noEscape]
 simp only [Result.andThen]
 rw [Oper.upon_value]
 go_wp2
 rw [Lib.run_from_unsafe w ⟨b,0,none⟩ Tryz.underlying272 Tryz.underlying190 hj hsh Gr]
 simp only [Result.andThen]
 rw [Oper.upon_value]
 go_wp2
 go_end0
 exact ⟨rfl,rfl⟩
end Go.Proofs.YtfbnaalhioogoaaGreatDoor
namespace Go.Proofs
open Go.Shelf
def Tryz.tF:Go.Shelf.Ren:=⟨fun|162=>279|232=>313|227=>314|234=>315|236=>316|228=>335|271=>336|151=>337|120=>346|197=>333|152=>347|260=>345|137=>348|119=>349|224=>328|225=>327|217=>326|266=>341|n=>n,fun|9=>9|4=>4|3=>3|5=>5|117=>288|116=>287|0=>0|124=>291|21=>21|105=>305|46=>179|119=>320|139=>323|138=>322|n=>n,fun|3=>6|4=>7|n=>n⟩
theorem Tryz.Gs:Go.Proofs.Lays.n162 Tryz.prog Tryz.tF:={
 mixed:=by kernel_rfl
 f119:=Tryz.func349.trans (congrArg some (by kernel_rfl))
 f120:=Tryz.func346.trans (congrArg some (by kernel_rfl))
 f137:=Tryz.func348.trans (congrArg some (by kernel_rfl))
 f151:=Tryz.func337.trans (congrArg some (by kernel_rfl))
 f152:=Tryz.func347.trans (congrArg some (by kernel_rfl))
 f162:=Tryz.func279.trans (congrArg some (by kernel_rfl))
 f197:=Tryz.func333.trans (congrArg some (by kernel_rfl))
 f217:=Tryz.func326.trans (congrArg some (by kernel_rfl))
 f224:=Tryz.func328.trans (congrArg some (by kernel_rfl))
 f225:=Tryz.func327.trans (congrArg some (by kernel_rfl))
 f227:=Tryz.func314.trans (congrArg some (by kernel_rfl))
 f228:=Tryz.func335.trans (congrArg some (by kernel_rfl))
 f232:=Tryz.func313.trans (congrArg some (by kernel_rfl))
 f234:=Tryz.func315.trans (congrArg some (by kernel_rfl))
 f236:=Tryz.func316.trans (congrArg some (by kernel_rfl))
 f260:=Tryz.func345.trans (congrArg some (by kernel_rfl))
 f266:=Tryz.func341.trans (congrArg some (by kernel_rfl))
 f271:=Tryz.func336.trans (congrArg some (by kernel_rfl))
 t0:=Tryz.underlying0
 a0:=Tryz.isAgg0
 z0:=Tryz.sizeOf0
 v0:=Tryz.zeroValue0
 t3:=Tryz.underlying3
 a3:=Tryz.isAgg3
 z3:=Tryz.sizeOf3
 v3:=Tryz.zeroValue3
 t4:=Tryz.underlying4
 a4:=Tryz.isAgg4
 z4:=Tryz.sizeOf4
 v4:=Tryz.zeroValue4
 t5:=Tryz.underlying5
 a5:=Tryz.isAgg5
 z5:=Tryz.sizeOf5
 v5:=Tryz.zeroValue5
 t9:=Tryz.underlying9
 a9:=Tryz.isAgg9
 z9:=Tryz.sizeOf9
 v9:=Tryz.zeroValue9
 t21:=Tryz.underlying21
 a21:=Tryz.isAgg21
 z21:=Tryz.sizeOf21
 v21:=Tryz.zeroValue21
 t46:=Tryz.underlying179
 a46:=Tryz.isAgg179
 z46:=Tryz.sizeOf179
 v46:=Tryz.zeroValue179
 t105:=Tryz.underlying305
 a105:=Tryz.isAgg305
 z105:=Tryz.sizeOf305
 v105:=Tryz.zeroValue305
 t116:=Tryz.underlying287
 a116:=Tryz.isAgg287
 z116:=Tryz.sizeOf287
 t117:=Tryz.underlying288
 a117:=Tryz.isAgg288
 z117:=Tryz.sizeOf288
 v117:=Tryz.zeroValue288
 t119:=Tryz.underlying320
 a119:=Tryz.isAgg320
 z119:=Tryz.sizeOf320
 t124:=Tryz.underlying291
 a124:=Tryz.isAgg291
 z124:=Tryz.sizeOf291
 v124:=Tryz.zeroValue291
 t138:=Tryz.underlying322
 a138:=Tryz.isAgg322
 z138:=Tryz.sizeOf322
 v138:=Tryz.zeroValue322
 t139:=Tryz.underlying323
 a139:=Tryz.isAgg323
 z139:=Tryz.sizeOf323
 v139:=Tryz.zeroValue323
 g3:=by kernel_rfl
 g4:=by kernel_rfl }
open Go.RowKit in
theorem Tryz.strings_TrimRight_one (s:ByteArray) (c:UInt8) (hc:c.toNat < 128) (w:World) (hs:s.size≤9223372036854775807) :
  Calls Tryz.prog 279 #[.string s,.string ⟨#[c]⟩] w fun e w'=>e = .returned (.string ⟨(Lib.trimRightB s.data.toList c).toArray⟩)∧w' = w:=Any.strings_TrimRight_one Tryz.Gs s c hc w hs
def Tryz.rS:Go.Shelf.Ren:=⟨fun|171=>98|243=>180|246=>254|283=>299|284=>300|285=>301|286=>302|129=>244|317=>322|318=>323|319=>324|320=>325|337=>339|338=>340|n=>n,fun|3=>3|9=>9|2=>2|4=>4|171=>274|0=>0|53=>238|37=>192|5=>5|173=>276|212=>298|51=>187|20=>20|213=>299|46=>179|232=>318|233=>319|n=>n,fun|17=>1|18=>4|19=>5|n=>n⟩
theorem Tryz.B3:Go.Proofs.LaysM.n171 Tryz.prog Tryz.rS:={
 mixed:=by kernel_rfl
 f129:=Tryz.func244.trans (congrArg some (by kernel_rfl))
 f171:=Tryz.func98.trans (congrArg some (by kernel_rfl))
 f243:=Tryz.func180.trans (congrArg some (by kernel_rfl))
 f246:=Tryz.func254.trans (congrArg some (by kernel_rfl))
 f283:=Tryz.func299.trans (congrArg some (by kernel_rfl))
 f284:=Tryz.func300.trans (congrArg some (by kernel_rfl))
 f285:=Tryz.func301.trans (congrArg some (by kernel_rfl))
 f286:=Tryz.func302.trans (congrArg some (by kernel_rfl))
 f317:=Tryz.func322.trans (congrArg some (by kernel_rfl))
 f318:=Tryz.func323.trans (congrArg some (by kernel_rfl))
 f319:=Tryz.func324.trans (congrArg some (by kernel_rfl))
 f320:=Tryz.func325.trans (congrArg some (by kernel_rfl))
 f337:=Tryz.func339.trans (congrArg some (by kernel_rfl))
 f338:=Tryz.func340.trans (congrArg some (by kernel_rfl))
 t0:=Tryz.underlying0
 a0:=Tryz.isAgg0
 z0:=Tryz.sizeOf0
 v0:=Tryz.zeroValue0
 t2:=Tryz.underlying2
 a2:=Tryz.isAgg2
 z2:=Tryz.sizeOf2
 v2:=Tryz.zeroValue2
 t3:=Tryz.underlying3
 a3:=Tryz.isAgg3
 z3:=Tryz.sizeOf3
 v3:=Tryz.zeroValue3
 t4:=Tryz.underlying4
 a4:=Tryz.isAgg4
 z4:=Tryz.sizeOf4
 v4:=Tryz.zeroValue4
 t5:=Tryz.underlying5
 a5:=Tryz.isAgg5
 z5:=Tryz.sizeOf5
 v5:=Tryz.zeroValue5
 t9:=Tryz.underlying9
 a9:=Tryz.isAgg9
 z9:=Tryz.sizeOf9
 v9:=Tryz.zeroValue9
 t20:=Tryz.underlying20
 a20:=Tryz.isAgg20
 z20:=Tryz.sizeOf20
 v20:=Tryz.zeroValue20
 t37:=Tryz.underlying192
 a37:=Tryz.isAgg192
 z37:=Tryz.sizeOf192
 v37:=Tryz.zeroValue192
 t46:=Tryz.underlying179
 a46:=Tryz.isAgg179
 z46:=Tryz.sizeOf179
 v46:=Tryz.zeroValue179
 t51:=Tryz.underlying187
 a51:=Tryz.isAgg187
 z51:=Tryz.sizeOf187
 v51:=Tryz.zeroValue187
 t53:=Tryz.underlying238
 a53:=Tryz.isAgg238
 z53:=Tryz.sizeOf238
 v53:=Tryz.zeroValue238
 t171:=Tryz.underlying274
 a171:=Tryz.isAgg274
 z171:=Tryz.sizeOf274
 v171:=Tryz.zeroValue274
 t173:=Tryz.underlying276
 a173:=Tryz.isAgg276
 z173:=Tryz.sizeOf276
 v173:=Tryz.zeroValue276
 t212:=Tryz.underlying298
 a212:=Tryz.isAgg298
 z212:=Tryz.sizeOf298
 v212:=Tryz.zeroValue298
 t213:=Tryz.underlying299
 a213:=Tryz.isAgg299
 z213:=Tryz.sizeOf299
 t232:=Tryz.underlying318
 a232:=Tryz.isAgg318
 z232:=Tryz.sizeOf318
 v232:=Tryz.zeroValue318
 t233:=Tryz.underlying319
 a233:=Tryz.isAgg319
 z233:=Tryz.sizeOf319
 v233:=Tryz.zeroValue319
 g17:=by kernel_rfl
 g18:=by kernel_rfl
 g19:=by kernel_rfl
 i0:=by kernel_rfl
 i2:=by kernel_rfl
 i3:=by kernel_rfl
 i4:=by kernel_rfl
 i5:=by kernel_rfl
 i9:=by kernel_rfl
 i20:=by kernel_rfl
 i37:=by kernel_rfl
 i46:=by kernel_rfl
 i51:=by kernel_rfl
 i53:=by kernel_rfl
 i171:=by kernel_rfl
 i173:=by kernel_rfl
 i212:=by kernel_rfl
 i232:=by kernel_rfl
 i233:=by kernel_rfl
 m17:=by kernel_rfl
 m18:=by kernel_rfl
 m19:=by kernel_rfl }
open Go.RowKit Go.Sort Go.Lib in
theorem Tryz.strconv_Itoa (n:Int) (h0:-9223372036854775808≤n) (h1:n≤9223372036854775807) (w:World) (htab:Lib.TabIs Tryz.prog w "internal/strconv.uint64pow10" .u64 Lib.pow10Tab) :
  Calls Tryz.prog 98 #[.int .i64 n] w fun e w'=>e = .returned (.string ⟨(Lib.itoa n).toArray⟩)∧∃ k os,w' = grow (w.drewN k) os:=Any.strconv_Itoa Tryz.B3 n h0 h1 w htab
def Tryz.rT:Go.Shelf.Ren:=⟨fun|172=>183|244=>257|245=>258|247=>304|279=>305|280=>306|281=>307|282=>308|287=>330|316=>331|171=>98|205=>332|321=>343|322=>344|243=>180|246=>254|283=>299|284=>300|285=>301|286=>302|129=>244|317=>322|318=>323|319=>324|320=>325|337=>339|338=>340|n=>n,fun|9=>9|3=>3|75=>196|76=>197|4=>4|5=>5|167=>278|37=>192|0=>0|85=>279|2=>2|168=>281|53=>238|175=>300|46=>179|210=>303|127=>250|145=>316|143=>314|21=>21|171=>274|173=>276|212=>298|51=>187|20=>20|213=>299|232=>318|233=>319|80=>185|n=>n,fun|15=>2|16=>3|17=>1|18=>4|19=>5|n=>n⟩
theorem Tryz.oC:Go.Proofs.LaysC.n172 Tryz.prog Tryz.rT:={
 mixed:=by kernel_rfl
 f129:=Tryz.func244.trans (congrArg some (by kernel_rfl))
 f171:=Tryz.func98.trans (congrArg some (by kernel_rfl))
 f172:=Tryz.func183.trans (congrArg some (by kernel_rfl))
 f205:=Tryz.func332.trans (congrArg some (by kernel_rfl))
 f243:=Tryz.func180.trans (congrArg some (by kernel_rfl))
 f244:=Tryz.func257.trans (congrArg some (by kernel_rfl))
 f245:=Tryz.func258.trans (congrArg some (by kernel_rfl))
 f246:=Tryz.func254.trans (congrArg some (by kernel_rfl))
 f247:=Tryz.func304.trans (congrArg some (by kernel_rfl))
 f279:=Tryz.func305.trans (congrArg some (by kernel_rfl))
 f280:=Tryz.func306.trans (congrArg some (by kernel_rfl))
 f281:=Tryz.func307.trans (congrArg some (by kernel_rfl))
 f282:=Tryz.func308.trans (congrArg some (by kernel_rfl))
 f283:=Tryz.func299.trans (congrArg some (by kernel_rfl))
 f284:=Tryz.func300.trans (congrArg some (by kernel_rfl))
 f285:=Tryz.func301.trans (congrArg some (by kernel_rfl))
 f286:=Tryz.func302.trans (congrArg some (by kernel_rfl))
 f287:=Tryz.func330.trans (congrArg some (by kernel_rfl))
 f316:=Tryz.func331.trans (congrArg some (by kernel_rfl))
 f317:=Tryz.func322.trans (congrArg some (by kernel_rfl))
 f318:=Tryz.func323.trans (congrArg some (by kernel_rfl))
 f319:=Tryz.func324.trans (congrArg some (by kernel_rfl))
 f320:=Tryz.func325.trans (congrArg some (by kernel_rfl))
 f321:=Tryz.func343.trans (congrArg some (by kernel_rfl))
 f322:=Tryz.func344.trans (congrArg some (by kernel_rfl))
 f337:=Tryz.func339.trans (congrArg some (by kernel_rfl))
 f338:=Tryz.func340.trans (congrArg some (by kernel_rfl))
 t0:=Tryz.underlying0
 a0:=Tryz.isAgg0
 z0:=Tryz.sizeOf0
 v0:=Tryz.zeroValue0
 t2:=Tryz.underlying2
 a2:=Tryz.isAgg2
 z2:=Tryz.sizeOf2
 v2:=Tryz.zeroValue2
 t3:=Tryz.underlying3
 a3:=Tryz.isAgg3
 z3:=Tryz.sizeOf3
 v3:=Tryz.zeroValue3
 t4:=Tryz.underlying4
 a4:=Tryz.isAgg4
 z4:=Tryz.sizeOf4
 v4:=Tryz.zeroValue4
 t5:=Tryz.underlying5
 a5:=Tryz.isAgg5
 z5:=Tryz.sizeOf5
 v5:=Tryz.zeroValue5
 t9:=Tryz.underlying9
 a9:=Tryz.isAgg9
 z9:=Tryz.sizeOf9
 v9:=Tryz.zeroValue9
 t20:=Tryz.underlying20
 a20:=Tryz.isAgg20
 z20:=Tryz.sizeOf20
 v20:=Tryz.zeroValue20
 t21:=Tryz.underlying21
 a21:=Tryz.isAgg21
 z21:=Tryz.sizeOf21
 v21:=Tryz.zeroValue21
 t37:=Tryz.underlying192
 a37:=Tryz.isAgg192
 z37:=Tryz.sizeOf192
 v37:=Tryz.zeroValue192
 t46:=Tryz.underlying179
 a46:=Tryz.isAgg179
 z46:=Tryz.sizeOf179
 v46:=Tryz.zeroValue179
 t51:=Tryz.underlying187
 a51:=Tryz.isAgg187
 z51:=Tryz.sizeOf187
 v51:=Tryz.zeroValue187
 t53:=Tryz.underlying238
 a53:=Tryz.isAgg238
 z53:=Tryz.sizeOf238
 v53:=Tryz.zeroValue238
 t75:=Tryz.underlying196
 a75:=Tryz.isAgg196
 z75:=Tryz.sizeOf196
 v75:=Tryz.zeroValue196
 t76:=Tryz.underlying197
 a76:=Tryz.isAgg197
 z76:=Tryz.sizeOf197
 v76:=Tryz.zeroValue197
 t85:=Tryz.underlying279
 a85:=Tryz.isAgg279
 z85:=Tryz.sizeOf279
 v85:=Tryz.zeroValue279
 t127:=Tryz.underlying250
 a127:=Tryz.isAgg250
 z127:=Tryz.sizeOf250
 v127:=Tryz.zeroValue250
 t143:=Tryz.underlying314
 a143:=Tryz.isAgg314
 z143:=Tryz.sizeOf314
 v143:=Tryz.zeroValue314
 t145:=Tryz.underlying316
 a145:=Tryz.isAgg316
 z145:=Tryz.sizeOf316
 v145:=Tryz.zeroValue316
 t167:=Tryz.underlying278
 a167:=Tryz.isAgg278
 z167:=Tryz.sizeOf278
 v167:=Tryz.zeroValue278
 t168:=Tryz.underlying281
 a168:=Tryz.isAgg281
 z168:=Tryz.sizeOf281
 v168:=Tryz.zeroValue281
 t171:=Tryz.underlying274
 a171:=Tryz.isAgg274
 z171:=Tryz.sizeOf274
 v171:=Tryz.zeroValue274
 t173:=Tryz.underlying276
 a173:=Tryz.isAgg276
 z173:=Tryz.sizeOf276
 v173:=Tryz.zeroValue276
 t175:=Tryz.underlying300
 a175:=Tryz.isAgg300
 z175:=Tryz.sizeOf300
 v175:=Tryz.zeroValue300
 t210:=Tryz.underlying303
 a210:=Tryz.isAgg303
 z210:=Tryz.sizeOf303
 v210:=Tryz.zeroValue303
 t212:=Tryz.underlying298
 a212:=Tryz.isAgg298
 z212:=Tryz.sizeOf298
 v212:=Tryz.zeroValue298
 t213:=Tryz.underlying299
 a213:=Tryz.isAgg299
 z213:=Tryz.sizeOf299
 t232:=Tryz.underlying318
 a232:=Tryz.isAgg318
 z232:=Tryz.sizeOf318
 v232:=Tryz.zeroValue318
 t233:=Tryz.underlying319
 a233:=Tryz.isAgg319
 z233:=Tryz.sizeOf319
 v233:=Tryz.zeroValue319
 g15:=by kernel_rfl
 g16:=by kernel_rfl
 g17:=by kernel_rfl
 g18:=by kernel_rfl
 g19:=by kernel_rfl
 t80:=Tryz.underlying185
 a80:=Tryz.isAgg185
 z80:=Tryz.sizeOf185
 v80:=Tryz.zeroValue185
 i0:=by kernel_rfl
 i2:=by kernel_rfl
 i3:=by kernel_rfl
 i4:=by kernel_rfl
 i5:=by kernel_rfl
 i9:=by kernel_rfl
 i20:=by kernel_rfl
 i21:=by kernel_rfl
 i37:=by kernel_rfl
 i46:=by kernel_rfl
 i51:=by kernel_rfl
 i53:=by kernel_rfl
 i75:=by kernel_rfl
 i76:=by kernel_rfl
 i80:=by kernel_rfl
 i85:=by kernel_rfl
 i127:=by kernel_rfl
 i143:=by kernel_rfl
 i145:=by kernel_rfl
 i167:=by kernel_rfl
 i168:=by kernel_rfl
 i171:=by kernel_rfl
 i173:=by kernel_rfl
 i175:=by kernel_rfl
 i210:=by kernel_rfl
 i212:=by kernel_rfl
 i232:=by kernel_rfl
 i233:=by kernel_rfl
 m15:=by kernel_rfl
 m16:=by kernel_rfl
 m17:=by kernel_rfl
 m18:=by kernel_rfl
 m19:=by kernel_rfl
 c0:=by kernel_rfl
 c2:=by kernel_rfl
 c3:=by kernel_rfl
 c4:=by kernel_rfl
 c5:=by kernel_rfl
 c9:=by kernel_rfl
 c20:=by kernel_rfl
 c21:=by kernel_rfl
 c37:=by kernel_rfl
 c46:=by kernel_rfl
 c51:=by kernel_rfl
 c53:=by kernel_rfl
 c75:=by kernel_rfl
 c76:=by kernel_rfl
 c80:=by kernel_rfl
 c85:=by kernel_rfl
 c127:=by kernel_rfl
 c143:=by kernel_rfl
 c145:=by kernel_rfl
 c167:=by kernel_rfl
 c168:=by kernel_rfl
 c171:=by kernel_rfl
 c173:=by kernel_rfl
 c175:=by kernel_rfl
 c210:=by kernel_rfl
 c212:=by kernel_rfl
 c213:=by kernel_rfl
 c232:=by kernel_rfl
 c233:=by kernel_rfl }
open Go.RowKit in
theorem Tryz.strconv_Atoi_ok (s:ByteArray) (hmax:s.size≤9223372036854775806) (v:Int) (h:Lib.atoiAll s.data.toList = .ok v) (w:World) :
  Calls Tryz.prog 183 #[.string s] w fun e w'=>e = .returned (.tuple #[.int .i64 v,.nilIface])∧(w' = w∨∃ t,w' = Lib.bytesWorld w 5 t):=Any.strconv_Atoi_ok Tryz.oC s hmax v h w
open Go.RowKit in
theorem Tryz.strconv_Atoi_range (s:ByteArray) (hlim:s.size≤281474976710656) (h:Lib.atoiAll s.data.toList = .range) (ev:Value) (w:World) (hv:w.cell? ⟨3,0,none⟩=some ev) (hev:ev = .nilIface∨∃ te pe,ev = .iface te pe) :
  Calls Tryz.prog 183 #[.string s] w fun e w'=>∃ N,e = .returned (.tuple #[.int .i64 (Lib.atoiSat s.data.toList),.iface 281 (.pointer (some ⟨N,0,none⟩))])∧w.heap.size≤N∧w'.heap[N]? = some (.cells #[.string ⟨#[65,116,111,105]⟩,.string s,ev] 303 (0,0))∧Below w.heap.size w w':=Any.strconv_Atoi_range Tryz.oC s hlim h ev w hv hev
open Go.RowKit Go.Lib in
def Tryz.tG:Go.Shelf.Ren:=⟨fun|144=>233|143=>278|219=>303|217=>326|225=>327|224=>328|267=>329|266=>341|314=>342|n=>n,fun|9=>9|4=>4|3=>3|5=>5|46=>179|146=>311|51=>187|n=>n,fun|1=>0|n=>n⟩
theorem Tryz.w9:Go.Proofs.Lays.n144 Tryz.prog Tryz.tG:={
 mixed:=by kernel_rfl
 f143:=Tryz.func278.trans (congrArg some (by kernel_rfl))
 f144:=Tryz.func233.trans (congrArg some (by kernel_rfl))
 f217:=Tryz.func326.trans (congrArg some (by kernel_rfl))
 f219:=Tryz.func303.trans (congrArg some (by kernel_rfl))
 f224:=Tryz.func328.trans (congrArg some (by kernel_rfl))
 f225:=Tryz.func327.trans (congrArg some (by kernel_rfl))
 f266:=Tryz.func341.trans (congrArg some (by kernel_rfl))
 f267:=Tryz.func329.trans (congrArg some (by kernel_rfl))
 f314:=Tryz.func342.trans (congrArg some (by kernel_rfl))
 t3:=Tryz.underlying3
 a3:=Tryz.isAgg3
 z3:=Tryz.sizeOf3
 v3:=Tryz.zeroValue3
 t4:=Tryz.underlying4
 a4:=Tryz.isAgg4
 z4:=Tryz.sizeOf4
 v4:=Tryz.zeroValue4
 t5:=Tryz.underlying5
 a5:=Tryz.isAgg5
 z5:=Tryz.sizeOf5
 v5:=Tryz.zeroValue5
 t9:=Tryz.underlying9
 a9:=Tryz.isAgg9
 z9:=Tryz.sizeOf9
 v9:=Tryz.zeroValue9
 t46:=Tryz.underlying179
 a46:=Tryz.isAgg179
 z46:=Tryz.sizeOf179
 v46:=Tryz.zeroValue179
 t51:=Tryz.underlying187
 a51:=Tryz.isAgg187
 z51:=Tryz.sizeOf187
 v51:=Tryz.zeroValue187
 t146:=Tryz.underlying311
 a146:=Tryz.isAgg311
 z146:=Tryz.sizeOf311
 v146:=Tryz.zeroValue311
 g1:=by kernel_rfl }
open Go.RowKit Go.Lib in
theorem Tryz.strings_Contains_one (s:ByteArray) (c:UInt8) (w:World) :
  Calls Tryz.prog 233 #[.string s,.string ⟨#[c]⟩] w fun e w'=>e = .returned (.bool (decide (0≤Lib.indexByte s.data.toList c)))∧w' = w:=Any.strings_Contains_one Tryz.w9 s c w
def Tryz.tH:Go.Shelf.Ren:=⟨fun|190=>161|125=>155|258=>248|128=>243|129=>244|302=>285|303=>286|304=>287|305=>288|306=>289|307=>290|308=>291|309=>292|310=>293|333=>318|329=>281|330=>282|334=>319|335=>320|336=>245|344=>338|n=>n,fun|31=>27|9=>9|3=>3|46=>179|0=>0|51=>187|53=>238|4=>4|183=>231|182=>230|131=>139|5=>5|218=>259|222=>263|228=>292|229=>293|n=>n,fun|n=>n⟩
theorem Tryz.xa:Go.Proofs.Lays.n190 Tryz.prog Tryz.tH:={
 mixed:=by kernel_rfl
 f125:=Tryz.func155.trans (congrArg some (by kernel_rfl))
 f128:=Tryz.func243.trans (congrArg some (by kernel_rfl))
 f129:=Tryz.func244.trans (congrArg some (by kernel_rfl))
 f190:=Tryz.func161.trans (congrArg some (by kernel_rfl))
 f258:=Tryz.func248.trans (congrArg some (by kernel_rfl))
 f302:=Tryz.func285.trans (congrArg some (by kernel_rfl))
 f303:=Tryz.func286.trans (congrArg some (by kernel_rfl))
 f304:=Tryz.func287.trans (congrArg some (by kernel_rfl))
 f305:=Tryz.func288.trans (congrArg some (by kernel_rfl))
 f306:=Tryz.func289.trans (congrArg some (by kernel_rfl))
 f307:=Tryz.func290.trans (congrArg some (by kernel_rfl))
 f308:=Tryz.func291.trans (congrArg some (by kernel_rfl))
 f309:=Tryz.func292.trans (congrArg some (by kernel_rfl))
 f310:=Tryz.func293.trans (congrArg some (by kernel_rfl))
 f329:=Tryz.func281.trans (congrArg some (by kernel_rfl))
 f330:=Tryz.func282.trans (congrArg some (by kernel_rfl))
 f333:=Tryz.func318.trans (congrArg some (by kernel_rfl))
 f334:=Tryz.func319.trans (congrArg some (by kernel_rfl))
 f335:=Tryz.func320.trans (congrArg some (by kernel_rfl))
 f336:=Tryz.func245.trans (congrArg some (by kernel_rfl))
 f344:=Tryz.func338.trans (congrArg some (by kernel_rfl))
 t0:=Tryz.underlying0
 a0:=Tryz.isAgg0
 z0:=Tryz.sizeOf0
 v0:=Tryz.zeroValue0
 t3:=Tryz.underlying3
 a3:=Tryz.isAgg3
 z3:=Tryz.sizeOf3
 v3:=Tryz.zeroValue3
 t4:=Tryz.underlying4
 a4:=Tryz.isAgg4
 z4:=Tryz.sizeOf4
 v4:=Tryz.zeroValue4
 t5:=Tryz.underlying5
 a5:=Tryz.isAgg5
 z5:=Tryz.sizeOf5
 v5:=Tryz.zeroValue5
 t9:=Tryz.underlying9
 a9:=Tryz.isAgg9
 z9:=Tryz.sizeOf9
 v9:=Tryz.zeroValue9
 t31:=Tryz.underlying27
 a31:=Tryz.isAgg27
 z31:=Tryz.sizeOf27
 v31:=Tryz.zeroValue27
 t46:=Tryz.underlying179
 a46:=Tryz.isAgg179
 z46:=Tryz.sizeOf179
 v46:=Tryz.zeroValue179
 t51:=Tryz.underlying187
 a51:=Tryz.isAgg187
 z51:=Tryz.sizeOf187
 v51:=Tryz.zeroValue187
 t53:=Tryz.underlying238
 a53:=Tryz.isAgg238
 z53:=Tryz.sizeOf238
 v53:=Tryz.zeroValue238
 t131:=Tryz.underlying139
 a131:=Tryz.isAgg139
 z131:=Tryz.sizeOf139
 v131:=Tryz.zeroValue139
 t182:=Tryz.underlying230
 a182:=Tryz.isAgg230
 z182:=Tryz.sizeOf230
 v182:=Tryz.zeroValue230
 t183:=Tryz.underlying231
 a183:=Tryz.isAgg231
 z183:=Tryz.sizeOf231
 v183:=Tryz.zeroValue231
 t218:=Tryz.underlying259
 a218:=Tryz.isAgg259
 z218:=Tryz.sizeOf259
 v218:=Tryz.zeroValue259
 t222:=Tryz.underlying263
 a222:=Tryz.isAgg263
 z222:=Tryz.sizeOf263
 v222:=Tryz.zeroValue263
 t228:=Tryz.underlying292
 a228:=Tryz.isAgg292
 z228:=Tryz.sizeOf292
 v228:=Tryz.zeroValue292
 t229:=Tryz.underlying293
 a229:=Tryz.isAgg293
 z229:=Tryz.sizeOf293
 v229:=Tryz.zeroValue293 }
open Go.Sort Go.RowKit in
theorem Tryz.slices_Sort_string (blk off cap:Nat) (ss:List (List UInt8)) (w:World) (hH:Holds encStr w blk off ss.toArray) (hblk:blk < w.heap.size) (hsz:ss.length < 4611686018427387904) :
  Calls Tryz.prog 161 #[.slice (some ⟨blk,off,none⟩) ss.length cap] w fun e w' =>
   e = .returned (.tuple #[])∧∃ n os,w' = grow (putRow encStr (Sort.ahead w n) blk off (ss.mergeSort fun x y=>decide (x≤y)).toArray) os:=Any.slices_Sort_string Tryz.xa blk off cap ss w hH hblk hsz
def Tryz.tI:Go.Shelf.Ren:=⟨fun|149=>191|222=>261|n=>n,fun|9=>9|5=>5|3=>3|4=>4|n=>n,fun|n=>n⟩
theorem Tryz.Gt:Go.Proofs.Lays.n149 Tryz.prog Tryz.tI:={
 mixed:=by kernel_rfl
 f149:=Tryz.func191.trans (congrArg some (by kernel_rfl))
 f222:=Tryz.func261.trans (congrArg some (by kernel_rfl))
 t3:=Tryz.underlying3
 a3:=Tryz.isAgg3
 z3:=Tryz.sizeOf3
 v3:=Tryz.zeroValue3
 t4:=Tryz.underlying4
 a4:=Tryz.isAgg4
 z4:=Tryz.sizeOf4
 v4:=Tryz.zeroValue4
 t5:=Tryz.underlying5
 a5:=Tryz.isAgg5
 z5:=Tryz.sizeOf5
 v5:=Tryz.zeroValue5
 t9:=Tryz.underlying9
 a9:=Tryz.isAgg9
 z9:=Tryz.sizeOf9
 v9:=Tryz.zeroValue9 }
open Go.RowKit Go.Lib in
theorem Tryz.strings_LastIndexByte (s:ByteArray) (c:Int) (hs:s.size < 4611686018427387904) (w:World) :
  Calls Tryz.prog 191 #[.string s,.int .u8 c] w fun e w'=>e = .returned (.int .i64 (Lib.lastIndexByte s c))∧w' = w:=Any.strings_LastIndexByte Tryz.Gt s c hs w
def Tryz.tJ:Go.Shelf.Ren:=⟨fun|102=>210|209=>273|207=>110|n=>n,fun|9=>9|4=>4|3=>3|n=>n,fun|n=>n⟩
theorem Tryz.Gu:Go.Proofs.Lays.n102 Tryz.prog Tryz.tJ:={
 mixed:=by kernel_rfl
 f102:=Tryz.func210.trans (congrArg some (by kernel_rfl))
 f207:=Tryz.func110.trans (congrArg some (by kernel_rfl))
 f209:=Tryz.func273.trans (congrArg some (by kernel_rfl))
 t3:=Tryz.underlying3
 a3:=Tryz.isAgg3
 z3:=Tryz.sizeOf3
 v3:=Tryz.zeroValue3
 t4:=Tryz.underlying4
 a4:=Tryz.isAgg4
 z4:=Tryz.sizeOf4
 v4:=Tryz.zeroValue4
 t9:=Tryz.underlying9
 a9:=Tryz.isAgg9
 z9:=Tryz.sizeOf9
 v9:=Tryz.zeroValue9 }
open Go.RowKit Go.Lib in
theorem Tryz.strings_TrimSuffix (s p:ByteArray) (w:World) (hs:s.size≤9223372036854775807) :
  Calls Tryz.prog 210 #[.string s,.string p] w fun e w'=>e = .returned (.string ⟨(Lib.trimSuffix s.data.toList p.data.toList).toArray⟩)∧w' = w:=Any.strings_TrimSuffix Tryz.Gu s p w hs
def Tryz.tK:Go.Shelf.Ren:=⟨fun|146=>187|221=>260|268=>309|138=>222|143=>278|195=>276|197=>333|218=>277|219=>303|260=>345|217=>326|225=>327|224=>328|267=>329|266=>341|314=>342|n=>n,fun|9=>9|31=>27|3=>3|4=>4|0=>0|105=>305|21=>21|5=>5|46=>179|119=>320|139=>323|138=>322|146=>311|51=>187|n=>n,fun|1=>0|3=>6|4=>7|n=>n⟩
theorem Tryz.Gv:Go.Proofs.Lays.n146 Tryz.prog Tryz.tK:={
 mixed:=by kernel_rfl
 f138:=Tryz.func222.trans (congrArg some (by kernel_rfl))
 f143:=Tryz.func278.trans (congrArg some (by kernel_rfl))
 f146:=Tryz.func187.trans (congrArg some (by kernel_rfl))
 f195:=Tryz.func276.trans (congrArg some (by kernel_rfl))
 f197:=Tryz.func333.trans (congrArg some (by kernel_rfl))
 f217:=Tryz.func326.trans (congrArg some (by kernel_rfl))
 f218:=Tryz.func277.trans (congrArg some (by kernel_rfl))
 f219:=Tryz.func303.trans (congrArg some (by kernel_rfl))
 f221:=Tryz.func260.trans (congrArg some (by kernel_rfl))
 f224:=Tryz.func328.trans (congrArg some (by kernel_rfl))
 f225:=Tryz.func327.trans (congrArg some (by kernel_rfl))
 f260:=Tryz.func345.trans (congrArg some (by kernel_rfl))
 f266:=Tryz.func341.trans (congrArg some (by kernel_rfl))
 f267:=Tryz.func329.trans (congrArg some (by kernel_rfl))
 f268:=Tryz.func309.trans (congrArg some (by kernel_rfl))
 f314:=Tryz.func342.trans (congrArg some (by kernel_rfl))
 t0:=Tryz.underlying0
 a0:=Tryz.isAgg0
 z0:=Tryz.sizeOf0
 v0:=Tryz.zeroValue0
 t3:=Tryz.underlying3
 a3:=Tryz.isAgg3
 z3:=Tryz.sizeOf3
 v3:=Tryz.zeroValue3
 t4:=Tryz.underlying4
 a4:=Tryz.isAgg4
 z4:=Tryz.sizeOf4
 v4:=Tryz.zeroValue4
 t5:=Tryz.underlying5
 a5:=Tryz.isAgg5
 z5:=Tryz.sizeOf5
 v5:=Tryz.zeroValue5
 t9:=Tryz.underlying9
 a9:=Tryz.isAgg9
 z9:=Tryz.sizeOf9
 v9:=Tryz.zeroValue9
 t21:=Tryz.underlying21
 a21:=Tryz.isAgg21
 z21:=Tryz.sizeOf21
 v21:=Tryz.zeroValue21
 t31:=Tryz.underlying27
 a31:=Tryz.isAgg27
 z31:=Tryz.sizeOf27
 v31:=Tryz.zeroValue27
 t46:=Tryz.underlying179
 a46:=Tryz.isAgg179
 z46:=Tryz.sizeOf179
 v46:=Tryz.zeroValue179
 t51:=Tryz.underlying187
 a51:=Tryz.isAgg187
 z51:=Tryz.sizeOf187
 v51:=Tryz.zeroValue187
 t105:=Tryz.underlying305
 a105:=Tryz.isAgg305
 z105:=Tryz.sizeOf305
 v105:=Tryz.zeroValue305
 t119:=Tryz.underlying320
 a119:=Tryz.isAgg320
 z119:=Tryz.sizeOf320
 t138:=Tryz.underlying322
 a138:=Tryz.isAgg322
 z138:=Tryz.sizeOf322
 v138:=Tryz.zeroValue322
 t139:=Tryz.underlying323
 a139:=Tryz.isAgg323
 z139:=Tryz.sizeOf323
 v139:=Tryz.zeroValue323
 t146:=Tryz.underlying311
 a146:=Tryz.isAgg311
 z146:=Tryz.sizeOf311
 v146:=Tryz.zeroValue311
 g1:=by kernel_rfl
 g3:=by kernel_rfl
 g4:=by kernel_rfl }
open Go.RowKit Go.Lib in
theorem Tryz.strings_Split (s sep:ByteArray) (m:Int) (w:World) (hs:s.size < 4294967281) (hm:w.cell? ⟨0,0,none⟩=some (.int .i64 m)) (h1:1≤sep.size) :
  Calls Tryz.prog 187 #[.string s,.string sep] w fun e w' =>
   e = .returned (.slice (some ⟨w.heap.size,0,none⟩) (Lib.countB s sep+1) (Lib.countB s sep+1))∧w' = w.alloc (.cells ((Lib.splitB sep 0 (Lib.countB s sep) s).map Value.string).toArray 9):=Any.strings_Split Tryz.Gv (by kernel_rfl) s sep m w hs hm h1
open Go.RowKit Go.Sort in
theorem Tryz.slices_Sort_string_none (p:Option Addr) (cap:Nat) (w:World) :
  Calls Tryz.prog 161 #[.slice p 0 cap] w fun e w'=>e = .returned (.tuple #[])∧w' = w:=Any.slices_Sort_string_none Tryz.xa p cap w
end Go.Proofs
namespace Go.Proofs.YtfbnaalhioogoaaGreatDoor
open Go Go.Ab Go.RowKit
def jQ (g:Gh):Prop:=(∃ v,g.com 2 0=some v∧(v = .nilIface∨∃ t p,v = .iface t p))∧∃ v,g.com 3 0=some v∧(v = .nilIface∨∃ t p,v = .iface t p)
theorem jQ.mono {g g':Gh} (h:Gh.le g g'):jQ g→jQ g':=fun ⟨⟨v,h3,h4⟩,u,h5,h6⟩=>⟨⟨v,h.2.1 _ _ _ h3,h4⟩,u,h.2.1 _ _ _ h5,h6⟩
instance B4:Laid Tryz.prog where
 facts g:=g.row 1=some 20∧(∀ j z,Lib.pow10Tab[j]? = some z→g.com 1 j=some (.int .u64 z))∧(∃ m,g.com 0 0=some (.int .i64 m))∧jQ g
 mono h:=fun ⟨h1,h2,⟨m,h7⟩,h8⟩=>⟨h.2.2 _ _ h1,fun j z hz=>h.2.1 _ _ _ (h2 j z hz),⟨m,h.2.1 _ _ _ h7⟩,jQ.mono h h8⟩
theorem Ki {g:Gh} {w:World} (h:l6 Tryz.prog g w):Lib.TabIs Tryz.prog w "internal/strconv.uint64pow10" .u64 Lib.pow10Tab:=by
 obtain ⟨h1,h2,_⟩:=h.facts
 obtain ⟨c,t,fz,h3,h4⟩:=h.rows 1 20 h1
 have hn:Tryz.prog.globalNamed "internal/strconv.uint64pow10" = some 1:=by kernel_rfl
 simp only [Lib.TabIs,World.var?,hn,Option.bind_some,h3]
 congr 1
 apply Array.ext
 ·rw [h4];rfl
 ·intro j h5 h6
  have h7:j < Lib.pow10Tab.length:=by simpa using h6
  have h8:=h.com 1 j _ (h2 j _ (List.getElem?_eq_getElem h7))
  simp only [World.cell?,h3,Option.isSome_none,Bool.false_eq_true,if_false,Array.getElem?_eq_getElem h5,Option.some.injEq] at h8
  simpa using h8
theorem gJ (n:Int) (h0:-9223372036854775808≤n) (h1:n≤9223372036854775807) (p:Oid) (hp:p.mono=false):af Tryz.prog 98 [.int .i64 n] (Oid.under p) ⟨[],.str (Lib.itoa n),[]⟩ :=
 fI (by kernel_rfl) hp fun g args w ha ht=>by
  obtain ⟨v,rfl,hv⟩:=ha.one
  rw [hv.bl]
  refine (Tryz.strconv_Itoa n h0 h1 w (Ki ht)).mono ?_
  rintro e w' ⟨rfl,k,os,rfl⟩
  exact ⟨_,rfl,.str _ _ rfl,⟨rfl,rfl,rfl,by simp [Sort.grow,World.drewN],fun b hb=>by simp only [Sort.grow,World.drewN];rw [Array.getElem?_append_left hb]⟩⟩
theorem B5 (q:Oid) (v:AV) (sp:Oid→Prop):af Tryz.prog 253 [.ptr (.ty 194 q) 0] sp ⟨[(.ty 194 q,.cells [.nilPtr,v])],.tuple [],[(.ty 194 q,some (.cells [.ptr (.ty 194 q) 0,v]))]⟩ :=
 ⟨by kernel_rfl,fun x g args w m hm hn ha hs hx=>by
  obtain ⟨u,rfl,hu⟩:=ha.one
  obtain ⟨b,rfl,hb⟩:=hu.dU
  have hmid:=hn (.ty 194 q,.cells [.nilPtr,v]) (by simp)
  obtain ⟨b',h1,h2,h3,h4⟩:=hm.gP hmid hb
  rw [hb] at h1;simp only [Option.some.injEq] at h1;subst h1
  obtain ⟨c,t,fz,c1,c2,c3,c4⟩:=h4
  obtain ⟨c',fz',h5⟩:=hm.typs 194 q b hb
  rw [c1] at h5;simp only [Option.some.injEq,Obj.cells.injEq] at h5
  obtain ⟨_,rfl,_⟩:=h5
  have hsz:c.size=2:=c2
  have k0:=c4 0 (by simp)
  have k1:=c4 1 (by simp)
  simp only [List.getD_cons_zero,List.getD_cons_succ] at k0 k1
  have k0':=k0.dW
  have hlt:b < w.heap.size:=(Array.getElem?_eq_some_iff.1 c1).1
  have hg0:c[0]? = some (.pointer none):=by
   rw [Array.getD_eq_getD_getElem?] at k0'
   rw [Array.getElem?_eq_getElem (by omega)] at k0' ⊢
   simpa using k0'
  have hf:¬ (fz.1≤0∧0 < fz.2):=c3 0 (by omega)
  refine (nf b w (by simp [World.cell?,c1,hg0]) (by simp [World.shape?,c1,hsz]) (by
   obtain ⟨lo,hi⟩:=fz
   simp only [World.frozen?,c1]
   simp only at hf
   by_cases h:lo≤0
   ·have:¬ 0 < hi:=fun h'=>hf ⟨h,h'⟩
    simp [this]
   ·simp [h])).mono ?_
  rintro e w' ⟨rfl,rfl⟩
  have hnew:(w.setCell ⟨b,0,none⟩ (.pointer (some ⟨b,0,none⟩))).heap[b]? = some (.cells (c.setIfInBounds 0 (.pointer (some ⟨b,0,none⟩))) 194 fz):=by simp [World.setCell,Array.getElem?_modify,c1]
  refine ⟨g,_,rfl,Gh.le_refl g,fun _ _=>rfl,.tuple _ _ rfl (fun j hj=>absurd hj (Nat.not_lt_zero _)),?_⟩
  refine hm.gD (o:=.cells [.ptr (.ty 194 q) 0,v]) (w':=w.setCell ⟨b,0,none⟩ (.pointer (some ⟨b,0,none⟩))) hmid hb rfl rfl ⟨rfl,Nat.le_refl _⟩ (by simp [World.setCell]) (fun k hk _=>Below.heap_setCell w ⟨b,0,none⟩ _ k hk) (fun r hr=>?_) (fun c9 t9 fz9 h9=>?_) ?_
  ·obtain ⟨c',t',fz',h6,h7⟩:=hm.rows b r hr
   rw [c1] at h6;simp only [Option.some.injEq,Obj.cells.injEq] at h6
   obtain ⟨rfl,rfl,rfl⟩:=h6
   exact ⟨_,_,_,hnew,by simp [h7]⟩
  ·rw [c1] at h9;simp only [Option.some.injEq,Obj.cells.injEq] at h9
   obtain ⟨rfl,rfl,rfl⟩:=h9
   exact ⟨_,_,hnew⟩
  ·refine ⟨_,_,_,hnew,by simp [hsz],fun j hj=>c3 j (by simpa using hj),fun j hj=>?_⟩
   have hj2:j < 2:=hj
   match j,hj2 with
   | 0,_ =>
    simp only [List.getD_cons_zero,Array.getD_eq_getD_getElem?]
    rw [Array.getElem?_setIfInBounds_self_of_lt (by omega)]
    exact .ptr _ 0 b hb
   | 1,_ =>
    simp only [List.getD_cons_succ,List.getD_cons_zero,Array.getD_eq_getD_getElem?]
    rw [Array.getElem?_setIfInBounds_ne (by omega),← Array.getD_eq_getD_getElem?]
    exact k1⟩
theorem Gw (q:Oid) (v:AV) (sp:Oid→Prop):af Tryz.prog 253 [.ptr q 0] sp ⟨[(q,.cells [.ptr q 0,v])],.tuple [],[]⟩ :=
 ⟨by kernel_rfl,fun x g args w m hm hn ha hs hx=>by
  obtain ⟨u,rfl,hu⟩:=ha.one
  obtain ⟨b,rfl,hb⟩:=hu.dU
  have hmid:=hn (q,.cells [.ptr q 0,v]) (by simp)
  obtain ⟨b',h1,h2,h3,h4⟩:=hm.gP hmid hb
  rw [hb] at h1;simp only [Option.some.injEq] at h1;subst h1
  obtain ⟨c,t,fz,c1,c2,c3,c4⟩:=h4
  have hsz:c.size=2:=c2
  have k0:=c4 0 (by simp)
  simp only [List.getD_cons_zero] at k0
  obtain ⟨b2,k0',hb2⟩:=k0.dU
  rw [hb] at hb2;simp only [Option.some.injEq] at hb2;subst hb2
  have hg0:c[0]? = some (.pointer (some ⟨b,0,none⟩)):=by
   rw [Array.getD_eq_getD_getElem?] at k0'
   rw [Array.getElem?_eq_getElem (by omega)] at k0' ⊢
   simpa using k0'
  refine (oB b w (by simp [World.cell?,c1,hg0])).mono ?_
  rintro e w' ⟨rfl,rfl⟩
  exact ⟨g,_,rfl,Gh.le_refl g,fun _ _=>rfl,.tuple _ _ rfl (fun j hj=>absurd hj (Nat.not_lt_zero _)),hm⟩⟩
end Go.Proofs.YtfbnaalhioogoaaGreatDoor
namespace Go.Ab
open Go.ChangeShapes Go.WideShapes
section
variable {β:Type}
theorem law_lifted_row {C:Checked} [Laid C.prog] {os:Os} {f:FuncId} {fn:Func} {s:ChangeSpec} {F:Stop.Interp} {conds:List PathCond} {laid:List (String × DataW Unit)} {tb:TypeId} {H:Type} {enc:TypeId × Value→H} {ts:List TypeId} {B:β→List AV} {W:β→Prop}
  (own:ownKnob C.prog.godebug=none) (started:os.Started) (noInit:C.prog.inits.idxOf? f=none) (hfn:C.prog.funcs[f]? = some fn)
  (witness:∃ (w:World) (tape:Tape) (i:Input),w.os=os∧(w.forCall tape i).Shaped C.prog∧i.vars=[]∧Input.okWide C.prog (w.forCall tape i) .any w.heap.size f i ∧
   (OpenSpec.ofChange s).preRow enc C.prog fn conds false laid (w.forCall tape i).memory i.args∧({}:Assume).holds C.prog (lone (Frame.enter C.prog f i.args .normal) [] (w.forCall tape i)))
  (hl:laidOutB C.prog=true) (hz:∀ t e,t < C.prog.types.size→C.prog.underlying t=some (.slice e)→0 < C.prog.cellsOf e) (hp:fn.params.toList=ts) (hrB:(ts.all fun t=>C.prog.readableRec t && decide (t < C.prog.types.size))=true)
  (hrt:fn.resultTypes=#[tb]) (htb:C.prog.underlying tb=some .bool) (hv:s.vars=[]) (hs:∀ ds:List (DataW H),ds.length=ts.length→s.fn H ds={ results:=[.lit (.bool true)],args:=ds })
  (hA:RdA C.prog ts B W) (hc:∀ b,W b→af C.prog f (B b) (Oid.under (.root C.prog.globals.size)) ⟨[],.bool true,[]⟩) (hLaid:∀ W:World,laidMetH C.prog laid W→W.ShapedOpen C.prog→Laid.facts C.prog (cR C.prog.globals.size W)) :
  ReturnsInHanded {} C os f .any ((OpenSpec.ofChange s).preRow enc C.prog fn conds false laid) (((OpenSpec.ofChange s).at F).post enc C.prog fn false true false false):=by
 have hr:∀ t ∈ ts,C.prog.readableRec t=true∧t < C.prog.types.size:=fun t ht=>by
  have:=List.all_eq_true.1 hrB t ht
  simpa using this
 refine returnsInHanded_of_row own started noInit hfn witness ?_
 intro w base args ds gs before hval hW _ _ hsz hlaid hopen _
 have hW:DataW.Whole enc C.prog fn.params.toList s.vars false w args.toList ds gs before:=hW
 have hsz:(DataW.weightsEach C.prog (fn.params.toList++s.plain.varTypes C.prog) (ds++gs)).all (· ≤ reachBytes)=true:=hsz
 have hW':=hW
 obtain ⟨p,q,hT,hV,rfl,hfz,hnd⟩:=hW
 rw [hv] at hV
 obtain ⟨rfl,rfl⟩:=trodVars_none hV
 have hlen:=ju hT
 rw [hp] at hT hlen
 have hvt:s.plain.varTypes C.prog=[]:=by
  have:s.plain.vars=[]:=hv
  unfold DataSpec.varTypes;rw [this];rfl
 rw [hvt,List.append_nil,List.append_nil,List.all_eq_true,hp] at hsz
 obtain ⟨b,k1,k2,k3⟩:=hA.rd (ng:=C.prog.globals.size) (fun j t v ht hv'=>hval j t v (by rw [← Array.getElem?_toList,hp];exact ht) (by rw [← Array.getElem?_toList];exact hv')) hT fun n hn=>by simpa using hsz n hn
 refine BA hl hz (by rw [hp];exact hr) hrt htb hv hW' (hs ds hlen) (avs:=B b) ⟨by simpa using k2,fun j hj=>?_⟩ (hc b k1) (hLaid _ hlaid hopen)
 have:=k3 j (by rw [k2];exact hj)
 simpa [List.getD_eq_getElem?_getD,Array.getD_eq_getD_getElem?] using this
end
theorem tL {ng:Nat} {P:Program} {W:World} {name:String} {k:IntKind} {zs:List Int} {g:Nat} (hg:P.globalNamed name=some g) (h:Lib.TabIs P W name k zs) :
  (cR ng W).row g=some zs.length∧∀ j z,zs[j]? = some z→(cR ng W).com g j=some (.int k z):=by
 simp only [Lib.TabIs,World.var?,hg,Option.bind_some] at h
 cases hw:W.heap[g]? with
 | none=>rw [hw] at h;cases h
 | some o =>
  rw [hw] at h
  cases o with
  | cells c t fz =>
   simp only [Option.some.injEq] at h
   subst h
   refine ⟨by simp [cR,hw],fun j z hz=>jP ?_ rfl⟩
   simp [World.cell?,hw,hz]
  | _=>cases h
theorem qA {ng:Nat} {P:Program} {W:World} {name nm:String} {d:DataW Unit} {g:Nat} {ti:TypeId} {ms:Array (String × TypeId)} (hg:P.globalNamed name=some g) (hty:(P.globals[g]?).map (·.type)=some ti) (hi:P.underlying ti=some (.interface ms))
  {l:List (String × DataW Unit)} (hm:(name,.iface nm d) ∈ l) (h:laidMet P l W):∃ v,(cR ng W).com g 0=some v∧(v = .nilIface∨∃ t p,v = .iface t p):=by
 obtain ⟨ps,hl,_,_⟩:=h
 have key:∀ {l:List (String × DataW Unit)} {ps:List MemPlace},DataW.LaidVars P W l ps→(name,.iface nm d) ∈ l→∃ t p,W.cell? ⟨g,0,none⟩=some (.iface t p):=by
  intro l
  induction l with
  | nil=>intro ps _ hm;cases hm
  | cons x r ih =>
   obtain ⟨n,e⟩:=x
   intro ps hl hm
   obtain ⟨g',t,cs,fuel,p,q,h1,h2,h3,h4,h5,_⟩:=hl
   rcases List.mem_cons.1 hm with hm|hm
   ·simp only [Prod.mk.injEq] at hm
    obtain ⟨rfl,rfl⟩:=hm
    rw [hg] at h1;simp only [Option.some.injEq] at h1;subst h1
    rw [hty] at h2;simp only [Option.some.injEq] at h2;subst h2
    obtain ⟨_,u,v,h6,_,_⟩:=iface_of_trod hi h4
    simp only [World.var?,hg,Option.bind_some] at h3
    cases hw:W.heap[g]? with
    | none=>rw [hw] at h3;cases h3
    | some o =>
     rw [hw] at h3
     cases o with
     | cells c t' fz =>
      simp only [Option.some.injEq] at h3
      subst h3
      refine ⟨u,v,?_⟩
      have h7:c[0]? = some (.iface u v):=by rw [← Array.getElem?_toList,h6];rfl
      simp [World.cell?,hw,h7]
     | _=>cases h3
   ·exact ih h5 hm
 obtain ⟨t,p,hc⟩:=key hl hm
 exact ⟨_,jP hc rfl,.inr ⟨t,p,rfl⟩⟩
theorem vC {P:Program} {W:World} {name:String} {k:IntKind} {zs:List Int} {g:Nat} {t e:TypeId} {n:Nat} (hg:P.globalNamed name=some g) (hty:(P.globals[g]?).map (·.type)=some t) (ht:P.underlying t=some (.array n e)) (he:P.underlying e=some (.int k)) (hce:P.cellsOf e=1) (hct:P.cellsOf t=n)
  {l:List (String × DataW Unit)} (hm:(name,Lib.tabData k zs) ∈ l) (h:laidMet P l W):Lib.TabIs P W name k zs:=by
 obtain ⟨ps,hl,h1,h2⟩:=h
 clear h1 h2
 induction l generalizing ps with
 | nil=>cases hm
 | cons x r ih =>
  obtain ⟨n',d⟩:=x
  obtain ⟨g',t',cs,fuel,p,q,h1,h2,h3,h4,h5,_⟩:=hl
  rcases List.mem_cons.1 hm with hm|hm
  ·simp only [Prod.mk.injEq] at hm
   obtain ⟨rfl,rfl⟩:=hm
   rw [hg] at h1;simp only [Option.some.injEq] at h1;subst h1
   rw [hty] at h2;simp only [Option.some.injEq] at h2;subst h2
   have:=Lib.cells_of_tab ht he hce hct h4
   show W.var? P name=_
   rw [h3,← this]
  ·exact ih hm q h5
end Go.Ab
namespace Go.Proofs.YtfbnaalhioogoaaGreatDoor
open Go Go.Ab Go.ChangeShapes Go.WideShapes Go.RowKit
set_option maxRecDepth 100000
def LL:List (String × DataW Unit):=[("math/bits.deBruijn32tab",Rows.laid_math_bits_deBruijn32tab),("math/bits.deBruijn64tab",Rows.laid_math_bits_deBruijn64tab),("internal/strconv.uint64pow10",Rows.laid_internal_strconv_uint64pow10),("unicode/utf8.acceptRanges",Rows.laid_unicode_utf8_acceptRanges),("strconv.ErrRange",Rows.laid_strconv_ErrRange),("strconv.ErrSyntax",Rows.laid_strconv_ErrSyntax),("unicode/utf8.first",Rows.laid_unicode_utf8_first)]
def vD (c:Array Value):Obj→Obj
 | .cells _ t fz=>.cells c t fz
 | o=>o
def B6 (h:Array Obj):Array Obj:=(((((((h.modify 4 (vD #[.int .u8 0,.int .u8 1,.int .u8 28,.int .u8 2,.int .u8 29,.int .u8 14,.int .u8 24,.int .u8 3,.int .u8 30,.int .u8 22,.int .u8 20,.int .u8 15,.int .u8 25,.int .u8 17,.int .u8 4,.int .u8 8,.int .u8 31,.int .u8 27,.int .u8 13,.int .u8 23,.int .u8 21,.int .u8 19,.int .u8 16,.int .u8 7,.int .u8 26,.int .u8 12,.int .u8 18,.int .u8 6,.int .u8 11,.int .u8 5,.int .u8 10,.int .u8 9])).modify 5 (vD #[.int .u8 0,.int .u8 1,.int .u8 56,.int .u8 2,.int .u8 57,.int .u8 49,.int .u8 28,.int .u8 3,.int .u8 61,.int .u8 58,.int .u8 42,.int .u8 50,.int .u8 38,.int .u8 29,.int .u8 17,.int .u8 4,.int .u8 62,.int .u8 47,.int .u8 59,.int .u8 36,.int .u8 45,.int .u8 43,.int .u8 51,.int .u8 22,.int .u8 53,.int .u8 39,.int .u8 33,.int .u8 30,.int .u8 24,.int .u8 18,.int .u8 12,.int .u8 5,.int .u8 63,.int .u8 55,.int .u8 48,.int .u8 27,.int .u8 60,.int .u8 41,.int .u8 37,.int .u8 16,.int .u8 46,.int .u8 35,.int .u8 44,.int .u8 21,.int .u8 52,.int .u8 32,.int .u8 23,.int .u8 11,.int .u8 54,.int .u8 26,.int .u8 40,.int .u8 15,.int .u8 34,.int .u8 20,.int .u8 31,.int .u8 10,.int .u8 25,.int .u8 14,.int .u8 19,.int .u8 9,.int .u8 13,.int .u8 8,.int .u8 7,.int .u8 6])).modify 1 (vD #[.int .u64 1,.int .u64 10,.int .u64 100,.int .u64 1000,.int .u64 10000,.int .u64 100000,.int .u64 1000000,.int .u64 10000000,.int .u64 100000000,.int .u64 1000000000,.int .u64 10000000000,.int .u64 100000000000,.int .u64 1000000000000,.int .u64 10000000000000,.int .u64 100000000000000,.int .u64 1000000000000000,.int .u64 10000000000000000,.int .u64 100000000000000000,.int .u64 1000000000000000000,.int .u64 10000000000000000000])).modify 7 (vD #[.int .u8 128,.int .u8 191,.int .u8 160,.int .u8 191,.int .u8 128,.int .u8 159,.int .u8 144,.int .u8 191,.int .u8 128,.int .u8 143,.int .u8 0,.int .u8 0,.int .u8 0,.int .u8 0,.int .u8 0,.int .u8 0,.int .u8 0,.int .u8 0,.int .u8 0,.int .u8 0,.int .u8 0,.int .u8 0,.int .u8 0,.int .u8 0,.int .u8 0,.int .u8 0,.int .u8 0,.int .u8 0,.int .u8 0,.int .u8 0,.int .u8 0,.int .u8 0])).modify 3 (vD #[.iface 314 (.pointer (some ⟨13,0,none⟩))])).modify 2 (vD #[.iface 314 (.pointer (some ⟨14,0,none⟩))])).modify 6 (vD ((Go.Pinned.utf8FirstZ.map fun (n:Nat)=>Value.int .u8 (n:Int)).toArray)))++#[.cells #[.string ⟨#[118,97,108,117,101,32,111,117,116,32,111,102,32,114,97,110,103,101]⟩] 316 (0,0),.cells #[.string ⟨#[105,110,118,97,108,105,100,32,115,121,110,116,97,120]⟩] 316 (0,0)]
noncomputable def laidWorld (os:Os):World:={ World.holding Tryz.prog os ⟨#[],#[],[]⟩ with heap:=B6 (World.holding Tryz.prog os ⟨#[],#[],[]⟩).heap }
theorem laid_met (os:Os) (args:Array Value):laidMet Tryz.prog LL ((laidWorld os).forCall (fun _ _=>0) ⟨#[],args,[]⟩).memory :=
 laidMet_of_run' 8 (by kernel_rfl) (by kernel_rfl)
theorem Kj {W:World} (h:laidMetH Tryz.prog LL W):laidMet Tryz.prog LL W:=h
end Go.Proofs.YtfbnaalhioogoaaGreatDoor
namespace Go.Proofs.YtfbnaalhioogoaaGreatDoor
open Go Go.Ab
set_option maxRecDepth 100000
instance HJ:Laid Tryz.checked.prog:=B4
theorem own:ownKnob Tryz.prog.godebug=none:=by kernel_rfl
theorem laidOut:laidOutB Tryz.prog=true:=by kernel_rfl
theorem full:∀ t e,t < Tryz.prog.types.size→Tryz.prog.underlying t=some (.slice e)→0 < Tryz.prog.cellsOf e:=slices_full_of _ (by kernel_rfl)
theorem B7 {W:World} (h':laidMet Tryz.prog LL W):jQ (cR Tryz.prog.globals.size W) :=
 ⟨qA (P:=Tryz.prog) (name := "strconv.ErrSyntax") (ti:=196) (by kernel_rfl) (by kernel_rfl) Tryz.underlying196 (l:=LL) (List.mem_cons_of_mem _ (List.mem_cons_of_mem _ (List.mem_cons_of_mem _ (List.mem_cons_of_mem _ (List.mem_cons_of_mem _ List.mem_cons_self))))) h',
  qA (P:=Tryz.prog) (name := "strconv.ErrRange") (ti:=196) (by kernel_rfl) (by kernel_rfl) Tryz.underlying196 (l:=LL) (List.mem_cons_of_mem _ (List.mem_cons_of_mem _ (List.mem_cons_of_mem _ (List.mem_cons_of_mem _ List.mem_cons_self)))) h'⟩
theorem laid_facts {W:World} (h:laidMetH Tryz.prog LL W) (ho:W.ShapedOpen Tryz.prog):Laid.facts Tryz.prog (cR Tryz.prog.globals.size W):=by
 have h':=Kj h
 have ht:Lib.TabIs Tryz.prog W "internal/strconv.uint64pow10" .u64 Lib.pow10Tab :=
  vC (g:=1) (t:=298) (e:=238) (n:=20) (by kernel_rfl) (by kernel_rfl) (by kernel_rfl) (by kernel_rfl) (by kernel_rfl) (by kernel_rfl) (l:=LL) (List.mem_cons_of_mem _ (List.mem_cons_of_mem _ List.mem_cons_self)) h'
 have hn:Tryz.prog.globalNamed "internal/strconv.uint64pow10" = some 1:=by kernel_rfl
 obtain ⟨t1,t2⟩:=tL (ng:=Tryz.prog.globals.size) hn ht
 obtain ⟨m,hm⟩:=cell_of_shapedOpen_int (P:=Tryz.prog) (g:=0) (zero:=#[.int .i64 0]) (t:=3) ho (of_decide_eq_true (by kernel_rfl)) (by kernel_rfl) rfl (by kernel_rfl) (by kernel_rfl) Tryz.underlying3
 exact ⟨t1,t2,⟨m,jP hm rfl⟩,B7 h'⟩
end Go.Proofs.YtfbnaalhioogoaaGreatDoor
namespace Go.Proofs.YtfbnaalhioogoaaGreatDoor
open Go Go.Ab
set_option maxRecDepth 20000
set_option maxHeartbeats 2000000
theorem lp {v:OpR}:gdR True v=v:=if_pos trivial
theorem rU {need:List (Oid × aw)} {upd:List (Oid × Option aw)} {m:Mem} (h1:∀ q,q ∈ upd→∀ o,q.2=some o→m q.1=some o) (h2:∀ q,q ∈ need→(∀ r,r ∈ upd→¬ r.1=q.1)→m q.1=some q.2) (i:Oid) (o:aw)
  (h:((Mem.of need).aI upd) i=some o):m i=some o:=by
 by_cases hk:∃ q ∈ upd,q.1=i
 ·obtain ⟨q',k1,k2,k3⟩:=jq (m:=Mem.of need) hk
  rw [k3] at h
  rw [← k2];exact h1 q' k1 o h
 ·rw [bc fun q hq e=>hk ⟨q,hq,e⟩] at h
  obtain ⟨q,k1,rfl,rfl⟩:=Mem.dM h
  exact h2 q k1 fun r hr e=>hk ⟨r,hr,e⟩
theorem aZ {P:Program} {rs:List ResultVar} {need:List (Oid × aw)} {fr:List (Nat × AV)} {m:Mem} {c:Nat} {val:AV} {upd:List (Oid × Option aw)} (h1:gR P m fr rs=some val)
  (h2:∀ q,q ∈ upd→∀ o,q.2=some o→m q.1=some o) (h3:∀ q,q ∈ need→(∀ r,r ∈ upd→¬ r.1=q.1)→m q.1=some q.2):ez P rs need (fun v u=>v=val∧u=upd) (fun _ _=>False) .ret ⟨fr,m,c,[]⟩ :=
 bO val upd h1 ⟨rfl,rfl⟩ (rU h2 h3)
theorem lq (q:Oid) (s:List UInt8) (hl:s.length≤140737488355328) (p:Oid) (hq:¬ Oid.under p (.ty 194 q)) :
  af Tryz.prog 178 [.ptr (.ty 194 q) 0,.str s] (Oid.under p) ⟨[(.ty 194 q,.cells [.nilPtr,.nilSl])],.tuple [.int .i64 s.length,.nilIface],
   [(.ty 194 q,some (.cells [.ptr (.ty 194 q) 0,.sl (.ty 5 (.sub 2 6 p)) 1 s.length])),(.ty 5 (.sub 2 6 p),some (.arr 1 (s.map byA)))]⟩:=by
 refine aJ (n:=19) (rs:=[.tmp 4,.tmp 5]) Tryz.func178 rfl rfl (by decide) rfl rfl rfl ?_;rintro x rfl hrd hng
 (repeat (first|(refine aq rfl rfl ?_)|(refine ar rfl rfl ?_)|(refine aj nmd [] hng (by kernel_rfl) fun hf C S K hC1 hC hS hK=>?_;simp (disch:=first|omega|assumption) only [go_sem];(repeat ((first|refine hC1 _ (B5 _ .nilSl _) (by simp (disch:=first|omega|assumption) only [go_sem]) ?_);simp (disch:=first|omega|assumption) only [go_sem]));refine hK ?_;clear hK hS hC hC1 K S C hf)|((first|refine zn ?_|refine ze ?_|refine zk ?_);with_reducible (constructor;repeat constructor);try refine zl ?_)))
 refine aA (aZ rfl ?_ ?_)
 all_goals simp only [List.mem_cons,List.not_mem_nil,or_false,forall_eq_or_imp,forall_eq,Option.some.injEq,forall_eq',Mem.ao,eq_self,if_true,↓reduceIte,reduceCtorEq,implies_true,not_true_eq_false,false_imp_iff,true_and,and_true,false_and,and_false,imp_self,Oid.eG hq,Oid.fH hq]
 rfl
theorem jR (q r:Oid) (s0 s:List UInt8) (hl:s0.length+s.length≤140737488355328) (p:Oid) (hq:¬ Oid.under p (.ty 194 q)) (hr:¬ Oid.under p (.ty 5 r)) :
  af Tryz.prog 178 [.ptr (.ty 194 q) 0,.str s] (Oid.under p) ⟨[(.ty 194 q,.cells [.ptr (.ty 194 q) 0,.sl (.ty 5 r) 1 s0.length]),(.ty 5 r,.arr 1 (s0.map byA))],.tuple [.int .i64 s.length,.nilIface],
   [(.ty 194 q,some (.cells [.ptr (.ty 194 q) 0,.sl (.ty 5 (.sub 2 6 p)) 1 (s0++s).length])),(.ty 5 r,none),(.ty 5 (.sub 2 6 p),some (.arr 1 ((s0++s).map byA)))]⟩:=by
 have hr':(Oid.ty 5 r=Oid.ty 5 (.sub 2 6 p))=False:=Oid.eG hr _ _ _
 refine aJ (n:=19) (rs:=[.tmp 4,.tmp 5]) Tryz.func178 rfl rfl (by decide) rfl rfl rfl ?_;rintro x rfl hrd hng
 (repeat (first|(refine aq rfl rfl ?_)|(refine ar rfl rfl ?_)|(refine aj nmd [] hng (by kernel_rfl) fun hf C S K hC1 hC hS hK=>?_;simp (disch:=first|omega|assumption) only [go_sem];(repeat ((first|refine hC1 _ (Gw _ (.sl (.ty 5 r) 1 s0.length) _) (by simp (disch:=first|omega|assumption) only [go_sem]) ?_);simp (disch:=first|omega|assumption) only [go_sem]));refine hK ?_;clear hK hS hC hC1 K S C hf)|((first|refine zn ?_|refine ze ?_|refine zk ?_);with_reducible (constructor;repeat constructor);try refine zl ?_)))
 refine aA (aZ rfl ?_ ?_)
 all_goals simp only [List.mem_cons,List.not_mem_nil,or_false,forall_eq_or_imp,forall_eq,Option.some.injEq,forall_eq',Mem.ao,eq_self,if_true,↓reduceIte,reduceCtorEq,implies_true,not_true_eq_false,false_imp_iff,true_and,and_true,false_and,and_false,imp_self,Oid.eG hq,Oid.fH hq,Oid.eG hr,Oid.fH hr,List.length_append,List.map_append]
 rfl
theorem l7 (q r:Oid) (s:List UInt8) (h0:0 < s.length) (hl:s.length≤140737488355328) (p:Oid) :
  af Tryz.prog 179 [.ptr (.ty 194 q) 0] (Oid.under p) ⟨[(.ty 194 q,.cells [.ptr (.ty 194 q) 0,.sl (.ty 5 r) 1 s.length]),(.ty 5 r,.arr 1 (s.map byA))],.str s,[(.ty 5 r,none)]⟩:=by
 refine aJ (n:=14) (rs:=[.tmp 2]) Tryz.func179 rfl rfl (by decide) rfl rfl rfl ?_;rintro x rfl hrd hng
 refine qw0 ?_
 refine qd (.d [] [] [0,2]) trivial trivial ?_
 refine aA (aZ rfl ?_ ?_)
 all_goals simp only [List.mem_cons,List.not_mem_nil,or_false,forall_eq_or_imp,forall_eq,Option.some.injEq,forall_eq',Mem.ao,eq_self,if_true,↓reduceIte,reduceCtorEq,implies_true,not_true_eq_false,false_imp_iff,true_and,and_true,false_and,and_false,imp_self]
theorem kJ (q:Oid) (p:Oid) :
  af Tryz.prog 179 [.ptr (.ty 194 q) 0] (Oid.under p) ⟨[(.ty 194 q,.cells [.nilPtr,.nilSl])],.str [],[]⟩:=by
 refine aJ (n:=14) (rs:=[.tmp 2]) Tryz.func179 rfl rfl (by decide) rfl rfl rfl ?_;rintro x rfl hrd hng
 refine qw0 ?_
 refine cX nmd [] [] mixed hng (by kernel_rfl) [0,2] fun hf C S K hC hS hK=>?_;simp (disch:=first|omega|assumption) only [go_sem,lp]
 (first|refine hK (aV rfl) ?_|refine hK (by simp (disch:=first|omega|assumption) only [go_sem,List.reverse_cons,List.reverse_nil,ne_eq,not_false_eq_true,implies_true]) ?_);clear hK hS hC K S C hf
 refine aA (aZ rfl ?_ ?_)
 all_goals simp only [List.mem_cons,List.not_mem_nil,or_false,forall_eq_or_imp,forall_eq,Option.some.injEq,forall_eq',Mem.ao,eq_self,if_true,↓reduceIte,reduceCtorEq,implies_true,not_true_eq_false,false_imp_iff,true_and,and_true,false_and,and_false,imp_self]
end Go.Proofs.YtfbnaalhioogoaaGreatDoor
namespace Go.Proofs.YtfbnaalhioogoaaGreatDoor
open Go Go.Ab Go.RowKit
set_option maxRecDepth 20000
set_option maxHeartbeats 2000000
abbrev Str:=List UInt8
theorem ax {c i:Nat} {p:Oid} (hi:(i == 999983)=false) (hp:p.mono=false):(Oid.sub c i p).mono=false:=by rw [Oid.nF,hi,hp];rfl
def bI (s:Str):Int:=match Lib.atoiAll s with | .ok v=>v | .range=>Lib.atoiSat s|_=>0
def lr (s:Str):Bool:=match Lib.atoiAll s with | .ok _=>true|_=>false
def qB (s:Str):AV:=if lr s=true then .nilIface else .iface 281 .undef
theorem tM (w:World) (e:TypeId) (s:ByteArray):Below w.heap.size w (Lib.bytesWorld w e s):=by
 unfold Lib.bytesWorld
 exact Lib.below_freeze ((Below.drew (Below.refl _ w)).alloc (Nat.le_refl _) _) (p:=⟨w.heap.size,_,none⟩) (Nat.le_refl _) _
theorem xb (s:Str) (hl:s.length≤281474976710656) (p:Oid) (hp:p.mono=false):af Tryz.prog 183 [.str s] (Oid.under p) ⟨[],.tuple [.int .i64 (bI s),qB s],[]⟩ :=
 fI (by kernel_rfl) hp fun g args w ha ht=>by
  obtain ⟨v,rfl,hv⟩:=ha.one
  obtain ⟨b,rfl,hb⟩:=hv.br
  obtain ⟨_,_,_,⟨v1,h1,h2⟩,v2,h3,h4⟩:=ht.facts
  have hsz:b.size=s.length:=by rw [← hb];simp
  have pair:∀ (x y:AV) (u v:Value),VR g x u→VR g y v→VR g (.tuple [x,y]) (.tuple #[u,v]):=fun x y u v hx hy=>.tuple _ _ rfl (fun j hj=>by
   match j,hj with
   | 0,_=>exact hx
   | 1,_=>exact hy)
  cases hc:Lib.atoiAll s with
  | ok n =>
   refine (Tryz.strconv_Atoi_ok b (by omega) n (by rw [hb];exact hc) w).mono ?_
   rintro e w' ⟨rfl,hw⟩
   refine ⟨_,rfl,pair _ _ _ _ ?_ ?_,?_⟩
   ·simp only [bI,hc];exact .int _ _
   ·simp only [qB,lr,hc,if_true];exact .nilIface
   ·rcases hw with rfl|⟨t,rfl⟩
    ·exact Below.refl _ _
    ·exact tM _ _ _
  | range =>
   refine (Tryz.strconv_Atoi_range b (by omega) (by rw [hb];exact hc) v2 w (ht.com 3 0 _ h3) h4).mono ?_
   rintro e w' ⟨N,rfl,_,_,hw⟩
   refine ⟨_,rfl,pair _ _ _ _ ?_ ?_,hw⟩
   ·simp only [bI,hc,hb];exact .int _ _
   ·simp only [qB,lr,hc,Bool.false_eq_true,if_false];exact .iface _ _ _ (.unk _)
  | _ =>
   refine (Any.strconv_Atoi_syntax Tryz.oC b (by omega) (by rw [hb];exact hc) v1 w (ht.com 2 0 _ h1) h2).mono ?_
   rintro e w' ⟨N,rfl,_,_,hw⟩
   refine ⟨_,rfl,pair _ _ _ _ ?_ ?_,hw⟩
   ·simp only [bI,hc];exact .int _ _
   ·simp only [qB,lr,hc,Bool.false_eq_true,if_false];exact .iface _ _ _ (.unk _)
def eM (s:Str):Bool:=lr s && decide (0≤bI s) && decide (s.length≤9) && decide (Lib.itoa (bI s)=s)
theorem lu (s:Str):-9223372036854775808≤bI s∧bI s≤9223372036854775807:=by
 unfold bI
 split
 ·exact Lib.atoiAll_bounds (by assumption)
 ·unfold Lib.atoiSat;split<;>omega
 ·omega
theorem Kk {s:Str} (h:lr s=false):eM s=false:=by simp [eM,h]
theorem Kl {s:Str} (h:¬ 0≤bI s):eM s=false:=by simp [eM,h]
theorem B8 {s:Str} (h:¬ s.length≤9):eM s=false:=by simp only [eM,decide_eq_false h,Bool.and_false,Bool.false_and]
theorem Km {s:Str} (h:lr s=true) (h2:0≤bI s) (h3:s.length≤9):eM s=decide (Lib.itoa (bI s)=s):=by simp only [eM,h,decide_eq_true h2,decide_eq_true h3,Bool.true_and]
theorem jS (s:Str) (hl:s.length≤281474976710656) (p:Oid) (hp:p.mono=false):af Tryz.prog 101 [.str s] (Oid.under p) ⟨[],.tuple [.int .i64 (bI s),.bool (eM s)],[]⟩:=by
 obtain ⟨hb1,hb2⟩:=lu s
 cases hg:lr s with
 | true =>
  have hZ:∀ p:Oid,p.mono=false→af Tryz.prog 183 [.str s] (Oid.under p) ⟨[],.tuple [.int .i64 (bI s),.nilIface],[]⟩:=fun p hp=>by have:=xb s hl p hp;rwa [qB,if_pos hg] at this
  refine aJ (n:=29) (rs:=[.tmp 2,.tmp 3]) Tryz.func101 rfl rfl (by decide) rfl rfl rfl ?_;rintro x rfl hrd hng
  (repeat (first|(refine aq rfl rfl ?_)|(refine ar rfl rfl ?_)|(refine aj nmd [] hng (by kernel_rfl) fun hf C S K hC1 hC hS hK=>?_;simp (disch:=first|omega|assumption) only [go_sem];(repeat ((first|refine hC1 _ (hZ _ (ax rfl hp)) (by simp (disch:=first|omega|assumption) only [go_sem]) ?_);simp (disch:=first|omega|assumption) only [go_sem]));refine hK ?_;clear hK hS hC hC1 K S C hf)|((first|refine zn ?_|refine ze ?_|refine zk ?_);with_reducible (constructor;repeat constructor);try refine zl ?_)))
  refine aj nmd [(3,14),(7,18),(12,23)] hng (by kernel_rfl) fun hf C S K hC1 hC hS hK=>?_;simp (disch:=first|omega|assumption) only [go_sem]
  (repeat' (first|(refine aD (fun hv=>?_) (fun hv=>?_)<;>(try simp only [zb1,zb2,zb3,zb4,zb5] at hv)<;>simp (disch:=first|omega|assumption) only [go_sem,hv])|(refine hC1 _ (gJ (bI s) hb1 hb2 _ (ax rfl hp)) (by simp (disch:=first|omega|assumption) only [go_sem]) ?_;simp (disch:=first|omega|assumption) only [go_sem])|(refine hK ?_;clear hK hS hC hC1 K S C hf)))
  ·(try ((first|refine zn ?_|refine ze ?_|refine zk ?_);with_reducible (constructor;repeat constructor));try refine zl ?_)
   exact aA (ay (by rw [Km hg (by omega) (by omega)];rfl))
  ·(try ((first|refine zn ?_|refine ze ?_|refine zk ?_);with_reducible (constructor;repeat constructor));try refine zl ?_)
   exact aA (ay (by rw [B8 (by omega)];rfl))
  ·(try ((first|refine zn ?_|refine ze ?_|refine zk ?_);with_reducible (constructor;repeat constructor));try refine zl ?_)
   exact aA (ay (by rw [Kl hv];rfl))
 | false =>
  have hZ:∀ p:Oid,p.mono=false→af Tryz.prog 183 [.str s] (Oid.under p) ⟨[],.tuple [.int .i64 (bI s),.iface 281 .undef],[]⟩:=fun p hp=>by have:=xb s hl p hp;rwa [qB,if_neg (by rw [hg];decide)] at this
  refine aJ (n:=29) (rs:=[.tmp 2,.tmp 3]) Tryz.func101 rfl rfl (by decide) rfl rfl rfl ?_;rintro x rfl hrd hng
  (repeat (first|(refine aq rfl rfl ?_)|(refine ar rfl rfl ?_)|(refine aj nmd [] hng (by kernel_rfl) fun hf C S K hC1 hC hS hK=>?_;simp (disch:=first|omega|assumption) only [go_sem];(repeat ((first|refine hC1 _ (hZ _ (ax rfl hp)) (by simp (disch:=first|omega|assumption) only [go_sem]) ?_);simp (disch:=first|omega|assumption) only [go_sem]));refine hK ?_;clear hK hS hC hC1 K S C hf)|((first|refine zn ?_|refine ze ?_|refine zk ?_);with_reducible (constructor;repeat constructor);try refine zl ?_)))
  refine aj nmd [(3,14),(7,18),(12,23)] hng (by kernel_rfl) fun hf C S K hC1 hC hS hK=>?_;simp (disch:=first|omega|assumption) only [go_sem]
  (repeat' (first|(refine aD (fun hv=>?_) (fun hv=>?_)<;>(try simp only [zb1,zb2,zb3,zb4,zb5] at hv)<;>simp (disch:=first|omega|assumption) only [go_sem,hv])|(refine hC1 _ (gJ (bI s) hb1 hb2 _ (ax rfl hp)) (by simp (disch:=first|omega|assumption) only [go_sem]) ?_;simp (disch:=first|omega|assumption) only [go_sem])|(refine hK ?_;clear hK hS hC hC1 K S C hf)))
  (try ((first|refine zn ?_|refine ze ?_|refine zk ?_);with_reducible (constructor;repeat constructor));try refine zl ?_)
  exact aA (ay (by rw [Kk hg];rfl))
end Go.Proofs.YtfbnaalhioogoaaGreatDoor
namespace Go.Proofs.YtfbnaalhioogoaaGreatDoor
open Go Go.Ab
set_option maxRecDepth 20000
set_option maxHeartbeats 4000000
theorem aR (n:Nat) (h:(n:Int)≤9223372036854775807):(Lib.decDigits n).length≤21:=by
 have:=Lib.itoa_length_le n (by omega) h;rwa [Lib.itoa_nonneg] at this
theorem pS (v:Option AV):gd True v=v:=if_pos trivial
theorem oy (a b:Nat):(a:Int).tmod b=((a % b:Nat):Int):=by
 rw [Int.tmod_eq_emod_of_nonneg (by omega)];rfl
theorem l8 (n:Nat) (hn:(n:Int)≤9223372036854775807):∀ p:Oid,af Tryz.prog 272 [.int .i64 n] (Oid.under p) ⟨[],.str (Lib.decDigits n),[]⟩:=by
 induction n using Nat.strongRecOn with
 | ind n ih =>
  intro p
  have h10:(n:Int).tmod 10=((n % 10:Nat):Int):=oy n 10
  have h11:(n:Int).tdiv 10=((n / 10:Nat):Int):=By n 10
  have hw:(48+((n % 10:Nat):Int))≤57:=by omega
  have hd:IntKind.u8.wrap (48+((n % 10:Nat):Int))=((UInt8.ofNat (48+n % 10)).toNat:Int):=by
   rw [w8 (by omega) (by omega),UInt8.toNat_ofNat'];omega
  have hlen:=aR (n / 10) (by omega)
  refine aJ (n:=18) (rs:=[.tmp 2]) Tryz.func272 rfl rfl (by decide) rfl rfl rfl ?_;rintro x rfl hrd hng
  refine qr0 ?_
  refine aj nmd [] hng (by kernel_rfl) fun hf C S K hC1 hC hS hK=>?_;simp (disch:=first|omega|assumption) only [go_sem,h10,hd,pS]
  refine hK ?_;clear hK hS hC hC1 K S C hf
  refine qw0 ?_
  refine aX rfl rfl (fun hb=>?_) (fun hb=>?_)
  ·refine qw0 ?_
   exact aA (bd (congrArg AV.str (by rw [Lib.decDigits,dif_pos (by omega)];congr 2;rw [Nat.mod_eq_of_lt (by omega)])))
  ·(try ((first|refine zn ?_|refine ze ?_|refine zk ?_);with_reducible (constructor;repeat constructor));try refine zl ?_)
   refine qr .o h11 (cq (ih (n / 10) (by omega) (by omega) _) trivial) ?_
   refine qw0 ?_
   exact aA (bd (congrArg AV.str (by rw [Lib.decDigits.eq_def n,dif_neg (by omega)])))
end Go.Proofs.YtfbnaalhioogoaaGreatDoor
namespace Go.Proofs.YtfbnaalhioogoaaGreatDoor
open Go Go.Ab
theorem oD (b:UInt8):∀ (t:Str) (a:Nat),Lib.decFrom a (t++[b])=(Lib.decFrom a t).bind fun v=>(Lib.digitVal b).map fun d=>v * 10+d
 | [],a=>by
  simp only [List.nil_append,Lib.decFrom,Option.bind_some]
  cases Lib.digitVal b<;>rfl
 | c::t,a=>by
  simp only [List.cons_append,Lib.decFrom]
  cases Lib.digitVal c with
  | none=>rfl
  | some d=>exact oD b t _
theorem tN {d:Nat} (h:d < 10):Lib.digitVal (UInt8.ofNat (48+d))=some d:=by
 have h1:(UInt8.ofNat (48+d)).toNat=48+d:=by rw [UInt8.toNat_ofNat'];omega
 rw [Lib.digitVal,h1,if_pos (by omega)];congr 1;omega
theorem yX {b:UInt8} {d:Nat} (h:Lib.digitVal b=some d):d < 10∧b=UInt8.ofNat (48+d):=by
 unfold Lib.digitVal at h
 split at h
 ·simp only [Option.some.injEq] at h
  refine ⟨by omega,UInt8.toNat_inj.1 ?_⟩
  rw [UInt8.toNat_ofNat'];omega
 ·cases h
theorem bw {n:Nat} (h:n < 10):Lib.decDigits n=[UInt8.ofNat (48+n)]:=by rw [Lib.decDigits,dif_pos h]
theorem dz {n:Nat} (h:¬ n < 10):Lib.decDigits n=Lib.decDigits (n / 10)++[UInt8.ofNat (48+n % 10)]:=by rw [Lib.decDigits.eq_def n,dif_neg h]
theorem l9 (n:Nat):¬ Lib.decDigits n=[]:=by
 by_cases h:n < 10
 ·rw [bw h];simp
 ·rw [dz h];simp
theorem oE (n:Nat):Lib.decFrom 0 (Lib.decDigits n)=some n:=by
 induction n using Nat.strongRecOn with
 | ind n ih =>
  by_cases h:n < 10
  ·rw [bw h,Lib.decFrom,tN h];simp [Lib.decFrom]
  ·rw [dz h,oD,ih _ (by omega),tN (by omega)]
   simp only [Option.bind_some,Option.map_some];congr 1;omega
theorem qC {t u:Str} (h:¬ t=[]):(t++u).getD 0 0=t.getD 0 0:=by
 cases t with
 | nil=>exact absurd rfl h
 | cons=>rfl
theorem mM (n:Nat):(Lib.decDigits n).getD 0 0=48→n=0:=by
 induction n using Nat.strongRecOn with
 | ind n ih =>
  intro h
  by_cases hs:n < 10
  ·rw [bw hs] at h
   have h1:=congrArg UInt8.toNat h
   simp only [List.getD_cons_zero] at h1
   rw [UInt8.toNat_ofNat'] at h1
   have:(48:UInt8).toNat=48:=rfl
   omega
  ·rw [dz hs,qC (l9 _)] at h
   have:=ih (n / 10) (by omega) h
   omega
theorem yY:∀ (k:Nat) (s:Str) (n:Nat),s.length=k→¬ s=[]→¬ (s.getD 0 0=48∧1 < s.length)→Lib.decFrom 0 s=some n→Lib.decDigits n=s:=by
 intro k
 induction k with
 | zero=>intro s n hk hs;exact absurd (List.eq_nil_of_length_eq_zero hk) hs
 | succ k ih =>
  intro s n hk hs hc hd
  rcases List.eq_nil_or_concat s with rfl|⟨t,b,rfl⟩
  ·exact absurd rfl hs
  rw [List.concat_eq_append] at hk hs hc hd ⊢
  rw [oD] at hd
  simp only [Option.bind_eq_some_iff,Option.map_eq_some_iff] at hd
  obtain ⟨v,hv,d,hb,rfl⟩:=hd
  obtain ⟨hd10,rfl⟩:=yX hb
  by_cases ht:t=[]
  ·subst ht
   simp only [Lib.decFrom,Option.some.injEq] at hv
   subst hv
   rw [Nat.zero_mul,Nat.zero_add,bw hd10];rfl
  ·rw [qC ht] at hc
   simp only [List.length_append,List.length_cons,List.length_nil] at hc hk
   have hlt:=List.length_pos_iff.2 ht
   have:=ih t v (by omega) ht (fun h=>hc ⟨h.1,by omega⟩) hv
   have hv1:¬ v=0:=fun e=>by
    subst e
    rw [bw (by decide)] at this
    exact hc ⟨by rw [← this];rfl,by omega⟩
   rw [dz (by omega),show (v * 10+d) / 10=v by omega,show (v * 10+d) % 10=d by omega,this]
def dN (s:Str):Int:=if s=[]∨9 < s.length∨s.getD 0 0=48∧1 < s.length then -1 else match Lib.decFrom 0 s with|some n=>n|none=>-1
theorem dG (s:Str):eM s=decide (0≤dN s)∧(eM s=true→bI s=dN s):=by
 by_cases hl:s.length≤9
 ·have hsh:=Lib.atoiAll_short s (by omega)
  by_cases hg:eM s=true
  ·have h:=hg
   simp only [eM,Bool.and_eq_true,decide_eq_true_eq] at h
   obtain ⟨⟨⟨h1,h2⟩,_⟩,h4⟩:=h
   obtain ⟨n,hn⟩:=Int.eq_ofNat_of_zero_le h2
   rw [hn,Lib.itoa_nonneg] at h4
   have hR:dN s=n:=by
    rw [dN,if_neg,← h4,oE]
    rintro (h|h|⟨h,h'⟩)
    ·exact l9 n (h4.trans h)
    ·omega
    ·rw [← h4] at h h'
     have:=mM n h
     subst this
     rw [bw (by decide)] at h'
     simp at h'
   rw [hg,hR]
   exact ⟨by simp,fun _=>hn⟩
  ·refine ⟨?_,fun h=>absurd h hg⟩
   have hgf:eM s=false:=by simpa using hg
   rw [hgf]
   symm
   rw [decide_eq_false_iff_not]
   intro h0
   apply hg
   unfold dN at h0
   split at h0
   ·omega
   ·rename_i hc
    split at h0
    ·rename_i n hd
     have hs:¬ s=[]:=fun e=>hc (.inl e)
     have hcan:=yY _ s n rfl hs (fun h=>hc (.inr (.inr h))) hd
     have hat:Lib.atoi s=some (n:Int):=by
      cases s with
      | nil=>exact absurd rfl hs
      | cons b r =>
       have hb:∃ d,Lib.digitVal b=some d:=by
        simp only [Lib.decFrom] at hd
        split at hd
        ·exact ⟨_,by assumption⟩
        ·cases hd
       obtain ⟨d,hbd⟩:=hb
       unfold Lib.digitVal at hbd
       split at hbd
       ·rename_i hr
        have h45:(b == 45)=false:=by rw [beq_eq_false_iff_ne];rintro rfl;exact absurd hr.1 (by decide)
        have h43:(b == 43)=false:=by rw [beq_eq_false_iff_ne];rintro rfl;exact absurd hr.1 (by decide)
        simp only [Lib.atoi,h45,h43,Lib.decNat,List.isEmpty_cons,hd,Bool.false_eq_true,if_false,Option.map_some]
       ·cases hbd
     rw [hat] at hsh
     have h1:Lib.atoiAll s = .ok (n:Int):=hsh
     have h2:bI s=n:=by simp only [bI,h1]
     simp only [eM,h2,lr,h1,Lib.itoa_nonneg,hcan,Bool.and_eq_true,decide_eq_true_eq]
     exact ⟨⟨⟨trivial,by omega⟩,hl⟩,trivial⟩
    ·omega
 ·have hR:dN s = -1:=by rw [dN,if_pos (.inr (.inl (by omega)))]
  rw [hR,B8 hl]
  exact ⟨by decide,fun h=>by cases h⟩
end Go.Proofs.YtfbnaalhioogoaaGreatDoor
namespace Go.Proofs.YtfbnaalhioogoaaGreatDoor
open Go Go.Ab
set_option maxRecDepth 20000
set_option maxHeartbeats 4000000
theorem vE {l:Str} {i:Nat} (h:i < l.length):l.drop i=l.getD i 0::l.drop (i+1):=by
 rw [List.drop_eq_getElem_cons h,List.getD_eq_getElem?_getD,List.getElem?_eq_getElem h];rfl
end Go.Proofs.YtfbnaalhioogoaaGreatDoor
namespace Go.Proofs.YtfbnaalhioogoaaGreatDoor
open Go Go.Ab
set_option maxRecDepth 20000
set_option maxHeartbeats 2000000
def chunk (s:Str):Str:=Lib.itoa s.length++[58]++s++[44]
def cE:List Str→Str
 | []=>[]
 | s::l=>chunk s++cE l
theorem mN (a b:List Str):cE (a++b)=cE a++cE b:=by
 induction a with
 | nil=>rfl
 | cons s a ih=>simp only [List.cons_append,cE,ih,List.append_assoc]
theorem ma {l:List Str} {i:Nat} (h:i < l.length):cE (l.take (i+1))=cE (l.take i)++chunk (l.getD i default):=by
 rw [List.take_add_one,mN,List.getElem?_eq_getElem h,List.getD_eq_getElem?_getD,List.getElem?_eq_getElem h]
 simp [cE]
theorem iM {l:List Str} (i:Nat):(cE (l.take i)).length≤(cE l).length:=by
 conv=>rhs;rw [← List.take_append_drop i l,mN,List.length_append]
 omega
theorem eS (s:Str):(Lib.itoa s.length).length+1+s.length+1=(chunk s).length:=by simp only [chunk,List.length_append,List.length_cons,List.length_nil]
theorem vF (q:Oid) (s:Str) (hl:(chunk s).length≤140737488355328) (p:Oid) (hp:p.mono=false) (hq:¬ Oid.under p (.ty 194 q)) :
  af Tryz.prog 177 [.ptr (.ty 194 q) 0,.str s] (Oid.under p) ⟨[(.ty 194 q,.cells [.nilPtr,.nilSl])],.ptr (.ty 194 q) 0,
   [(.ty 194 q,some (.cells [.ptr (.ty 194 q) 0,.sl (.ty 5 (.sub 2 6 (.sub 1 8 p))) 1 (chunk s).length])),(.ty 5 (.sub 2 6 (.sub 1 8 p)),some (.arr 1 ((chunk s).map byA)))]⟩:=by
 have hs:=eS s
 have hq':∀ c i,¬ Oid.under (.sub c i p) (.ty 194 q):=fun c i h=>hq (Oid.ae h)
 refine aJ (n:=15) (rs:=[.tmp 4]) Tryz.func177 rfl rfl (by decide) rfl rfl rfl ?_;rintro x rfl hrd hng
 (repeat (first|(refine aq rfl rfl ?_)|(refine ar rfl rfl ?_)|(refine aj nmd [] hng (by kernel_rfl) fun hf C S K hC1 hC hS hK=>?_;simp (disch:=first|omega|assumption) only [go_sem];(repeat ((first|refine hC1 _ (gJ s.length (by omega) (by omega) _ (ax rfl hp)) (by simp (disch:=first|omega|assumption) only [go_sem]) ?_|refine hC1 _ (lq q (chunk s) hl _ (hq' _ _)) (by simp (disch:=first|omega|assumption) only [go_sem]) ?_);simp (disch:=first|omega|assumption) only [go_sem]));refine hK ?_;clear hK hS hC hC1 K S C hf)|((first|refine zn ?_|refine ze ?_|refine zk ?_);with_reducible (constructor;repeat constructor);try refine zl ?_)))
 refine aA (aZ rfl ?_ ?_)
 all_goals simp only [List.mem_cons,List.not_mem_nil,or_false,forall_eq_or_imp,forall_eq,Option.some.injEq,forall_eq',Mem.ao,eq_self,if_true,↓reduceIte,reduceCtorEq,implies_true,not_true_eq_false,false_imp_iff,true_and,and_true,false_and,and_false,imp_self,Oid.ty.injEq,Nat.reduceEqDiff]
theorem yZ (q r:Oid) (s0 s:Str) (hl:s0.length+(chunk s).length≤140737488355328) (p:Oid) (hp:p.mono=false) (hq:¬ Oid.under p (.ty 194 q)) (hr:¬ Oid.under p (.ty 5 r)) :
  af Tryz.prog 177 [.ptr (.ty 194 q) 0,.str s] (Oid.under p) ⟨[(.ty 194 q,.cells [.ptr (.ty 194 q) 0,.sl (.ty 5 r) 1 s0.length]),(.ty 5 r,.arr 1 (s0.map byA))],.ptr (.ty 194 q) 0,
   [(.ty 194 q,some (.cells [.ptr (.ty 194 q) 0,.sl (.ty 5 (.sub 2 6 (.sub 1 8 p))) 1 (s0++chunk s).length])),(.ty 5 r,none),(.ty 5 (.sub 2 6 (.sub 1 8 p)),some (.arr 1 ((s0++chunk s).map byA)))]⟩:=by
 have hs:=eS s
 have hq':∀ c i,¬ Oid.under (.sub c i p) (.ty 194 q):=fun c i h=>hq (Oid.ae h)
 have hr':∀ c i,¬ Oid.under (.sub c i p) (.ty 5 r):=fun c i h=>hr (Oid.ae h)
 have hn:¬ Oid.sub 2 6 (.sub 1 8 p)=r:=fun e=>hr (by subst e;simp [Oid.under,Oid.az])
 have hn':¬ r=Oid.sub 2 6 (.sub 1 8 p):=fun e=>hn e.symm
 refine aJ (n:=15) (rs:=[.tmp 4]) Tryz.func177 rfl rfl (by decide) rfl rfl rfl ?_;rintro x rfl hrd hng
 (repeat (first|(refine aq rfl rfl ?_)|(refine ar rfl rfl ?_)|(refine aj nmd [] hng (by kernel_rfl) fun hf C S K hC1 hC hS hK=>?_;simp (disch:=first|omega|assumption) only [go_sem];(repeat ((first|refine hC1 _ (gJ s.length (by omega) (by omega) _ (ax rfl hp)) (by simp (disch:=first|omega|assumption) only [go_sem]) ?_|refine hC1 _ (jR q r s0 (chunk s) hl _ (hq' _ _) (hr' _ _)) (by simp (disch:=first|omega|assumption) only [go_sem]) ?_);simp (disch:=first|omega|assumption) only [go_sem]));refine hK ?_;clear hK hS hC hC1 K S C hf)|((first|refine zn ?_|refine ze ?_|refine zk ?_);with_reducible (constructor;repeat constructor);try refine zl ?_)))
 refine aA (aZ rfl ?_ ?_)
 all_goals simp only [List.mem_cons,List.not_mem_nil,or_false,forall_eq_or_imp,forall_eq,Option.some.injEq,forall_eq',Mem.ao,eq_self,if_true,↓reduceIte,reduceCtorEq,implies_true,not_true_eq_false,false_imp_iff,true_and,and_true,false_and,and_false,imp_self,Oid.ty.injEq,Nat.reduceEqDiff,hn,hn',List.length_append]
def rV (n:Nat) (p:Oid):Oid:=.sub 2 6 (.sub 1 8 (.sub (4 * n) 3 p))
theorem vG {c n:Nat} {p:Oid} (h:4 * n < c):¬ Oid.under (.sub c 3 p) (.ty 5 (rV n p)):=by
 have hself:¬ Oid.under (.sub c 3 p) p:=fun h=>by have:=Oid.cG h;simp [Oid.depth] at this;omega
 simp only [rV,Oid.under,reduceCtorEq,false_or,Oid.sub.injEq,Nat.reduceEqDiff,false_and,and_false,hself,or_false]
 omega
theorem Gx (l:List Str) (hne:¬ l=[]) (hl:(cE l).length≤140737488355328) (hn:l.length≤140737488355328) (q:Oid) (p:Oid) (hp:p.mono=false) (hq:¬ Oid.under p (.ty 194 q)) :
  af Tryz.prog 176 [.list 1 (l.map AV.str),.ptr (.ty 194 q) 0,.fn (.func 177) [] []] (Oid.under p) ⟨[(.ty 194 q,.cells [.nilPtr,.nilSl])],.ptr (.ty 194 q) 0,
   [(.ty 194 q,some (.cells [.ptr (.ty 194 q) 0,.sl (.ty 5 (rV l.length p)) 1 (cE l).length])),(.ty 5 (rV l.length p),some (.arr 1 ((cE l).map byA)))]⟩:=by
 have hq':∀ c i,¬ Oid.under (.sub c i p) (.ty 194 q):=fun c i h=>hq (Oid.ae h)
 refine aJ (n:=21) (rs:=[.tmp 6]) Tryz.func176 rfl rfl (by decide) rfl rfl rfl ?_;rintro x rfl hrd hng
 refine qw0 ?_
 refine bm [1,2,9,10,11] (fun k s'=>∃ (i:Nat) (M:List (Oid × aw)),k=l.length - i∧i≤l.length∧(i=0∧M=[(.ty 194 q,.cells [.nilPtr,.nilSl])] ∨
   ¬ i=0∧M=[(.ty 194 q,.cells [.ptr (.ty 194 q) 0,.sl (.ty 5 (rV i x.p)) 1 (cE (l.take i)).length]),(.ty 5 (rV i x.p),.arr 1 ((cE (l.take i)).map byA))]) ∧
   s' = ⟨[(1,.ptr (.ty 194 q) 0),(2,.fn (.func 177) [] []),(9,.list 1 (l.map AV.str)),(10,.int .i64 l.length),(11,.int .i64 i)],Mem.of M,2+4 * i,[]⟩) _ ⟨0,_,rfl,Nat.zero_le _,.inl ⟨rfl,rfl⟩,rfl⟩ ?_
 rintro k s' ⟨i,M,rfl,hi,hM,rfl⟩
 rcases hM with ⟨rfl,rfl⟩|⟨h0,rfl⟩
 ·refine qw0 ?_
  refine aX rfl rfl (fun hb=>?_) (fun hb=>?_)
  ·have hi0:0 < l.length:=by omega
   have ht:=ma (l:=l) hi0
   have hle:=iM (l:=l) 1
   rw [List.take_zero] at ht
   simp only [Nat.zero_add] at ht
   (repeat (first|(refine aq rfl rfl ?_)|(refine ar rfl rfl ?_)|(refine aj nmd [] hng (by kernel_rfl) fun hf C S K hC1 hC hS hK=>?_;simp (disch:=first|omega|assumption) only [go_sem];(repeat ((first|refine hC1 _ (vF q (l.getD 0 default) (by rw [ht] at hle;simp only [cE,List.nil_append] at hle;omega) _ (ax rfl hp) (hq' _ _)) (by simp (disch:=first|omega|assumption) only [go_sem]) ?_);simp (disch:=first|omega|assumption) only [go_sem]));refine hK ?_;clear hK hS hC hC1 K S C hf)|((first|refine zn ?_|refine ze ?_|refine zk ?_);with_reducible (constructor;repeat constructor);try refine zl ?_)))
   refine ⟨_,_,?_,fun _ _ h=>h,1,_,rfl,by omega,.inr ⟨by omega,rfl⟩,?_⟩
   ·omega
   ·rw [ht];rfl
  ·exact absurd (List.eq_nil_of_length_eq_zero (by omega)) hne
 ·refine qw0 ?_
  refine aX rfl rfl (fun hb=>?_) (fun hb=>?_)
  ·have ht:=ma (l:=l) (i:=i) (by omega)
   have hle:=iM (l:=l) (i+1)
   (repeat (first|(refine aq rfl rfl ?_)|(refine ar rfl rfl ?_)|(refine aj nmd [] hng (by kernel_rfl) fun hf C S K hC1 hC hS hK=>?_;simp (disch:=first|omega|assumption) only [go_sem];(repeat ((first|refine hC1 _ (yZ q (rV i x.p) (cE (l.take i)) (l.getD i default) (by rw [ht,List.length_append] at hle;omega) _ (ax rfl hp) (hq' _ _) (vG (by omega))) (by simp (disch:=first|omega|assumption) only [go_sem]) ?_);simp (disch:=first|omega|assumption) only [go_sem]));refine hK ?_;clear hK hS hC hC1 K S C hf)|((first|refine zn ?_|refine ze ?_|refine zk ?_);with_reducible (constructor;repeat constructor);try refine zl ?_)))
   refine ⟨_,_,?_,fun _ _ h=>h,i+1,_,rfl,by omega,.inr ⟨by omega,rfl⟩,?_⟩
   ·omega
   ·have hc:4 * (i+1)=2+4 * i+1+1:=by omega
    rw [ht,List.length_append,rV,hc,show 2+4 * i+1+1+1+1=2+(2+4 * i+1+1) by omega];rfl
  ·obtain rfl:i=l.length:=by omega
   refine qw0 ?_
   refine aA (aZ rfl ?_ ?_)
   all_goals simp only [List.mem_cons,List.not_mem_nil,or_false,forall_eq_or_imp,forall_eq,Option.some.injEq,forall_eq',Mem.ao,eq_self,if_true,↓reduceIte,reduceCtorEq,implies_true,not_true_eq_false,false_imp_iff,true_and,and_true,false_and,and_false,imp_self,Oid.ty.injEq,Nat.reduceEqDiff,List.take_length]
theorem B9 (q:Oid) (p:Oid) :
  af Tryz.prog 176 [.list 1 [],.ptr q 0,.fn (.func 177) [] []] (Oid.under p) ⟨[(q,.cells [.nilPtr,.nilSl])],.ptr q 0,[]⟩:=by
 refine aJ (n:=21) (rs:=[.tmp 6]) Tryz.func176 rfl rfl (by decide) rfl rfl rfl ?_;rintro x rfl hrd hng
 refine qw0 ?_
 refine bm [1,2,9,10,11] (fun k s'=>k=0∧s' = ⟨[(1,.ptr q 0),(2,.fn (.func 177) [] []),(9,.list 1 []),(10,.int .i64 0),(11,.int .i64 0)],Mem.of [(q,.cells [.nilPtr,.nilSl])],2,[]⟩) _ ⟨rfl,rfl⟩ ?_
 rintro k s' ⟨rfl,rfl⟩
 refine qw0 ?_
 refine aA (aZ rfl ?_ ?_)
 all_goals simp only [List.mem_cons,List.not_mem_nil,or_false,forall_eq_or_imp,forall_eq,Option.some.injEq,forall_eq',Mem.ao,eq_self,if_true,↓reduceIte,reduceCtorEq,implies_true,not_true_eq_false,false_imp_iff,true_and,and_true,false_and,and_false,imp_self,Oid.ty.injEq,Nat.reduceEqDiff]
theorem vH {c i j:Nat} {t:Nat} {p:Oid} (h:¬ j=i):¬ Oid.under (.sub c j p) (.ty t (.sub c i p)):=by
 have hself:¬ Oid.under (.sub c j p) p:=fun h=>by have:=Oid.cG h;simp [Oid.depth] at this;omega
 simp only [Oid.under,reduceCtorEq,false_or,Oid.sub.injEq,h,false_and,and_false,hself,or_false,not_false_eq_true]
theorem qD (l:List Str) (hl:(cE l).length≤140737488355328) (hn:l.length≤140737488355328) (p:Oid) (hp:p.mono=false) :
  af Tryz.prog 97 [.list 1 (l.map AV.str)] (Oid.under p) ⟨[],.str (cE l),[]⟩:=by
 by_cases hne:l=[]
 ·subst hne
  refine aJ (n:=8) (rs:=[.tmp 2]) Tryz.func97 rfl rfl (by decide) rfl rfl rfl ?_;rintro x rfl hrd hng
  refine qw0 ?_
  refine aj nmd [] hng (by kernel_rfl) fun hf C S K hC1 hC hS hK=>?_;simp (disch:=first|omega|assumption) only [go_sem]
  refine hC1 _ (B9 (.ty 194 (.sub 1 2 _)) _) qs0 ?_
  simp (disch:=first|omega|assumption) only [go_sem]
  refine hC1 _ (kJ (.sub 1 2 _) _) qs0 ?_
  simp (disch:=first|omega|assumption) only [go_sem]
  refine hK ?_;clear hK hS hC hC1 K S C hf
  refine qw0 ?_
  exact aA (bd rfl)
 ·have h0:0 < (cE l).length:=by
   cases l with
   | nil=>exact absurd rfl hne
   | cons s l =>
    have:=eS s
    simp only [cE,List.length_append];omega
  refine aJ (n:=8) (rs:=[.tmp 2]) Tryz.func97 rfl rfl (by decide) rfl rfl rfl ?_;rintro x rfl hrd hng
  refine qw0 ?_
  refine aj nmd [] hng (by kernel_rfl) fun hf C S K hC1 hC hS hK=>?_;simp (disch:=first|omega|assumption) only [go_sem]
  refine hC1 _ (Gx l hne hl hn (.sub 1 2 _) _ (ax rfl hp) (vH (by decide))) qs0 ?_
  simp (disch:=first|omega|assumption) only [go_sem]
  refine hC1 _ (l7 (.sub 1 2 _) (rV l.length (.sub 1 3 x.p)) _ h0 hl _) qs0 ?_
  simp (disch:=first|omega|assumption) only [go_sem]
  refine hK ?_;clear hK hS hC hC1 K S C hf
  refine qw0 ?_
  exact aA (bd rfl)
end Go.Proofs.YtfbnaalhioogoaaGreatDoor
namespace Go.Proofs.YtfbnaalhioogoaaGreatDoor
open Go Go.Ab Go.RowKit
set_option maxRecDepth 20000
set_option maxHeartbeats 2000000
def colon (s:Str):Nat:=(Lib.indexByte s 58).toNat
def mO (s:Str):Str:=s.take (colon s)
def kj (s:Str):Str:=s.drop (colon s+1)
def mP (s:Str):Nat:=(bI (mO s)).toNat
def okS (s:Str):Prop:=0≤Lib.indexByte s 58∧eM (mO s)=true∧bI (mO s) < (kj s).length∧(kj s).getD (mP s) 0=44
instance (s:Str):Decidable (okS s):=by unfold okS;infer_instance
def y0:Nat→Str→Option (List Str)
 | 0,_=>none
 | k+1,s=>if s=[] then some [] else if okS s then (y0 k ((kj s).drop (mP s+1))).map ((kj s).take (mP s)::·) else none
theorem rW {s:Str} (h:¬ s=[]):((kj s).drop (mP s+1)).length < s.length:=by
 have:=List.length_pos_iff.2 h;simp only [kj,List.length_drop];omega
theorem qE:∀ (k k':Nat) (s:Str),s.length < k→s.length < k'→y0 k s=y0 k' s
 | 0,_,_,h,_=>absurd h (Nat.not_lt_zero _)
 | _+1,0,_,_,h=>absurd h (Nat.not_lt_zero _)
 | k+1,k' + 1,s,h,h'=>by
  simp only [y0]
  by_cases h0:s=[]
  ·rw [if_pos h0,if_pos h0]
  rw [if_neg h0,if_neg h0]
  split
  ·rw [qE k k' _ (by have:=rW h0;omega) (by have:=rW h0;omega)]
  ·rfl
def tO (s:Str):Option (List Str):=y0 (s.length+1) s
theorem y1 {s:Str} (h0:¬ s=[]) (h:okS s):tO s=(tO ((kj s).drop (mP s+1))).map ((kj s).take (mP s)::·):=by
 rw [tO,y0,if_neg h0,if_pos h]
 exact congrArg _ (qE _ _ _ (rW h0) (Nat.lt_succ_self _))
end Go.Proofs.YtfbnaalhioogoaaGreatDoor
namespace Go.Proofs.YtfbnaalhioogoaaGreatDoor
open Go Go.Ab
set_option maxRecDepth 20000
set_option maxHeartbeats 4000000
structure Bits where
 k:Int
 m:Int
 l:Str
deriving DecidableEq
def Bits.av (b:Bits):AV:=.agg [.int .i64 b.k,.int .i64 b.m,.str b.l]
def Bits.no:Bits:=⟨0,0,[]⟩
def Bits.ok (b:Bits):Prop:=(-9223372036854775808≤b.k∧b.k≤9223372036854775807)∧(-9223372036854775808≤b.m∧b.m≤9223372036854775807)∧b.l.length≤4000000000
def cU (b:Bits):Str:=if b.k=0 then [] else cE [Lib.itoa b.k,Lib.itoa b.m,b.l]
theorem ir {s:Str} (h:s.length≤4000000000):(chunk s).length≤4000000100:=by
 have h1:=eS s
 have h2:=Lib.itoa_length_le s.length (by omega) (by omega)
 omega
theorem tP (b:Bits) (hb:b.ok) (p:Oid) (hp:p.mono=false):af Tryz.prog 74 [b.av] (Oid.under p) ⟨[],.str (cU b),[]⟩:=by
 obtain ⟨k,m,l⟩:=b
 obtain ⟨⟨k1,k2⟩,⟨m1,m2⟩,hl⟩:=hb
 simp only at k1 k2 m1 m2 hl
 have hk:=Lib.itoa_length_le k k1 k2
 have hm:=Lib.itoa_length_le m m1 m2
 have h1:=ir (s:=Lib.itoa k) (by omega)
 have h2:=ir (s:=Lib.itoa m) (by omega)
 have h3:=ir hl
 have hE:(cE [Lib.itoa k,Lib.itoa m,l]).length≤140737488355328:=by simp only [cE,List.length_append,List.length_nil];omega
 simp only [Bits.av]
 refine aJ (n:=16) (rs:=[.tmp 2]) Tryz.func74 rfl rfl (by decide) rfl rfl rfl ?_;rintro x rfl hrd hng
 refine qw0 ?_
 refine aX rfl rfl (fun hb=>?_) (fun hb=>?_)
 ·refine qw0 ?_
  exact aA (bd (congrArg AV.str (by rw [cU,if_pos hb])))
 ·(try ((first|refine zn ?_|refine ze ?_|refine zk ?_);with_reducible (constructor;repeat constructor));try refine zl ?_)
  refine cX nmd [] [(2,4),(2,7),(5,7)] mixed hng (by kernel_rfl) [2] fun hf C S K hC hS hK=>?_;simp (disch:=first|omega|assumption) only [go_sem]
  (repeat ((first|refine hC _ (gJ k k1 k2 _ (ax rfl hp)) (by simp (disch:=first|omega|assumption) only [go_sem]) ?_|refine hC _ (gJ m m1 m2 _ (ax rfl hp)) (by simp (disch:=first|omega|assumption) only [go_sem]) ?_|refine hC _ (qD [Lib.itoa k,Lib.itoa m,l] hE (by simp) _ (ax rfl hp)) (by simp (disch:=first|omega|assumption) only [go_sem]) ?_);simp (disch:=first|omega|assumption) only [go_sem]))
  (first|refine hK (aV rfl) ?_|refine hK (by simp (disch:=first|omega|assumption) only [go_sem,List.reverse_cons,List.reverse_nil,ne_eq,not_false_eq_true,implies_true]) ?_);clear hK hS hC K S C hf
  refine qw0 ?_
  exact aA (bd (congrArg AV.str (by rw [cU,if_neg hb])))
def vI (s a b c:Str):Bool:=eM a && eM b && decide (1≤bI a) && decide (bI a≤3) && decide (bI b≤7) && !(decide (bI a=2) && decide (c≠[])) && decide (cU ⟨bI a,bI b,c⟩=s)
theorem tQ {s a b c:Str}:vI s a b c=true↔eM a=true∧eM b=true∧1≤bI a∧bI a≤3∧bI b≤7∧¬ (bI a=2∧¬ c=[])∧cU ⟨bI a,bI b,c⟩=s:=by
 simp only [vI,Bool.and_eq_true,decide_eq_true_eq,Bool.not_eq_true',Bool.and_eq_false_imp,decide_eq_false_iff_not,not_and,and_assoc,ne_eq]
def mb (s:Str):Bits × Int:=if s=[] then (Bits.no,0) else match tO s with
 | some [a,b,c]=>if vI s a b c=true then (⟨bI a,bI b,c⟩,0) else (Bits.no,20)
 | _=>(Bits.no,20)
end Go.Proofs.YtfbnaalhioogoaaGreatDoor
namespace Go.Proofs.YtfbnaalhioogoaaGreatDoor
open Go Go.Ab
set_option maxRecDepth 20000
set_option maxHeartbeats 4000000
theorem oF (l:List Str) (hl:(cE l).length≤140737488355328) (hn:l.length≤140737488355328) (p:Oid):af Tryz.prog 207 [.list 1 (l.map AV.str)] (Oid.under p) ⟨[],.str (cE l),[]⟩:=by
 refine aJ (n:=27) (rs:=[.tmp 2]) Tryz.func207 rfl rfl (by decide) rfl rfl rfl ?_;rintro x rfl hrd hng
 refine qw0 ?_
 refine bm [0,3,4] (fun k s'=>∃ (i c:Nat),k=l.length - i∧i≤l.length∧s' = ⟨[(0,.list 1 (l.map AV.str)),(3,.str (cE (l.take i))),(4,.int .i64 i)],Mem.of [],c,[]⟩) _ ⟨0,_,rfl,Nat.zero_le _,rfl⟩ ?_
 rintro k s' ⟨i,c,rfl,hi,rfl⟩
 refine qw0 ?_
 refine aX rfl rfl (fun hb=>?_) (fun hb=>?_)
 ·have ht:=ma (l:=l) (i:=i) (by omega)
  have hle:=iM (l:=l) (i+1)
  have hch:=eS (l.getD i default)
  have hdl:=Lib.itoa_nonneg (l.getD i default).length
  rw [hdl] at hch
  rw [ht,List.length_append] at hle
  (try ((first|refine zn ?_|refine ze ?_|refine zk ?_);with_reducible (constructor;repeat constructor));try refine zl ?_)
  refine cX nmd [] [(6,12)] mixed hng (by kernel_rfl) [0,3,4] fun hf C S K hC hS hK=>?_;simp (disch:=first|omega|assumption) only [go_sem]
  (repeat ((first|refine hC _ (l8 (l.getD i default).length (by omega) _) (by simp (disch:=first|omega|assumption) only [go_sem]) ?_);simp (disch:=first|omega|assumption) only [go_sem]))
  (first|refine hK (aV rfl) ?_|refine hK (by simp (disch:=first|omega|assumption) only [go_sem,List.reverse_cons,List.reverse_nil,ne_eq,not_false_eq_true,implies_true]) ?_);clear hK hS hC K S C hf
  refine qw0 ?_
  have hs:cE (l.take i)++Lib.decDigits (l.getD i default).length++[58]++l.getD i default++[44]=cE (l.take (i+1)):=by rw [ht,chunk,hdl];simp only [List.append_assoc]
  rw [hs]
  exact ⟨_,_,by omega,fun _ _ h=>h,i+1,c+1+1+1,rfl,by omega,rfl⟩
 ·obtain rfl:i=l.length:=by omega
  refine qw0 ?_
  exact aA (bd (congrArg AV.str (by rw [List.take_length])))
theorem y2 (b:Bits) (hb:b.ok) (h0:0≤b.k∧0≤b.m) (p:Oid):af Tryz.prog 209 [b.av] (Oid.under p) ⟨[],.str (cU b),[]⟩:=by
 obtain ⟨k,m,l⟩:=b
 obtain ⟨⟨k1,k2⟩,⟨m1,m2⟩,hl⟩:=hb
 simp only at k1 k2 m1 m2 hl h0
 obtain ⟨k,rfl⟩:=Int.eq_ofNat_of_zero_le h0.1
 obtain ⟨m,rfl⟩:=Int.eq_ofNat_of_zero_le h0.2
 have hk:=aR k k2
 have hm:=aR m m2
 have h1:=ir (s:=Lib.decDigits k) (by omega)
 have h2:=ir (s:=Lib.decDigits m) (by omega)
 have h3:=ir hl
 have hE:(cE [Lib.decDigits k,Lib.decDigits m,l]).length≤140737488355328:=by simp only [cE,List.length_append,List.length_nil];omega
 simp only [Bits.av]
 refine aJ (n:=16) (rs:=[.tmp 2]) Tryz.func209 rfl rfl (by decide) rfl rfl rfl ?_;rintro x rfl hrd hng
 refine qw0 ?_
 refine aX rfl rfl (fun hb=>?_) (fun hb=>?_)
 ·refine qw0 ?_
  exact aA (bd (congrArg AV.str (by rw [cU,if_pos hb])))
 ·(try ((first|refine zn ?_|refine ze ?_|refine zk ?_);with_reducible (constructor;repeat constructor));try refine zl ?_)
  refine cX nmd [] [(2,4),(2,7),(5,7)] mixed hng (by kernel_rfl) [2] fun hf C S K hC hS hK=>?_;simp (disch:=first|omega|assumption) only [go_sem]
  (repeat ((first|refine hC _ (l8 k k2 _) (by simp (disch:=first|omega|assumption) only [go_sem]) ?_|refine hC _ (l8 m m2 _) (by simp (disch:=first|omega|assumption) only [go_sem]) ?_|refine hC _ (oF [Lib.decDigits k,Lib.decDigits m,l] hE (by simp) _) (by simp (disch:=first|omega|assumption) only [go_sem]) ?_);simp (disch:=first|omega|assumption) only [go_sem]))
  (first|refine hK (aV rfl) ?_|refine hK (by simp (disch:=first|omega|assumption) only [go_sem,List.reverse_cons,List.reverse_nil,ne_eq,not_false_eq_true,implies_true]) ?_);clear hK hS hC K S C hf
  refine qw0 ?_
  exact aA (bd (congrArg AV.str (by rw [cU,if_neg hb,Lib.itoa_nonneg,Lib.itoa_nonneg])))
end Go.Proofs.YtfbnaalhioogoaaGreatDoor
namespace Go.Proofs.YtfbnaalhioogoaaGreatDoor
open Go Go.Ab
set_option maxRecDepth 20000
set_option maxHeartbeats 4000000
theorem tR (c:UInt8):∀ r:Str,(Lib.indexByte r c = -1∧∀ j,j < r.length→¬ r.getD j 0=c)∨∃ i:Nat,Lib.indexByte r c=i∧i < r.length∧r.getD i 0=c∧∀ j,j < i→¬ r.getD j 0=c
 | []=>.inl ⟨rfl,fun j hj=>absurd hj (Nat.not_lt_zero _)⟩
 | b::r=>by
  by_cases hb:b=c
  ·refine .inr ⟨0,by simp [Lib.indexByte,hb],by simp,by simp [hb],fun j hj=>absurd hj (Nat.not_lt_zero _)⟩
  have hb':(b == c)=false:=by simpa using hb
  rcases tR c r with ⟨h1,h2⟩|⟨i,h1,h2,h3,h4⟩
  ·refine .inl ⟨by simp [Lib.indexByte,hb',h1],fun j hj=>?_⟩
   cases j with
   | zero=>simpa using hb
   | succ j=>simpa using h2 j (by simpa using hj)
  ·refine .inr ⟨i+1,?_,by simpa using h2,by simpa using h3,fun j hj=>?_⟩
   ·have:¬ Lib.indexByte r c = -1:=by omega
    simp only [Lib.indexByte,hb',Bool.false_eq_true,if_false,beq_iff_eq,this,h1];omega
   ·cases j with
    | zero=>simpa using hb
    | succ j=>simpa using h4 j (by omega)
end Go.Proofs.YtfbnaalhioogoaaGreatDoor
namespace Go.Proofs.YtfbnaalhioogoaaGreatDoor
open Go Go.Ab
set_option maxRecDepth 20000
set_option maxHeartbeats 4000000
theorem Ca {s a b c:Str}:vI s a b c=true↔1≤dN a∧dN a≤3∧0≤dN b∧dN b≤7∧¬ (dN a=2∧¬ c=[])∧cU ⟨dN a,dN b,c⟩=s:=by
 rw [tQ]
 obtain ⟨a1,a2⟩:=dG a
 obtain ⟨b1,b2⟩:=dG b
 constructor
 ·rintro ⟨h1,h2,h3,h4,h5,h6,h7⟩
  rw [a2 h1] at h3 h4 h6 h7
  rw [b2 h2] at h5 h7
  rw [b1,decide_eq_true_eq] at h2
  exact ⟨h3,h4,h2,h5,h6,h7⟩
 ·rintro ⟨h1,h2,h3,h4,h5,h6⟩
  have g1:eM a=true:=by rw [a1,decide_eq_true_eq];omega
  have g2:eM b=true:=by rw [b1,decide_eq_true_eq];omega
  rw [a2 g1,b2 g2]
  exact ⟨g1,g2,h1,h2,h4,h5,h6⟩
theorem Gy {s a b c:Str}:(if vI s a b c=true then ((⟨bI a,bI b,c⟩:Bits),(0:Int)) else (Bits.no,20))=if vI s a b c=true then (⟨dN a,dN b,c⟩,0) else (Bits.no,20):=by
 split
 ·rename_i h
  have:=tQ.1 h
  rw [(dG a).2 this.1,(dG b).2 this.2.1]
 ·rfl
end Go.Proofs.YtfbnaalhioogoaaGreatDoor
namespace Go.Proofs.YtfbnaalhioogoaaGreatDoor
open Go Go.Ab
set_option maxRecDepth 20000
set_option maxHeartbeats 4000000
theorem y3 {a b:List Str} {i:Nat} (ha:i < a.length) (hb:i < b.length) (h:a.take i=b.take i) (he:a.getD i default=b.getD i default):a.take (i+1)=b.take (i+1):=by
 rw [List.take_add_one,List.take_add_one,h,List.getElem?_eq_getElem ha,List.getElem?_eq_getElem hb]
 rw [List.getD_eq_getElem?_getD,List.getD_eq_getElem?_getD,List.getElem?_eq_getElem ha,List.getElem?_eq_getElem hb] at he
 simp only [Option.getD_some] at he
 rw [he]
theorem Gz (a b:List Str) (ha:a.length≤140737488355328) (hbl:b.length≤140737488355328) (p:Oid):af Tryz.prog 36 [.list 1 (a.map AV.str),.list 1 (b.map AV.str)] (Oid.under p) ⟨[],.bool (decide (a=b)),[]⟩:=by
 refine aJ (n:=26) (rs:=[.tmp 4]) Tryz.func36 rfl rfl (by decide) rfl rfl rfl ?_;rintro x rfl hrd hng
 refine qw0 ?_
 refine aX rfl rfl (fun hb=>?_) (fun hb=>?_)
 ·have hne:¬ a=b:=fun e=>hb (by rw [e])
  refine qw0 ?_
  exact aA (bd (congrArg AV.bool (decide_eq_false hne).symm))
 ·have hlen:a.length=b.length:=by omega
  refine qw0 ?_
  refine bm [0,1,5] (fun k s'=>∃ (i c:Nat),k=a.length - i∧i≤a.length∧a.take i=b.take i∧s' = ⟨[(0,.list 1 (a.map AV.str)),(1,.list 1 (b.map AV.str)),(5,.int .i64 i)],Mem.of [],c,[]⟩) _ ⟨0,_,rfl,Nat.zero_le _,rfl,rfl⟩ ?_
  rintro k s' ⟨i,c,rfl,hi,htk,rfl⟩
  refine qw0 ?_
  refine aX rfl rfl (fun hb=>?_) (fun hb=>?_)
  ·(try ((first|refine zn ?_|refine ze ?_|refine zk ?_);with_reducible (constructor;repeat constructor));try refine zl ?_)
   refine cQ [0,1,5,25] (fun s'=>∃ c':Nat,s' = ⟨[(0,.list 1 (a.map AV.str)),(1,.list 1 (b.map AV.str)),(5,.int .i64 i),(25,.bool (decide (¬ a.getD i default=b.getD i default)))],Mem.of [],c',[]⟩) ?_ ?_
   ·refine qd (.d [] [] [0,1,5,25]) trivial trivial ?_
    exact aT ⟨_,rfl⟩
   rintro s' ⟨c',rfl⟩
   refine qw0 ?_
   refine aX rfl rfl (fun hb=>?_) (fun hb=>?_)
   ·have hne:¬ a=b:=fun e=>hb (by rw [e])
    refine qw0 ?_
    exact aA (bd (congrArg AV.bool (decide_eq_false hne).symm))
   ·refine qw0 ?_
    exact ⟨_,_,by omega,fun _ _ h=>h,i+1,_,rfl,by omega,y3 (by omega) (by omega) htk (Classical.not_not.1 hb),rfl⟩
  ·have he:a=b:=by
    have h1:i=a.length:=by omega
    rw [h1,List.take_length,hlen,List.take_length] at htk
    exact htk
   refine qw0 ?_
   exact aA (bd (congrArg AV.bool (decide_eq_true he).symm))
end Go.Proofs.YtfbnaalhioogoaaGreatDoor
namespace Go.Proofs.YtfbnaalhioogoaaGreatDoor
open Go Go.Ab
set_option maxRecDepth 20000
set_option maxHeartbeats 4000000
def paths:List Str:=[[],[47,97],[47,98],[47,97,47,97],[47,97,47,98],[47,98,47,97],[97],[47,97,47,97,47,97],[47],[47,97,98]]
def xc (i:UInt8):Str:=paths.getD (i.toNat % 10) default
def dO (m k l:UInt8):Bits :=
 ⟨(m.toNat % 4:Nat),(k.toNat % 8:Nat),if m.toNat % 4=1∨m.toNat % 4=3 then ([120,121,122]:Str).drop (l.toNat % 3) else []⟩
theorem Kn (p:Oid):af Tryz.prog 50 [] (Oid.under p) ⟨[],.ptr (.sub 1 2 p) 0,[(.sub 1 2 p,some (.cells [.map (.sub 1 0 p),.nilPtr])),(.sub 1 0 p,some (.map [.ss] false [] 0))]⟩:=by
 refine aJ (n:=4) (rs:=[.tmp 0]) Tryz.func50 rfl rfl (by decide) rfl rfl rfl ?_;rintro x rfl hrd hng
 refine qw0 ?_
 refine aA (aZ rfl ?_ ?_)
 all_goals simp [Mem.ao]
end Go.Proofs.YtfbnaalhioogoaaGreatDoor
namespace Go.Proofs.YtfbnaalhioogoaaGreatDoor
open Go Go.Ab
set_option maxRecDepth 20000
set_option maxHeartbeats 4000000
theorem bQ {P:Program} {rs:List ResultVar} {need:List (Oid × aw)} {fr:List (Nat × AV)} {m:Mem} {c:Nat} {val:AV} {upd:List (Oid × Option aw)} (h1:gR P m fr rs=some val)
  (h2:∀ q,q ∈ upd→∀ o,q.2=some o→m q.1=some o) (h3:∀ q,q ∈ need→(∀ r,r ∈ upd→¬ r.1=q.1)→m q.1=some q.2):ez P rs need (fun v u=>v=val∧u=upd) (fun _ _=>False) .normal ⟨fr,m,c,[]⟩ :=
 b8 val upd h1 ⟨rfl,rfl⟩ (rU h2 h3)
variable (st t:Oid) (es:List ME) (clock:Nat) (hts:¬ t=st) (p:Oid) (hs:¬ Oid.under p st) (ht:¬ Oid.under p t)
include hts hs ht
theorem GA (b:Bits):af Tryz.prog 23 [.ptr st 0,.str [],b.av] (Oid.under p) ⟨[(st,.cells [.map t,.nilPtr]),(t,.map [.ss] false es clock)],.tuple [],[]⟩:=by
 simp only [Bits.av]
 refine aJ (n:=35) (rs:=[]) Tryz.func23 rfl rfl (by decide) rfl rfl rfl ?_;rintro x rfl hrd hng
 refine qw (ai (uu ht) (ai (uu hs) hts)) ?_
 refine aA (aZ rfl ?_ ?_)
 all_goals simp only [List.mem_cons,List.not_mem_nil,or_false,forall_eq_or_imp,forall_eq,Option.some.injEq,forall_eq',Mem.ao,eq_self,if_true,↓reduceIte,reduceCtorEq,implies_true,not_true_eq_false,false_imp_iff,true_and,and_true,false_and,and_false,imp_self,Oid.ab ht,Oid.aa ht,Oid.ab hs,Oid.aa hs,hts]
theorem GB (n:Str) (hn:¬ n=[]) (b:Bits) (hb:¬ b.k=0):af Tryz.prog 23 [.ptr st 0,.str n,b.av] (Oid.under p) ⟨[(st,.cells [.map t,.nilPtr]),(t,.map [.ss] false es clock)],.tuple [],[(t,some (.map [.ss] false (b7 (.str n) b.av clock es) (if bM (.str n) es then clock else clock+1)))]⟩:=by
 simp only [Bits.av]
 refine aJ (n:=35) (rs:=[]) Tryz.func23 rfl rfl (by decide) rfl rfl rfl ?_;rintro x rfl hrd hng
 refine qw (ai (uu ht) (ai (uu hs) hts)) ?_
 refine aX rfl rfl (fun hb'=>?_) (fun hb'=>?_)
 ·exact absurd hb' hn
 ·refine qw (ai (uu ht) (ai (uu hs) hts)) ?_
  refine aX rfl rfl (fun hb'=>?_) (fun hb'=>?_)
  ·exact absurd hb' hb
  ·(try ((first|refine zn ?_|refine ze ?_|refine zk ?_);with_reducible (constructor;repeat constructor));try refine zl ?_)
   refine qd (.d [] [] [0]) (ai (uu ht) (ai (uu hs) hts)) trivial ?_
   refine bZ (bQ rfl ?_ ?_)
   all_goals simp only [List.mem_cons,List.not_mem_nil,or_false,forall_eq_or_imp,forall_eq,Option.some.injEq,forall_eq',Mem.ao,eq_self,if_true,↓reduceIte,reduceCtorEq,implies_true,not_true_eq_false,false_imp_iff,true_and,and_true,false_and,and_false,imp_self,Oid.ab ht,Oid.aa ht,Oid.ab hs,Oid.aa hs,hts]
theorem GC (n:Str) (hn:¬ n=[]) (b:Bits) (hb:b.k=0):af Tryz.prog 23 [.ptr st 0,.str n,b.av] (Oid.under p) ⟨[(st,.cells [.map t,.nilPtr]),(t,.map [.ss] false es clock)],.tuple [],[(t,some (.map [.ss] false (k7 (.str n) es) clock))]⟩:=by
 simp only [Bits.av]
 refine aJ (n:=35) (rs:=[]) Tryz.func23 rfl rfl (by decide) rfl rfl rfl ?_;rintro x rfl hrd hng
 refine qw (ai (uu ht) (ai (uu hs) hts)) ?_
 refine aX rfl rfl (fun hb'=>?_) (fun hb'=>?_)
 ·exact absurd hb' hn
 ·refine qw (ai (uu ht) (ai (uu hs) hts)) ?_
  refine aX rfl rfl (fun hb'=>?_) (fun hb'=>?_)
  ·refine qw (ai (uu ht) (ai (uu hs) hts)) ?_
   refine bZ (bQ rfl ?_ ?_)
   all_goals simp only [List.mem_cons,List.not_mem_nil,or_false,forall_eq_or_imp,forall_eq,Option.some.injEq,forall_eq',Mem.ao,eq_self,if_true,↓reduceIte,reduceCtorEq,implies_true,not_true_eq_false,false_imp_iff,true_and,and_true,false_and,and_false,imp_self,Oid.ab ht,Oid.aa ht,Oid.ab hs,Oid.aa hs,hts]
  ·exact absurd hb hb'
omit hts in
theorem xd (n:Str) (b:Bits) (hv:fE (.str n) (.agg [.int .i64 0,.int .i64 0,.str []]) es=b.av):af Tryz.prog 75 [.map t,.str n] (Oid.under p) ⟨[(t,.map [.ss] false es clock)],(if n=[] then (⟨2,7,[]⟩:Bits) else b).av,[]⟩:=by
 simp only [Bits.av] at hv
 refine aJ (n:=11) (rs:=[.cell 4 56]) Tryz.func75 rfl rfl (by decide) rfl rfl rfl ?_;rintro x rfl hrd hng
 refine qw (uu ht) ?_
 refine aX rfl rfl (fun hb'=>?_) (fun hb'=>?_)
 ·rw [if_pos hb']
  refine qw (uu ht) ?_
  refine aA (aZ (by simp (disch:=first|omega|assumption) only [go_sem,Bits.av,Oid.ab ht,Oid.aa ht]) ?_ ?_)
  all_goals simp only [List.mem_cons,List.not_mem_nil,or_false,forall_eq_or_imp,forall_eq,Option.some.injEq,forall_eq',Mem.ao,eq_self,if_true,↓reduceIte,reduceCtorEq,implies_true,not_true_eq_false,false_imp_iff,true_and,and_true,false_and,and_false,imp_self,Oid.ab ht,Oid.aa ht]
 ·rw [if_neg hb']
  refine qw (ai (uu ht) hv) ?_
  refine aA (aZ (by simp (disch:=first|omega|assumption) only [go_sem,Bits.av,Oid.ab ht,Oid.aa ht]) ?_ ?_)
  all_goals simp only [List.mem_cons,List.not_mem_nil,or_false,forall_eq_or_imp,forall_eq,Option.some.injEq,forall_eq',Mem.ao,eq_self,if_true,↓reduceIte,reduceCtorEq,implies_true,not_true_eq_false,false_imp_iff,true_and,and_true,false_and,and_false,imp_self,Oid.ab ht,Oid.aa ht]
omit hts ht in
theorem xe (n:Str) (f:Bool):af Tryz.prog 106 [.ptr st 0,.agg [.str n,.bool f]] (Oid.under p) ⟨[(st,.cells [.map t,.nilPtr])],.tuple [],[]⟩:=by
 refine aJ (n:=59) (rs:=[]) Tryz.func106 rfl rfl (by decide) rfl rfl rfl ?_;rintro x rfl hrd hng
 refine qr .o (uu hs) trivial ?_
 refine cX nmd [(5,11),(9,15)] [] mixed hng (by kernel_rfl) [27] fun hf C S K hC hS hK=>?_;simp (disch:=first|omega|assumption) only [go_sem,Oid.ab hs,Oid.aa hs]
 (first|refine hK (aV rfl) ?_|refine hK (by simp (disch:=first|omega|assumption) only [go_sem,List.reverse_cons,List.reverse_nil,ne_eq,not_false_eq_true,implies_true]) ?_);clear hK hS hC K S C hf
 refine qw0 ?_
 refine aA (aZ rfl ?_ ?_)
 all_goals simp only [List.mem_cons,List.not_mem_nil,or_false,forall_eq_or_imp,forall_eq,Option.some.injEq,forall_eq',Mem.ao,eq_self,if_true,↓reduceIte,reduceCtorEq,implies_true,not_true_eq_false,false_imp_iff,true_and,and_true,false_and,and_false,imp_self,Oid.ab hs,Oid.aa hs]
theorem vJ (n:Str) (b:Bits) (hv:fE (.str n) (.agg [.int .i64 0,.int .i64 0,.str []]) es=b.av):af Tryz.prog 37 [.ptr st 0,.str n] (Oid.under p) ⟨[(st,.cells [.map t,.nilPtr]),(t,.map [.ss] false es clock)],(if n=[] then (⟨2,7,[]⟩:Bits) else b).av,[]⟩:=by
 have hs':∀ c i,¬ Oid.under (.sub c i p) st:=fun c i h=>hs (Oid.ae h)
 have ht':∀ c i,¬ Oid.under (.sub c i p) t:=fun c i h=>ht (Oid.ae h)
 generalize hB:(if n=[] then (⟨2,7,[]⟩:Bits) else b)=B
 have hat:=fun p hs ht=>xd st t es clock p hs ht n b hv
 rw [hB] at hat
 simp only [Bits.av] at hat ⊢
 refine aJ (n:=15) (rs:=[.cell 4 56]) Tryz.func37 rfl rfl (by decide) rfl rfl rfl ?_;rintro x rfl hrd hng
 refine qw (ai (uu ht) (ai (uu hs) hts)) ?_
 refine qr .o (ai (uu ht) (ai (uu hs) hts)) (cq (xe st t _ (hs' _ _) n false) trivial) ?_
 refine qr .o (ai (uu ht) (ai (uu hs) hts)) (cq (hat _ (hs' _ _) (ht' _ _)) trivial) ?_
 refine qw (ai (uu ht) (ai (uu hs) hts)) ?_
 refine aA (aZ (qs (ai (uu ht) (ai (uu hs) hts))) ?_ ?_)
 all_goals simp only [List.mem_cons,List.not_mem_nil,or_false,forall_eq_or_imp,forall_eq,Option.some.injEq,forall_eq',Mem.ao,eq_self,if_true,↓reduceIte,reduceCtorEq,implies_true,not_true_eq_false,false_imp_iff,true_and,and_true,false_and,and_false,imp_self,Oid.ab ht,Oid.aa ht,Oid.ab hs,Oid.aa hs,hts]
end Go.Proofs.YtfbnaalhioogoaaGreatDoor
namespace Go.Proofs.YtfbnaalhioogoaaGreatDoor
open Go Go.Ab
set_option maxRecDepth 20000
set_option maxHeartbeats 4000000
theorem mQ (s:Str) (c:UInt8) (sp:Oid→Prop):af Tryz.prog 233 [.str s,.str [c]] sp ⟨[],.bool (decide (0≤Lib.indexByte s c)),[]⟩ :=
 cm (by kernel_rfl) fun g args w ha _=>by
  obtain ⟨v,u,rfl,hv,hu⟩:=ha.two
  obtain ⟨b,rfl,hb⟩:=hv.br
  obtain ⟨d,rfl,hd⟩:=hu.br
  obtain rfl:d=⟨#[c]⟩:=by cases d with|mk a=>cases a with|mk l=>simp only at hd;rw [hd]
  refine (Tryz.strings_Contains_one b c w).mono ?_
  rintro e w' ⟨rfl,rfl⟩
  exact ⟨_,rfl,by rw [hb];exact .bool _,rfl⟩
def gr (s t:Str):Bool:=decide (t.length≤s.length) && decide (s.take t.length=t)
theorem lv (s t:Str) (hl:s.length≤140737488355328) (hl2:t.length≤140737488355328) (p:Oid):af Tryz.prog 212 [.str s,.str t] (Oid.under p) ⟨[],.bool (gr s t),[]⟩:=by
 refine aJ (n:=18) (rs:=[.tmp 4]) Tryz.func212 rfl rfl (by decide) rfl rfl rfl ?_;rintro x rfl hrd hng
 refine qr0 ?_
 refine aj nmd [(5,10)] hng (by kernel_rfl) fun hf C S K hC1 hC hS hK=>?_;simp (disch:=first|omega|assumption) only [go_sem]
 (repeat' (first|(refine aD (fun hv=>?_) (fun hv=>?_)<;>(try simp only [zb1,zb2,zb3,zb4,zb5] at hv)<;>simp (disch:=first|omega|assumption) only [go_sem,hv])|(refine hK ?_;clear hK hS hC hC1 K S C hf)))
 ·refine qw0 ?_
  exact aA (bd (congrArg AV.bool (by rw [gr,decide_eq_true (by omega:t.length≤s.length),Bool.true_and])))
 ·refine qw0 ?_
  exact aA (bd (congrArg AV.bool (by rw [gr,decide_eq_false (by omega:¬ t.length≤s.length),Bool.false_and])))
theorem pT (s t:Str) (hl:s.length≤140737488355328) (hl2:t.length≤140737488355328) (p:Oid):af Tryz.prog 321 [.str s,.str t] (Oid.under p) ⟨[],.tuple [.str (if gr s t=true then s.drop t.length else s),.bool (gr s t)],[]⟩:=by
 have hpre:gr s t=true→t.length≤s.length:=fun h=>by simp only [gr,Bool.and_eq_true,decide_eq_true_eq] at h;exact h.1
 refine aJ (n:=15) (rs:=[.tmp 4,.tmp 5]) Tryz.func321 rfl rfl (by decide) rfl rfl rfl ?_;rintro x rfl hrd hng
 (repeat (first|(refine aq rfl rfl ?_)|(refine ar rfl rfl ?_)|(refine aj nmd [] hng (by kernel_rfl) fun hf C S K hC1 hC hS hK=>?_;simp (disch:=first|omega|assumption) only [go_sem];(repeat ((first|refine hC1 _ (lv s t hl hl2 _) (by simp (disch:=first|omega|assumption) only [go_sem]) ?_);simp (disch:=first|omega|assumption) only [go_sem]));refine hK ?_;clear hK hS hC hC1 K S C hf)|((first|refine zn ?_|refine ze ?_|refine zk ?_);with_reducible (constructor;repeat constructor);try refine zl ?_)))
 cases hp:gr s t with
 | true =>
  have:=hpre hp
  refine qw0 ?_
  exact aA (ay rfl)
 | false =>
  refine qw0 ?_
  exact aA (ay rfl)
theorem lx (s t:Str) (hl:s.length≤140737488355328) (hl2:t.length≤140737488355328) (p:Oid):af Tryz.prog 295 [.str s,.str t] (Oid.under p) ⟨[],.tuple [.str (if gr s t=true then s.drop t.length else s),.bool (gr s t)],[]⟩:=by
 refine aJ (n:=11) (rs:=[.tmp 4,.tmp 5]) Tryz.func295 rfl rfl (by decide) rfl rfl rfl ?_;rintro x rfl hrd hng
 (repeat (first|(refine aq rfl rfl ?_)|(refine ar rfl rfl ?_)|(refine aj nmd [] hng (by kernel_rfl) fun hf C S K hC1 hC hS hK=>?_;simp (disch:=first|omega|assumption) only [go_sem];(repeat ((first|refine hC1 _ (pT s t hl hl2 _) (by simp (disch:=first|omega|assumption) only [go_sem]) ?_);simp (disch:=first|omega|assumption) only [go_sem]));refine hK ?_;clear hK hS hC hC1 K S C hf)|((first|refine zn ?_|refine ze ?_|refine zk ?_);with_reducible (constructor;repeat constructor);try refine zl ?_)))
 exact aA (ay rfl)
end Go.Proofs.YtfbnaalhioogoaaGreatDoor
namespace Go.Ab
theorem pU {P:Program} [Laid P] {f:FuncId} {xs:List AV} {p:Oid} (vs:List AV) (cs:Array Value) (t:TypeId) (he:cj P f=true)
  (h1:cs.size=vs.length) (h2:∀ i,i < vs.length→(vs.getD i .undef).cells.length=1) (h3:∀ j,j < vs.length→(cs.getD j undef).oneCell' = true)
  (h4:∀ g i,i < vs.length→VR g ((vs.getD i .undef).cells.getD 0 .undef) (cs.getD i undef))
  (h:∀ (g:Gh) (args:Array Value) (w:World),VRs g xs args→l6 P g w→Calls P f args w fun en w'=>en = .returned (.slice (some ⟨w.heap.size,0,none⟩) vs.length vs.length)∧w' = w.alloc (.cells cs t)) :
  af P f xs (Oid.under p) ⟨[],.sl (.sub 0 0 p) 1 vs.length,[(.sub 0 0 p,some (.arr 1 vs))]⟩:=by
 refine ⟨he,fun x g args w m hm _ ha hs hx=>(h g args w ha (hm.told hx)).mono ?_⟩
 rintro en w' ⟨rfl,rfl⟩
 obtain ⟨hl,hu⟩:=hs (.sub 0 0 p) (Oid.ae (Oid.az _))
 have hrn:g.row w.heap.size=none:=hm.nt (Nat.le_refl _)
 have hnew:=hm.new hl hu (o:=.arr 1 vs) (ob:=.cells cs t) ⟨cs,t,(0,0),b6 w _,by omega,fun j _ hj=>by omega,h2,fun j hj=>h3 j (by omega),fun i j hi hj=>by
  obtain rfl:j=0:=by omega
  have:=h4 (g.bind (.sub 0 0 p) w.heap.size) i hi
  simpa using this⟩ (fun t ht=>by cases ht)
 refine ⟨(g.bind (.sub 0 0 p) w.heap.size).measure w.heap.size (vs.length * 1),_,rfl,Gh.le_trans (Gh.bT hl) (Gh.eP (.inl hrn)),fun j hj=>?_,?_,hnew.measure ⟨cs,t,(0,0),b6 w _,by omega⟩ (.inl hrn)⟩
 ·have hne:¬ j = .sub 0 0 p:=fun e=>by subst e;exact hj (Oid.ae (Oid.az (.sub 0 0 p)))
  simp only [Gh.bind,Gh.measure];rw [if_neg hne]
 ·exact .sl _ _ _ _ _ (by simp [Gh.bind,Gh.measure]) (Nat.le_refl _) (by simp [Gh.measure])
end Go.Ab
