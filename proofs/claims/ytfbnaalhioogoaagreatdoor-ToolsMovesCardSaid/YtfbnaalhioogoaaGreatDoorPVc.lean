/- A part of the proof: the texts FwD, FwE, Ty, S0, Shelf, S1, FwL, Laid, SXU, S2, S2b, S6a, S7, S8, S3, S4, S5, S6, S9, S10, S11, S12, S13, S14, FwP, one behind the other. -/
import Derived.Test.YtfbnaalhioogoaaGreatDoorPVb
import Derived.ProofKit
import Derived.SizedLaws
import Derived.ReadAgain
import Derived.Below
import Derived.Deep.Draws
import Derived.Test.YtfbnaalhioogoaaGreatDoorProg
import Derived.KernelRfl
import Derived.Lib.Builder
import Derived.WalkKit
import Derived.Laws.Externs
import Derived.Laws.BitsLemmas
import Derived.Shelf.Strings.Builder1
import Derived.Shelf.Strings.Builder2
import Derived.Shelf.Strings.OnBuilder
import Derived.Shelf.Strings.Trim
import Derived.Shelf.Small.Utf8
import Derived.Shelf.Small.Bits
import Derived.Shelf.Small.Strs
import Derived.Shelf.Strconv.Atoi
import Derived.Shelf.Strconv.Itoa0
import Derived.Shelf.Strconv.Itoa1
import Derived.Shelf.LaysM
import Derived.Shelf.Strconv.Itoa2
import Derived.Shelf.Strconv.Itoa3
import Derived.Shelf.Strconv.AtoiErrFast
import Derived.Shelf.Strconv.ParseIntEmpty
import Derived.Shelf.Strconv.AtoiFail
import Derived.Shelf.Strconv.Clone
import Derived.Shelf.Strconv.SyntaxError
import Derived.Shelf.LaysC
import Derived.Shelf.Strconv.ToError
import Derived.Shelf.Strconv.Lower
import Derived.Shelf.Strconv.ParseUint10
import Derived.Shelf.Strconv.ParseUint10Empty
import Derived.Shelf.Strconv.ParseUint10Any
import Derived.Shelf.Strconv.ParseInt10
import Derived.Shelf.Strconv.AtoiLong
import Derived.Shelf.Strconv.AtoiInnerAll
import Derived.Shelf.Strconv.RangeError
import Derived.Shelf.Strconv.ToErrorRange
import Derived.Shelf.Strconv.AtoiAll
import Derived.Shelf.Strings.Search1
import Derived.Shelf.Strings.Search2
import Derived.Shelf.Strings.Search3
import Derived.Shelf.Strings.Cut
import Derived.Shelf.Strings.Count
import Derived.Shelf.Strings.Shaped
import Derived.Shelf.Sort.Plain
import Derived.Shelf.Strings.LastIndex
import Derived.Shelf.Strings.Prefix
import Derived.Shelf.Strings.Split
import Derived.Shelf.Strings.SplitShaped
import Derived.Shelf.Unicode.Decode
import Derived.Shelf.Strings.Runes
import Derived.Shelf.Strings.RuneCount
import Derived.Shelf.Strings.AsciiSet
import Derived.Shelf.Unicode.DecodeSlow
import Derived.Shelf.Slices.Turned
import Derived.Shelf.Slices.Equal
import Derived.Ground.Names2Prog
import Derived.Shelf.Slices.ReverseS
import Derived.Shelf.Slices.CompactS
import Derived.Shelf.Slices.Cells
import Derived.Shelf.Slices.In.SortNone
import Derived.Shelf.Slices.Empties2
import Derived.Ground.SlgnProg
import Derived.Shelf.SlicesE.Equal
import Derived.Shelf.SlicesE.Compact
import Derived.Ground.SlgfProg
import Derived.Shelf.SlicesE.IndexFunc
import Derived.Shelf.SlicesE.DeleteFunc
import Derived.Lib.LaidTab
import Derived.Deep.DeepHandedRow
import Derived.Test.YtfbnaalhioogoaaGreatDoorRows
import Derived.Test.YtfbnaalhioogoaaGreatDoorCards
import Derived.Test.YtfbnaalhioogoaaGreatDoorTie
import Derived.Lib.AtoiAllCases
import Derived.Lib.ItoaMem
import Derived.Lib.ItoaLen
import Derived.Lib.AtoiTie
set_option linter.unusedVariables false
set_option linter.unusedSimpArgs false
set_option linter.unusedSectionVars false
namespace Go.Ab
universe u
def both (b:Bool) (A B:Prop):Prop:=(b=true→A)∧(b=false→B)
theorem pC (A B:Prop):both true A B=A:=by simp [both]
theorem tZ (A B:Prop):both false A B=B:=by simp [both]
structure LOp where
 dst:Option Nat
 op:Op
 guard:Option (Nat × Bool)
def nv (o:Oper):LOp:=⟨o.dst,o.op,o.guard⟩
def dv:List Oper→List LOp
 | []=>[]
 | o::l=>nv o::dv l
def prs (ρ:Operand→AV):List (Nat × Operand)→List (Nat × AV)
 | []=>[]
 | q::l=>(q.1,ρ q.2)::prs ρ l
theorem Ci (ρ:Operand→AV) (l:List (Nat × Operand)):l.map (fun q=>(q.1,ρ q.2))=prs ρ l:=by
 induction l with
 | nil=>rfl
 | cons q l ih=>simp only [List.map_cons,prs,ih]
def opL (P:Program) (m:Mem) (nid:Oid) (md:Nat→Bool) (ρ:Operand→AV) (dst:Option Nat) (op:Op):OpR :=
 match op with
 | .move x=>b8 (ρ x)
 | .assign x=>b8 (ρ x)
 | .pick c a b=>match ρ c with
  | .bool v=>b8 (if v then ρ a else ρ b)
  | _=>.no
 | .alloc t=>match zer P t with
  | some z=>.eff ⟨[],.ptr (gp P t nid) 0,[(gp P t nid,some (.cells z))]⟩
  | none=>.no
 | .box t x=>if (ρ x).known=true then .eff ⟨[],.ptr (gp P t nid) 0,[(gp P t nid,some (.cells (ρ x).cells))]⟩ else .no
 | .build t ps=>dW (nb P t (prs ρ ps.toList))
 | .buildSlice t n ps=>match nc P (tyk P t) n (prs ρ ps.toList) with
  | some (sz,vs)=>if (match dst with|some d=>md d|none=>false)=true then .eff ⟨[],.sl nid sz n,[(nid,some (.arr sz vs))]⟩ else b8 (.list sz vs)
  | none=>.no
 | .load t a=>iI (shp P t) m (ρ a)
 | .store t a v=>jY (shp P t) m (ρ a) (ρ v)
 | .nilCheck x=>if mV (ρ x)=true then b8 (ρ x) else .no
 | .binOp op t x y _=>dW (Cg P op t (isC y) (ρ x) (ρ y))
 | .unOp op _ x=>dW (unA op (ρ x))
 | .convert s d x=>dW (vv P s d (ρ x))
 | .fieldAddr t x k=>dW (gk (bd P t k) (ρ x))
 | .field t x k=>dW (mX (bd P t k) (ρ x))
 | .indexAddr t x i=>dW (dV (tyk P t) (ρ x) (ρ i))
 | .index t x i=>dW (lv (tyk P t) (ρ x) (ρ i))
 | .extract x i=>dW (iW (ρ x) i)
 | .makeFunc f xs ys=>b8 (.fn f (xs.toList.map ρ) (ys.toList.map ρ))
 | .makeInterface t x=>dW (lx (tyk P t) t (ρ x))
 | .slice t x lo hi none=>dW (eD (tyk P t) (ρ x) (lo.map ρ) (hi.map ρ))
 | .makeMap t none=>match kG P t with
  | some (ks,ag)=>.eff ⟨[],.map nid,[(nid,some (.map ks ag [] 0))]⟩
  | none=>.no
 | .lookup t x k ok=>fQ P m t (ρ x) (ρ k) ok
 | .mapUpdate t x k v=>cA P m t (ρ x) (ρ k) (ρ v)
 | .insert t x k v=>cA P m t (ρ x) (ρ k) (ρ v)
 | .mapEntry t x k=>eR P m t (ρ x) (ρ k)
 | .entryStore _ x k v=>dt m (ρ x) (ρ k) (ρ v)
 | .range t x=>j6 (tyk P t) m nid (ρ x)
 | .entry x=>j7 m (ρ x)
 | .call c=>kL P m nid ρ c
 | _=>.no
theorem ua (P:Program) (m:Mem) (nid:Oid) (md:Nat→Bool) (ρ:Operand→AV) (o:Oper):opF P m nid md ρ o=opL P m nid md ρ o.dst o.op:=by
 unfold opF opL;simp only [Ci];rfl
def pD:List (Nat × Nat)→Nat→Option Nat
 | [],_=>none
 | q::l,j=>if j=q.1 then some q.2 else pD l j
def l5 (gl:List (Nat × Nat)) (g:Option (Nat × Bool)) (f:Nat→AV):Option Bool :=
 match g with
 | none=>some true
 | some (j,want)=>match pD gl j with
  | none=>none
  | some d=>match f d with
   | .bool b=>some (b == want)
   | .tuple []=>some false
   | _=>none
def oQ (ops:Array Oper) (gl:List (Nat × Nat)):Bool:=gl.all fun q=>match ops[q.1]? with
 | some o=>o.dst == some q.2
 | none=>false
theorem sq {ops:Array Oper}:∀ {gl:List (Nat × Nat)},oQ ops gl=true→∀ {j d:Nat},pD gl j=some d→(ops[j]?).bind (·.dst)=some d
 | [],_,_,_,h=>by cases h
 | q::l,hg,j,d,h=>by
  simp only [oQ,List.all_cons,Bool.and_eq_true] at hg
  simp only [pD] at h
  split at h
  ·rename_i e
   simp only [Option.some.injEq] at h;subst h;subst e
   have:=hg.1
   split at this
   ·rename_i o ho;rw [ho];simpa using this
   ·cases this
  ·exact sq (by simpa [oQ] using hg.2) h
theorem sv {ops:Array Oper} {gl:List (Nat × Nat)} (hg:oQ ops gl=true) {o:Oper} {f:Nat→AV} {b:Bool} (h:l5 gl o.guard f=some b):gT ops o f=some b:=by
 unfold l5 at h
 unfold gT
 split at h
 ·rename_i e;rw [e];exact h
 ·rename_i j want e
  rw [e];simp only
  cases hl:pD gl j with
  | none=>rw [hl] at h;cases h
  | some d =>
   rw [hl] at h
   rw [sq hg hl]
   exact h
structure LE where
 need:List Oid
 upd:List Oid
def LE.none:LE:=⟨[],[]⟩
def j8 {α β:Type}:List (α × β)→List α
 | []=>[]
 | q::l=>q.1::j8 l
theorem gZ {α β:Type} {l:List (α × β)} {q:α × β} (h:q ∈ l):q.1 ∈ j8 l:=by
 induction l with
 | nil=>cases h
 | cons a l ih =>
  rcases List.mem_cons.1 h with rfl|h
  ·exact List.mem_cons_self
  ·exact List.mem_cons_of_mem _ (ih h)
def j9 (e:Eff):LE:=⟨j8 e.need,j8 e.upd⟩
def sx (lg:Bool) (e:LE) (log:List LE):List LE:=if lg then e::log else log
def ev (P:Program) (md:Nat→Bool) (gl:List (Nat × Nat)) (p:Oid) (c:Nat) (lg:Bool) (C:Nat→List LOp→FuncId→List AV→List (Nat × AV)→Mem→List LE→Prop) (S:Nat→List LOp→List (Nat × AV)→Mem→List LE→Prop)
    (K:List (Nat × AV)→Mem→List LE→Prop):Nat→List LOp→List (Nat × AV)→Mem→List LE→Prop
 | _,[],fr,m,log=>K fr m log
 | i,o::rest,fr,m,log =>
  match l5 gl o.guard (F fr) with
  | some b=>both b
    (match opL P m (.sub c i p) md (evA fr) o.dst o.op with
     | .eff e=>ev P md gl p c lg C S K (i+1) rest (put o.dst e.val fr) (m.aK e.upd) (sx lg (j9 e) log)
     | .call f xs=>C i (o::rest) f xs fr m log
     | .no=>S i (o::rest) fr m log)
    (ev P md gl p c lg C S K (i+1) rest (put o.dst (.tuple []) fr) m (sx lg LE.none log))
  | none=>False
section
variable (P:Program) (md:Nat→Bool) (gl:List (Nat × Nat)) (p:Oid) (c:Nat) (lg:Bool) (C:Nat→List LOp→FuncId→List AV→List (Nat × AV)→Mem→List LE→Prop) (S:Nat→List LOp→List (Nat × AV)→Mem→List LE→Prop)
  (K:List (Nat × AV)→Mem→List LE→Prop) (i:Nat) (o:LOp) (rest:List LOp) (fr:List (Nat × AV)) (m:Mem) (log:List LE)
def evR (r:OpR):Prop:=match r with
 | .eff e=>ev P md gl p c lg C S K (i+1) rest (put o.dst e.val fr) (m.aK e.upd) (sx lg (j9 e) log)
 | .call f xs=>C i (o::rest) f xs fr m log
 | .no=>S i (o::rest) fr m log
def evG (b:Option Bool):Prop:=match b with
 | some b=>both b (evR P md gl p c lg C S K i o rest fr m log (opL P m (.sub c i p) md (evA fr) o.dst o.op)) (ev P md gl p c lg C S K (i+1) rest (put o.dst (.tuple []) fr) m (sx lg LE.none log))
 | none=>False
theorem nr {α:Sort u} {a b:α} (h:a=b):a=b:=h
theorem Ft:ev P md gl p c lg C S K i [] fr m log=K fr m log:=nr (by rw [ev])
theorem Fu (dst:Option Nat) (op:Op):ev P md gl p c lg C S K i (⟨dst,op,none⟩::rest) fr m log=evR P md gl p c lg C S K i ⟨dst,op,none⟩ rest fr m log (opL P m (.sub c i p) md (evA fr) dst op):=nr (by
 rw [ev];simp only [l5,pC];rfl)
theorem y5 (dst:Option Nat) (op:Op) (j:Nat) (w:Bool):ev P md gl p c lg C S K i (⟨dst,op,some (j,w)⟩::rest) fr m log=evG P md gl p c lg C S K i ⟨dst,op,some (j,w)⟩ rest fr m log (l5 gl (some (j,w)) (F fr)):=nr (by
 rw [ev];rfl)
theorem Cj (e:Eff):evR P md gl p c lg C S K i o rest fr m log (.eff e)=ev P md gl p c lg C S K (i+1) rest (put o.dst e.val fr) (m.aK e.upd) (sx lg (j9 e) log):=nr (by rw [evR])
theorem y6 (f:FuncId) (xs:List AV):evR P md gl p c lg C S K i o rest fr m log (.call f xs)=C i (o::rest) f xs fr m log:=nr (by rw [evR])
theorem Fv:evR P md gl p c lg C S K i o rest fr m log .no=S i (o::rest) fr m log:=nr (by rw [evR])
theorem y7:evG P md gl p c lg C S K i o rest fr m log (some true)=evR P md gl p c lg C S K i o rest fr m log (opL P m (.sub c i p) md (evA fr) o.dst o.op):=nr (by rw [evG];simp only [pC])
theorem wQ:evG P md gl p c lg C S K i o rest fr m log (some false)=ev P md gl p c lg C S K (i+1) rest (put o.dst (.tuple []) fr) m (sx lg LE.none log):=nr (by rw [evG];simp only [tZ])
variable {P md gl p c lg C S K i o rest fr m log}
theorem bG {b:Bool} (h1:b=true→evR P md gl p c lg C S K i o rest fr m log (opL P m (.sub c i p) md (evA fr) o.dst o.op)) (h2:b=false→ev P md gl p c lg C S K (i+1) rest (put o.dst (.tuple []) fr) m (sx lg LE.none log)) :
  evG P md gl p c lg C S K i o rest fr m log (some b):=⟨h1,h2⟩
end
section
variable {P:Program} [Laid P] {md:Nat→Bool} {ops:Array Oper} {p:Oid} {c:Nat} {gl:List (Nat × Nat)}
theorem ia {i:Nat} {o:Oper} {rest:List Oper} (h:ops.toList.drop i=o::rest):ops.toList.drop (i+1)=rest:=by
 have:(ops.toList.drop i).drop 1=rest:=by rw [h];rfl
 rwa [List.drop_drop] at this
def Ck (P:Program) [Laid P] (md:Nat→Bool) (ops:Array Oper) (p:Oid) (c:Nat) (K:List (Nat × AV)→Mem→Prop) (Kp:AV→List (Nat × AV)→Mem→Prop):Nat→List LOp→FuncId→List AV→List (Nat × AV)→Mem→List LE→Prop :=
 fun i L f xs fr m _=>∀ o rest,ops.toList.drop i=o::rest→dv (o::rest)=L→∃ need R Rp,cf P f xs (Oid.under (.sub c i p)) need R Rp∧(∀ q,q ∈ need→m q.1=some q.2)∧(∀ val upd,R val upd→gr P md ops p c (i+1) rest (put o.dst val fr) (m.aK upd) K Kp)∧∀ pv upd,Rp pv upd→Kp pv fr (m.aK upd)
def I3 (P:Program) [Laid P] (dst:Option Nat) (op:Op) (ρ:Operand→AV) (sp:Oid→Prop) (need:List (Oid × ah)) (R Rp:AV→List (Oid × Option ah)→Prop):Prop :=
 ∀ o:Oper,o.dst=dst→o.op=op→kN P o ρ sp need R Rp
def I4 (P:Program) [Laid P] (dst:Option Nat) (op:Op) (ρ:Operand→AV) (sp:Oid→Prop) (e:Eff):Prop:=∀ o:Oper,o.dst=dst→o.op=op→aF P o ρ sp e
def H6 (P:Program) [Laid P] (md:Nat→Bool) (ops:Array Oper) (p:Oid) (c:Nat) (K:List (Nat × AV)→Mem→Prop) (Kp:AV→List (Nat × AV)→Mem→Prop):Nat→List LOp→List (Nat × AV)→Mem→List LE→Prop :=
 fun i L fr m _=>∀ o rest,ops.toList.drop i=o::rest→dv (o::rest)=L→∃ need R Rp,kN P o (evA fr) (Oid.under (.sub c i p)) need R Rp∧(∀ q,q ∈ need→m q.1=some q.2)∧(∀ val upd,R val upd→gr P md ops p c (i+1) rest (put o.dst val fr) (m.aK upd) K Kp)∧∀ pv upd,Rp pv upd→Kp pv fr (m.aK upd)
theorem ib {K:List (Nat × AV)→Mem→Prop} {Kp:AV→List (Nat × AV)→Mem→Prop} {lg:Bool} (hg:oQ ops gl=true):∀ (rest:List Oper) (i:Nat) (fr:List (Nat × AV)) (m:Mem) (log:List LE),ops.toList.drop i=rest →
  ev P md gl p c lg (Ck P md ops p c K Kp) (H6 P md ops p c K Kp) (fun fr m _=>K fr m) i (dv rest) fr m log→gr P md ops p c i rest fr m K Kp
 | [],_,_,_,_,_,h=>h
 | o::rest,i,fr,m,log,hd,h=>by
  simp only [dv,ev] at h
  simp only [gr]
  cases hw:l5 gl (nv o).guard (F fr) with
  | none=>simp only [hw] at h
  | some b =>
   simp only [hw] at h
   rw [sv (o:=o) hg hw]
   cases b with
   | true =>
    have h:=h.1 rfl
    rw [ua]
    simp only [nv] at h
    simp only
    cases ho:opL P m (.sub c i p) md (evA fr) o.dst o.op with
    | eff e=>simp only [ho] at h;exact ib hg rest _ _ _ _ (ia hd) h
    | call f xs=>simp only [ho] at h;exact .inr (h o rest hd rfl)
    | no=>simp only [ho] at h;exact h o rest hd rfl
   | false=>exact ib hg rest _ _ _ _ (ia hd) (h.2 rfl)
def l6 (ops:Array Oper) (i:Nat) (rest:List Oper) (log:List Eff):Prop:=(∀ j,rest[j]? = ops[i+j]?)∧log.length=i∧∀ (k:Nat) o e,ops[k]? = some o→log.reverse[k]? = some e→wN o e
def KT (ops:Array Oper) (K:List (Nat × AV)→Mem→List Eff→Prop) (fr:List (Nat × AV)) (m:Mem) (log:List Eff):Prop:=K fr m log∧∀ (k:Nat) o e,ops[k]? = some o→log.reverse[k]? = some e→wN o e
theorem l6.step {i:Nat} {o:Oper} {rest:List Oper} {log:List Eff} (h:l6 ops i (o::rest) log) {e:Eff} (he:wN o e):l6 ops (i+1) rest (e::log):=by
 obtain ⟨hl,hn,ht⟩:=h
 have h0:ops[i]? = some o:=by simpa using (hl 0).symm
 refine ⟨fun j=>by have:=hl (j+1);simpa [Nat.add_assoc,Nat.add_comm 1 j] using this,by simp [hn],?_⟩
 intro k o' e' ho' he'
 rw [List.reverse_cons] at he'
 by_cases hk:k < log.reverse.length
 ·rw [List.getElem?_append_left hk] at he';exact ht k o' e' ho' he'
 ·rw [List.getElem?_append_right (by omega)] at he'
  have hk0:k - log.reverse.length=0:=by
   cases hz:k - log.reverse.length with
   | zero=>rfl
   | succ z=>rw [hz] at he';simp at he'
  have hki:k=i:=by rw [List.length_reverse,hn] at hk0 hk;omega
  subst hki
  rw [hk0] at he'
  simp only [List.getElem?_cons_zero,Option.some.injEq] at he'
  rw [h0] at ho';simp only [Option.some.injEq] at ho'
  subst ho';subst he';exact he
theorem l6.drop {i:Nat} {rest:List Oper} {log:List Eff} (h:l6 ops i rest log):ops.toList.drop i=rest:=by
 apply List.ext_getElem?
 intro j
 rw [List.getElem?_drop,h.1 j];simp
def vx (P:Program) [Laid P] (ops:Array Oper) (p:Oid) (c:Nat) (K:List (Nat × AV)→Mem→List LE→Prop):Nat→List LOp→FuncId→List AV→List (Nat × AV)→Mem→List LE→Prop :=
 fun i L f xs fr m lg=>∀ o rest log,l6 ops i (o::rest) log→log.map j9=lg→dv (o::rest)=L→(fD o.op=false∧gq o.op=false)→∃ e,aj P f xs (Oid.under (.sub c i p)) e∧(∀ q,q ∈ e.need→m q.1=some q.2) ∧
     dB P ops p c (i+1) rest (put o.dst e.val fr) (m.aK e.upd) (e::log) (KT ops fun fr m log=>K fr m (log.map j9))
def EX (P:Program) [Laid P] (ops:Array Oper) (p:Oid) (c:Nat) (K:List (Nat × AV)→Mem→List LE→Prop):Nat→List LOp→List (Nat × AV)→Mem→List LE→Prop :=
 fun i L fr m lg=>∀ o rest log,l6 ops i (o::rest) log→log.map j9=lg→dv (o::rest)=L→∃ e,aF P o (evA fr) (Oid.under (.sub c i p)) e∧(∀ q,q ∈ e.need→m q.1=some q.2) ∧
     dB P ops p c (i+1) rest (put o.dst e.val fr) (m.aK e.upd) (e::log) (KT ops fun fr m log=>K fr m (log.map j9))
theorem gu {K:List (Nat × AV)→Mem→List LE→Prop} (hg:oQ ops gl=true):∀ (rest:List Oper) (i:Nat) (fr:List (Nat × AV)) (m:Mem) (log:List Eff),l6 ops i rest log →
  ev P md gl p c true (vx P ops p c K) (EX P ops p c K) K i (dv rest) fr m (log.map j9)→dB P ops p c i rest fr m log (KT ops fun fr m log=>K fr m (log.map j9))
 | [],_,_,_,_,hL,h=>⟨h,hL.2.2⟩
 | o::rest,i,fr,m,log,hL,h=>by
  simp only [dv,ev] at h
  simp only [dB]
  cases hw:l5 gl (nv o).guard (F fr) with
  | none=>simp only [hw] at h
  | some b =>
   simp only [hw] at h
   rw [sv (o:=o) hg hw]
   cases b with
   | true =>
    have h:=h.1 rfl
    simp only [nv] at h
    simp only
    cases ho:opL P m (.sub c i p) md (evA fr) o.dst o.op with
    | eff e =>
     simp only [ho] at h
     rw [← ua] at ho
     obtain ⟨h1,h2⟩:=yT (sp:=Oid.under (.sub c i p)) (Oid.ax _) (fun t=>Oid.rL t _) rfl ho
     exact ⟨e,h1,h2,gu hg rest _ _ _ (e::log) (hL.step ⟨fun hi=>yV hi ho,fun hi=>yW hi ho⟩) h⟩
    | call f xs =>
     simp only [ho] at h
     rw [← ua] at ho
     have i1:fD o.op=false:=by
      cases hi:fD o.op with
      | false=>rfl
      | true=>exact (oN hi ho).elim
     have i2:gq o.op=false:=by
      cases hi:gq o.op with
      | false=>rfl
      | true=>exact (oO hi ho).elim
     obtain ⟨e,h1,h2,h3⟩:=h o rest log hL rfl rfl ⟨i1,i2⟩
     exact ⟨e,sf ho h1,h2,h3⟩
    | no =>
     simp only [ho] at h
     exact h o rest log hL rfl rfl
   | false=>exact gu hg rest _ _ _ (Eff.none::log) (hL.step ⟨fun _=>⟨rfl,rfl⟩,fun _=>rfl⟩) (h.2 rfl)
def vz (a b:LE):Prop:=(∀ i,i ∈ a.upd→∀ j,j ∈ b.need→i≠j)∧(∀ i,i ∈ a.upd→∀ j,j ∈ b.upd→i≠j)∧(∀ i,i ∈ a.need→∀ j,j ∈ b.upd→i≠j)
def sy (E:List LE):List (Nat × Nat)→Prop
 | []=>True
 | (i,j)::r=>vz (E.getD i LE.none) (E.getD j LE.none)∧sy E r
theorem sA {a b:LE} (ha:a.upd=[]) (hb:b.upd=[]):vz a b:=by
 unfold vz;rw [ha,hb]
 refine ⟨?_,?_,?_⟩<;>intro i h j k<;>first|(cases h;done)|(cases k;done)
theorem aE {E:List LE} (h:(E.all fun e=>e.upd.isEmpty)=true):∀ {U:List (Nat × Nat)},sy E U
 | []=>trivial
 | (i,j)::r=>by
  have hget:∀ k,(E.getD k LE.none).upd=[]:=fun k=>by
   rw [List.getD_eq_getElem?_getD]
   cases hk:E[k]? with
   | none=>rfl
   | some e =>
    rw [List.all_eq_true] at h
    exact List.isEmpty_iff.1 (h e (List.mem_of_getElem? hk))
  exact ⟨sA (hget i) (hget j),aE h⟩
theorem pE {E:List Eff}:∀ {U:List (Nat × Nat)},sy (E.map j9) U→yX E U
 | [],_=>trivial
 | (i,j)::r,h=>by
  have hget:∀ k,(E.map j9).getD k LE.none=j9 (E.getD k Eff.none):=fun k=>by
   simp only [List.getD_eq_getElem?_getD,List.getElem?_map]
   cases E[k]? <;> rfl
  simp only [sy,hget] at h
  obtain ⟨⟨h1,h2,h3⟩,h4⟩:=h
  exact ⟨⟨fun q hq q' hq'=>h1 _ (gZ hq) _ (gZ hq'),fun q hq q' hq'=>h2 _ (gZ hq) _ (gZ hq'),fun q hq q' hq'=>h3 _ (gZ hq) _ (gZ hq')⟩,pE h4⟩
end
end Go.Ab
namespace Go.Ab
inductive Pc where
 | code (c:Code)
 | bend (id:Nat)
 | lend (ts:List Nat) (I:Nat→AS→Prop) (k:Nat)
def after (P:Program) (x:Ctx) (n:Nat) (Q:AX→AS→Prop):List Pc→AX→AS→Prop
 | [],e,s=>Q e s
 | k::ks,e,s=>match k,e with
  | .code c,.normal=>T P x n c s (after P x n Q ks)
  | .lend ts I k,.normal=>∃ k' m',k' < k∧(∀ i o,m' i=some o→s.mem i=some o)∧I k' ⟨cI ts s.fr,m',s.c,s.ds⟩
  | .bend j,.exit i=>if i=j then after P x n Q ks .normal s else after P x n Q ks (.exit i) s
  | _,e=>after P x n Q ks e s
section
variable {P:Program} [Laid P] {x:Ctx} {n:Nat} {Q:AX→AS→Prop} {ks:List Pc} {s:AS} {fr:List (Nat × AV)} {m:Mem} {c:Nat} {ds:List AD}
theorem nw {a:Code} (h:T P x n a s (after P x n Q ks)):after P x n Q (.code a::ks) .normal s:=h
theorem bZ {e:AX} (h:Q e s):after P x n Q [] e s:=h
theorem Fw {i:Nat} (h:after P x n Q ks .normal s):after P x n Q (.bend i::ks) (.exit i) s:=by simp only [after,if_true];exact h
theorem I5 {i j:Nat} (hj:(Nat.beq i j)=false) (h:after P x n Q ks (.exit i) s):after P x n Q (.bend j::ks) (.exit i) s:=by
 have:¬ i=j:=fun e=>by subst e;simp at hj
 simp only [after,if_neg this];exact h
theorem jz:∀ {ks:List Pc},Q .ret s→after P x n Q ks .ret s
 | [],h=>h
 | .code _::ks,h=>jz (ks:=ks) h
 | .bend _::ks,h=>jz (ks:=ks) h
 | .lend .. :: ks,h=>jz (ks:=ks) h
theorem fi {v:AV}:∀ {ks:List Pc},Q (.panic v) s→after P x n Q ks (.panic v) s
 | [],h=>h
 | .code _::ks,h=>fi (ks:=ks) h
 | .bend _::ks,h=>fi (ks:=ks) h
 | .lend .. :: ks,h=>fi (ks:=ks) h
theorem ny {a b:Code} (h:T P x n a s (after P x n Q (.code b::ks))):T P x n (.seq a b) s (after P x n Q ks) :=
 H0 (jU h fun e s h=>by cases e<;>exact h)
theorem Fx (h:after P x n Q ks .normal s):T P x n .skip s (after P x n Q ks):=Fi h
theorem aB (h:Q .ret s):T P x n .ret s (after P x n Q ks):=HY (jz h)
theorem Fy {i:Nat} (h:after P x n Q ks (.exit i) s):T P x n (.exit i) s (after P x n Q ks):=Fj h
theorem jA {id:Nat} {a:Code} (h:T P x n a s (after P x n Q (.bend id::ks))):T P x n (.block id a) s (after P x n Q ks) :=
 BZ (jU h fun e s h=>by cases e<;>first|exact h|(simp only [after] at h;simp only [AX.inBlock];split<;>simp_all))
theorem bV (ts:List Nat) {a:Code} (I:Nat→AS→Prop) (k:Nat) (h0:I k ⟨cI ts fr,m,c,ds⟩)
  (round:∀ k s,I k s→T P x n a s (after P x n Q (.lend ts I k::ks))):T P x n (.loop a) ⟨fr,m,c,ds⟩ (after P x n Q ks):=by
 refine Fl (fun k s=>∃ m',(∀ i o,m' i=some o→s.mem i=some o)∧I k ⟨cI ts s.fr,m',s.c,s.ds⟩) k ⟨m,fun _ _ h=>h,h0⟩ ?_
 rintro k ⟨fr',m1,c',ds'⟩ ⟨m',hm,hi⟩
 refine kz (s:=⟨fr',m1,c',ds'⟩) (cI ts fr') (fun t _=>mI ts fr' t) ?_
 refine qy (s:=⟨cI ts fr',m1,c',ds'⟩) m' hm ?_
 refine jU (round k _ hi) fun e s h=>?_
 cases e with
 | normal=>obtain ⟨k',m',h1,h2,h3⟩:=h;exact ⟨k',h1,m',h2,h3⟩
 | _=>exact h
theorem nz {t:Nat} {a b:Code} {v:Bool} (ht:(decide (t < n))=true) (hv:F fr t = .bool v) (h1:v=true→T P x n a ⟨fr,m,c,ds⟩ (after P x n Q ks)) (h2:v=false→T P x n b ⟨fr,m,c,ds⟩ (after P x n Q ks)) :
  T P x n (.cond (.tmp t) a b) ⟨fr,m,c,ds⟩ (after P x n Q ks):=H3 ht hv h1 h2
theorem aP {t:Nat} {a b:Code} {p:Prop} {i:Decidable p} (ht:(decide (t < n))=true) (hv:F fr t = .bool (decide p)) (h1:p→T P x n a ⟨fr,m,c,ds⟩ (after P x n Q ks)) (h2:¬ p→T P x n b ⟨fr,m,c,ds⟩ (after P x n Q ks)) :
  T P x n (.cond (.tmp t) a b) ⟨fr,m,c,ds⟩ (after P x n Q ks):=H3 ht hv (fun h=>h1 (of_decide_eq_true h)) (fun h=>h2 (of_decide_eq_false h))
theorem ay {t:Nat} {a b:Code} (ht:(decide (t < n))=true) (hv:F fr t = .bool true) (h1:T P x n a ⟨fr,m,c,ds⟩ (after P x n Q ks)):T P x n (.cond (.tmp t) a b) ⟨fr,m,c,ds⟩ (after P x n Q ks):=nz ht hv (fun _=>h1) (fun h=>by cases h)
theorem aw {t:Nat} {a b:Code} (ht:(decide (t < n))=true) (hv:F fr t = .bool false) (h1:T P x n b ⟨fr,m,c,ds⟩ (after P x n Q ks)):T P x n (.cond (.tmp t) a b) ⟨fr,m,c,ds⟩ (after P x n Q ks):=nz ht hv (fun h=>by cases h) (fun _=>h1)
def Cut (P:Program) (x:Ctx) (n:Nat) (Q:AX→AS→Prop) (ks:List Pc) (ts:List Nat) (R:AS→Prop):AX→AS→Prop
 | .normal,s=>∃ m',(∀ i o,m' i=some o→s.mem i=some o)∧R ⟨cI ts s.fr,m',s.c,s.ds⟩
 | e,s=>after P x n Q ks e s
theorem cB {a b:Code} (ts:List Nat) (R:AS→Prop) (h:T P x n a s (after P x n (Cut P x n Q ks ts R) [])) (h2:∀ s,R s→T P x n b s (after P x n Q ks)):T P x n a s (after P x n Q (.code b::ks)) :=
 jU h fun e s h=>by
  cases e with
  | normal =>
   obtain ⟨m',h1,h3⟩:=h
   obtain ⟨fr',m1,c',ds'⟩:=s
   refine kz (s:=⟨fr',m1,c',ds'⟩) (cI ts fr') (fun t _=>mI ts fr' t) ?_
   exact qy (s:=⟨cI ts fr',m1,c',ds'⟩) m' h1 (h2 _ h3)
  | _=>exact h
theorem aM {ts:List Nat} {R:AS→Prop} (h:R ⟨cI ts fr,m,c,ds⟩):after P x n (Cut P x n Q ks ts R) [] .normal ⟨fr,m,c,ds⟩:=⟨m,fun _ _ h=>h,h⟩
theorem I6 {a:Code} (fr':List (Nat × AV)) (hk:fr'.all (fun q=>decide (q.1 < n))=true) (hv:∀ q,q ∈ fr'→q.2=F fr q.1) (h:T P x n a ⟨fr',m,c,ds⟩ Q):T P x n a ⟨fr,m,c,ds⟩ Q:=by
 refine kz (s:=⟨fr,m,c,ds⟩) fr' (fun t _=>?_) h
 clear hk h
 induction fr' with
 | nil=>exact .inl rfl
 | cons q l ih =>
  simp only [F]
  split
  ·rename_i h;right;rw [hv q List.mem_cons_self,h]
  ·exact ih fun q' hq'=>hv q' (List.mem_cons_of_mem _ hq')
theorem fY {a:Code} (t sz:Nat) (ht:F fr t = .nilSl) (h:T P x n a ⟨(t,.list sz [])::fr,m,c,ds⟩ Q):T P x n a ⟨fr,m,c,ds⟩ Q:=by
 refine ju (s:=⟨fr,m,c,ds⟩) (s':=⟨(t,.list sz [])::fr,m,c,ds⟩) (fun g b w hr=>⟨g,hr.mr,hr.tm,hr.df,fun u hu=>?_,hr.young⟩) h
 simp only [F]
 split
 ·rename_i e;subst e
  have:=hr.fr u hu
  simp only [ht] at this
  rw [this.b5];exact .listNil _
 ·exact hr.fr u hu
theorem qK {a:Code} (t sz:Nat) (ht:F fr t = .nilSl) (h:T P x n a ⟨(t,.sl (.sub c 0 x.p) sz 0)::fr,m.set (.sub c 0 x.p) (some (.arr sz [])),c+1,ds⟩ Q):T P x n a ⟨fr,m,c,ds⟩ Q:=by
 refine ju (s:=⟨fr,m,c,ds⟩) _ (fun g b w hr=>?_) h
 have hl:g.loc (.sub c 0 x.p)=none:=hr.young _ ⟨c,0,Nat.le_refl _,Oid.ax _⟩
 have hle:=Gh.jZ hl
 refine ⟨g.cP (.sub c 0 x.p),hr.mr.vt sz hl (Oid.ae (Oid.ax _)),hr.tm,hr.df.mono hle,fun u hu=>?_,fun i hi=>?_⟩
 ·simp only [F]
  split
  ·rename_i e;subst e
   have:=hr.fr u hu
   simp only [ht] at this
   rw [this.b5]
   exact .slNil _ _ (by simp [Gh.cP])
  ·exact (hr.fr u hu).mono hle
 ·simp only [Gh.cP]
  split
  ·rename_i e;subst e
   obtain ⟨c',i',h1,h2⟩:=hi
   have:=(Oid.apart (Oid.ax _) h2).1
   simp only at h1
   omega
  ·exact hr.young i (hi.mono (Nat.le_succ _))
def oR (i:Oid) (sz:Nat) (xs:List AV):AV→AV
 | .sl j s n=>if j=i∧s=sz∧n=xs.length then .list sz xs else .sl j s n
 | v=>v
def frz (i:Oid) (sz:Nat) (xs:List AV):List (Nat × AV)→List (Nat × AV)
 | []=>[]
 | q::l=>(q.1,oR i sz xs q.2)::frz i sz xs l
theorem vA (i:Oid) (sz:Nat) (xs:List AV) (t:Nat):∀ fr,F (frz i sz xs fr) t=oR i sz xs (F fr t)
 | []=>rfl
 | q::l=>by
  simp only [frz,F]
  split
  ·rfl
  ·exact vA i sz xs t l
theorem kQ {a:Code} (i:Oid) (sz:Nat) (xs:List AV) (hi:m i=some (.arr sz xs)) (h:T P x n a ⟨frz i sz xs fr,m.set i none,c,ds⟩ Q):T P x n a ⟨fr,m,c,ds⟩ Q:=by
 refine yU (s:=⟨fr,m,c,ds⟩) i (frz i sz xs fr) hi (fun t _=>?_) h
 rw [vA]
 generalize F fr t=v
 unfold oR
 split
 ·split
  ·rename_i h;obtain ⟨rfl,rfl,rfl⟩:=h;exact .inr (.inr ⟨rfl,rfl⟩)
  ·exact .inr (.inl rfl)
 ·exact .inr (.inl rfl)
theorem qL {a:Code} (m':Mem) (hm:∀ i o,m' i=some o→m i=some o) (h:T P x n a ⟨fr,m',c,ds⟩ Q):T P x n a ⟨fr,m,c,ds⟩ Q:=qy (s:=⟨fr,m,c,ds⟩) m' hm h
theorem ao {id:Nat} {ops:Array Oper} (md:Nat→Bool) (gl:List (Nat × Nat)) (hng:Fit P x) (hok:(EW n P.globals.size ops && oQ ops gl)=true)
  (h:rN x.p c m→∀ C S (K:List (Nat × AV)→Mem→List LE→Prop),
   (∀ {i o rest f xs fr m log} e,aj P f xs (Oid.under (.sub c i x.p)) e→(∀ q,q ∈ e.need→m q.1=some q.2)→ev P md gl x.p c false C S K (i+1) rest (put o.dst e.val fr) (m.aK e.upd) log→C i (o::rest) f xs fr m log) →
   (∀ {i o rest f xs fr m log} need R Rp,cf P f xs (Oid.under (.sub c i x.p)) need R Rp→(∀ q,q ∈ need→m q.1=some q.2)→(∀ val upd,R val upd→ev P md gl x.p c false C S K (i+1) rest (put o.dst val fr) (m.aK upd) log) →
    (∀ pv upd,Rp pv upd→Q (.panic pv) ⟨fr,m.aK upd,c+1,ds⟩)→C i (o::rest) f xs fr m log) →
   (∀ {i o rest fr m log} need R Rp,I3 P o.dst o.op (evA fr) (Oid.under (.sub c i x.p)) need R Rp→(∀ q,q ∈ need→m q.1=some q.2)→(∀ val upd,R val upd→ev P md gl x.p c false C S K (i+1) rest (put o.dst val fr) (m.aK upd) log) →
    (∀ pv upd,Rp pv upd→Q (.panic pv) ⟨fr,m.aK upd,c+1,ds⟩)→S i (o::rest) fr m log) →
   (∀ {fr m log},after P x n Q ks .normal ⟨fr,m,c+1,ds⟩→K fr m log) →
   ev P md gl x.p c false C S K 0 (dv ops.toList) fr m []):T P x n (.region id ops false) ⟨fr,m,c,ds⟩ (after P x n Q ks):=by
 simp only [Bool.and_eq_true] at hok
 obtain ⟨hok,hgl⟩:=hok
 refine sh md hng hok fun hf=>?_
 let K0:List (Nat × AV)→Mem→Prop:=fun fr m=>after P x n Q ks .normal ⟨fr,m,c+1,ds⟩
 let Kp:AV→List (Nat × AV)→Mem→Prop:=fun pv fr m=>after P x n Q ks (.panic pv) ⟨fr,m,c+1,ds⟩
 refine ib (md:=md) (lg:=false) (K:=K0) (Kp:=Kp) hgl _ _ _ _ [] (by simp) ?_
 refine h hf _ _ _ ?_ ?_ ?_ ?_
 ·intro i o rest f xs fr m log e h1 h2 h3 o' rest' hd hl
  simp only [dv,List.cons.injEq] at hl
  obtain ⟨rfl,rfl⟩:=hl
  exact ⟨_,_,_,h1.nd,h2,fun val upd ⟨hv,hu⟩=>by subst hv;subst hu;exact ib hgl _ _ _ _ log (ia hd) h3,fun _ _ h=>h.elim⟩
 ·intro i o rest f xs fr m log need R Rp h1 h2 h3 h4 o' rest' hd hl
  simp only [dv,List.cons.injEq] at hl
  obtain ⟨rfl,rfl⟩:=hl
  exact ⟨need,R,Rp,h1,h2,fun val upd hr=>ib hgl _ _ _ _ log (ia hd) (h3 val upd hr),fun pv upd hr=>fi (h4 pv upd hr)⟩
 ·intro i o rest fr m log need R Rp h1 h2 h3 h4 o' rest' hd hl
  simp only [dv,List.cons.injEq] at hl
  obtain ⟨rfl,rfl⟩:=hl
  exact ⟨need,R,Rp,h1 o' rfl rfl,h2,fun val upd hr=>ib hgl _ _ _ _ log (ia hd) (h3 val upd hr),fun pv upd hr=>fi (h4 pv upd hr)⟩
 ·intro fr m log h
  exact h
theorem bJ {id:Nat} {ops:Array Oper} (md:Nat→Bool) (gl:List (Nat × Nat)) (U:List (Nat × Nat)) (hmx:P.follows .mixedOrders=true) (hng:Fit P x) (hok:(yZ n P.globals.size ops U && oQ ops gl)=true) (ts:List Nat)
  (h:rN x.p c m→∀ C S (K:List (Nat × AV)→Mem→List LE→Prop),
   (∀ {i o rest f xs fr m log} e,aj P f xs (Oid.under (.sub c i x.p)) e→(∀ q,q ∈ e.need→m q.1=some q.2)→ev P md gl x.p c true C S (fun fr m log=>K (cI ts fr) m log) (i+1) rest (put o.dst e.val fr) (m.aK e.upd) (j9 e::log)→C i (o::rest) f xs fr m log) →
   (∀ {i o rest fr m log} e,I4 P o.dst o.op (evA fr) (Oid.under (.sub c i x.p)) e→fD o.op=false→gq o.op=false→(∀ q,q ∈ e.need→m q.1=some q.2)→ev P md gl x.p c true C S (fun fr m log=>K (cI ts fr) m log) (i+1) rest (put o.dst e.val fr) (m.aK e.upd) (j9 e::log)→S i (o::rest) fr m log) →
   (∀ {fr m log},sy log.reverse U→after P x n Q ks .normal ⟨fr,m,c+1,ds⟩→K fr m log) →
   ev P md gl x.p c true C S (fun fr m log=>K (cI ts fr) m log) 0 (dv ops.toList) fr m []):T P x n (.region id ops true) ⟨fr,m,c,ds⟩ (after P x n Q ks):=by
 simp only [Bool.and_eq_true] at hok
 obtain ⟨hok,hgl⟩:=hok
 simp only [yZ,Bool.and_eq_true] at hok
 obtain ⟨⟨k1,k2⟩,k3⟩:=hok
 have key:=oI (P:=P) (x:=x) (n:=n) (s:=⟨fr,m,c,ds⟩) (Q:=fun e s=>e = .normal∧after P x n Q ks .normal ⟨cI ts s.fr,s.mem,s.c,s.ds⟩) (id:=id) hmx hng k1 k2 fun hf=>by
  have h1:=gu (P:=P) (md:=md) (ops:=ops) (p:=x.p) (c:=c) (K:=fun fr m log=>sy log.reverse U∧after P x n Q ks .normal ⟨cI ts fr,m,c+1,ds⟩) hgl ops.toList 0 fr m [] ⟨fun j=>by simp,rfl,fun k o e _ he=>by simp at he⟩
   (h hf (vx P ops x.p c _) (EX P ops x.p c _) (fun fr m log=>sy log.reverse U∧after P x n Q ks .normal ⟨fr,m,c+1,ds⟩)
    (fun {i o rest f xs fr m log} e h1 h2 h3=>fun o' rest' log' hL hlg hl hi=>by
     simp only [dv,List.cons.injEq] at hl
     obtain ⟨rfl,rfl⟩:=hl
     subst hlg
     exact ⟨e,h1,h2,gu hgl _ _ _ _ (e::log') (hL.step (show wN o' e from ⟨fun h=>absurd h (by simp [hi.1]),fun h=>absurd h (by simp [hi.2])⟩)) h3⟩)
    (fun {i o rest fr m log} e h1 i1 i2 h2 h3=>fun o' rest' log' hL hlg hl=>by
     simp only [dv,List.cons.injEq] at hl
     obtain ⟨rfl,rfl⟩:=hl
     subst hlg
     simp only [nv] at i1 i2
     exact ⟨e,h1 o' rfl rfl,h2,gu hgl _ _ _ _ (e::log') (hL.step (show wN o' e from ⟨fun h=>absurd h (by simp [i1]),fun h=>absurd h (by simp [i2])⟩)) h3⟩)
    (fun {fr m log} h1 h2=>⟨h1,h2⟩))
  refine gM (N:=ops.size) ?_ _ _ _ _ _ (by simp) h1
  rintro fr1 m1 log hlen ⟨⟨hd,hq⟩,ht⟩
  refine ⟨wO k3 (by simpa using hlen) ht (pE (by rw [List.map_reverse];exact hd)),fun fr' hF=>⟨rfl,?_⟩⟩
  have:cI ts fr' = cI ts fr1:=by simp only [wM,hF]
  rw [this];exact hq
 intro g a w hr
 refine wpIn_mono (key g a w hr) fun e a' w' ⟨g',ex,s',h1,h2,h4,h5⟩=>?_
 subst h4
 exact ⟨g',.normal,⟨cI ts s'.fr,s'.mem,s'.c,s'.ds⟩,h1.forget _ (fun t _=>mI ts s'.fr t),h2,h5⟩
end
theorem gB {P:Program} [Laid P] {f:FuncId} {fn:Func} {n:Nat} {rs:List ResultVar} {c:Code} {xs:List AV} {p:Oid} {need:List (Oid × ah)} {R Rp:AV→List (Oid × Option ah)→Prop} (hf:P.funcs[f]? = some fn) (hn:fn.ntmps=n) (hr:fn.results.toList=rs)
  (hnm:(fn.name != "runtime.NumGoroutine")=true) (hl:(Nat.ble xs.length n)=true) (hok:fE n rs=true) (hb:fn.body=some c)
  (hT:∀ x:Ctx,x.p=p→x.rd=none→Fit P x→T P x n c ⟨cR 0 xs,Mem.of need,0,[]⟩ (after P x n (dI P rs need R Rp) [])):cf P f xs (Oid.under p) need R Rp :=
 wP hf hn hr hnm hl hok hb fun x h1 h2 h3=>jU (hT x h1 h2 h3) fun _ _ h=>h
theorem aD {P:Program} [Laid P] {f:FuncId} {fn:Func} {n:Nat} {rs:List ResultVar} {c:Code} {xs:List AV} {p:Oid} {e:Eff} (hf:P.funcs[f]? = some fn) (hn:fn.ntmps=n) (hr:fn.results.toList=rs)
  (hnm:(fn.name != "runtime.NumGoroutine")=true) (hl:(Nat.ble xs.length n)=true) (hok:fE n rs=true) (hb:fn.body=some c)
  (hT:∀ x:Ctx,x.p=p→x.rd=none→Fit P x→T P x n c ⟨cR 0 xs,Mem.of e.need,0,[]⟩ (after P x n (dI P rs e.need (fun v u=>v=e.val∧u=e.upd) fun _ _=>False) [])):aj P f xs (Oid.under p) e :=
 (gB hf hn hr hnm hl hok hb hT).ok
theorem bp {P:Program} {rs:List ResultVar} {need:List (Oid × ah)} {R Rp:AV→List (Oid × Option ah)→Prop} {fr:List (Nat × AV)} {m:Mem} {c:Nat} (val:AV) (upd:List (Oid × Option ah)) (h1:eS P m fr rs=some val) (h2:R val upd)
  (h3:∀ i o,((Mem.of need).aK upd) i=some o→m i=some o):dI P rs need R Rp .ret ⟨fr,m,c,[]⟩:=⟨val,upd,h1,h2,h3⟩
theorem bt {P:Program} {rs:List ResultVar} {need:List (Oid × ah)} {R Rp:AV→List (Oid × Option ah)→Prop} {fr:List (Nat × AV)} {m:Mem} {c:Nat} (val:AV) (upd:List (Oid × Option ah)) (h1:eS P m fr rs=some val) (h2:R val upd)
  (h3:∀ i o,((Mem.of need).aK upd) i=some o→m i=some o):dI P rs need R Rp .normal ⟨fr,m,c,[]⟩:=⟨val,upd,h1,h2,h3⟩
theorem bu {P:Program} {rs:List ResultVar} {val:AV} {fr:List (Nat × AV)} {m:Mem} {c:Nat} (h1:eS P m fr rs=some val):dI P rs [] (fun v u=>v=val∧u=[]) (fun _ _=>False) .ret ⟨fr,m,c,[]⟩ :=
 bp val [] h1 ⟨rfl,rfl⟩ fun i o h=>by cases h
theorem bA {P:Program} {t:Nat} {val:AV} {fr:List (Nat × AV)} {m:Mem} {c:Nat} (h1:F fr t=val):dI P [.tmp t] [] (fun v u=>v=val∧u=[]) (fun _ _=>False) .ret ⟨fr,m,c,[]⟩ :=
 bu (by simp only [eS,oP,h1,y0])
theorem Fz {P:Program} [Laid P] {x:Ctx} {n:Nat} {ks:List Pc} {t sz k c:Nat} {id:Oid} {xs ys:List AV} {fr:List (Nat × AV)} {m:Mem} (hv:F fr t = .sl id sz k) (hi:m id=some (.arr sz xs)) (hk:k=xs.length) (hx:xs=ys) :
  T P x n .ret ⟨fr,m,c,[]⟩ (after P x n (dI P [.tmp t] [] (fun v u=>v = .list sz ys∧u=[]) (fun _ _=>False)) ks):=by
 subst hx
 refine kQ id sz xs hi (aB (bA ?_))
 rw [vA,hv,oR,if_pos ⟨rfl,rfl,hk⟩]
end Go.Ab
namespace Go.Ab
def gd (p:Prop) [Decidable p] (v:Option AV):Option AV:=if p then v else none
theorem FA {p:Prop} [Decidable p] {v:Option AV} (h:p):gd p v=v:=if_pos h
def gdR (p:Prop) [Decidable p] (v:OpR):OpR:=if p then v else .no
theorem Cl {p:Prop} [Decidable p] {v:OpR} (h:p):gdR p v=v:=if_pos h
theorem vB [Decidable True] (v:Option AV):gd True v=v:=if_pos trivial
theorem ub (s:List UInt8) (k:IntKind) (n:Int):lv (some .str) (.str s) (.int k n)=gd (0≤n∧n < s.length) (some (.int .u8 (s.getD n.toNat 0).toNat)):=rfl
theorem mA (el:TypeId) (ag:Bool) (sz by' sz':Nat) (xs:List AV) (k:IntKind) (n:Int):dV (some (.slice el ag sz by')) (.list sz' xs) (.int k n)=gd (sz' = sz∧0≤n∧n < xs.length) (some (.eptr (xs.getD n.toNat .undef))):=rfl
theorem oS (el:TypeId) (ag:Bool) (sz by' sz' len:Nat) (id:Oid) (k:IntKind) (n:Int):dV (some (.slice el ag sz by')) (.sl id sz' len) (.int k n)=gd (sz' = sz∧0≤n∧n < len) (some (.aptr id sz n.toNat 0)):=rfl
theorem nA (el:TypeId) (ag:Bool) (sz len off:Nat) (id:Oid) (k:IntKind) (n:Int):dV (some (.arr len el ag sz)) (.ptr id off) (.int k n)=gd (0≤n∧n < len) (some (.ptr id (off+n.toNat * sz))):=rfl
theorem sB (s:List UInt8) (k:IntKind) (l:Int):eD (some .str) (.str s) (some (.int k l)) none=gd (0≤l∧l≤s.length) (some (.str (s.drop l.toNat))):=by
 simp only [eD,dn,gd]
 by_cases h:0≤l∧l≤s.length
 ·rw [if_pos h,if_pos ⟨h.1,h.2,Int.le_refl _⟩];simp
 ·rw [if_neg h,if_neg (fun h'=>h ⟨h'.1,h'.2.1⟩)]
theorem sC (s:List UInt8) (k:IntKind) (h:Int):eD (some .str) (.str s) none (some (.int k h))=gd (0≤h∧h≤s.length) (some (.str (s.take h.toNat))):=by
 simp only [eD,dn,gd]
 by_cases hc:0≤h∧h≤s.length
 ·rw [if_pos hc,if_pos ⟨Int.le_refl _,hc.1,hc.2⟩];simp
 ·rw [if_neg hc,if_neg (fun h'=>hc ⟨h'.2.1,h'.2.2⟩)]
theorem sD (s:List UInt8) (k k':IntKind) (l h:Int):eD (some .str) (.str s) (some (.int k l)) (some (.int k' h))=gd (0≤l∧l≤h∧h≤s.length) (some (.str ((s.take h.toNat).drop l.toNat))):=rfl
theorem qO (el:TypeId) (ag:Bool) (sz by' sz':Nat) (xs:List AV) (k:IntKind) (l:Int):eD (some (.slice el ag sz by')) (.list sz' xs) (some (.int k l)) none=gd (sz' = sz∧0≤l∧l≤xs.length) (some (.list sz (xs.drop l.toNat))):=by
 simp only [eD,dn,gd]
 by_cases h:sz' = sz∧0≤l∧l≤xs.length
 ·rw [if_pos h,if_pos ⟨h.1,h.2.1,h.2.2,Int.le_refl _⟩];simp
 ·rw [if_neg h,if_neg (fun h'=>h ⟨h'.1,h'.2.1,h'.2.2.1⟩)]
theorem qP (el:TypeId) (ag:Bool) (sz by' sz':Nat) (xs:List AV) (k:IntKind) (h:Int):eD (some (.slice el ag sz by')) (.list sz' xs) none (some (.int k h))=gd (sz' = sz∧0≤h∧h≤xs.length) (some (.list sz (xs.take h.toNat))):=by
 simp only [eD,dn,gd]
 by_cases hc:sz' = sz∧0≤h∧h≤xs.length
 ·rw [if_pos hc,if_pos ⟨hc.1,Int.le_refl _,hc.2.1,hc.2.2⟩];simp
 ·rw [if_neg hc,if_neg (fun h'=>hc ⟨h'.1,h'.2.2.1,h'.2.2.2⟩)]
theorem qQ (el:TypeId) (ag:Bool) (sz by' sz':Nat) (xs:List AV) (k k':IntKind) (l h:Int):eD (some (.slice el ag sz by')) (.list sz' xs) (some (.int k l)) (some (.int k' h))=gd (sz' = sz∧0≤l∧l≤h∧h≤xs.length) (some (.list sz ((xs.take h.toNat).drop l.toNat))):=rfl
theorem uc (el:TypeId) (ag:Bool) (sz len:Nat) (cs:List AV) (k:IntKind) (n:Int):lv (some (.arr len el ag sz)) (.agg cs) (.int k n)=gd (0≤n∧n < len∧n.toNat * sz+sz≤cs.length∧(ag=true∨sz=1)) (some (jK ag cs (n.toNat * sz) sz)):=rfl
theorem y8 (k:IntKind) (a b:Int):gA .add k a b=some (.int k (k.wrap (a+b))):=rfl
theorem y9 (k:IntKind) (a b:Int):gA .sub k a b=some (.int k (k.wrap (a - b))):=rfl
theorem za (k:IntKind) (a b:Int):gA .mul k a b=some (.int k (k.wrap (a * b))):=rfl
theorem zb (k:IntKind) (a b:Int):gA .quo k a b=gd (b≠0) (some (.int k (k.wrap (a.tdiv b)))):=rfl
theorem zc (k:IntKind) (a b:Int):gA .rem k a b=gd (b≠0) (some (.int k (a.tmod b))):=rfl
theorem zd (k:IntKind) (a b:Int):gA .and k a b=some (.int k (k.wrap (BitVec.ofInt k.bits a &&& BitVec.ofInt k.bits b).toNat)):=rfl
theorem Cm (k:IntKind) (a b:Int):gA .or k a b=some (.int k (k.wrap (BitVec.ofInt k.bits a ||| BitVec.ofInt k.bits b).toNat)):=rfl
theorem zf (k:IntKind) (a b:Int):gA .xor k a b=some (.int k (k.wrap (BitVec.ofInt k.bits a ^^^ BitVec.ofInt k.bits b).toNat)):=rfl
theorem sE (k:IntKind) (a b:Int):gA .andNot k a b=some (.int k (k.wrap (BitVec.ofInt k.bits a &&& ~~~ BitVec.ofInt k.bits b).toNat)):=rfl
theorem mJ {α:Type} [BEq α] [LawfulBEq α] [DecidableEq α] (a b:α):(a == b)=decide (a=b):=by
 rw [Bool.eq_iff_iff];simp
theorem vC {α:Type} [BEq α] [LawfulBEq α] [DecidableEq α] (a b:α):(a != b)=decide (a≠b):=by
 rw [Bool.eq_iff_iff];simp
theorem zg (k:IntKind) (a b:Int):gA .eql k a b=some (.bool (decide (a=b))):=by
 simp only [gA,mJ]
theorem zh (k:IntKind) (a b:Int):gA .neq k a b=some (.bool (decide (a≠b))):=by
 simp only [gA,vC]
theorem zi (k:IntKind) (a b:Int):gA .lss k a b=some (.bool (decide (a < b))):=rfl
theorem zj (k:IntKind) (a b:Int):gA .leq k a b=some (.bool (decide (a≤b))):=rfl
theorem zm (k:IntKind) (a b:Int):gA .gtr k a b=some (.bool (decide (b < a))):=rfl
theorem zo (k:IntKind) (a b:Int):gA .geq k a b=some (.bool (decide (b≤a))):=rfl
theorem ud (k:IntKind) (a b:Int):iT .shl k a b=gd (0≤b) (some (.int k (k.wrap (a * 2 ^ (min b.toNat k.bits))))):=by
 unfold iT gd
 by_cases h:0≤b
 ·rw [if_neg (by omega),if_pos h]
 ·rw [if_pos (by omega),if_neg h]
theorem ue (k:IntKind) (a b:Int):iT .shr k a b=gd (0≤b) (some (.int k (a.fdiv (2 ^ (min b.toNat k.bits))))):=by
 unfold iT gd
 by_cases h:0≤b
 ·rw [if_neg (by omega),if_pos h]
 ·rw [if_pos (by omega),if_neg h]
theorem zp (a b:List UInt8):kC .add a b=gd (a.length+b.length≤9223372036854775807) (some (.str (a++b))):=rfl
theorem zq (a b:List UInt8):kC .eql a b=some (.bool (decide (a=b))):=by
 simp only [kC,mJ]
theorem zr (a b:List UInt8):kC .neq a b=some (.bool (decide (a≠b))):=by
 simp only [kC,vC]
def ltS (a b:List UInt8):Bool:=Op.bytesLess a b
theorem zx (a b:List UInt8):kC .lss a b=some (.bool (ltS a b)):=rfl
theorem zy (a b:List UInt8):kC .leq a b=some (.bool (ltS a b || decide (a=b))):=by
 simp only [kC,ltS,mJ]
theorem zA (a b:List UInt8):kC .gtr a b=some (.bool (!(ltS a b || decide (a=b)))):=by
 simp only [kC,ltS,mJ]
theorem zB (a b:List UInt8):kC .geq a b=some (.bool (!ltS a b)):=rfl
def wR (P:Program) (m:Mem) (nid:Oid) (k:Option TyK) (s:AV) (x:Option (List (Oid × ah) × List AV)):OpR :=
 match k,s,x with
 | some (.slice el _ sz by'),.nilSl,some (nd,ys)=>gdR (nf P el sz=true∧0 < by'∧ys.length * by'≤140737488355328) (.eff ⟨nd,.sl nid sz ys.length,[(nid,some (.arr sz ys))]⟩)
 | some (.slice el _ sz by'),.sl id sz' len,some (nd,ys)=>match m id with
  | some (.arr s' xs)=>gdR (nf P el sz=true∧sz' = sz∧s' = sz∧xs.length=len∧0 < by'∧(len+ys.length) * by'≤140737488355328)
     (.eff ⟨(id,.arr s' xs)::nd,.sl nid sz (len+ys.length),[(id,none),(nid,some (.arr sz (xs++ys)))]⟩)
  | _=>.no
 | _,_,_=>.no
def zC:Option TyK→Nat
 | some (.slice _ _ sz _)=>sz
 | _=>0
theorem Cn (P:Program) (m:Mem) (nid:Oid) (t:TypeId) (s x:AV):tT P m nid t s x=wR P m nid (tyk P t) s (rV m (zC (tyk P t)) x):=by
 unfold tT wR
 cases tyk P t with
 | none=>rfl
 | some k =>
  cases k<;>try rfl
  simp only [zC]
  generalize rV m _ x=r
  cases r with
  | none=>cases s<;>rfl
  | some r =>
   obtain ⟨nd,ys⟩:=r
   cases s<;>rfl
def cJ (i:Oid) (x:Option ah):List (Oid × ah)→List (Oid × ah)
 | []=>match x with
  | some o=>[(i,o)]
  | none=>[]
 | q::l=>if i=q.1 then (match x with
     | some o=>(i,o)::l
     | none=>cJ i none l) else q::cJ i x l
def cC:List (Oid × Option ah)→List (Oid × ah)→List (Oid × ah)
 | [],l=>l
 | q::u,l=>cC u (cJ q.1 q.2 l)
theorem Mem.bg (i:Oid) (x:Option ah):∀ l,(Mem.of l).set i x=Mem.of (cJ i x l)
 | []=>by cases x<;>(funext k;simp [Mem.of,Mem.set,cJ,Mem.emp])
 | q::l=>by
  have ih:=fun x=>Mem.bg i x l
  simp only [cJ]
  by_cases h:i=q.1
  ·rw [if_pos h]
   cases x with
   | some o=>funext k;simp only [Mem.of,Mem.set];subst h;split<;>rfl
   | none=>rw [← ih];funext k;simp only [Mem.of,Mem.set];subst h;split<;>rfl
  ·rw [if_neg h];funext k;simp only [Mem.of];rw [← ih];simp only [Mem.set]
   by_cases h1:k=i
   ·rw [if_pos h1,if_pos h1,if_neg (fun h2=>h (h1.symm.trans h2))]
   ·rw [if_neg h1,if_neg h1]
theorem Mem.aZ:∀ (u:List (Oid × Option ah)) (l:List (Oid × ah)),(Mem.of l).aK u=Mem.of (cC u l)
 | [],_=>rfl
 | q::u,l=>by
  show ((Mem.of l).set q.1 q.2).aK u=_
  rw [Mem.bg,Mem.aZ u];rfl
theorem Mem.FB:Mem.emp=Mem.of []:=rfl
theorem Mem.aU (i:Oid):Mem.of [] i=none:=rfl
theorem Mem.ar (q:Oid × ah) (l:List (Oid × ah)) (i:Oid):Mem.of (q::l) i=if i=q.1 then some q.2 else Mem.of l i:=rfl
theorem bP {α:Type} (p:α→Prop):(∀ q,q ∈ ([]:List α)→p q)=True:=by simp
theorem bq {α:Type} (p:α→Prop) (a:α) (l:List α):(∀ q,q ∈ (a::l)→p q)=(p a∧∀ q,q ∈ l→p q):=by simp
theorem Oid.sF (c i:Nat) (p:Oid):(Oid.sub c i p=p)=False:=by
 apply eq_false
 intro h
 have:(Oid.sub c i p).depth=p.depth:=by rw [h]
 simp only [Oid.depth] at this;omega
theorem Oid.sG (c i:Nat) (p:Oid):(p=Oid.sub c i p)=False:=by
 apply eq_false
 intro h
 have:p.depth=(Oid.sub c i p).depth:=by rw [← h]
 simp only [Oid.depth] at this;omega
theorem Oid.uf {c c' i i':Nat} {p p':Oid} (h:c≠c'):(Oid.sub c i p=Oid.sub c' i' p')=False:=by
 apply eq_false;intro e;injection e with h1 _ _;exact h h1
theorem Oid.ab {p q:Oid} (h:¬ Oid.under p q) (c i:Nat):(q=Oid.sub c i p)=False:=by
 apply eq_false;intro e;subst e;exact h (Oid.ae (Oid.ax _))
theorem Oid.aa {p q:Oid} (h:¬ Oid.under p q) (c i:Nat):(Oid.sub c i p=q)=False:=by
 apply eq_false;intro e;subst e;exact h (Oid.ae (Oid.ax _))
theorem Oid.nB {p q:Oid} (h:¬ Oid.under p q):(q=p)=False:=by
 apply eq_false;intro e;subst e;exact h (Oid.ax _)
theorem Oid.nC {p q:Oid} (h:¬ Oid.under p q):(p=q)=False:=by
 apply eq_false;intro e;subst e;exact h (Oid.ax _)
theorem wS:r0 .nilSl=some .nilPtr:=rfl
theorem zD (id:Oid) (sz n:Nat):r0 (.sl id sz n)=gd (0 < n) (some (.aptr id sz 0 0)):=rfl
theorem zE (P:Program) (m:Mem) (t:TypeId) (n:Int):sc P m t .nilPtr (.int .i64 n)=gdR (n=0) (.eff ⟨[],.str [],[]⟩):=rfl
def H7 (P:Program) (id:Oid) (sz i off:Nat) (n:Int) (o:Option ah) (k:Option TyK):OpR :=
 match o,k with
 | some (.arr s xs),some (.ptr e)=>gdR (sz=1∧i=0∧off=0∧s=1∧id.tyd=some e∧shp P e=some (false,1)∧0 < xs.length∧n=xs.length∧xs.length≤140737488355328∧xs.all iX=true)
   (.eff ⟨[(id,.arr s xs)],.str (xs.map byteOf),[(id,none)]⟩)
 | _,_=>.no
theorem zF (P:Program) (m:Mem) (t:TypeId) (id:Oid) (sz i off:Nat) (n:Int):sc P m t (.aptr id sz i off) (.int .i64 n)=H7 P id sz i off n (m id) (tyk P t):=by
 simp only [sc]
 generalize m id=a
 generalize tyk P t=b
 cases a with
 | none=>rfl
 | some a=>cases a<;>first|rfl|(cases b with
  | none=>rfl
  | some b=>cases b<;>rfl)
def byA (b:UInt8):AV:=.int .u8 b.toNat
theorem ug (l:List UInt8):(l.map byA).all iX=true:=by
 rw [List.all_eq_true];intro v hv
 obtain ⟨b,_,rfl⟩:=List.mem_map.1 hv
 have:=b.toNat_lt
 show decide (b.toNat < 256)=true
 simp;omega
theorem uh (l:List UInt8):(l.map byA).map byteOf=l:=by
 rw [List.map_map]
 have:byteOf ∘ byA=id:=by funext b;simp [byteOf,byA,Int.toNat_natCast]
 rw [this,List.map_id]
def EY (P:Program) (sz:Nat) (xs:List AV) (a b:Option TyK):Option AV :=
 match a,b with
 | some (.slice el _ _ _),some .str=>gd (sz=1∧u8K (tyk P el)=true∧0 < xs.length∧xs.all iX=true) (some (.str (xs.map byteOf)))
 | _,_=>none
theorem ui (P:Program) (src dst:TypeId) (sz:Nat) (xs:List AV):nq P src dst (.list sz xs)=EY P sz xs (tyk P src) (tyk P dst):=by
 simp only [nq]
 generalize tyk P src=a
 generalize tyk P dst=b
 cases a with
 | none=>rfl
 | some a=>cases a<;>first|rfl|(cases b with
  | none=>rfl
  | some b=>cases b<;>rfl)
def EZ (P:Program) (a b:Option TyK):Option AV :=
 match a,b with
 | some (.slice el _ _ _),some .str=>gd (u8K (tyk P el)=true) (some (.str []))
 | _,_=>none
theorem wT (P:Program) (src dst:TypeId):nq P src dst .nilSl=EZ P (tyk P src) (tyk P dst):=by
 simp only [nq]
 generalize tyk P src=a
 generalize tyk P dst=b
 cases a with
 | none=>rfl
 | some a=>cases a<;>first|rfl|(cases b with
  | none=>rfl
  | some b=>cases b<;>rfl)
theorem ka (b:UInt8):iX (.int .u8 (b.toNat:Int))=true:=by
 have:=b.toNat_lt
 show decide (b.toNat < 256)=true
 simp;omega
theorem uj (b:UInt8):byteOf (.int .u8 (b.toNat:Int))=b:=by simp [byteOf,Int.toNat_natCast]
attribute [go_sem] ui wT EZ EY ka uj
attribute [go_sem] wS zD zE zF H7 ug uh jx
def vD:Bool→Nat→Oid→Oid
 | true,t,nid=>.ty t nid
 | false,_,nid=>nid
theorem zG (P:Program) (t:TypeId) (nid:Oid):gp P t nid=vD (bE P t) t nid:=by
 unfold gp;cases bE P t<;>rfl
def vE:Bool→Option Nat→Nat→Oid→Oid
 | true,some t',t,nid=>if t' = t then .ty t nid else nid
 | _,_,_,nid=>nid
def zH (P:Program) (k:Option TyK) (nid:Oid) (s:AV):Oid :=
 match k,s with
 | some (.slice el _ _ _),.nilSl=>vD (qH (tyk P el)) el nid
 | some (.slice el _ _ _),.sl id _ _=>vE (qH (tyk P el)) id.tyd el nid
 | _,_=>nid
theorem zI (P:Program) (t:TypeId) (nid:Oid) (s:AV):l4 P t nid s=zH P (tyk P t) nid s:=by
 unfold l4 zH
 split
 ·rename_i el _ _ _ h
  try rw [h]
  show _=vD (qH (tyk P el)) el nid
  cases qH (tyk P el)<;>rfl
 ·rename_i el _ _ _ id _ _ h
  try rw [h]
  show _=vE (qH (tyk P el)) id.tyd el nid
  cases qH (tyk P el)<;>cases id.tyd<;>simp [vE]
 ·rename_i h1 h2
  first
   | rfl
   | (split
      ·rename_i h;exact (h1 _ _ _ _ h rfl).elim
      ·rename_i h;exact (h2 _ _ _ _ _ _ _ h rfl).elim
      ·rfl)
theorem zJ (n:Nat):(Oid.root n).tyd=none:=rfl
theorem Co (c i:Nat) (p:Oid):(Oid.sub c i p).tyd=none:=rfl
theorem FC (t:Nat) (p:Oid):(Oid.ty t p).tyd=some t:=rfl
theorem Oid.eF {p q:Oid} (h:¬ Oid.under p q) (t c i:Nat):(q=Oid.ty t (Oid.sub c i p))=False:=by
 apply eq_false;intro e;subst e;exact h (.inr (Oid.ae (Oid.ax _)))
theorem Oid.fS {p q:Oid} (h:¬ Oid.under p q) (t c i:Nat):(Oid.ty t (Oid.sub c i p)=q)=False:=by
 apply eq_false;intro e;subst e;exact h (.inr (Oid.ae (Oid.ax _)))
attribute [go_sem] zG vD vE zH zI zJ Co FC qH Oid.eF Oid.fS Oid.ty.injEq
theorem sH {α:Type} [Inhabited α] (f:α→AV) {l:List α} {i:Nat} (h:i < l.length) (d:AV):(l.map f).getD i d=f (l.getD i default):=by
 simp [List.getD_eq_getElem?_getD,List.getElem?_map,List.getElem?_eq_getElem h]
attribute [go_sem] FA Cl uc pd ub mA oS nA sB sC sD qO qP qQ
 y8 y9 za zb zc zd Cm zf sE zg zh zi zj zm zo ud ue zp zq zr zx zy zA zB
 Cn wR zC nc nf Ft Fu y5 Cj y6 Fv y7 wQ sx j9 j8 opL prs l5 pD nv dv sy vz cJ cC Mem.aZ Mem.FB Mem.aU Mem.ar Oid.uf Oid.ab Oid.aa Oid.nB Oid.nC Oid.sF Oid.sG Oid.sub.injEq
 sH w64 Option.isSome_some Option.isSome_none beq_self_eq_true Option.bind_some Option.bind_none Option.map_some Option.map_none Int.toNat_natCast List.length_map List.length_take List.length_drop List.length_append List.length_cons List.length_nil List.map_cons List.map_nil List.getD_cons_zero List.getD_cons_succ List.getD_nil
 List.take_succ_cons List.take_zero List.take_nil List.drop_succ_cons List.drop_zero List.drop_nil List.cons_append List.nil_append List.all_cons List.all_nil Bool.and_true Bool.true_and Bool.and_false Bool.false_and Bool.or_true Bool.true_or Bool.or_false Bool.false_or Bool.not_true Bool.not_false
 true_and and_true and_self or_true true_or or_false false_or false_and and_false eq_self List.getElem?_cons_zero List.getElem?_cons_succ List.getElem?_toArray bP bq oP eS y0 fE
theorem bt1 (b:Bool):(b == true)=b:=by cases b<;>rfl
theorem bt2 (b:Bool):(b == false) = !b:=by cases b<;>rfl
attribute [go_sem] frz oR Mem.bg
attribute [go_sem] bt1 bt2 decide_true decide_false
attribute [go_sem] decide_eq_true_eq decide_eq_false_iff_not Bool.and_eq_true Bool.or_eq_true Bool.not_eq_true' Bool.not_eq_false'
def nmd:Nat→Bool:=fun _=>false
theorem FD (d:Nat):nmd d=false:=rfl
attribute [go_sem] FD List.contains_cons List.contains_nil
theorem bY {α:Type} {l:List α} {i:Nat} (h:i < l.length) (d:α):l.getD i d=l[i]:=by
 simp [List.getD_eq_getElem?_getD,List.getElem?_eq_getElem h]
theorem FE {x:UInt8} {n:Nat} (hn:n < 256):((x.toNat:Int)=(n:Int))↔x=UInt8.ofNat n:=by
 constructor
 ·intro h
  apply UInt8.toNat_inj.1
  rw [UInt8.toNat_ofNat',Nat.mod_eq_of_lt (by omega)];omega
 ·rintro rfl
  rw [UInt8.toNat_ofNat',Nat.mod_eq_of_lt (by omega)]
theorem drop_cons {α:Type} [Inhabited α] {l:List α} {i:Nat} (h:i < l.length):l.drop i=l.getD i default::l.drop (i+1):=by
 rw [List.drop_eq_getElem_cons h,bY h]
theorem jO {α β:Type} [Inhabited α] (f:α→β) {l:List α} {i:Nat} (h:i < l.length):(l.take (i+1)).map f=(l.take i).map f++[f (l.getD i default)]:=by
 rw [List.take_succ_eq_append_getElem h,List.map_append,bY h];rfl
theorem FF (x:UInt8):IntKind.i64.wrap (x.toNat:Int)=x.toNat:=by
 have:=x.toNat_lt;exact w64 (by omega) (by omega)
attribute [go_sem] FF
theorem dw (a b:Nat):(a:Int).tmod b=((a % b:Nat):Int):=by
 rw [Int.tmod_eq_emod_of_nonneg (by omega)];rfl
theorem nD (a b:Nat):(a:Int).tdiv b=((a / b:Nat):Int):=by
 rw [Int.tdiv_eq_ediv_of_nonneg (by omega)];rfl
theorem w8 {n:Int} (h1:0≤n) (h2:n≤255):IntKind.u8.wrap n=n:=by
 simp [IntKind.wrap,IntKind.bits,IntKind.signed];omega
end Go.Ab
namespace Go.Ab
variable {α:Type} [DecidableEq α]
def jP (enc:α→AV):Prop:=∀ a b,er (enc a) (enc b)=decide (a=b)
variable {enc:α→AV}
end Go.Ab
namespace Go.Ab
theorem fj {P:Program} [Laid P] {f:FuncId} {xs:List AV} {sp:Oid→Prop} {L:List (Oid × ah)} {R Rp:AV→List (Oid × Option ah)→Prop} (he:cQ P f=true)
  (h:(∀ q ∈ L,Mem.of L q.1=some q.2)→cf P f xs sp L R Rp):cf P f xs sp L R Rp:=by
 by_cases hc:∀ q ∈ L,Mem.of L q.1=some q.2
 ·exact h hc
 ·refine ⟨he,fun x g args w m hm hn _ _ _=>absurd (fun q hq=>?_) hc⟩
  obtain ⟨o,ho⟩:=Mem.mG hq
  obtain ⟨q',h1,h2,h3⟩:=Mem.dX ho
  have h4:=hn q hq
  have h5:=hn q' h1
  rw [h2,h4,h3] at h5
  rw [ho];exact h5.symm
theorem pF {B L L':List (Oid × ah)} {m:Mem} {upd:List (Oid × Option ah)} {sp:Oid→Prop} (hU:px L sp upd L') (hL:∀ q ∈ L,m q.1=some q.2) (hB:∀ q ∈ B,m q.1=some q.2)
  (hd:∀ q ∈ B,(∀ q' ∈ L,¬ q'.1=q.1)∧¬ sp q.1):∀ q,q ∈ B++L'→(m.aK upd) q.1=some q.2:=by
 intro q hq
 rcases List.mem_append.1 hq with hq|hq
 ·rw [a8 fun q' hq' e=>?_]
  ·exact hB q hq
  ·obtain ⟨h1,h2⟩:=hd q hq
   rcases hU.tou q' hq' with ⟨q2,h3,h4⟩|h3
   ·exact h1 q2 h3 (h4.trans e)
   ·exact h2 (e ▸ h3)
 ·exact sk hL (hU.got q hq)
theorem ic {B L:List (Oid × ah)} (hB:∀ q ∈ B,Mem.of (B++L) q.1=some q.2) (hd:∀ q ∈ L,∀ q' ∈ B,¬ q.1=q'.1) (hL:∀ q ∈ L,Mem.of L q.1=some q.2):∀ q ∈ B++L,Mem.of (B++L) q.1=some q.2:=by
 intro q hq
 rcases List.mem_append.1 hq with hq|hq
 ·exact hB q hq
 ·have:∀ (B:List (Oid × ah)),(∀ q' ∈ B,¬ q.1=q'.1)→Mem.of (B++L) q.1=Mem.of L q.1:=by
   intro B h
   induction B with
   | nil=>rfl
   | cons b B ih=>rw [List.cons_append,Mem.ar,if_neg (h b List.mem_cons_self)];exact ih fun q' hq'=>h q' (List.mem_cons_of_mem _ hq')
  rw [this B (hd q hq)];exact hL q hq
theorem pG {P:Program} [Laid P] {x:Ctx} {n:Nat} {a:Code} {Q:AX→AS→Prop} {fr:List (Nat × AV)} {m:Mem} {c:Nat} {ds:List AD} (L:List (Oid × ah)) (hm:∀ q,q ∈ L→m q.1=some q.2) (h:T P x n a ⟨fr,Mem.of L,c,ds⟩ Q):T P x n a ⟨fr,m,c,ds⟩ Q :=
 qL (Mem.of L) (fun i o hi=>by obtain ⟨q,h1,rfl,rfl⟩:=Mem.dX hi;exact hm q h1) h
theorem mK {L:List (Oid × ah)} {m:Mem} (hm:∀ q,q ∈ L→m q.1=some q.2):∀ i o,Mem.of L i=some o→m i=some o:=fun i o hi=>by
 obtain ⟨q,h1,rfl,rfl⟩:=Mem.dX hi;exact hm q h1
theorem aS (i:Oid) (x:Option ah) (l:List (Oid × ah)) (j:Oid):Mem.of (cJ i x l) j=if j=i then x else Mem.of l j:=by rw [← Mem.bg];rfl
end Go.Ab
namespace Go.Ab
open Go.ChangeShapes Go.WideShapes
def mB (a b:AV):Prop:=∀ g v,VR g a v→VR g b v
theorem mB.refl (a:AV):mB a a:=fun _ _ h=>h
theorem mB.nil (sz:Nat):mB .nilSl (.list sz []):=fun _ _ h=>by rw [h.b5];exact .listNil sz
inductive fI:List AV→List AV→Prop
 | nil:fI [] []
 | cons {a b:AV} {l m:List AV} (h:mB a b) (t:fI l m):fI (a::l) (b::m)
theorem fI.length {l m:List AV} (h:fI l m):l.length=m.length:=by
 induction h with
 | nil=>rfl
 | cons _ _ ih=>simp [ih]
theorem fI.at {l m:List AV} (h:fI l m):∀ j,mB (l.getD j .undef) (m.getD j .undef):=by
 induction h with
 | nil=>exact fun j=>.refl _
 | cons h _ ih =>
  intro j
  cases j with
  | zero=>exact h
  | succ j=>simpa using ih j
theorem mB.agg {l m:List AV} (h:fI l m):mB (.agg l) (.agg m):=fun g v hv=>by
 obtain ⟨a,rfl,h1,h2⟩:=hv.fc
 exact .agg _ _ (h1.trans h.length) fun j hj=>h.at j _ _ (h2 j (by rw [h.length];exact hj))
def Cp (a b:AV):Prop:=fI a.cells b.cells
theorem Cp.agg {l m:List AV} (h:fI l m):Cp (.agg l) (.agg m):=h
inductive l7:List AV→List AV→Prop
 | nil:l7 [] []
 | cons {a b:AV} {l m:List AV} (h:Cp a b) (t:l7 l m):l7 (a::l) (b::m)
theorem l7.length {l m:List AV} (h:l7 l m):l.length=m.length:=by
 induction h with
 | nil=>rfl
 | cons _ _ ih=>simp [ih]
theorem l7.at {l m:List AV} (h:l7 l m):∀ j,Cp (l.getD j .undef) (m.getD j .undef):=by
 induction h with
 | nil=>exact fun j=>.cons (.refl _) .nil
 | cons h _ ih =>
  intro j
  cases j with
  | zero=>exact h
  | succ j=>simpa using ih j
theorem mB.list {sz:Nat} {l m:List AV} (h:l7 l m):mB (.list sz l) (.list sz m):=fun g v hv=>by
 rcases hv.gi with ⟨rfl,hu|⟨a,cap,hu⟩⟩|⟨b,o,cap,cs,hu,h1,h2,h3,h4⟩
 ·cases h;rw [hu];exact .listNil _
 ·cases h;rw [hu];exact .listAny _ _ _
 ·rw [hu,h.length]
  have hl:=h.length
  exact .list sz m b o cap cs (by omega) (fun i hi=>by have:=(h.at i).length;have:=h2 i (by omega);omega) (fun i j hi hj=>h3 i j (by omega) hj) fun i j hi hj=>(h.at i).at j _ _ (h4 i j (by omega) hj)
def cS (ng:Nat) (w:World):Gh :=
 ⟨fun i=>match i with | .root k=>if k < ng then some (some k) else none | .sub .. => none | .ty .. => none,
  fun b o=>match w.cell? ⟨b,o,none⟩ with|some v=>if v.oneCell' = true then some v else none|none=>none,fun b=>match w.heap[b]? with|some (.cells c _ _)=>some c.size|_=>none⟩
theorem jB {ng:Nat} {w:World} {b o:Nat} {v:Value} (h:w.cell? ⟨b,o,none⟩=some v) (hv:v.oneCell' = true):(cS ng w).com b o=some v:=by
 simp only [cS,h,hv,if_true]
theorem nE {ng:Nat} {w:World} {b o:Nat} {v:Value} (h:(cS ng w).com b o=some v):w.cell? ⟨b,o,none⟩=some v∧v.oneCell' = true:=by
 simp only [cS] at h
 split at h
 ·rename_i u hu
  split at h
  ·rename_i h1;cases h;exact ⟨hu,h1⟩
  ·cases h
 ·cases h
theorem uk (ng:Nat) (w:World):az ⟨ng,cS ng w,w,fun _=>False,.root ng,none⟩ (cS ng w) Mem.emp w where
 le:=Gh.le_refl _
 locs _ _:=rfl
 glob k hk:=by simp [cS,hk]
 coms _ _ _ h:=.inl h
 obj0 _ _ h:=by cases h
 inj _ _ _ _ _ h:=by cases h
 com _ _ _ h:=(nE h).1
 one _ _ _ h:=(nE h).2
 rows b r h:=by
  simp only [cS] at h
  split at h
  ·rename_i c t fz hc;simp only [Option.some.injEq] at h;exact ⟨c,t,fz,hc,h⟩
  ·cases h
 os:=rfl
 tape:=rfl
 output:=⟨rfl,fun _=>Nat.le_refl _⟩
 size:=Nat.le_refl _
 kept _ _ _:=rfl
 typs _ _ _ h:=by cases h
structure Rd (P:Program) (t:TypeId) {α:Type} (A:α→AV) (V:α→Prop):Prop where
 len:∀ a,(A a).cells.length=P.cellsOf t
 rd:∀ {H:Type} {enc:TypeId × Value→H} {w:World} {ng base fuel:Nat} {spare:Nat→Bool} {held:Bool} {cs:List Value} {x:DataW H × List MemPlace},DataW.trod enc P w base spare held fuel t cs=some x →
  (∀ n ∈ x.1.weights P t,n≤reachBytes)→∃ a:α,V a∧cs.length=P.cellsOf t∧∀ j,j < cs.length→(cs.getD j undef).oneCell' = true∧VR (cS ng w) ((A a).cells.getD j .undef) (cs.getD j undef)
section
variable {P:Program} [Laid P] {t:TypeId} {α β:Type} {A:α→AV} {V:α→Prop}
theorem Rd.map {B:β→AV} {W:β→Prop} (h:Rd P t A V) (f:α→β) (hA:∀ a,V a→A a=B (f a)) (hl:∀ b,(B b).cells.length=P.cellsOf t) (hV:∀ a,V a→W (f a)):Rd P t B W :=
 ⟨hl,fun {H enc w ng base fuel spare held cs x} h1 h2=>by
  obtain ⟨a,k1,k2,k3⟩:=h.rd (ng:=ng) h1 h2
  exact ⟨f a,hV a k1,k2,by rw [← hA a k1];exact k3⟩⟩
theorem qR {a:AV} {v:Value} {g:Gh} (hc:a.cells=[a]) (hv:VR g a v) (h1:v.oneCell' = true):∀ j,j < [v].length→(([v]:List Value).getD j undef).oneCell' = true∧VR g (a.cells.getD j .undef) (([v]:List Value).getD j undef):=by
 intro j hj
 obtain rfl:j=0:=by simp at hj;exact hj
 rw [hc];exact ⟨h1,hv⟩
theorem FG {k:IntKind} (ht:P.underlying t=some (.int k)) (hc:P.cellsOf t=1):Rd P t (AV.int k) (fun n=>(Lit.int k n).wf=true) :=
 ⟨fun _=>hc.symm,fun h _=>by
  obtain ⟨n,rfl,rfl,hw⟩:=DataW.trod_int ht h
  exact ⟨n,hw,hc.symm,qR rfl (.int k n) rfl⟩⟩
theorem rd_u8 (ht:P.underlying t=some (.int .u8)) (hc:P.cellsOf t=1):Rd P t (fun b:UInt8=>AV.int .u8 b.toNat) (fun _=>True) :=
 (FG ht hc).map (fun n=>UInt8.ofNat n.toNat) (fun n hn=>by
  have h1:0≤n∧n≤255:=by simpa [Lit.wf,IntKind.min,IntKind.max,IntKind.signed,IntKind.bits] using hn
  show AV.int .u8 n=AV.int .u8 _
  congr 1
  rw [UInt8.toNat_ofNat',Nat.mod_eq_of_lt (by omega)];omega) (fun _=>hc.symm) (fun _ _=>trivial)
theorem rd_str (ht:P.underlying t=some .string) (hc:P.cellsOf t=1):Rd P t AV.str (fun s=>s.length≤reachBytes) :=
 ⟨fun _=>hc.symm,fun h hw=>by
  obtain ⟨s,rfl,rfl,_⟩:=DataW.trod_string ht h
  exact ⟨s.data.toList,hw _ (by simp [DataW.weights]),hc.symm,qR rfl (.str _ _ rfl) rfl⟩⟩
theorem ja {H:Type} {e:TypeId} {n:Nat}:∀ {l:List (DataW H)} {d:DataW H},d ∈ l→n ∈ d.weights P e→n ∈ DataW.weightsAll P e l
 | [],_,h,_=>by cases h
 | x::l,d,h,hn=>by
  rw [DataW.weightsAll]
  rcases List.mem_cons.1 h with rfl|h
  ·exact List.mem_append_left _ hn
  ·exact List.mem_append_right _ (ja h hn)
theorem l8 {p:Nat→α→Prop}:∀ (n:Nat),(∀ i,i < n→∃ a,p i a)→∃ l:List α,l.length=n∧∀ i,i < n→∃ a,l[i]? = some a∧p i a
 | 0,_=>⟨[],rfl,fun i hi=>absurd hi (Nat.not_lt_zero _)⟩
 | n+1,h=>by
  obtain ⟨l,h1,h2⟩:=l8 n fun i hi=>h i (Nat.lt_succ_of_lt hi)
  obtain ⟨a,ha⟩:=h n (Nat.lt_succ_self _)
  refine ⟨l++[a],by simp [h1],fun i hi=>?_⟩
  by_cases e:i < n
  ·obtain ⟨b,hb,hp⟩:=h2 i e
   exact ⟨b,by rw [List.getElem?_append_left (by omega)];exact hb,hp⟩
  ·obtain rfl:i=n:=by omega
   exact ⟨a,by rw [List.getElem?_append_right (by omega),h1,Nat.sub_self];rfl,ha⟩
theorem mapM_at {β:Type} {f:Nat→Option β}:∀ {l:List Nat} {r:List β},l.mapM f=some r→r.length=l.length∧∀ i,i < l.length→f (l.getD i 0)=r[i]?
 | [],r,h=>by simp at h;subst h;exact ⟨rfl,fun i hi=>absurd hi (Nat.not_lt_zero _)⟩
 | x::l,r,h=>by
  simp only [List.mapM_cons,Option.bind_eq_bind,Option.bind_eq_some_iff] at h
  obtain ⟨y,hy,ys,hys,e⟩:=h
  cases e
  obtain ⟨h1,h2⟩:=mapM_at hys
  refine ⟨by simp [h1],fun i hi=>?_⟩
  cases i with
  | zero=>simpa using hy
  | succ i=>simpa using h2 i (by simpa using hi)
theorem wU {w:World} {base n:Nat} {a:Addr} {cs:List Value} (h:w.cells? base a n=some cs):cs.length=n∧∀ j,j < n→w.cell? (a.add j)=cs[j]? := by
 unfold World.cells? at h
 split at h
 ·obtain ⟨h1,h2⟩:=mapM_at h
  rw [List.length_range] at h1
  refine ⟨h1,fun j hj=>?_⟩
  have:=h2 j (by simpa using hj)
  rwa [List.getD_eq_getElem?_getD,List.getElem?_range hj] at this
 ·cases h
theorem wV {w:World} {a:Addr} {v:Value} (h:w.cell? a=some v):a.spot=none:=by
 unfold World.cell? at h
 split at h
 ·split at h
  ·cases h
  ·rename_i e;simpa using e
 ·cases h
theorem pH {a:Addr} (h:a.spot=none) (n:Nat):a.add n=⟨a.block,a.off+n,none⟩:=by
 unfold Addr.add
 split
 ·rename_i e;subst e;cases a;simp_all
 ·rfl
theorem zK {e:TypeId} (ht:P.underlying t=some (.slice e)) (hc:P.cellsOf t=1) (hp:0 < P.cellsOf e) (hE:Rd P e A V):Rd P t (fun l:List α=>.list (P.cellsOf e) (l.map A)) (fun l=>l.length * P.bytesOf e≤reachBytes∧∀ a ∈ l,V a) :=
 ⟨fun _=>hc.symm,fun {H enc w ng base fuel spare held cs x} h hw=>by
  rcases DataW.trod_slice ht h with ⟨rfl,rfl⟩|⟨a,len,cap,elems,rest,n,_,rfl,rfl,hb,hl,hm,hlen,hel,_,_⟩
  ·exact ⟨[],⟨by simp,fun _ h=>by cases h⟩,hc.symm,qR rfl (.listNil _) rfl⟩
  simp only [DataW.weights,ht,List.mem_cons,List.mem_append] at hw
  have hwt:=hw _ (.inl rfl)
  simp only [List.length_map] at hwt
  have key:∀ i,i < len→∃ (y:α × (Nat→Value)),V y.1∧∀ j,j < P.cellsOf e→w.cell? ((a.add (i * P.cellsOf e)).add j)=some (y.2 j)∧(y.2 j).oneCell' = true∧VR (cS ng w) ((A y.1).cells.getD j .undef) (y.2 j):=by
   intro i hi
   have h1:=hel i hi
   rw [List.getElem?_eq_getElem (by omega)] at h1
   simp only [Option.bind_eq_some_iff] at h1
   obtain ⟨cs',h2,h3⟩:=h1
   obtain ⟨h4,h5⟩:=wU h2
   obtain ⟨y,k1,k2,k3⟩:=hE.rd (ng:=ng) h3 fun m hm=>hw m (.inr (.inl (ja (List.mem_map.2 ⟨_,List.getElem_mem (by omega:i < elems.length),rfl⟩) hm)))
   refine ⟨(y,fun j=>cs'.getD j undef),k1,fun j hj=>⟨?_,k3 j (by omega)⟩⟩
   show _=some (cs'.getD j undef)
   rw [h5 j hj,List.getD_eq_getElem?_getD,List.getElem?_eq_getElem (by omega)];rfl
  obtain ⟨l,hl1,hl2⟩:=l8 len key
  have hsp:0 < len→a.spot=none:=fun h0=>by
   obtain ⟨y,_,_,h2⟩:=hl2 0 h0
   have h3:=wV (h2 0 hp).1
   simpa [Addr.add] using h3
  refine ⟨l.map (·.1),⟨?_,fun b hb=>?_⟩,hc.symm,qR rfl ?_ rfl⟩
  ·rw [List.length_map,hl1]
   exact Nat.le_trans (Nat.mul_le_mul_right _ (by omega)) hwt
  ·obtain ⟨y,hy,rfl⟩:=List.mem_map.1 hb
   obtain ⟨i,hi,e1⟩:=List.getElem_of_mem hy
   obtain ⟨z,hz,h1,_⟩:=hl2 i (by omega)
   rw [List.getElem?_eq_getElem hi,e1] at hz
   cases hz;exact h1
  ·by_cases h0:len=0
   ·subst h0
    obtain rfl:=List.eq_nil_of_length_eq_zero hl1
    exact .listAny _ _ _
   have hs:=hsp (by omega)
   have e1:((l.map (·.1)).map A).length=len:=by simp [hl1]
   have hat:∀ i,i < len→∃ y:α × (Nat→Value),((l.map (·.1)).map A).getD i .undef=A y.1∧(l.getD i (y.1,fun _=>undef)).2=y.2∧(∀ j,j < P.cellsOf e→w.cell? ((a.add (i * P.cellsOf e)).add j)=some (y.2 j)∧(y.2 j).oneCell' = true∧VR (cS ng w) ((A y.1).cells.getD j .undef) (y.2 j)):=by
    intro i hi
    obtain ⟨y,hy,_,h2⟩:=hl2 i hi
    refine ⟨y,?_,?_,h2⟩
    ·simp [List.getD_eq_getElem?_getD,hy]
    ·simp [List.getD_eq_getElem?_getD,hy]
   have:=VR.list (g:=cS ng w) (P.cellsOf e) ((l.map (·.1)).map A) a.block a.off cap (fun i j=>(match l[i]? with|some y=>y.2|none=>fun _=>undef) j) (by omega)
    (fun i hi=>by
     obtain ⟨y,h1,_⟩:=hat i (by omega)
     rw [h1];exact hE.len _)
    (fun i j hi hj=>by
     obtain ⟨y,hy,_,h2⟩:=hl2 i (by omega)
     simp only [hy]
     obtain ⟨h3,h4,_⟩:=h2 j hj
     rw [pH hs,pH rfl] at h3
     exact jB h3 h4)
    (fun i j hi hj=>by
     obtain ⟨y,hy,_,h2⟩:=hl2 i (by omega)
     simp only [hy,List.getD_eq_getElem?_getD,List.getElem?_map,Option.map_some,Option.getD_some]
     have h5:=(h2 j hj).2.2
     rwa [List.getD_eq_getElem?_getD] at h5)
   rw [e1] at this
   have ea:a=⟨a.block,a.off,none⟩:=by cases a;simp_all
   rw [ea];exact this⟩
end
structure RdF (P:Program) (fs:List Field) (off tot:Nat) {β:Type} (B:β→List AV) (W:β→Prop):Prop where
 len:∀ b,(B b).length=tot
 rd:∀ {H:Type} {enc:TypeId × Value→H} {w:World} {ng base fuel:Nat} {spare:Nat→Bool} {held:Bool} {cs:List Value} {xs:List (DataW H × List MemPlace)},xs.length=fs.length →
  (∀ (i:Nat) (f:Field),fs[i]? = some f→DataW.trod enc P w base spare held fuel f.type ((cs.drop f.offset).take (P.cellsOf f.type))=xs[i]?)→(∀ n ∈ DataW.weightsEach P (fs.map (·.type)) (xs.map (·.1)),n≤reachBytes)→cs.length=off+tot →
  ∃ b:β,W b∧∀ j,j < tot→(cs.getD (off+j) undef).oneCell' = true∧VR (cS ng w) ((B b).getD j .undef) (cs.getD (off+j) undef)
section
variable {P:Program} [Laid P] {t:TypeId} {α β:Type} {A:α→AV} {V:α→Prop}
theorem Cq (off:Nat):RdF P [] off 0 (fun _:Unit=>[]) (fun _=>True):=⟨fun _=>rfl,fun _ _ _ _=>⟨(),trivial,fun j hj=>absurd hj (Nat.not_lt_zero _)⟩⟩
theorem jb {f:Field} {fs:List Field} {off tot:Nat} {B:β→List AV} {W:β→Prop} (ho:f.offset=off) (hA:Rd P f.type A V) (hB:RdF P fs (off+P.cellsOf f.type) tot B W) :
  RdF P (f::fs) off (P.cellsOf f.type+tot) (fun p:α × β=>(A p.1).cells++B p.2) (fun p=>V p.1∧W p.2) :=
 ⟨fun p=>by rw [List.length_append,hA.len,hB.len],fun {H enc w ng base fuel spare held cs xs} hx hf hw hl=>by
  match xs,hx with
  | x::xs,hx =>
   have h0:=hf 0 f rfl
   simp only [List.getElem?_cons_zero] at h0
   simp only [List.map_cons,DataW.weightsEach,List.mem_append] at hw
   obtain ⟨a,k1,k2,k3⟩:=hA.rd (ng:=ng) h0 fun n hn=>hw n (.inl hn)
   obtain ⟨b,k4,k5⟩:=hB.rd (ng:=ng) (cs:=cs) (xs:=xs) (by simpa using hx) (fun i f' hi=>by simpa using hf (i+1) f' (by simpa using hi)) (fun n hn=>hw n (.inr hn)) (by omega)
   refine ⟨(a,b),⟨k1,k4⟩,fun j hj=>?_⟩
   have hla:=hA.len a
   by_cases e:j < P.cellsOf f.type
   ·have:=k3 j (by rw [k2];exact e)
    have e1:((cs.drop f.offset).take (P.cellsOf f.type)).getD j undef=cs.getD (off+j) undef:=by
     simp [List.getD_eq_getElem?_getD,List.getElem?_take,e,List.getElem?_drop,ho]
    rw [e1] at this
    have e2:((A a).cells++B b).getD j .undef=(A a).cells.getD j .undef:=by
     simp [List.getD_eq_getElem?_getD,List.getElem?_append_left (by omega:j < (A a).cells.length)]
    show _∧VR _ (((A a).cells++B b).getD j .undef) _
    rw [e2];exact this
   ·have:=k5 (j - P.cellsOf f.type) (by omega)
    rw [show off+P.cellsOf f.type+(j - P.cellsOf f.type)=off+j by omega] at this
    have e2:((A a).cells++B b).getD j .undef=(B b).getD (j - P.cellsOf f.type) .undef:=by
     simp [List.getD_eq_getElem?_getD,List.getElem?_append_right (by omega:(A a).cells.length≤j),hla]
    show _∧VR _ (((A a).cells++B b).getD j .undef) _
    rw [e2];exact this⟩
theorem wW {fs:Array Field} {tot:Nat} {B:β→List AV} {W:β→Prop} (ht:P.underlying t=some (.struct fs)) (hc:P.cellsOf t=tot) (hF:RdF P fs.toList 0 tot B W):Rd P t (fun b=>.agg (B b)) W :=
 ⟨fun b=>(hF.len b).trans hc.symm,fun {H enc w ng base fuel spare held cs x} h hw=>by
  obtain ⟨xs,n,_,rfl,hl,hlen,hf⟩:=DataW.trod_struct ht h
  simp only [DataW.weights,ht] at hw
  obtain ⟨b,k1,k2⟩:=hF.rd (ng:=ng) (xs:=xs) (by simpa using hlen) (fun i f hi=>hf i f (by simpa using hi)) hw (by omega)
  refine ⟨b,k1,hl,fun j hj=>?_⟩
  have:=k2 j (by omega)
  rwa [Nat.zero_add] at this⟩
theorem Rd.qS (h:Rd P t A V) (hc:P.cellsOf t=1) {H:Type} {enc:TypeId × Value→H} {w:World} {ng base:Nat} {spare:Nat→Bool} {held:Bool} {v:Value} {d:DataW H} {ps:List MemPlace} (hone:v.oneCell' = true)
  (hA:∀ a,V a→(A a).cells=[A a]) (hd:DataW.Trod enc P w base spare held t v d ps) (hw:∀ n ∈ d.weights P t,n≤reachBytes):∃ a,V a∧VR (cS ng w) (A a) v:=by
 obtain ⟨fuel,hd⟩:=hd
 obtain ⟨a,k1,k2,k3⟩:=h.rd (ng:=ng) hd hw
 refine ⟨a,k1,?_⟩
 have e:v.cells.toList=[v]:=by cases v<;>first|rfl|(simp [Value.oneCell'] at hone)
 rw [e] at k3
 have:=(k3 0 (by simp)).2
 rwa [hA a k1] at this
theorem jQ {H:Type} {enc:TypeId × Value→H} {w w':World} {base:Nat} {spare':Nat→Bool} (hl:laidOutB P=true) (hz:∀ t e,t < P.types.size→P.underlying t=some (.slice e)→0 < P.cellsOf e) :
  ∀ {ts:List TypeId} {vs:List Value} {ds:List (DataW H)} {ps:List MemPlace},(∀ t ∈ ts,P.readableRec t=true∧t < P.types.size)→DataW.TrodAll enc P w base (fun _=>true) true ts vs ds ps→(∀ p ∈ ps,w.sameAt w' p)→(∀ p ∈ ps,spare' p.block=true) →
   DataW.TrodAll enc P w' base spare' true ts vs ds ps
 | [],[],[],_,_,h,_,_=>h
 | t::ts,v::vs,d::ds,ps,hr,⟨p,q,h1,h2,e⟩,hs,hsp=>by
  have ht:=hr t List.mem_cons_self
  refine ⟨p,q,?_,jQ hl hz (fun t ht=>hr t (List.mem_cons_of_mem _ ht)) h2 (fun x hx=>hs x (by rw [e];exact List.mem_append_right _ hx)) (fun x hx=>hsp x (by rw [e];exact List.mem_append_right _ hx)),e⟩
  have h3:DataW.Trod enc P w base spare' true t v d p:=h1.respare (kids_book hl ht.1) (fun u e' hu=>hz u e' hu.1) ⟨ht.2,book_self t⟩ fun x hx=>hsp x (by rw [e];exact List.mem_append_left _ hx)
  obtain ⟨n,hn⟩:=h3
  exact ⟨n,DataW.trod_carry n _ _ _ hn fun x hx=>hs x (by rw [e];exact List.mem_append_left _ hx)⟩
theorem zM {H:Type} {enc:TypeId × Value→H} {f:FuncId} {fn:Func} {s:ChangeSpec} {tb:TypeId} (hl:laidOutB P=true) (hz:∀ t e,t < P.types.size→P.underlying t=some (.slice e)→0 < P.cellsOf e) (hr:∀ t ∈ fn.params.toList,P.readableRec t=true∧t < P.types.size)
  (hrt:fn.resultTypes=#[tb]) (htb:P.underlying tb=some .bool) (hv:s.vars=[]) {W:World} {args:Array Value} {ds gs:List (DataW H)} {before:List MemPlace} (hW:DataW.Whole enc P fn.params.toList s.vars false W args.toList ds gs before)
  (hfn:s.fn H ds={ results:=[.lit (.bool true)],args:=ds }) {avs:List AV} (ha:VRs (cS P.globals.size W) avs args) (hcall:aj P f avs (Oid.under (.root P.globals.size)) ⟨[],.bool true,[]⟩) (hLaid:Laid.facts P (cS P.globals.size W)) :
  Calls P f args W fun e W'=>∃ v,e = .returned v∧s.post enc P fn false true false false W args v W':=by
 refine (hcall.calls ⟨P.globals.size,cS P.globals.size W,W,fun _=>False,.root P.globals.size,none⟩ _ args W Mem.emp (uk _ _) (fun q hq=>by cases hq) ha (fun i hi=>⟨?_,hi⟩) ⟨Nat.le_refl _,hLaid⟩).mono ?_
 ·cases i with
  | root k =>
   simp only [Oid.under,Oid.root.injEq] at hi
   subst hi
   simp [cS]
  | sub=>rfl
  | ty=>rfl
 rintro en W' ⟨g',v,rfl,hle,hloc,hvr,hm⟩
 obtain rfl:=hvr.cg
 refine ⟨_,rfl,?_⟩
 have hW0:=hW
 obtain ⟨p,q,hA,hV,rfl,hfz,hnd⟩:=hW
 rw [hv] at hV
 obtain ⟨rfl,rfl⟩:=trodVars_none hV
 rw [List.append_nil] at hW0 hfz
 have hsame:∀ p' ∈ p,W.sameAt W' p':=fun p' hp'=>by
  have hlt:=hW0.lt p' hp'
  have hh:=hm.kept p'.block hlt (fun h=>h)
  cases p' with
  | cell b o=>simp only [World.sameAt,World.cell?];simp only [MemPlace.block] at hh;rw [hh]
  | map b=>exact hh
 have hargs:∀ sp:Nat→Bool,(∀ p' ∈ p,sp p'.block=true)→DataW.TrodAll enc P W' 0 sp true fn.params.toList args.toList ds p:=fun sp hsp=>jQ hl hz hr hA hsame hsp
 have hres:∀ (b:Nat) (sp:Nat→Bool) (hd:Bool),DataW.TrodAll enc P W' b sp hd fn.resultTypes.toList ((Value.bool true).resultList fn.resultTypes.size) [.lit (.bool true)] []:=by
  intro b sp hd
  rw [hrt]
  exact ⟨[],[],RowKit.shut_bool htb _,rfl,rfl⟩
 have hold:∀ p' ∈ p,(fun b=>decide (b < W.heap.size)) p'.block=true:=fun p' hp'=>by simpa using hW0.lt p' hp'
 refine ⟨ds,[],p,[],p,[],hW0,by rw [List.append_nil,hfn];exact hres _ _ _,by rw [List.append_nil,hfn];exact hargs _ hold,by rw [hv,List.append_nil,hfn];exact rfl,?_,fun h=>by cases h⟩
 exact World.keptBut_mono (fun p' hp'=>hp'.elim) (may:=fun _=>False) ⟨hm.os,hm.output.1,fun i hi=>by
  have hk:W'.heap[i]? = W.heap[i]? := hm.kept i hi (fun h=>h)
  rw [hk]
  exact (World.keptBut_refl W (fun _=>False)).2.2 i hi⟩
structure RdA (P:Program) (ts:List TypeId) {β:Type} (B:β→List AV) (W:β→Prop):Prop where
 rd:∀ {H:Type} {enc:TypeId × Value→H} {w:World} {ng base b0:Nat} {r:Reach} {vs:List Value} {ds:List (DataW H)} {ps:List MemPlace},(∀ (j:Nat) t v,ts[j]? = some t→vs[j]? = some v→Value.okWide P w r base t v) →
  DataW.TrodAll enc P w b0 (fun _=>true) true ts vs ds ps→(∀ n ∈ DataW.weightsEach P ts ds,n≤reachBytes)→∃ b,W b∧vs.length=(B b).length∧∀ j,j < vs.length→VR (cS ng w) ((B b).getD j .undef) (vs.getD j undef)
theorem okWide_slice {w:World} {r:Reach} {base:Nat} {e:TypeId} {v:Value} (ht:P.underlying t=some (.slice e)) (h:Value.okWide P w r base t v):v.oneCell' = true:=by
 simp only [Value.okWide,ht,Cell.okWide,Cell.ok] at h
 cases v<;>first|rfl|exact h.elim
theorem okWide_int {w:World} {r:Reach} {base:Nat} {k:IntKind} {v:Value} (ht:P.underlying t=some (.int k)) (h:Value.okWide P w r base t v):v.oneCell' = true:=by
 simp only [Value.okWide,ht,Cell.okWide,Cell.ok] at h
 cases v<;>first|rfl|exact h.elim
theorem uo {w:World} {r:Reach} {base:Nat} {v:Value} (ht:P.underlying t=some .string) (h:Value.okWide P w r base t v):v.oneCell' = true:=by
 simp only [Value.okWide,ht,Cell.okWide,Cell.ok] at h
 cases v<;>first|rfl|exact h.elim
theorem rdA_nil:RdA P [] (fun _:Unit=>[]) (fun _=>True):=⟨fun {H enc w ng base b0 r vs ds ps} _ h _=>by
 obtain ⟨rfl,rfl,rfl⟩:=trodAll_nil h
 exact ⟨(),trivial,rfl,fun j hj=>absurd hj (Nat.not_lt_zero _)⟩⟩
theorem nF {ts:List TypeId} {B:β→List AV} {W:β→Prop} (k:∀ {H:Type} {enc:TypeId × Value→H} {w:World} {ng base b0:Nat} {r:Reach} {v:Value} {d:DataW H} {ps:List MemPlace},Value.okWide P w r base t v →
  DataW.Trod enc P w b0 (fun _=>true) true t v d ps→(∀ n ∈ d.weights P t,n≤reachBytes)→∃ a,V a∧VR (cS ng w) (A a) v) (hB:RdA P ts B W):RdA P (t::ts) (fun p:α × β=>A p.1::B p.2) (fun p=>V p.1∧W p.2) :=
 ⟨fun {H enc w ng base b0 r vs ds ps} hok h hw=>by
  obtain ⟨v,vs',d,ds',p,q,rfl,rfl,rfl,h1,h2⟩:=trodAll_cons h
  simp only [DataW.weightsEach,List.mem_append] at hw
  obtain ⟨a,k1,k2⟩:=k (ng:=ng) (hok 0 t v rfl rfl) h1 fun n hn=>hw n (.inl hn)
  obtain ⟨b,k3,k4,k5⟩:=hB.rd (ng:=ng) (fun j t v ht hv=>hok (j+1) t v ht hv) h2 fun n hn=>hw n (.inr hn)
  refine ⟨(a,b),⟨k1,k3⟩,by simp [k4],fun j hj=>?_⟩
  cases j with
  | zero=>exact k2
  | succ j=>simpa using k5 j (by simpa using hj)⟩
theorem rdA_slice {ts:List TypeId} {B:β→List AV} {W:β→Prop} {e:TypeId} (ht:P.underlying t=some (.slice e)) (hc:P.cellsOf t=1) (hA1:∀ a,(A a).cells=[A a]) (hA:Rd P t A V) (hB:RdA P ts B W):RdA P (t::ts) (fun p:α × β=>A p.1::B p.2) (fun p=>V p.1∧W p.2) :=
 nF (fun hok hd hw=>hA.qS hc (okWide_slice ht hok) (fun a _=>hA1 a) hd hw) hB
theorem rdA_str {ts:List TypeId} {B:β→List AV} {W:β→Prop} (ht:P.underlying t=some .string) (hc:P.cellsOf t=1) (hA1:∀ a,(A a).cells=[A a]) (hA:Rd P t A V) (hB:RdA P ts B W):RdA P (t::ts) (fun p:α × β=>A p.1::B p.2) (fun p=>V p.1∧W p.2) :=
 nF (fun hok hd hw=>hA.qS hc (uo ht hok) (fun a _=>hA1 a) hd hw) hB
theorem rdA_int {ts:List TypeId} {B:β→List AV} {W:β→Prop} {k:IntKind} (ht:P.underlying t=some (.int k)) (hc:P.cellsOf t=1) (hA1:∀ a,(A a).cells=[A a]) (hA:Rd P t A V) (hB:RdA P ts B W):RdA P (t::ts) (fun p:α × β=>A p.1::B p.2) (fun p=>V p.1∧W p.2) :=
 nF (fun hok hd hw=>hA.qS hc (okWide_int ht hok) (fun a _=>hA1 a) hd hw) hB
theorem jc {H:Type} {enc:TypeId × Value→H} {w:World} {base:Nat} {sp:Nat→Bool} {held:Bool}:∀ {ts:List TypeId} {vs:List Value} {ds:List (DataW H)} {ps:List MemPlace},DataW.TrodAll enc P w base sp held ts vs ds ps→ds.length=ts.length
 | [],[],[],_,_=>rfl
 | _::_,_::_,_::_,_,⟨_,_,_,h,_⟩=>by simp [jc h]
end
end Go.Ab
namespace Go.Ab
attribute [go_sem] Nat.reduceEqDiff Nat.reduceAdd Nat.reduceMul Nat.reduceLT Nat.reduceLeDiff reduceCtorEq Nat.reduceBEq Int.reduceToNat Int.reduceNeg
attribute [go_sem ↓] reduceIte
theorem zb1 {p:Prop} [Decidable p]:(decide p=true)=p:=decide_eq_true_eq
theorem zb2 {p:Prop} [Decidable p]:(decide p=false)=¬ p:=propext decide_eq_false_iff_not
theorem zb3 (b:Bool):((!b)=true)=(b=false):=Bool.not_eq_true' b
theorem zb4 (b:Bool):((!b)=false)=(b=true):=Bool.not_eq_false' b
theorem zb5 (a b:Bool):((a && b)=true)=(a=true∧b=true):=Bool.and_eq_true a b
inductive Ps where
 | at (c:Code)
 | nrm
 | ex (i:Nat)
@[irreducible] def zN (P:Prop):Prop:=P
theorem zl {p:Prop} (h:p):zN p:=by unfold zN;exact h
theorem Cr {p:Prop} (h:zN p):p:=by unfold zN at h;exact h
inductive Stp (P:Program) (x:Ctx) (n:Nat) (Q:AX→AS→Prop):Bool→Bool→Ps→List Pc→AS→Prop
 | seq {u v} {a b:Code} {ks s}:Stp P x n Q u true (.at a) (.code b::ks) s→Stp P x n Q u v (.at (.seq a b)) ks s
 | skip {u v ks s}:Stp P x n Q u true .nrm ks s→Stp P x n Q u v (.at .skip) ks s
 | block {v i a ks s}:Stp P x n Q true true (.at a) (.bend i::ks) s→Stp P x n Q true v (.at (.block i a)) ks s
 | exit {u v i ks s}:Stp P x n Q u true (.ex i) ks s→Stp P x n Q u v (.at (.exit i)) ks s
 | next {u v a ks s}:Stp P x n Q u true (.at a) ks s→Stp P x n Q u v .nrm (.code a::ks) s
 | bend {u v i ks s}:Stp P x n Q u true .nrm ks s→Stp P x n Q u v .nrm (.bend i::ks) s
 | lend {u v ts I k ks fr m c ds}:zN (∃ k' m',k' < k∧(∀ i o,m' i=some o→m i=some o)∧I k' ⟨cI ts fr,m',c,ds⟩)→Stp P x n Q u v .nrm (.lend ts I k::ks) ⟨fr,m,c,ds⟩
 | xcode {u v a i ks s}:Stp P x n Q u true (.ex i) ks s→Stp P x n Q u v (.ex i) (.code a::ks) s
 | xlend {u v ts I k i ks s}:Stp P x n Q u true (.ex i) ks s→Stp P x n Q u v (.ex i) (.lend ts I k::ks) s
 | xhere {u v i ks s}:Stp P x n Q u true .nrm ks s→Stp P x n Q u v (.ex i) (.bend i::ks) s
 | xon {u v i j ks s}:Nat.beq i j=false→Stp P x n Q u true (.ex i) ks s→Stp P x n Q u v (.ex i) (.bend j::ks) s
 | ofT {u c ks s}:T P x n c s (after P x n Q ks)→Stp P x n Q u true (.at c) ks s
 | ofN {u ks s}:after P x n Q ks .normal s→Stp P x n Q u true .nrm ks s
 | ofX {u i ks s}:after P x n Q ks (.exit i) s→Stp P x n Q u true (.ex i) ks s
def I7 (P:Program) (x:Ctx) (n:Nat) (Q:AX→AS→Prop):Ps→List Pc→AS→Prop
 | .at c,ks,s=>T P x n c s (after P x n Q ks)
 | .nrm,ks,s=>after P x n Q ks .normal s
 | .ex i,ks,s=>after P x n Q ks (.exit i) s
theorem Stp.ok {P:Program} [Laid P] {x:Ctx} {n:Nat} {Q:AX→AS→Prop} {p:Ps} {ks:List Pc} {s:AS} {u v:Bool} (h:Stp P x n Q u v p ks s):I7 P x n Q p ks s:=by
 induction h with
 | seq _ ih=>exact ny ih
 | skip _ ih=>exact Fx ih
 | block _ ih=>exact jA ih
 | exit _ ih=>exact Fy ih
 | next _ ih=>exact ih
 | bend _ ih=>exact ih
 | lend h=>exact Cr h
 | xcode _ ih=>exact ih
 | xlend _ ih=>exact ih
 | xhere _ ih=>exact Fw ih
 | xon hb _ ih=>exact I5 hb ih
 | ofT h=>exact h
 | ofN h=>exact h
 | ofX h=>exact h
section
variable {P:Program} [Laid P] {x:Ctx} {n:Nat} {Q:AX→AS→Prop} {ks:List Pc} {s:AS}
theorem zk {c:Code} (h:Stp P x n Q true false (.at c) ks s):T P x n c s (after P x n Q ks):=h.ok
theorem zn (h:Stp P x n Q true false .nrm ks s):after P x n Q ks .normal s:=h.ok
theorem ze {i:Nat} (h:Stp P x n Q true false (.ex i) ks s):after P x n Q ks (.exit i) s:=h.ok
theorem zu {c:Code} (h:Stp P x n Q false false (.at c) ks s):T P x n c s (after P x n Q ks):=h.ok
theorem zv (h:Stp P x n Q false false .nrm ks s):after P x n Q ks .normal s:=h.ok
theorem zw {i:Nat} (h:Stp P x n Q false false (.ex i) ks s):after P x n Q ks (.exit i) s:=h.ok
end
end Go.Ab
namespace Go.Ab
structure gC (q:Prop):Prop where
 out:q
theorem ai {a b:Prop} (h:a) (k:b):a∧b:=⟨h,k⟩
structure CC (a b:Prop):Prop where
 a:a
 b:b
theorem cq {a b:Prop} (h:a) (k:b):CC a b:=⟨h,k⟩
structure HD (U gl:List (Nat × Nat)) (ts:List Nat):Prop where
theorem HD.o:HD [] [] []:=⟨⟩
theorem HD.d (U gl:List (Nat × Nat)) (ts:List Nat):HD U gl ts:=⟨⟩
theorem uu {p q:Oid} (h:¬ Oid.under p q):(∀ c i,(q=Oid.sub c i p)=False)∧∀ c i,(Oid.sub c i p=q)=False:=⟨Oid.ab h,Oid.aa h⟩
section
variable {P:Program} [Laid P] {x:Ctx} {n:Nat} {Q:AX→AS→Prop} {ks:List Pc} {s:AS} {fr:List (Nat × AV)} {m:Mem} {c:Nat} {ds:List AD} {id:Nat} {ops:Array Oper}
theorem uq {U gl:List (Nat × Nat)} {ts:List Nat} (_:HD U gl ts) (hmx:P.follows .mixedOrders=true) (hng:Fit P x) (hok:(yZ n P.globals.size ops U && oQ ops gl)=true):type_of% (bJ (P:=P) (x:=x) (n:=n) (Q:=Q) (ks:=ks) (fr:=fr) (m:=m) (c:=c) (ds:=ds) (id:=id) (ops:=ops) nmd gl U hmx hng hok ts):=bJ nmd gl U hmx hng hok ts
theorem zO {U gl:List (Nat × Nat)} {ts:List Nat} (_:HD U gl ts) (hng:Fit P x) (hok:(EW n P.globals.size ops && oQ ops gl)=true):type_of% (ao (P:=P) (x:=x) (n:=n) (Q:=Q) (ks:=ks) (fr:=fr) (m:=m) (c:=c) (ds:=ds) (id:=id) (ops:=ops) nmd gl hng hok):=ao nmd gl hng hok
end
theorem qs {p e:Prop} (e1:e) (h:e→p:=by intro e;simp (disch:=first|omega|assumption) only [go_sem,eq_self,decide_true,decide_false,ne_eq,not_true_eq_false,not_false_eq_true,e];first|done|fail):p:=h e1
theorem qs0 {p:Prop} (h:p:=by simp (disch:=first|omega|assumption) only [go_sem,eq_self,decide_true,decide_false,ne_eq,not_true_eq_false,not_false_eq_true];first|done|fail):p:=h
theorem qt {p q e:Prop} (e1:e) (k:q) (h:e→gC q→p:=by intro e k;simp (disch:=first|omega|assumption) only [go_sem,eq_self,decide_true,decide_false,ne_eq,not_true_eq_false,not_false_eq_true,e];exact k.out):p:=h e1 ⟨k⟩
theorem qt0 {p q:Prop} (k:q) (h:gC q→p:=by intro k;simp (disch:=first|omega|assumption) only [go_sem,eq_self,decide_true,decide_false,ne_eq,not_true_eq_false,not_false_eq_true];exact k.out):p:=h ⟨k⟩
theorem qv {p q:Prop} (k:q) (h:gC q→p:=by intro k;(first|refine zn ?_|refine ze ?_|refine zk ?_);with_reducible (constructor;repeat constructor);(try refine zl ?_);exact k.out):p:=h ⟨k⟩
theorem qn {p e:Prop} (e1:e) (h:e→p:=by intro e;first|(intro _ h;cases h;done)|exact qs e|exact nbu _|(refine nbA ?_ _;simp [hpN,hO.mem];done)|(simp only [List.mem_cons,forall_eq_or_imp];refine ⟨qs e,?_⟩;first|exact nbu _|(refine nbA ?_ _;simp [hpN,hO.mem];done))):p:=h e1
theorem qm {p c:Prop} (c1:c) (h:c→p:=by intro c;first|exact c|exact c (aq rfl hp)|exact c _ (aq rfl hp) (fun h=>hpp (Oid.ae h)) (hO.sub _ _)|exact c _ (aq rfl hp) (hO.sub _ _)):p:=h c1
theorem qr {p q e c:Prop} {U gl:List (Nat × Nat)} {ts:List Nat} (g:HD U gl ts) (e1:e) (c1:c) (k:q) (h:HD U gl ts→e→c→gC q→p:=by
  intro g e c k;(try refine qv ?_)
  refine zO g hng (by kernel_rfl) fun hf C S K hC1 hC hS hK=>?_;refine qt e ?_
  repeat (obtain ⟨c1,c⟩:CC _ _:=c;refine hC1 _ (qm c1) (qn e) ?_;refine qt e ?_)
  refine hK ?_;clear hK hS hC hC1 K S C hf;(try refine qv ?_)
  exact k.out):p:=h g e1 c1 ⟨k⟩
theorem qd {p q e c:Prop} {U gl:List (Nat × Nat)} {ts:List Nat} (g:HD U gl ts) (e1:e) (c1:c) (k:q) (h:HD U gl ts→e→c→gC q→p:=by
  intro g e c k;(try refine qv ?_)
  refine uq g mixed hng (by kernel_rfl) fun hf C S K hC hS hK=>?_;refine qt e ?_
  repeat (obtain ⟨c1,c⟩:CC _ _:=c;refine hC _ (qm c1) (qn e) ?_;refine qt e ?_)
  (first|refine hK (aE rfl) ?_|refine hK (by simp (disch:=first|omega|assumption) only [go_sem,List.reverse_cons,List.reverse_nil,ne_eq,not_false_eq_true,implies_true]) ?_);clear hK hS hC K S C hf;(try refine qv ?_)
  exact k.out):p:=h g e1 c1 ⟨k⟩
theorem qw {p q e:Prop} (e1:e) (k:q) (h:e→gC q→p:=by
  intro e k
  repeat (first|refine ay rfl rfl ?_|refine aw rfl rfl ?_|(refine ao nmd [] hng (by kernel_rfl) fun hf C S K hC1 hC hS hK=>?_;refine qt e ?_;refine hK ?_;clear hK hS hC hC1 K S C hf)|refine qv ?_)
  exact k.out):p:=h e1 ⟨k⟩
theorem qw0 {p q:Prop} (k:q) (h:gC q→p:=by
  intro k
  repeat (first|refine ay rfl rfl ?_|refine aw rfl rfl ?_|(refine ao nmd [] hng (by kernel_rfl) fun hf C S K hC1 hC hS hK=>?_;refine qt0 ?_;refine hK ?_;clear hK hS hC hC1 K S C hf)|refine qv ?_)
  exact k.out):p:=h ⟨k⟩
theorem qr0 {p q:Prop} (k:q) (h:gC q→p:=by intro k;refine qr .o trivial trivial ?_;exact k.out):p:=h ⟨k⟩
theorem qr1 {p q c:Prop} (c1:c) (k:q) (h:c→gC q→p:=by intro c k;refine qr .o trivial (cq c trivial) ?_;exact k.out):p:=h c1 ⟨k⟩
end Go.Ab
namespace Go.Ab
open Go.RowKit
theorem sI {p q:Oid} (h:Oid.under p q) (hq:q.mono=false):p.mono=false:=by
 cases hp:p.mono with
 | false=>rfl
 | true=>rw [Oid.mP h hp] at hq;cases hq
theorem az.below {x:Ctx} {g:Gh} {m:Mem} {w w':World} (h:az x g m w) (hb:Below w.heap.size w w') (hp:x.p.mono=false):az x g m w' where
 le:=h.le
 locs:=h.locs
 glob:=h.glob
 coms:=h.coms
 obj0 i o hi:=(h.obj0 i o hi).imp id fun ⟨b,h1,h2,h3,h4⟩=>⟨b,h1,h2,h3,cN.block (hb.block b h4.lt) h4⟩
 inj:=h.inj
 com b o v hv:=by
  have h1:=h.com b o v hv
  have hlt:b < w.heap.size:=by
   rcases Nat.lt_or_ge b w.heap.size with h2|h2
   ·exact h2
   ·simp [World.cell?,Array.getElem?_eq_none h2] at h1
  simp only [World.cell?] at h1 ⊢
  rw [hb.block b hlt];exact h1
 one:=h.one
 rows b r hr:=by
  obtain ⟨c,t,fz,h1,h2⟩:=h.rows b r hr
  exact ⟨c,t,fz,by rw [hb.block b (Array.getElem?_eq_some_iff.1 h1).1];exact h1,h2⟩
 os:=hb.os.trans h.os
 tape:=hb.tape.trans h.tape
 output:=⟨hb.output.trans h.output.1,fun hm=>by rw [hp] at hm;cases hm⟩
 size:=Nat.le_trans h.size hb.size
 kept b hlt hm:=(hb.block b (Nat.lt_of_lt_of_le hlt h.size)).trans (h.kept b hlt hm)
 typs t q b hl:=(h.typs t q b hl).imp fun c ⟨fz,h1⟩=>⟨fz,by rw [hb.block b (Array.getElem?_eq_some_iff.1 h1).1];exact h1⟩
structure lA (P:Program) [Laid P] (g:Gh) (w:World):Prop where
 com:∀ b o v,g.com b o=some v→w.cell? ⟨b,o,none⟩=some v
 rows:∀ b r,g.row b=some r→∃ c t fz,w.heap[b]? = some (.cells c t fz)∧c.size=r
 glob:∀ k,k < P.globals.size→g.loc (.root k)=some (some k)
 facts:Laid.facts P g
theorem az.told {P:Program} [Laid P] {x:Ctx} {g:Gh} {m:Mem} {w:World} (h:az x g m w) (hx:Fit P x):lA P g w :=
 ⟨h.com,h.rows,fun k hk=>h.glob k (Nat.lt_of_lt_of_le hk hx.1),Laid.mono h.le hx.2⟩
theorem kR {P:Program} [Laid P] {f:FuncId} {xs:List AV} {p:Oid} {val:AV} (he:cQ P f=true) (hp:p.mono=false)
  (h:∀ (g:Gh) (args:Array Value) (w:World),VRs g xs args→lA P g w→Calls P f args w fun en w'=>∃ v,en = .returned v∧VR g val v∧Below w.heap.size w w'):aj P f xs (Oid.under p) ⟨[],val,[]⟩ :=
 ⟨he,fun x g args w m hm _ ha hs hx=>(h g args w ha (hm.told hx)).mono fun _ _ ⟨v,h1,h2,h3⟩=>⟨g,v,h1,Gh.le_refl g,fun _ _=>rfl,h2,hm.below h3 (sI (hs p (Oid.ax p)).2 hp)⟩⟩
theorem fk {P:Program} [Laid P] {f:FuncId} {xs:List AV} {sp:Oid→Prop} {val:AV} (he:cQ P f=true)
  (h:∀ (g:Gh) (args:Array Value) (w:World),VRs g xs args→lA P g w→Calls P f args w fun en w'=>∃ v,en = .returned v∧VR g val v∧w' = w):aj P f xs sp ⟨[],val,[]⟩ :=
 ⟨he,fun x g args w m hm _ ha hs hx=>(h g args w ha (hm.told hx)).mono fun _ _ ⟨v,h1,h2,h3⟩=>⟨g,v,h1,Gh.le_refl g,fun _ _=>rfl,h2,by rw [h3];exact hm⟩⟩
theorem VRs.one {g:Gh} {x:AV} {args:Array Value} (h:VRs g [x] args):∃ v,args=#[v]∧VR g x v:=by
 obtain ⟨h1,h2⟩:=h
 refine ⟨args.getD 0 undef,?_,h2 0 (by simp)⟩
 apply Array.ext
 ·rw [h1];rfl
 ·intro i hi hj
  obtain rfl:i=0:=by simp at h1;omega
  simp [Array.getD_eq_getD_getElem?,Array.getElem?_eq_getElem hi]
theorem VRs.two {g:Gh} {x y:AV} {args:Array Value} (h:VRs g [x,y] args):∃ v u,args=#[v,u]∧VR g x v∧VR g y u:=by
 obtain ⟨h1,h2⟩:=h
 refine ⟨args.getD 0 undef,args.getD 1 undef,?_,h2 0 (by simp),h2 1 (by simp)⟩
 apply Array.ext
 ·rw [h1];rfl
 ·intro i hi hj
  have:i < 2:=by simpa using hj
  rcases i with _|_|i
  ·simp [Array.getD_eq_getD_getElem?,Array.getElem?_eq_getElem hi]
  ·simp [Array.getD_eq_getD_getElem?,Array.getElem?_eq_getElem hi]
  ·omega
end Go.Ab
namespace Go.Proofs.YtfbnaalhioogoaaGreatDoor
open Go Go.Ab
theorem H8:tyk Tryz.prog 3=some (TyK.int .i64):=by kernel_rfl
theorem H9:shp Tryz.prog 3=some (false,1):=by kernel_rfl
theorem Ia:zer Tryz.prog 3=some [(AV.int .i64 0)]:=by kernel_rfl
theorem Ib:bE Tryz.prog 3=false:=by kernel_rfl
theorem Ic:tyk Tryz.prog 4=some TyK.bool:=by kernel_rfl
theorem Ie:shp Tryz.prog 4=some (false,1):=by kernel_rfl
theorem Ig:zer Tryz.prog 4=some [(AV.bool false)]:=by kernel_rfl
theorem Ih:bE Tryz.prog 4=false:=by kernel_rfl
theorem Ii:tyk Tryz.prog 5=some (TyK.int .u8):=by kernel_rfl
theorem Ij:shp Tryz.prog 5=some (false,1):=by kernel_rfl
theorem Ik:zer Tryz.prog 5=some [(AV.int .u8 0)]:=by kernel_rfl
theorem Il:bE Tryz.prog 5=false:=by kernel_rfl
theorem Im:tyk Tryz.prog 9=some TyK.str:=by kernel_rfl
theorem Io:shp Tryz.prog 9=some (false,1):=by kernel_rfl
theorem Ip:zer Tryz.prog 9=some [(AV.str [])]:=by kernel_rfl
theorem Iq:bE Tryz.prog 9=false:=by kernel_rfl
theorem FH:tyk Tryz.prog 20=some (TyK.iface 0):=by kernel_rfl
theorem FI:shp Tryz.prog 20=some (false,1):=by kernel_rfl
theorem FJ:zer Tryz.prog 20=some [AV.nilIface]:=by kernel_rfl
theorem FK:bE Tryz.prog 20=false:=by kernel_rfl
theorem FL:tyk Tryz.prog 22=some (TyK.slice 65 true 5 24):=by kernel_rfl
theorem FM:shp Tryz.prog 22=some (false,1):=by kernel_rfl
theorem FN:zer Tryz.prog 22=some [AV.nilSl]:=by kernel_rfl
theorem FO:bE Tryz.prog 22=false:=by kernel_rfl
theorem FP:tyk Tryz.prog 24=some (TyK.ptr 34):=by kernel_rfl
theorem FQ:shp Tryz.prog 24=some (false,1):=by kernel_rfl
theorem FR:zer Tryz.prog 24=some [AV.nilPtr]:=by kernel_rfl
theorem FT:bE Tryz.prog 24=false:=by kernel_rfl
theorem FU:tyk Tryz.prog 27=some (TyK.slice 9 false 1 16):=by kernel_rfl
theorem FV:shp Tryz.prog 27=some (false,1):=by kernel_rfl
theorem FW:zer Tryz.prog 27=some [AV.nilSl]:=by kernel_rfl
theorem FX:bE Tryz.prog 27=false:=by kernel_rfl
theorem FY:tyk Tryz.prog 28=some (TyK.int .i64):=by kernel_rfl
theorem FZ:shp Tryz.prog 28=some (false,1):=by kernel_rfl
theorem Ga:zer Tryz.prog 28=some [(AV.int .i64 0)]:=by kernel_rfl
theorem Gb:bE Tryz.prog 28=false:=by kernel_rfl
theorem Gc:tyk Tryz.prog 29=some (TyK.ptr 105):=by kernel_rfl
theorem Gd:shp Tryz.prog 29=some (false,1):=by kernel_rfl
theorem Ge:zer Tryz.prog 29=some [AV.nilPtr]:=by kernel_rfl
theorem Gf:bE Tryz.prog 29=false:=by kernel_rfl
theorem Gg:tyk Tryz.prog 30=some (TyK.ptr 91):=by kernel_rfl
theorem Gi:shp Tryz.prog 30=some (false,1):=by kernel_rfl
theorem Gj:zer Tryz.prog 30=some [AV.nilPtr]:=by kernel_rfl
theorem Gk:bE Tryz.prog 30=false:=by kernel_rfl
theorem Gl:tyk Tryz.prog 31=some (TyK.ptr 158):=by kernel_rfl
theorem Gm:shp Tryz.prog 31=some (false,1):=by kernel_rfl
theorem Gn:zer Tryz.prog 31=some [AV.nilPtr]:=by kernel_rfl
theorem Gp:bE Tryz.prog 31=false:=by kernel_rfl
theorem Gq:tyk Tryz.prog 32=some (TyK.ptr 96):=by kernel_rfl
theorem Gr:shp Tryz.prog 32=some (false,1):=by kernel_rfl
theorem Gs:zer Tryz.prog 32=some [AV.nilPtr]:=by kernel_rfl
theorem Gt:bE Tryz.prog 32=false:=by kernel_rfl
theorem Gu:tyk Tryz.prog 34=some (TyK.struct [(0,(false,1)),(1,(false,1)),(2,(false,1)),(3,(false,1))]):=by kernel_rfl
theorem Gv:shp Tryz.prog 34=some (true,4):=by kernel_rfl
theorem Gw:zer Tryz.prog 34=some [AV.nilPtr,AV.nilPtr,AV.nilPtr,AV.nilPtr]:=by kernel_rfl
theorem Gx:bE Tryz.prog 34=false:=by kernel_rfl
theorem zP:bd Tryz.prog 34 0=some (0,false,1):=by kernel_rfl
theorem zQ:bd Tryz.prog 34 1=some (1,false,1):=by kernel_rfl
theorem zR:bd Tryz.prog 34 2=some (2,false,1):=by kernel_rfl
theorem zS:bd Tryz.prog 34 3=some (3,false,1):=by kernel_rfl
theorem Gy:tyk Tryz.prog 39=some (TyK.slice 27 false 1 24):=by kernel_rfl
theorem Gz:shp Tryz.prog 39=some (false,1):=by kernel_rfl
theorem GA:zer Tryz.prog 39=some [AV.nilSl]:=by kernel_rfl
theorem GB:bE Tryz.prog 39=false:=by kernel_rfl
theorem GC:tyk Tryz.prog 45=some (TyK.struct [(0,(false,1)),(1,(false,1)),(2,(false,1))]):=by kernel_rfl
theorem GD:shp Tryz.prog 45=some (true,3):=by kernel_rfl
theorem GF:zer Tryz.prog 45=some [(AV.int .i64 0),(AV.str []),(AV.str [])]:=by kernel_rfl
theorem GG:bE Tryz.prog 45=false:=by kernel_rfl
theorem GH:fh Tryz.prog 10 45=some [(TyS.si .i64),TyS.ss,TyS.ss]:=by kernel_rfl
theorem GI:Tryz.prog.eqGuardType Tryz.prog.depth 45=false:=by kernel_rfl
theorem zT:bd Tryz.prog 45 0=some (0,false,1):=by kernel_rfl
theorem zU:bd Tryz.prog 45 1=some (1,false,1):=by kernel_rfl
theorem zV:bd Tryz.prog 45 2=some (2,false,1):=by kernel_rfl
theorem GJ:tyk Tryz.prog 48=some (TyK.slice 74 true 3 40):=by kernel_rfl
theorem GK:shp Tryz.prog 48=some (false,1):=by kernel_rfl
theorem GL:zer Tryz.prog 48=some [AV.nilSl]:=by kernel_rfl
theorem GM:bE Tryz.prog 48=false:=by kernel_rfl
theorem GN:tyk Tryz.prog 52=some (TyK.slice 54 true 6 24):=by kernel_rfl
theorem GO:shp Tryz.prog 52=some (false,1):=by kernel_rfl
theorem GP:zer Tryz.prog 52=some [AV.nilSl]:=by kernel_rfl
theorem GQ:bE Tryz.prog 52=false:=by kernel_rfl
theorem GR:tyk Tryz.prog 56=some (TyK.struct [(0,(false,1)),(1,(false,1)),(2,(false,1))]):=by kernel_rfl
theorem GS:shp Tryz.prog 56=some (true,3):=by kernel_rfl
theorem GU:zer Tryz.prog 56=some [(AV.int .i64 0),(AV.int .i64 0),(AV.str [])]:=by kernel_rfl
theorem GV:bE Tryz.prog 56=false:=by kernel_rfl
theorem GW:fh Tryz.prog 10 56=some [(TyS.si .i64),(TyS.si .i64),TyS.ss]:=by kernel_rfl
theorem GX:Tryz.prog.eqGuardType Tryz.prog.depth 56=false:=by kernel_rfl
theorem zW:bd Tryz.prog 56 0=some (0,false,1):=by kernel_rfl
theorem zX:bd Tryz.prog 56 1=some (1,false,1):=by kernel_rfl
theorem zY:bd Tryz.prog 56 2=some (2,false,1):=by kernel_rfl
theorem GY:tyk Tryz.prog 65=some (TyK.struct [(0,(false,1)),(1,(false,1)),(2,(false,1)),(3,(false,1)),(4,(false,1))]):=by kernel_rfl
theorem GZ:shp Tryz.prog 65=some (true,5):=by kernel_rfl
theorem G0:zer Tryz.prog 65=some [(AV.int .u8 0),(AV.int .u8 0),(AV.int .u8 0),(AV.int .u8 0),(AV.str [])]:=by kernel_rfl
theorem G5:bE Tryz.prog 65=false:=by kernel_rfl
theorem zZ:bd Tryz.prog 65 0=some (0,false,1):=by kernel_rfl
theorem z1:bd Tryz.prog 65 1=some (1,false,1):=by kernel_rfl
theorem z6:bd Tryz.prog 65 2=some (2,false,1):=by kernel_rfl
theorem z7:bd Tryz.prog 65 3=some (3,false,1):=by kernel_rfl
theorem z8:bd Tryz.prog 65 4=some (4,false,1):=by kernel_rfl
theorem G6:tyk Tryz.prog 74=some (TyK.struct [(0,(false,1)),(1,(false,1)),(2,(false,1))]):=by kernel_rfl
theorem G7:shp Tryz.prog 74=some (true,3):=by kernel_rfl
theorem G8:zer Tryz.prog 74=some [(AV.str []),(AV.bool false),(AV.str [])]:=by kernel_rfl
theorem G9:bE Tryz.prog 74=false:=by kernel_rfl
theorem Aa:bd Tryz.prog 74 0=some (0,false,1):=by kernel_rfl
theorem Ac:bd Tryz.prog 74 1=some (1,false,1):=by kernel_rfl
theorem Ad:bd Tryz.prog 74 2=some (2,false,1):=by kernel_rfl
theorem Ha:tyk Tryz.prog 91=some (TyK.struct [(0,(false,1)),(1,(false,1)),(2,(false,1))]):=by kernel_rfl
theorem Hb:shp Tryz.prog 91=some (true,3):=by kernel_rfl
theorem Hc:zer Tryz.prog 91=some [AV.nilPtr,(AV.str []),(AV.int .i64 0)]:=by kernel_rfl
theorem Hd:bE Tryz.prog 91=false:=by kernel_rfl
theorem Ae:bd Tryz.prog 91 0=some (0,false,1):=by kernel_rfl
theorem Af:bd Tryz.prog 91 1=some (1,false,1):=by kernel_rfl
theorem Ag:bd Tryz.prog 91 2=some (2,false,1):=by kernel_rfl
theorem He:tyk Tryz.prog 96=some (TyK.struct [(0,(false,1)),(1,(false,1)),(2,(false,1))]):=by kernel_rfl
theorem Hf:shp Tryz.prog 96=some (true,3):=by kernel_rfl
theorem Hh:zer Tryz.prog 96=some [AV.nilPtr,(AV.str []),(AV.int .i64 0)]:=by kernel_rfl
theorem Hi:bE Tryz.prog 96=false:=by kernel_rfl
theorem Ah:bd Tryz.prog 96 0=some (0,false,1):=by kernel_rfl
theorem Ai:bd Tryz.prog 96 1=some (1,false,1):=by kernel_rfl
theorem Aj:bd Tryz.prog 96 2=some (2,false,1):=by kernel_rfl
theorem Cs:tyk Tryz.prog 100=some (TyK.ptr 109):=by kernel_rfl
theorem Ct:shp Tryz.prog 100=some (false,1):=by kernel_rfl
theorem Cu:zer Tryz.prog 100=some [AV.nilPtr]:=by kernel_rfl
theorem Cv:bE Tryz.prog 100=false:=by kernel_rfl
theorem Cw:tyk Tryz.prog 102=some (TyK.map 9 56):=by kernel_rfl
theorem Cx:shp Tryz.prog 102=some (false,1):=by kernel_rfl
theorem Cy:zer Tryz.prog 102=some [AV.nilMap]:=by kernel_rfl
theorem Cz:bE Tryz.prog 102=false:=by kernel_rfl
theorem CA:oL Tryz.prog 102=some ([TyS.ss],(false,(AV.agg [(AV.int .i64 0),(AV.int .i64 0),(AV.str [])]))):=by kernel_rfl
theorem CB:kG Tryz.prog 102=some ([TyS.ss],false):=by kernel_rfl
theorem CD:tyk Tryz.prog 105=some (TyK.struct [(0,(false,1)),(1,(false,1))]):=by kernel_rfl
theorem CE:shp Tryz.prog 105=some (true,2):=by kernel_rfl
theorem CF:zer Tryz.prog 105=some [AV.nilMap,AV.nilPtr]:=by kernel_rfl
theorem CG:bE Tryz.prog 105=false:=by kernel_rfl
theorem wX:bd Tryz.prog 105 0=some (0,false,1):=by kernel_rfl
theorem wY:bd Tryz.prog 105 1=some (1,false,1):=by kernel_rfl
theorem CH:tyk Tryz.prog 106=some (TyK.map 119 9):=by kernel_rfl
theorem CI:shp Tryz.prog 106=some (false,1):=by kernel_rfl
theorem CJ:zer Tryz.prog 106=some [AV.nilMap]:=by kernel_rfl
theorem CK:bE Tryz.prog 106=false:=by kernel_rfl
theorem CL:oL Tryz.prog 106=some ([TyS.ss,TyS.sb],(true,(AV.str []))):=by kernel_rfl
theorem CM:tyk Tryz.prog 107=some (TyK.map 9 4):=by kernel_rfl
theorem CN:shp Tryz.prog 107=some (false,1):=by kernel_rfl
theorem CO:zer Tryz.prog 107=some [AV.nilMap]:=by kernel_rfl
theorem CP:bE Tryz.prog 107=false:=by kernel_rfl
theorem CQ:oL Tryz.prog 107=some ([TyS.ss],(false,(AV.bool false))):=by kernel_rfl
theorem CR:tyk Tryz.prog 109=some (TyK.struct [(0,(false,1)),(1,(false,1)),(2,(false,1))]):=by kernel_rfl
theorem CS:shp Tryz.prog 109=some (true,3):=by kernel_rfl
theorem CT:zer Tryz.prog 109=some [AV.nilMap,AV.nilMap,AV.nilMap]:=by kernel_rfl
theorem CU:bE Tryz.prog 109=false:=by kernel_rfl
theorem wZ:bd Tryz.prog 109 0=some (0,false,1):=by kernel_rfl
theorem w5:bd Tryz.prog 109 1=some (1,false,1):=by kernel_rfl
theorem w6:bd Tryz.prog 109 2=some (2,false,1):=by kernel_rfl
theorem CV:tyk Tryz.prog 113=some (TyK.map 9 110):=by kernel_rfl
theorem CW:shp Tryz.prog 113=some (false,1):=by kernel_rfl
theorem CX:zer Tryz.prog 113=some [AV.nilMap]:=by kernel_rfl
theorem CY:bE Tryz.prog 113=false:=by kernel_rfl
theorem CZ:oL Tryz.prog 113=some ([TyS.ss],(false,AV.nilFn)):=by kernel_rfl
theorem C0:kG Tryz.prog 113=some ([TyS.ss],false):=by kernel_rfl
theorem C2:tyk Tryz.prog 117=some (TyK.struct [(0,(false,1)),(1,(false,1)),(2,(false,1)),(3,(true,3))]):=by kernel_rfl
theorem C3:shp Tryz.prog 117=some (true,6):=by kernel_rfl
theorem C4:zer Tryz.prog 117=some [AV.nilPtr,(AV.str []),(AV.str []),(AV.int .i64 0),(AV.str []),(AV.str [])]:=by kernel_rfl
theorem C5:bE Tryz.prog 117=false:=by kernel_rfl
theorem w7:bd Tryz.prog 117 0=some (0,false,1):=by kernel_rfl
theorem w9:bd Tryz.prog 117 1=some (1,false,1):=by kernel_rfl
theorem xa:bd Tryz.prog 117 2=some (2,false,1):=by kernel_rfl
theorem xb:bd Tryz.prog 117 3=some (3,true,3):=by kernel_rfl
theorem C6:tyk Tryz.prog 119=some (TyK.struct [(0,(false,1)),(1,(false,1))]):=by kernel_rfl
theorem C7:shp Tryz.prog 119=some (true,2):=by kernel_rfl
theorem C8:zer Tryz.prog 119=some [(AV.str []),(AV.bool false)]:=by kernel_rfl
theorem C9:bE Tryz.prog 119=false:=by kernel_rfl
theorem xc:bd Tryz.prog 119 0=some (0,false,1):=by kernel_rfl
theorem xd:bd Tryz.prog 119 1=some (1,false,1):=by kernel_rfl
theorem Da:tyk Tryz.prog 153=some (TyK.struct [(0,(false,1)),(1,(false,1)),(2,(false,1)),(3,(false,1)),(4,(false,1)),(5,(false,1))]):=by kernel_rfl
theorem Db:shp Tryz.prog 153=some (true,6):=by kernel_rfl
theorem Dc:zer Tryz.prog 153=some [AV.nilPtr,(AV.str []),AV.nilSl,(AV.int .i64 0),(AV.bool false),(AV.bool false)]:=by kernel_rfl
theorem Dd:bE Tryz.prog 153=false:=by kernel_rfl
theorem xe:bd Tryz.prog 153 0=some (0,false,1):=by kernel_rfl
theorem xf:bd Tryz.prog 153 1=some (1,false,1):=by kernel_rfl
theorem xg:bd Tryz.prog 153 2=some (2,false,1):=by kernel_rfl
theorem xh:bd Tryz.prog 153 3=some (3,false,1):=by kernel_rfl
theorem xi:bd Tryz.prog 153 4=some (4,false,1):=by kernel_rfl
theorem xj:bd Tryz.prog 153 5=some (5,false,1):=by kernel_rfl
theorem De:tyk Tryz.prog 156=some (TyK.slice 161 true 4 48):=by kernel_rfl
theorem Df:shp Tryz.prog 156=some (false,1):=by kernel_rfl
theorem Dg:zer Tryz.prog 156=some [AV.nilSl]:=by kernel_rfl
theorem Dh:bE Tryz.prog 156=false:=by kernel_rfl
theorem Di:tyk Tryz.prog 158=some (TyK.struct [(0,(false,1)),(1,(false,1)),(2,(false,1)),(3,(false,1)),(4,(false,1))]):=by kernel_rfl
theorem Dj:shp Tryz.prog 158=some (true,5):=by kernel_rfl
theorem Dk:zer Tryz.prog 158=some [AV.nilSl,AV.nilSl,AV.nilSl,AV.nilSl,(AV.bool false)]:=by kernel_rfl
theorem Dl:bE Tryz.prog 158=false:=by kernel_rfl
theorem xk:bd Tryz.prog 158 0=some (0,false,1):=by kernel_rfl
theorem xl:bd Tryz.prog 158 1=some (1,false,1):=by kernel_rfl
theorem xm:bd Tryz.prog 158 2=some (2,false,1):=by kernel_rfl
theorem xn:bd Tryz.prog 158 3=some (3,false,1):=by kernel_rfl
theorem xo:bd Tryz.prog 158 4=some (4,false,1):=by kernel_rfl
theorem Dm:tyk Tryz.prog 161=some (TyK.struct [(0,(false,1)),(1,(true,3))]):=by kernel_rfl
theorem Dn:shp Tryz.prog 161=some (true,4):=by kernel_rfl
theorem Dp:zer Tryz.prog 161=some [(AV.str []),(AV.int .i64 0),(AV.int .i64 0),(AV.str [])]:=by kernel_rfl
theorem Dq:bE Tryz.prog 161=false:=by kernel_rfl
theorem xp:bd Tryz.prog 161 0=some (0,false,1):=by kernel_rfl
theorem xq:bd Tryz.prog 161 1=some (1,true,3):=by kernel_rfl
theorem Dr:tyk Tryz.prog 174=some (TyK.arr 2 9 false 1):=by kernel_rfl
theorem Ds:shp Tryz.prog 174=some (true,2):=by kernel_rfl
theorem Dt:zer Tryz.prog 174=some [(AV.str []),(AV.str [])]:=by kernel_rfl
theorem Du:bE Tryz.prog 174=false:=by kernel_rfl
theorem Dv:tyk Tryz.prog 192=some (TyK.slice 5 false 1 1):=by kernel_rfl
theorem Dw:shp Tryz.prog 192=some (false,1):=by kernel_rfl
theorem Dx:zer Tryz.prog 192=some [AV.nilSl]:=by kernel_rfl
theorem Dy:bE Tryz.prog 192=false:=by kernel_rfl
theorem Dz:tyk Tryz.prog 194=some (TyK.struct [(0,(false,1)),(1,(false,1))]):=by kernel_rfl
theorem DA:shp Tryz.prog 194=some (true,2):=by kernel_rfl
theorem DB:zer Tryz.prog 194=some [AV.nilPtr,AV.nilSl]:=by kernel_rfl
theorem DC:bE Tryz.prog 194=true:=by kernel_rfl
theorem xr:bd Tryz.prog 194 1=some (1,false,1):=by kernel_rfl
theorem DD:tyk Tryz.prog 196=some (TyK.iface 1):=by kernel_rfl
theorem DE:shp Tryz.prog 196=some (false,1):=by kernel_rfl
theorem DF:zer Tryz.prog 196=some [AV.nilIface]:=by kernel_rfl
theorem DG:bE Tryz.prog 196=false:=by kernel_rfl
theorem DH:tyk Tryz.prog 250=some (TyK.ptr 5):=by kernel_rfl
theorem DI:shp Tryz.prog 250=some (false,1):=by kernel_rfl
theorem DK:zer Tryz.prog 250=some [AV.nilPtr]:=by kernel_rfl
theorem DL:bE Tryz.prog 250=false:=by kernel_rfl
attribute [go_sem] H8 H9 Ia Ib Ic Ie Ig Ih Ii Ij Ik Il
attribute [go_sem] Im Io Ip Iq
attribute [go_sem] FH FI FJ FK
attribute [go_sem] FL FM FN FO FP FQ FR FT FU FV FW FX FY FZ Ga Gb Gc Gd Ge Gf
attribute [go_sem] Gg Gi Gj Gk Gl Gm Gn Gp Gq Gr Gs Gt Gu Gv Gw Gx zP zQ zR zS
attribute [go_sem] Gy Gz GA GB GC GD GF GG GH GI zT
attribute [go_sem] zU zV GJ GK GL GM GN GO GP GQ
attribute [go_sem] GR GS GU GV GW GX zW zX zY
attribute [go_sem] GY GZ G0 G5 zZ z1 z6
attribute [go_sem] z7 z8
attribute [go_sem] G6 G7 G8 G9 Aa Ac Ad
attribute [go_sem] Ha Hb Hc Hd Ae Af Ag He Hf Hh Hi Ah Ai Aj
attribute [go_sem] Cs Ct Cu Cv Cw Cx Cy Cz CA CB CD CE CF CG wX wY
attribute [go_sem] CH CI CJ CK CL CM CN CO CP CQ CR CS CT CU wZ w5 w6 CV CW
attribute [go_sem] CX CY CZ C0 C2 C3 C4 C5 w7 w9 xa xb C6 C7 C8 C9
attribute [go_sem] xc xd
attribute [go_sem] Da Db Dc Dd xe xf xg xh xi xj
attribute [go_sem] De Df Dg Dh Di Dj Dk Dl xk xl xm xn xo Dm Dn Dp Dq
attribute [go_sem] xp xq
attribute [go_sem] Dr Ds Dt Du
attribute [go_sem] Dv Dw Dx Dy Dz DA DB DC xr DD DE DF DG
attribute [go_sem] DH DI DK DL
theorem mixed:Tryz.prog.follows .mixedOrders=true:=by kernel_rfl
end Go.Proofs.YtfbnaalhioogoaaGreatDoor
namespace Go.Proofs.YtfbnaalhioogoaaGreatDoor
open Go
set_option maxRecDepth 100000
set_option maxHeartbeats 1000000
theorem vF:((Tryz.prog.info? 194).map (·.size))=some 2:=by kernel_rfl
theorem DM:liesAt Tryz.prog Tryz.prog.depth 194 (2 / Tryz.prog.cellsOf 194) 0 194 1=true:=by kernel_rfl
theorem nG (b:Nat) (w:World) (h0:w.cell? ⟨b,0,none⟩=some (.pointer (some ⟨b,0,none⟩))) :
  Calls Tryz.prog 253 #[.pointer (some ⟨b,0,none⟩)] w fun e w'=>e = .returned (.tuple #[])∧w' = w:=by
 obtain ⟨j,hj,_⟩:=Option.map_eq_some_iff.1 vF
 go_enter Tryz.func253,Tryz.ntmps253
 go_wp2
 rw [Lib.run_neq_ptr_same w _ Tryz.underlying190 hj]
 go_wp2
 go_end0
 exact ⟨rfl,rfl⟩
theorem mC (b:Nat) (w:World) (h0:w.cell? ⟨b,0,none⟩=some (.pointer none)) (hsh:w.shape? b=some (194,2)) (hfz:w.frozen? ⟨b,0,none⟩=false) :
  Calls Tryz.prog 253 #[.pointer (some ⟨b,0,none⟩)] w fun e w'=>e = .returned (.tuple #[])∧w' = w.setCell ⟨b,0,none⟩ (.pointer (some ⟨b,0,none⟩)):=by
 obtain ⟨j,hj,hjs⟩:=Option.map_eq_some_iff.1 vF
 go_enter Tryz.func253,Tryz.ntmps253
 go_wp2
 rw [Lib.run_to_unsafe w ⟨b,0,none⟩ Tryz.underlying190 Tryz.underlying272 hj (by rw [hjs];decide) hsh (Nat.zero_lt_succ 1)]
 simp only [Result.andThen]
 rw [Oper.upon_value]
 go_wp2
 rw [run_callFunc_extern Tryz.func298 (by kernel_rfl) (by kernel_rfl) (by kernel_rfl) (e:=Extern.AbiNoEscape.same) (by kernel_rfl)]
 rw [Lib.run_noEscape]
 simp only [Result.andThen]
 rw [Oper.upon_value]
 go_wp2
 rw [Lib.run_from_unsafe w ⟨b,0,none⟩ Tryz.underlying272 Tryz.underlying190 hj hsh DM]
 simp only [Result.andThen]
 rw [Oper.upon_value]
 go_wp2
 go_end0
 exact ⟨rfl,rfl⟩
end Go.Proofs.YtfbnaalhioogoaaGreatDoor
namespace Go.Proofs
open Go.Shelf
def Tryz.sJ:Go.Shelf.Ren:=⟨fun|162=>279|232=>313|227=>314|234=>315|236=>316|228=>335|271=>336|151=>337|120=>346|197=>333|152=>347|260=>345|137=>348|119=>349|224=>328|225=>327|217=>326|266=>341|n=>n,fun|9=>9|4=>4|3=>3|5=>5|117=>288|116=>287|0=>0|124=>291|21=>21|105=>305|46=>179|119=>320|139=>323|138=>322|n=>n,fun|3=>6|4=>7|n=>n⟩
theorem Tryz.DN:Go.Proofs.Lays.n162 Tryz.prog Tryz.sJ:={
 mixed:=by kernel_rfl
 f119:=Tryz.func349.trans (congrArg some (by kernel_rfl))
 f120:=Tryz.func346.trans (congrArg some (by kernel_rfl))
 f137:=Tryz.func348.trans (congrArg some (by kernel_rfl))
 f151:=Tryz.func337.trans (congrArg some (by kernel_rfl))
 f152:=Tryz.func347.trans (congrArg some (by kernel_rfl))
 f162:=Tryz.func279.trans (congrArg some (by kernel_rfl))
 f197:=Tryz.func333.trans (congrArg some (by kernel_rfl))
 f217:=Tryz.func326.trans (congrArg some (by kernel_rfl))
 f224:=Tryz.func328.trans (congrArg some (by kernel_rfl))
 f225:=Tryz.func327.trans (congrArg some (by kernel_rfl))
 f227:=Tryz.func314.trans (congrArg some (by kernel_rfl))
 f228:=Tryz.func335.trans (congrArg some (by kernel_rfl))
 f232:=Tryz.func313.trans (congrArg some (by kernel_rfl))
 f234:=Tryz.func315.trans (congrArg some (by kernel_rfl))
 f236:=Tryz.func316.trans (congrArg some (by kernel_rfl))
 f260:=Tryz.func345.trans (congrArg some (by kernel_rfl))
 f266:=Tryz.func341.trans (congrArg some (by kernel_rfl))
 f271:=Tryz.func336.trans (congrArg some (by kernel_rfl))
 t0:=Tryz.underlying0
 a0:=Tryz.isAgg0
 z0:=Tryz.sizeOf0
 v0:=Tryz.zeroValue0
 t3:=Tryz.underlying3
 a3:=Tryz.isAgg3
 z3:=Tryz.sizeOf3
 v3:=Tryz.zeroValue3
 t4:=Tryz.underlying4
 a4:=Tryz.isAgg4
 z4:=Tryz.sizeOf4
 v4:=Tryz.zeroValue4
 t5:=Tryz.underlying5
 a5:=Tryz.isAgg5
 z5:=Tryz.sizeOf5
 v5:=Tryz.zeroValue5
 t9:=Tryz.underlying9
 a9:=Tryz.isAgg9
 z9:=Tryz.sizeOf9
 v9:=Tryz.zeroValue9
 t21:=Tryz.underlying21
 a21:=Tryz.isAgg21
 z21:=Tryz.sizeOf21
 v21:=Tryz.zeroValue21
 t46:=Tryz.underlying179
 a46:=Tryz.isAgg179
 z46:=Tryz.sizeOf179
 v46:=Tryz.zeroValue179
 t105:=Tryz.underlying305
 a105:=Tryz.isAgg305
 z105:=Tryz.sizeOf305
 v105:=Tryz.zeroValue305
 t116:=Tryz.underlying287
 a116:=Tryz.isAgg287
 z116:=Tryz.sizeOf287
 t117:=Tryz.underlying288
 a117:=Tryz.isAgg288
 z117:=Tryz.sizeOf288
 v117:=Tryz.zeroValue288
 t119:=Tryz.underlying320
 a119:=Tryz.isAgg320
 z119:=Tryz.sizeOf320
 t124:=Tryz.underlying291
 a124:=Tryz.isAgg291
 z124:=Tryz.sizeOf291
 v124:=Tryz.zeroValue291
 t138:=Tryz.underlying322
 a138:=Tryz.isAgg322
 z138:=Tryz.sizeOf322
 v138:=Tryz.zeroValue322
 t139:=Tryz.underlying323
 a139:=Tryz.isAgg323
 z139:=Tryz.sizeOf323
 v139:=Tryz.zeroValue323
 g3:=by kernel_rfl
 g4:=by kernel_rfl }
open Go.RowKit in
theorem Tryz.strings_TrimRight_one (s:ByteArray) (c:UInt8) (hc:c.toNat < 128) (w:World) (hs:s.size≤9223372036854775807) :
  Calls Tryz.prog 279 #[.string s,.string ⟨#[c]⟩] w fun e w'=>e = .returned (.string ⟨(Lib.trimRightB s.data.toList c).toArray⟩)∧w' = w:=Any.strings_TrimRight_one Tryz.DN s c hc w hs
def Tryz.qT:Go.Shelf.Ren:=⟨fun|171=>98|243=>180|246=>254|283=>299|284=>300|285=>301|286=>302|129=>244|317=>322|318=>323|319=>324|320=>325|337=>339|338=>340|n=>n,fun|3=>3|9=>9|2=>2|4=>4|171=>274|0=>0|53=>238|37=>192|5=>5|173=>276|212=>298|51=>187|20=>20|213=>299|46=>179|232=>318|233=>319|n=>n,fun|17=>1|18=>4|19=>5|n=>n⟩
theorem Tryz.Ak:Go.Proofs.LaysM.n171 Tryz.prog Tryz.qT:={
 mixed:=by kernel_rfl
 f129:=Tryz.func244.trans (congrArg some (by kernel_rfl))
 f171:=Tryz.func98.trans (congrArg some (by kernel_rfl))
 f243:=Tryz.func180.trans (congrArg some (by kernel_rfl))
 f246:=Tryz.func254.trans (congrArg some (by kernel_rfl))
 f283:=Tryz.func299.trans (congrArg some (by kernel_rfl))
 f284:=Tryz.func300.trans (congrArg some (by kernel_rfl))
 f285:=Tryz.func301.trans (congrArg some (by kernel_rfl))
 f286:=Tryz.func302.trans (congrArg some (by kernel_rfl))
 f317:=Tryz.func322.trans (congrArg some (by kernel_rfl))
 f318:=Tryz.func323.trans (congrArg some (by kernel_rfl))
 f319:=Tryz.func324.trans (congrArg some (by kernel_rfl))
 f320:=Tryz.func325.trans (congrArg some (by kernel_rfl))
 f337:=Tryz.func339.trans (congrArg some (by kernel_rfl))
 f338:=Tryz.func340.trans (congrArg some (by kernel_rfl))
 t0:=Tryz.underlying0
 a0:=Tryz.isAgg0
 z0:=Tryz.sizeOf0
 v0:=Tryz.zeroValue0
 t2:=Tryz.underlying2
 a2:=Tryz.isAgg2
 z2:=Tryz.sizeOf2
 v2:=Tryz.zeroValue2
 t3:=Tryz.underlying3
 a3:=Tryz.isAgg3
 z3:=Tryz.sizeOf3
 v3:=Tryz.zeroValue3
 t4:=Tryz.underlying4
 a4:=Tryz.isAgg4
 z4:=Tryz.sizeOf4
 v4:=Tryz.zeroValue4
 t5:=Tryz.underlying5
 a5:=Tryz.isAgg5
 z5:=Tryz.sizeOf5
 v5:=Tryz.zeroValue5
 t9:=Tryz.underlying9
 a9:=Tryz.isAgg9
 z9:=Tryz.sizeOf9
 v9:=Tryz.zeroValue9
 t20:=Tryz.underlying20
 a20:=Tryz.isAgg20
 z20:=Tryz.sizeOf20
 v20:=Tryz.zeroValue20
 t37:=Tryz.underlying192
 a37:=Tryz.isAgg192
 z37:=Tryz.sizeOf192
 v37:=Tryz.zeroValue192
 t46:=Tryz.underlying179
 a46:=Tryz.isAgg179
 z46:=Tryz.sizeOf179
 v46:=Tryz.zeroValue179
 t51:=Tryz.underlying187
 a51:=Tryz.isAgg187
 z51:=Tryz.sizeOf187
 v51:=Tryz.zeroValue187
 t53:=Tryz.underlying238
 a53:=Tryz.isAgg238
 z53:=Tryz.sizeOf238
 v53:=Tryz.zeroValue238
 t171:=Tryz.underlying274
 a171:=Tryz.isAgg274
 z171:=Tryz.sizeOf274
 v171:=Tryz.zeroValue274
 t173:=Tryz.underlying276
 a173:=Tryz.isAgg276
 z173:=Tryz.sizeOf276
 v173:=Tryz.zeroValue276
 t212:=Tryz.underlying298
 a212:=Tryz.isAgg298
 z212:=Tryz.sizeOf298
 v212:=Tryz.zeroValue298
 t213:=Tryz.underlying299
 a213:=Tryz.isAgg299
 z213:=Tryz.sizeOf299
 t232:=Tryz.underlying318
 a232:=Tryz.isAgg318
 z232:=Tryz.sizeOf318
 v232:=Tryz.zeroValue318
 t233:=Tryz.underlying319
 a233:=Tryz.isAgg319
 z233:=Tryz.sizeOf319
 v233:=Tryz.zeroValue319
 g17:=by kernel_rfl
 g18:=by kernel_rfl
 g19:=by kernel_rfl
 i0:=by kernel_rfl
 i2:=by kernel_rfl
 i3:=by kernel_rfl
 i4:=by kernel_rfl
 i5:=by kernel_rfl
 i9:=by kernel_rfl
 i20:=by kernel_rfl
 i37:=by kernel_rfl
 i46:=by kernel_rfl
 i51:=by kernel_rfl
 i53:=by kernel_rfl
 i171:=by kernel_rfl
 i173:=by kernel_rfl
 i212:=by kernel_rfl
 i232:=by kernel_rfl
 i233:=by kernel_rfl
 m17:=by kernel_rfl
 m18:=by kernel_rfl
 m19:=by kernel_rfl }
open Go.RowKit Go.Sort Go.Lib in
theorem Tryz.strconv_Itoa (n:Int) (h0:-9223372036854775808≤n) (h1:n≤9223372036854775807) (w:World) (htab:Lib.TabIs Tryz.prog w "internal/strconv.uint64pow10" .u64 Lib.pow10Tab) :
  Calls Tryz.prog 98 #[.int .i64 n] w fun e w'=>e = .returned (.string ⟨(Lib.itoa n).toArray⟩)∧∃ k os,w' = grow (w.drewN k) os:=Any.strconv_Itoa Tryz.Ak n h0 h1 w htab
def Tryz.qU:Go.Shelf.Ren:=⟨fun|172=>183|244=>257|245=>258|247=>304|279=>305|280=>306|281=>307|282=>308|287=>330|316=>331|171=>98|205=>332|321=>343|322=>344|243=>180|246=>254|283=>299|284=>300|285=>301|286=>302|129=>244|317=>322|318=>323|319=>324|320=>325|337=>339|338=>340|n=>n,fun|9=>9|3=>3|75=>196|76=>197|4=>4|5=>5|167=>278|37=>192|0=>0|85=>279|2=>2|168=>281|53=>238|175=>300|46=>179|210=>303|127=>250|145=>316|143=>314|21=>21|171=>274|173=>276|212=>298|51=>187|20=>20|213=>299|232=>318|233=>319|80=>185|n=>n,fun|15=>2|16=>3|17=>1|18=>4|19=>5|n=>n⟩
theorem Tryz.nH:Go.Proofs.LaysC.n172 Tryz.prog Tryz.qU:={
 mixed:=by kernel_rfl
 f129:=Tryz.func244.trans (congrArg some (by kernel_rfl))
 f171:=Tryz.func98.trans (congrArg some (by kernel_rfl))
 f172:=Tryz.func183.trans (congrArg some (by kernel_rfl))
 f205:=Tryz.func332.trans (congrArg some (by kernel_rfl))
 f243:=Tryz.func180.trans (congrArg some (by kernel_rfl))
 f244:=Tryz.func257.trans (congrArg some (by kernel_rfl))
 f245:=Tryz.func258.trans (congrArg some (by kernel_rfl))
 f246:=Tryz.func254.trans (congrArg some (by kernel_rfl))
 f247:=Tryz.func304.trans (congrArg some (by kernel_rfl))
 f279:=Tryz.func305.trans (congrArg some (by kernel_rfl))
 f280:=Tryz.func306.trans (congrArg some (by kernel_rfl))
 f281:=Tryz.func307.trans (congrArg some (by kernel_rfl))
 f282:=Tryz.func308.trans (congrArg some (by kernel_rfl))
 f283:=Tryz.func299.trans (congrArg some (by kernel_rfl))
 f284:=Tryz.func300.trans (congrArg some (by kernel_rfl))
 f285:=Tryz.func301.trans (congrArg some (by kernel_rfl))
 f286:=Tryz.func302.trans (congrArg some (by kernel_rfl))
 f287:=Tryz.func330.trans (congrArg some (by kernel_rfl))
 f316:=Tryz.func331.trans (congrArg some (by kernel_rfl))
 f317:=Tryz.func322.trans (congrArg some (by kernel_rfl))
 f318:=Tryz.func323.trans (congrArg some (by kernel_rfl))
 f319:=Tryz.func324.trans (congrArg some (by kernel_rfl))
 f320:=Tryz.func325.trans (congrArg some (by kernel_rfl))
 f321:=Tryz.func343.trans (congrArg some (by kernel_rfl))
 f322:=Tryz.func344.trans (congrArg some (by kernel_rfl))
 f337:=Tryz.func339.trans (congrArg some (by kernel_rfl))
 f338:=Tryz.func340.trans (congrArg some (by kernel_rfl))
 t0:=Tryz.underlying0
 a0:=Tryz.isAgg0
 z0:=Tryz.sizeOf0
 v0:=Tryz.zeroValue0
 t2:=Tryz.underlying2
 a2:=Tryz.isAgg2
 z2:=Tryz.sizeOf2
 v2:=Tryz.zeroValue2
 t3:=Tryz.underlying3
 a3:=Tryz.isAgg3
 z3:=Tryz.sizeOf3
 v3:=Tryz.zeroValue3
 t4:=Tryz.underlying4
 a4:=Tryz.isAgg4
 z4:=Tryz.sizeOf4
 v4:=Tryz.zeroValue4
 t5:=Tryz.underlying5
 a5:=Tryz.isAgg5
 z5:=Tryz.sizeOf5
 v5:=Tryz.zeroValue5
 t9:=Tryz.underlying9
 a9:=Tryz.isAgg9
 z9:=Tryz.sizeOf9
 v9:=Tryz.zeroValue9
 t20:=Tryz.underlying20
 a20:=Tryz.isAgg20
 z20:=Tryz.sizeOf20
 v20:=Tryz.zeroValue20
 t21:=Tryz.underlying21
 a21:=Tryz.isAgg21
 z21:=Tryz.sizeOf21
 v21:=Tryz.zeroValue21
 t37:=Tryz.underlying192
 a37:=Tryz.isAgg192
 z37:=Tryz.sizeOf192
 v37:=Tryz.zeroValue192
 t46:=Tryz.underlying179
 a46:=Tryz.isAgg179
 z46:=Tryz.sizeOf179
 v46:=Tryz.zeroValue179
 t51:=Tryz.underlying187
 a51:=Tryz.isAgg187
 z51:=Tryz.sizeOf187
 v51:=Tryz.zeroValue187
 t53:=Tryz.underlying238
 a53:=Tryz.isAgg238
 z53:=Tryz.sizeOf238
 v53:=Tryz.zeroValue238
 t75:=Tryz.underlying196
 a75:=Tryz.isAgg196
 z75:=Tryz.sizeOf196
 v75:=Tryz.zeroValue196
 t76:=Tryz.underlying197
 a76:=Tryz.isAgg197
 z76:=Tryz.sizeOf197
 v76:=Tryz.zeroValue197
 t85:=Tryz.underlying279
 a85:=Tryz.isAgg279
 z85:=Tryz.sizeOf279
 v85:=Tryz.zeroValue279
 t127:=Tryz.underlying250
 a127:=Tryz.isAgg250
 z127:=Tryz.sizeOf250
 v127:=Tryz.zeroValue250
 t143:=Tryz.underlying314
 a143:=Tryz.isAgg314
 z143:=Tryz.sizeOf314
 v143:=Tryz.zeroValue314
 t145:=Tryz.underlying316
 a145:=Tryz.isAgg316
 z145:=Tryz.sizeOf316
 v145:=Tryz.zeroValue316
 t167:=Tryz.underlying278
 a167:=Tryz.isAgg278
 z167:=Tryz.sizeOf278
 v167:=Tryz.zeroValue278
 t168:=Tryz.underlying281
 a168:=Tryz.isAgg281
 z168:=Tryz.sizeOf281
 v168:=Tryz.zeroValue281
 t171:=Tryz.underlying274
 a171:=Tryz.isAgg274
 z171:=Tryz.sizeOf274
 v171:=Tryz.zeroValue274
 t173:=Tryz.underlying276
 a173:=Tryz.isAgg276
 z173:=Tryz.sizeOf276
 v173:=Tryz.zeroValue276
 t175:=Tryz.underlying300
 a175:=Tryz.isAgg300
 z175:=Tryz.sizeOf300
 v175:=Tryz.zeroValue300
 t210:=Tryz.underlying303
 a210:=Tryz.isAgg303
 z210:=Tryz.sizeOf303
 v210:=Tryz.zeroValue303
 t212:=Tryz.underlying298
 a212:=Tryz.isAgg298
 z212:=Tryz.sizeOf298
 v212:=Tryz.zeroValue298
 t213:=Tryz.underlying299
 a213:=Tryz.isAgg299
 z213:=Tryz.sizeOf299
 t232:=Tryz.underlying318
 a232:=Tryz.isAgg318
 z232:=Tryz.sizeOf318
 v232:=Tryz.zeroValue318
 t233:=Tryz.underlying319
 a233:=Tryz.isAgg319
 z233:=Tryz.sizeOf319
 v233:=Tryz.zeroValue319
 g15:=by kernel_rfl
 g16:=by kernel_rfl
 g17:=by kernel_rfl
 g18:=by kernel_rfl
 g19:=by kernel_rfl
 t80:=Tryz.underlying185
 a80:=Tryz.isAgg185
 z80:=Tryz.sizeOf185
 v80:=Tryz.zeroValue185
 i0:=by kernel_rfl
 i2:=by kernel_rfl
 i3:=by kernel_rfl
 i4:=by kernel_rfl
 i5:=by kernel_rfl
 i9:=by kernel_rfl
 i20:=by kernel_rfl
 i21:=by kernel_rfl
 i37:=by kernel_rfl
 i46:=by kernel_rfl
 i51:=by kernel_rfl
 i53:=by kernel_rfl
 i75:=by kernel_rfl
 i76:=by kernel_rfl
 i80:=by kernel_rfl
 i85:=by kernel_rfl
 i127:=by kernel_rfl
 i143:=by kernel_rfl
 i145:=by kernel_rfl
 i167:=by kernel_rfl
 i168:=by kernel_rfl
 i171:=by kernel_rfl
 i173:=by kernel_rfl
 i175:=by kernel_rfl
 i210:=by kernel_rfl
 i212:=by kernel_rfl
 i232:=by kernel_rfl
 i233:=by kernel_rfl
 m15:=by kernel_rfl
 m16:=by kernel_rfl
 m17:=by kernel_rfl
 m18:=by kernel_rfl
 m19:=by kernel_rfl
 c0:=by kernel_rfl
 c2:=by kernel_rfl
 c3:=by kernel_rfl
 c4:=by kernel_rfl
 c5:=by kernel_rfl
 c9:=by kernel_rfl
 c20:=by kernel_rfl
 c21:=by kernel_rfl
 c37:=by kernel_rfl
 c46:=by kernel_rfl
 c51:=by kernel_rfl
 c53:=by kernel_rfl
 c75:=by kernel_rfl
 c76:=by kernel_rfl
 c80:=by kernel_rfl
 c85:=by kernel_rfl
 c127:=by kernel_rfl
 c143:=by kernel_rfl
 c145:=by kernel_rfl
 c167:=by kernel_rfl
 c168:=by kernel_rfl
 c171:=by kernel_rfl
 c173:=by kernel_rfl
 c175:=by kernel_rfl
 c210:=by kernel_rfl
 c212:=by kernel_rfl
 c213:=by kernel_rfl
 c232:=by kernel_rfl
 c233:=by kernel_rfl }
open Go.RowKit in
theorem Tryz.strconv_Atoi_ok (s:ByteArray) (hmax:s.size≤9223372036854775806) (v:Int) (h:Lib.atoiAll s.data.toList = .ok v) (w:World) :
  Calls Tryz.prog 183 #[.string s] w fun e w'=>e = .returned (.tuple #[.int .i64 v,.nilIface])∧(w' = w∨∃ t,w' = Lib.bytesWorld w 5 t):=Any.strconv_Atoi_ok Tryz.nH s hmax v h w
open Go.RowKit in
theorem Tryz.strconv_Atoi_range (s:ByteArray) (hlim:s.size≤281474976710656) (h:Lib.atoiAll s.data.toList = .range) (ev:Value) (w:World) (hv:w.cell? ⟨3,0,none⟩=some ev) (hev:ev = .nilIface∨∃ te pe,ev = .iface te pe) :
  Calls Tryz.prog 183 #[.string s] w fun e w'=>∃ N,e = .returned (.tuple #[.int .i64 (Lib.atoiSat s.data.toList),.iface 281 (.pointer (some ⟨N,0,none⟩))])∧w.heap.size≤N∧w'.heap[N]? = some (.cells #[.string ⟨#[65,116,111,105]⟩,.string s,ev] 303 (0,0))∧Below w.heap.size w w':=Any.strconv_Atoi_range Tryz.nH s hlim h ev w hv hev
open Go.RowKit Go.Lib in
def Tryz.sK:Go.Shelf.Ren:=⟨fun|144=>233|143=>278|219=>303|217=>326|225=>327|224=>328|267=>329|266=>341|314=>342|n=>n,fun|9=>9|4=>4|3=>3|5=>5|46=>179|146=>311|51=>187|n=>n,fun|1=>0|n=>n⟩
theorem Tryz.DO:Go.Proofs.Lays.n144 Tryz.prog Tryz.sK:={
 mixed:=by kernel_rfl
 f143:=Tryz.func278.trans (congrArg some (by kernel_rfl))
 f144:=Tryz.func233.trans (congrArg some (by kernel_rfl))
 f217:=Tryz.func326.trans (congrArg some (by kernel_rfl))
 f219:=Tryz.func303.trans (congrArg some (by kernel_rfl))
 f224:=Tryz.func328.trans (congrArg some (by kernel_rfl))
 f225:=Tryz.func327.trans (congrArg some (by kernel_rfl))
 f266:=Tryz.func341.trans (congrArg some (by kernel_rfl))
 f267:=Tryz.func329.trans (congrArg some (by kernel_rfl))
 f314:=Tryz.func342.trans (congrArg some (by kernel_rfl))
 t3:=Tryz.underlying3
 a3:=Tryz.isAgg3
 z3:=Tryz.sizeOf3
 v3:=Tryz.zeroValue3
 t4:=Tryz.underlying4
 a4:=Tryz.isAgg4
 z4:=Tryz.sizeOf4
 v4:=Tryz.zeroValue4
 t5:=Tryz.underlying5
 a5:=Tryz.isAgg5
 z5:=Tryz.sizeOf5
 v5:=Tryz.zeroValue5
 t9:=Tryz.underlying9
 a9:=Tryz.isAgg9
 z9:=Tryz.sizeOf9
 v9:=Tryz.zeroValue9
 t46:=Tryz.underlying179
 a46:=Tryz.isAgg179
 z46:=Tryz.sizeOf179
 v46:=Tryz.zeroValue179
 t51:=Tryz.underlying187
 a51:=Tryz.isAgg187
 z51:=Tryz.sizeOf187
 v51:=Tryz.zeroValue187
 t146:=Tryz.underlying311
 a146:=Tryz.isAgg311
 z146:=Tryz.sizeOf311
 v146:=Tryz.zeroValue311
 g1:=by kernel_rfl }
open Go.RowKit Go.Lib in
theorem Tryz.strings_Contains_one (s:ByteArray) (c:UInt8) (w:World) :
  Calls Tryz.prog 233 #[.string s,.string ⟨#[c]⟩] w fun e w'=>e = .returned (.bool (decide (0≤Lib.indexByte s.data.toList c)))∧w' = w:=Any.strings_Contains_one Tryz.DO s c w
def Tryz.sL:Go.Shelf.Ren:=⟨fun|190=>161|125=>155|258=>248|128=>243|129=>244|302=>285|303=>286|304=>287|305=>288|306=>289|307=>290|308=>291|309=>292|310=>293|333=>318|329=>281|330=>282|334=>319|335=>320|336=>245|344=>338|n=>n,fun|31=>27|9=>9|3=>3|46=>179|0=>0|51=>187|53=>238|4=>4|183=>231|182=>230|131=>139|5=>5|218=>259|222=>263|228=>292|229=>293|n=>n,fun|n=>n⟩
theorem Tryz.vG:Go.Proofs.Lays.n190 Tryz.prog Tryz.sL:={
 mixed:=by kernel_rfl
 f125:=Tryz.func155.trans (congrArg some (by kernel_rfl))
 f128:=Tryz.func243.trans (congrArg some (by kernel_rfl))
 f129:=Tryz.func244.trans (congrArg some (by kernel_rfl))
 f190:=Tryz.func161.trans (congrArg some (by kernel_rfl))
 f258:=Tryz.func248.trans (congrArg some (by kernel_rfl))
 f302:=Tryz.func285.trans (congrArg some (by kernel_rfl))
 f303:=Tryz.func286.trans (congrArg some (by kernel_rfl))
 f304:=Tryz.func287.trans (congrArg some (by kernel_rfl))
 f305:=Tryz.func288.trans (congrArg some (by kernel_rfl))
 f306:=Tryz.func289.trans (congrArg some (by kernel_rfl))
 f307:=Tryz.func290.trans (congrArg some (by kernel_rfl))
 f308:=Tryz.func291.trans (congrArg some (by kernel_rfl))
 f309:=Tryz.func292.trans (congrArg some (by kernel_rfl))
 f310:=Tryz.func293.trans (congrArg some (by kernel_rfl))
 f329:=Tryz.func281.trans (congrArg some (by kernel_rfl))
 f330:=Tryz.func282.trans (congrArg some (by kernel_rfl))
 f333:=Tryz.func318.trans (congrArg some (by kernel_rfl))
 f334:=Tryz.func319.trans (congrArg some (by kernel_rfl))
 f335:=Tryz.func320.trans (congrArg some (by kernel_rfl))
 f336:=Tryz.func245.trans (congrArg some (by kernel_rfl))
 f344:=Tryz.func338.trans (congrArg some (by kernel_rfl))
 t0:=Tryz.underlying0
 a0:=Tryz.isAgg0
 z0:=Tryz.sizeOf0
 v0:=Tryz.zeroValue0
 t3:=Tryz.underlying3
 a3:=Tryz.isAgg3
 z3:=Tryz.sizeOf3
 v3:=Tryz.zeroValue3
 t4:=Tryz.underlying4
 a4:=Tryz.isAgg4
 z4:=Tryz.sizeOf4
 v4:=Tryz.zeroValue4
 t5:=Tryz.underlying5
 a5:=Tryz.isAgg5
 z5:=Tryz.sizeOf5
 v5:=Tryz.zeroValue5
 t9:=Tryz.underlying9
 a9:=Tryz.isAgg9
 z9:=Tryz.sizeOf9
 v9:=Tryz.zeroValue9
 t31:=Tryz.underlying27
 a31:=Tryz.isAgg27
 z31:=Tryz.sizeOf27
 v31:=Tryz.zeroValue27
 t46:=Tryz.underlying179
 a46:=Tryz.isAgg179
 z46:=Tryz.sizeOf179
 v46:=Tryz.zeroValue179
 t51:=Tryz.underlying187
 a51:=Tryz.isAgg187
 z51:=Tryz.sizeOf187
 v51:=Tryz.zeroValue187
 t53:=Tryz.underlying238
 a53:=Tryz.isAgg238
 z53:=Tryz.sizeOf238
 v53:=Tryz.zeroValue238
 t131:=Tryz.underlying139
 a131:=Tryz.isAgg139
 z131:=Tryz.sizeOf139
 v131:=Tryz.zeroValue139
 t182:=Tryz.underlying230
 a182:=Tryz.isAgg230
 z182:=Tryz.sizeOf230
 v182:=Tryz.zeroValue230
 t183:=Tryz.underlying231
 a183:=Tryz.isAgg231
 z183:=Tryz.sizeOf231
 v183:=Tryz.zeroValue231
 t218:=Tryz.underlying259
 a218:=Tryz.isAgg259
 z218:=Tryz.sizeOf259
 v218:=Tryz.zeroValue259
 t222:=Tryz.underlying263
 a222:=Tryz.isAgg263
 z222:=Tryz.sizeOf263
 v222:=Tryz.zeroValue263
 t228:=Tryz.underlying292
 a228:=Tryz.isAgg292
 z228:=Tryz.sizeOf292
 v228:=Tryz.zeroValue292
 t229:=Tryz.underlying293
 a229:=Tryz.isAgg293
 z229:=Tryz.sizeOf293
 v229:=Tryz.zeroValue293 }
open Go.Sort Go.RowKit in
theorem Tryz.slices_Sort_string (blk off cap:Nat) (ss:List (List UInt8)) (w:World) (hH:Holds encStr w blk off ss.toArray) (hblk:blk < w.heap.size) (hsz:ss.length < 4611686018427387904) :
  Calls Tryz.prog 161 #[.slice (some ⟨blk,off,none⟩) ss.length cap] w fun e w' =>
   e = .returned (.tuple #[])∧∃ n os,w' = grow (putRow encStr (Sort.ahead w n) blk off (ss.mergeSort fun x y=>decide (x≤y)).toArray) os:=Any.slices_Sort_string Tryz.vG blk off cap ss w hH hblk hsz
def Tryz.sM:Go.Shelf.Ren:=⟨fun|149=>191|222=>261|n=>n,fun|9=>9|5=>5|3=>3|4=>4|n=>n,fun|n=>n⟩
theorem Tryz.DP:Go.Proofs.Lays.n149 Tryz.prog Tryz.sM:={
 mixed:=by kernel_rfl
 f149:=Tryz.func191.trans (congrArg some (by kernel_rfl))
 f222:=Tryz.func261.trans (congrArg some (by kernel_rfl))
 t3:=Tryz.underlying3
 a3:=Tryz.isAgg3
 z3:=Tryz.sizeOf3
 v3:=Tryz.zeroValue3
 t4:=Tryz.underlying4
 a4:=Tryz.isAgg4
 z4:=Tryz.sizeOf4
 v4:=Tryz.zeroValue4
 t5:=Tryz.underlying5
 a5:=Tryz.isAgg5
 z5:=Tryz.sizeOf5
 v5:=Tryz.zeroValue5
 t9:=Tryz.underlying9
 a9:=Tryz.isAgg9
 z9:=Tryz.sizeOf9
 v9:=Tryz.zeroValue9 }
open Go.RowKit Go.Lib in
theorem Tryz.strings_LastIndexByte (s:ByteArray) (c:Int) (hs:s.size < 4611686018427387904) (w:World) :
  Calls Tryz.prog 191 #[.string s,.int .u8 c] w fun e w'=>e = .returned (.int .i64 (Lib.lastIndexByte s c))∧w' = w:=Any.strings_LastIndexByte Tryz.DP s c hs w
def Tryz.sN:Go.Shelf.Ren:=⟨fun|102=>210|209=>273|207=>110|n=>n,fun|9=>9|4=>4|3=>3|n=>n,fun|n=>n⟩
theorem Tryz.DQ:Go.Proofs.Lays.n102 Tryz.prog Tryz.sN:={
 mixed:=by kernel_rfl
 f102:=Tryz.func210.trans (congrArg some (by kernel_rfl))
 f207:=Tryz.func110.trans (congrArg some (by kernel_rfl))
 f209:=Tryz.func273.trans (congrArg some (by kernel_rfl))
 t3:=Tryz.underlying3
 a3:=Tryz.isAgg3
 z3:=Tryz.sizeOf3
 v3:=Tryz.zeroValue3
 t4:=Tryz.underlying4
 a4:=Tryz.isAgg4
 z4:=Tryz.sizeOf4
 v4:=Tryz.zeroValue4
 t9:=Tryz.underlying9
 a9:=Tryz.isAgg9
 z9:=Tryz.sizeOf9
 v9:=Tryz.zeroValue9 }
open Go.RowKit Go.Lib in
theorem Tryz.strings_TrimSuffix (s p:ByteArray) (w:World) (hs:s.size≤9223372036854775807) :
  Calls Tryz.prog 210 #[.string s,.string p] w fun e w'=>e = .returned (.string ⟨(Lib.trimSuffix s.data.toList p.data.toList).toArray⟩)∧w' = w:=Any.strings_TrimSuffix Tryz.DQ s p w hs
def Tryz.sO:Go.Shelf.Ren:=⟨fun|146=>187|221=>260|268=>309|138=>222|143=>278|195=>276|197=>333|218=>277|219=>303|260=>345|217=>326|225=>327|224=>328|267=>329|266=>341|314=>342|n=>n,fun|9=>9|31=>27|3=>3|4=>4|0=>0|105=>305|21=>21|5=>5|46=>179|119=>320|139=>323|138=>322|146=>311|51=>187|n=>n,fun|1=>0|3=>6|4=>7|n=>n⟩
theorem Tryz.DS:Go.Proofs.Lays.n146 Tryz.prog Tryz.sO:={
 mixed:=by kernel_rfl
 f138:=Tryz.func222.trans (congrArg some (by kernel_rfl))
 f143:=Tryz.func278.trans (congrArg some (by kernel_rfl))
 f146:=Tryz.func187.trans (congrArg some (by kernel_rfl))
 f195:=Tryz.func276.trans (congrArg some (by kernel_rfl))
 f197:=Tryz.func333.trans (congrArg some (by kernel_rfl))
 f217:=Tryz.func326.trans (congrArg some (by kernel_rfl))
 f218:=Tryz.func277.trans (congrArg some (by kernel_rfl))
 f219:=Tryz.func303.trans (congrArg some (by kernel_rfl))
 f221:=Tryz.func260.trans (congrArg some (by kernel_rfl))
 f224:=Tryz.func328.trans (congrArg some (by kernel_rfl))
 f225:=Tryz.func327.trans (congrArg some (by kernel_rfl))
 f260:=Tryz.func345.trans (congrArg some (by kernel_rfl))
 f266:=Tryz.func341.trans (congrArg some (by kernel_rfl))
 f267:=Tryz.func329.trans (congrArg some (by kernel_rfl))
 f268:=Tryz.func309.trans (congrArg some (by kernel_rfl))
 f314:=Tryz.func342.trans (congrArg some (by kernel_rfl))
 t0:=Tryz.underlying0
 a0:=Tryz.isAgg0
 z0:=Tryz.sizeOf0
 v0:=Tryz.zeroValue0
 t3:=Tryz.underlying3
 a3:=Tryz.isAgg3
 z3:=Tryz.sizeOf3
 v3:=Tryz.zeroValue3
 t4:=Tryz.underlying4
 a4:=Tryz.isAgg4
 z4:=Tryz.sizeOf4
 v4:=Tryz.zeroValue4
 t5:=Tryz.underlying5
 a5:=Tryz.isAgg5
 z5:=Tryz.sizeOf5
 v5:=Tryz.zeroValue5
 t9:=Tryz.underlying9
 a9:=Tryz.isAgg9
 z9:=Tryz.sizeOf9
 v9:=Tryz.zeroValue9
 t21:=Tryz.underlying21
 a21:=Tryz.isAgg21
 z21:=Tryz.sizeOf21
 v21:=Tryz.zeroValue21
 t31:=Tryz.underlying27
 a31:=Tryz.isAgg27
 z31:=Tryz.sizeOf27
 v31:=Tryz.zeroValue27
 t46:=Tryz.underlying179
 a46:=Tryz.isAgg179
 z46:=Tryz.sizeOf179
 v46:=Tryz.zeroValue179
 t51:=Tryz.underlying187
 a51:=Tryz.isAgg187
 z51:=Tryz.sizeOf187
 v51:=Tryz.zeroValue187
 t105:=Tryz.underlying305
 a105:=Tryz.isAgg305
 z105:=Tryz.sizeOf305
 v105:=Tryz.zeroValue305
 t119:=Tryz.underlying320
 a119:=Tryz.isAgg320
 z119:=Tryz.sizeOf320
 t138:=Tryz.underlying322
 a138:=Tryz.isAgg322
 z138:=Tryz.sizeOf322
 v138:=Tryz.zeroValue322
 t139:=Tryz.underlying323
 a139:=Tryz.isAgg323
 z139:=Tryz.sizeOf323
 v139:=Tryz.zeroValue323
 t146:=Tryz.underlying311
 a146:=Tryz.isAgg311
 z146:=Tryz.sizeOf311
 v146:=Tryz.zeroValue311
 g1:=by kernel_rfl
 g3:=by kernel_rfl
 g4:=by kernel_rfl }
open Go.RowKit Go.Lib in
theorem Tryz.strings_Split (s sep:ByteArray) (m:Int) (w:World) (hs:s.size < 4294967281) (hm:w.cell? ⟨0,0,none⟩=some (.int .i64 m)) (h1:1≤sep.size) :
  Calls Tryz.prog 187 #[.string s,.string sep] w fun e w' =>
   e = .returned (.slice (some ⟨w.heap.size,0,none⟩) (Lib.countB s sep+1) (Lib.countB s sep+1))∧w' = w.alloc (.cells ((Lib.splitB sep 0 (Lib.countB s sep) s).map Value.string).toArray 9):=Any.strings_Split Tryz.DS (by kernel_rfl) s sep m w hs hm h1
open Go.RowKit Go.Sort in
theorem Tryz.slices_Sort_string_none (p:Option Addr) (cap:Nat) (w:World) :
  Calls Tryz.prog 161 #[.slice p 0 cap] w fun e w'=>e = .returned (.tuple #[])∧w' = w:=Any.slices_Sort_string_none Tryz.vG p cap w
end Go.Proofs
namespace Go.Proofs.YtfbnaalhioogoaaGreatDoor
open Go Go.Ab Go.RowKit
def jC (g:Gh):Prop:=(∃ v,g.com 2 0=some v∧(v = .nilIface∨∃ t p,v = .iface t p))∧∃ v,g.com 3 0=some v∧(v = .nilIface∨∃ t p,v = .iface t p)
theorem jC.mono {g g':Gh} (h:Gh.le g g'):jC g→jC g':=fun ⟨⟨v,h3,h4⟩,u,h5,h6⟩=>⟨⟨v,h.2.1 _ _ _ h3,h4⟩,u,h.2.1 _ _ _ h5,h6⟩
instance Al:Laid Tryz.prog where
 facts g:=g.row 1=some 20∧(∀ j z,Lib.pow10Tab[j]? = some z→g.com 1 j=some (.int .u64 z))∧(∃ m,g.com 0 0=some (.int .i64 m))∧jC g
 mono h:=fun ⟨h1,h2,⟨m,h7⟩,h8⟩=>⟨h.2.2 _ _ h1,fun j z hz=>h.2.1 _ _ _ (h2 j z hz),⟨m,h.2.1 _ _ _ h7⟩,jC.mono h h8⟩
theorem Hj {g:Gh} {w:World} (h:lA Tryz.prog g w):Lib.TabIs Tryz.prog w "internal/strconv.uint64pow10" .u64 Lib.pow10Tab:=by
 obtain ⟨h1,h2,_⟩:=h.facts
 obtain ⟨c,t,fz,h3,h4⟩:=h.rows 1 20 h1
 have hn:Tryz.prog.globalNamed "internal/strconv.uint64pow10" = some 1:=by kernel_rfl
 simp only [Lib.TabIs,World.var?,hn,Option.bind_some,h3]
 congr 1
 apply Array.ext
 ·rw [h4];rfl
 ·intro j h5 h6
  have h7:j < Lib.pow10Tab.length:=by simpa using h6
  have h8:=h.com 1 j _ (h2 j _ (List.getElem?_eq_getElem h7))
  simp only [World.cell?,h3,Option.isSome_none,Bool.false_eq_true,if_false,Array.getElem?_eq_getElem h5,Option.some.injEq] at h8
  simpa using h8
theorem iz (n:Int) (h0:-9223372036854775808≤n) (h1:n≤9223372036854775807) (p:Oid) (hp:p.mono=false):aj Tryz.prog 98 [.int .i64 n] (Oid.under p) ⟨[],.str (Lib.itoa n),[]⟩ :=
 kR (by kernel_rfl) hp fun g args w ha ht=>by
  obtain ⟨v,rfl,hv⟩:=ha.one
  rw [hv.bn]
  refine (Tryz.strconv_Itoa n h0 h1 w (Hj ht)).mono ?_
  rintro e w' ⟨rfl,k,os,rfl⟩
  exact ⟨_,rfl,.str _ _ rfl,⟨rfl,rfl,rfl,by simp [Sort.grow,World.drewN],fun b hb=>by simp only [Sort.grow,World.drewN];rw [Array.getElem?_append_left hb]⟩⟩
theorem Am (q:Oid) (v:AV) (sp:Oid→Prop):aj Tryz.prog 253 [.ptr (.ty 194 q) 0] sp ⟨[(.ty 194 q,.cells [.nilPtr,v])],.tuple [],[(.ty 194 q,some (.cells [.ptr (.ty 194 q) 0,v]))]⟩ :=
 ⟨by kernel_rfl,fun x g args w m hm hn ha hs hx=>by
  obtain ⟨u,rfl,hu⟩:=ha.one
  obtain ⟨b,rfl,hb⟩:=hu.eZ
  have hmid:=hn (.ty 194 q,.cells [.nilPtr,v]) (by simp)
  obtain ⟨b',h1,h2,h3,h4⟩:=hm.iP hmid hb
  rw [hb] at h1;simp only [Option.some.injEq] at h1;subst h1
  obtain ⟨c,t,fz,c1,c2,c3,c4⟩:=h4
  obtain ⟨c',fz',h5⟩:=hm.typs 194 q b hb
  rw [c1] at h5;simp only [Option.some.injEq,Obj.cells.injEq] at h5
  obtain ⟨_,rfl,_⟩:=h5
  have hsz:c.size=2:=c2
  have k0:=c4 0 (by simp)
  have k1:=c4 1 (by simp)
  simp only [List.getD_cons_zero,List.getD_cons_succ] at k0 k1
  have k0':=k0.dR
  have hlt:b < w.heap.size:=(Array.getElem?_eq_some_iff.1 c1).1
  have hg0:c[0]? = some (.pointer none):=by
   rw [Array.getD_eq_getD_getElem?] at k0'
   rw [Array.getElem?_eq_getElem (by omega)] at k0' ⊢
   simpa using k0'
  have hf:¬ (fz.1≤0∧0 < fz.2):=c3 0 (by omega)
  refine (mC b w (by simp [World.cell?,c1,hg0]) (by simp [World.shape?,c1,hsz]) (by
   obtain ⟨lo,hi⟩:=fz
   simp only [World.frozen?,c1]
   simp only at hf
   by_cases h:lo≤0
   ·have:¬ 0 < hi:=fun h'=>hf ⟨h,h'⟩
    simp [this]
   ·simp [h])).mono ?_
  rintro e w' ⟨rfl,rfl⟩
  have hnew:(w.setCell ⟨b,0,none⟩ (.pointer (some ⟨b,0,none⟩))).heap[b]? = some (.cells (c.setIfInBounds 0 (.pointer (some ⟨b,0,none⟩))) 194 fz):=by simp [World.setCell,Array.getElem?_modify,c1]
  refine ⟨g,_,rfl,Gh.le_refl g,fun _ _=>rfl,.tuple _ _ rfl (fun j hj=>absurd hj (Nat.not_lt_zero _)),?_⟩
  refine hm.gV (o:=.cells [.ptr (.ty 194 q) 0,v]) (w':=w.setCell ⟨b,0,none⟩ (.pointer (some ⟨b,0,none⟩))) hmid hb rfl rfl ⟨rfl,Nat.le_refl _⟩ (by simp [World.setCell]) (fun k hk _=>Below.heap_setCell w ⟨b,0,none⟩ _ k hk) (fun r hr=>?_) (fun c9 t9 fz9 h9=>?_) ?_
  ·obtain ⟨c',t',fz',h6,h7⟩:=hm.rows b r hr
   rw [c1] at h6;simp only [Option.some.injEq,Obj.cells.injEq] at h6
   obtain ⟨rfl,rfl,rfl⟩:=h6
   exact ⟨_,_,_,hnew,by simp [h7]⟩
  ·rw [c1] at h9;simp only [Option.some.injEq,Obj.cells.injEq] at h9
   obtain ⟨rfl,rfl,rfl⟩:=h9
   exact ⟨_,_,hnew⟩
  ·refine ⟨_,_,_,hnew,by simp [hsz],fun j hj=>c3 j (by simpa using hj),fun j hj=>?_⟩
   have hj2:j < 2:=hj
   match j,hj2 with
   | 0,_ =>
    simp only [List.getD_cons_zero,Array.getD_eq_getD_getElem?]
    rw [Array.getElem?_setIfInBounds_self_of_lt (by omega)]
    exact .ptr _ 0 b hb
   | 1,_ =>
    simp only [List.getD_cons_succ,List.getD_cons_zero,Array.getD_eq_getD_getElem?]
    rw [Array.getElem?_setIfInBounds_ne (by omega),← Array.getD_eq_getD_getElem?]
    exact k1⟩
theorem DT (q:Oid) (v:AV) (sp:Oid→Prop):aj Tryz.prog 253 [.ptr q 0] sp ⟨[(q,.cells [.ptr q 0,v])],.tuple [],[]⟩ :=
 ⟨by kernel_rfl,fun x g args w m hm hn ha hs hx=>by
  obtain ⟨u,rfl,hu⟩:=ha.one
  obtain ⟨b,rfl,hb⟩:=hu.eZ
  have hmid:=hn (q,.cells [.ptr q 0,v]) (by simp)
  obtain ⟨b',h1,h2,h3,h4⟩:=hm.iP hmid hb
  rw [hb] at h1;simp only [Option.some.injEq] at h1;subst h1
  obtain ⟨c,t,fz,c1,c2,c3,c4⟩:=h4
  have hsz:c.size=2:=c2
  have k0:=c4 0 (by simp)
  simp only [List.getD_cons_zero] at k0
  obtain ⟨b2,k0',hb2⟩:=k0.eZ
  rw [hb] at hb2;simp only [Option.some.injEq] at hb2;subst hb2
  have hg0:c[0]? = some (.pointer (some ⟨b,0,none⟩)):=by
   rw [Array.getD_eq_getD_getElem?] at k0'
   rw [Array.getElem?_eq_getElem (by omega)] at k0' ⊢
   simpa using k0'
  refine (nG b w (by simp [World.cell?,c1,hg0])).mono ?_
  rintro e w' ⟨rfl,rfl⟩
  exact ⟨g,_,rfl,Gh.le_refl g,fun _ _=>rfl,.tuple _ _ rfl (fun j hj=>absurd hj (Nat.not_lt_zero _)),hm⟩⟩
end Go.Proofs.YtfbnaalhioogoaaGreatDoor
namespace Go.Ab
open Go.ChangeShapes Go.WideShapes
section
variable {β:Type}
theorem law_lifted_row {C:Checked} [Laid C.prog] {os:Os} {f:FuncId} {fn:Func} {s:ChangeSpec} {F:Stop.Interp} {conds:List PathCond} {laid:List (String × DataW Unit)} {tb:TypeId} {H:Type} {enc:TypeId × Value→H} {ts:List TypeId} {B:β→List AV} {W:β→Prop}
  (own:ownKnob C.prog.godebug=none) (started:os.Started) (noInit:C.prog.inits.idxOf? f=none) (hfn:C.prog.funcs[f]? = some fn)
  (witness:∃ (w:World) (tape:Tape) (i:Input),w.os=os∧(w.forCall tape i).Shaped C.prog∧i.vars=[]∧Input.okWide C.prog (w.forCall tape i) .any w.heap.size f i ∧
   (OpenSpec.ofChange s).preRow enc C.prog fn conds false laid (w.forCall tape i).memory i.args∧({}:Assume).holds C.prog (lone (Frame.enter C.prog f i.args .normal) [] (w.forCall tape i)))
  (hl:laidOutB C.prog=true) (hz:∀ t e,t < C.prog.types.size→C.prog.underlying t=some (.slice e)→0 < C.prog.cellsOf e) (hp:fn.params.toList=ts) (hrB:(ts.all fun t=>C.prog.readableRec t && decide (t < C.prog.types.size))=true)
  (hrt:fn.resultTypes=#[tb]) (htb:C.prog.underlying tb=some .bool) (hv:s.vars=[]) (hs:∀ ds:List (DataW H),ds.length=ts.length→s.fn H ds={ results:=[.lit (.bool true)],args:=ds })
  (hA:RdA C.prog ts B W) (hc:∀ b,W b→aj C.prog f (B b) (Oid.under (.root C.prog.globals.size)) ⟨[],.bool true,[]⟩) (hLaid:∀ W:World,laidMetH C.prog laid W→W.ShapedOpen C.prog→Laid.facts C.prog (cS C.prog.globals.size W)) :
  ReturnsInHanded {} C os f .any ((OpenSpec.ofChange s).preRow enc C.prog fn conds false laid) (((OpenSpec.ofChange s).at F).post enc C.prog fn false true false false):=by
 have hr:∀ t ∈ ts,C.prog.readableRec t=true∧t < C.prog.types.size:=fun t ht=>by
  have:=List.all_eq_true.1 hrB t ht
  simpa using this
 refine returnsInHanded_of_row own started noInit hfn witness ?_
 intro w base args ds gs before hval hW _ _ hsz hlaid hopen _
 have hW:DataW.Whole enc C.prog fn.params.toList s.vars false w args.toList ds gs before:=hW
 have hsz:(DataW.weightsEach C.prog (fn.params.toList++s.plain.varTypes C.prog) (ds++gs)).all (· ≤ reachBytes)=true:=hsz
 have hW':=hW
 obtain ⟨p,q,hT,hV,rfl,hfz,hnd⟩:=hW
 rw [hv] at hV
 obtain ⟨rfl,rfl⟩:=trodVars_none hV
 have hlen:=jc hT
 rw [hp] at hT hlen
 have hvt:s.plain.varTypes C.prog=[]:=by
  have:s.plain.vars=[]:=hv
  unfold DataSpec.varTypes;rw [this];rfl
 rw [hvt,List.append_nil,List.append_nil,List.all_eq_true,hp] at hsz
 obtain ⟨b,k1,k2,k3⟩:=hA.rd (ng:=C.prog.globals.size) (fun j t v ht hv'=>hval j t v (by rw [← Array.getElem?_toList,hp];exact ht) (by rw [← Array.getElem?_toList];exact hv')) hT fun n hn=>by simpa using hsz n hn
 refine zM hl hz (by rw [hp];exact hr) hrt htb hv hW' (hs ds hlen) (avs:=B b) ⟨by simpa using k2,fun j hj=>?_⟩ (hc b k1) (hLaid _ hlaid hopen)
 have:=k3 j (by rw [k2];exact hj)
 simpa [List.getD_eq_getElem?_getD,Array.getD_eq_getD_getElem?] using this
end
theorem sP {ng:Nat} {P:Program} {W:World} {name:String} {k:IntKind} {zs:List Int} {g:Nat} (hg:P.globalNamed name=some g) (h:Lib.TabIs P W name k zs) :
  (cS ng W).row g=some zs.length∧∀ j z,zs[j]? = some z→(cS ng W).com g j=some (.int k z):=by
 simp only [Lib.TabIs,World.var?,hg,Option.bind_some] at h
 cases hw:W.heap[g]? with
 | none=>rw [hw] at h;cases h
 | some o =>
  rw [hw] at h
  cases o with
  | cells c t fz =>
   simp only [Option.some.injEq] at h
   subst h
   refine ⟨by simp [cS,hw],fun j z hz=>jB ?_ rfl⟩
   simp [World.cell?,hw,hz]
  | _=>cases h
theorem pI {ng:Nat} {P:Program} {W:World} {name nm:String} {d:DataW Unit} {g:Nat} {ti:TypeId} {ms:Array (String × TypeId)} (hg:P.globalNamed name=some g) (hty:(P.globals[g]?).map (·.type)=some ti) (hi:P.underlying ti=some (.interface ms))
  {l:List (String × DataW Unit)} (hm:(name,.iface nm d) ∈ l) (h:laidMet P l W):∃ v,(cS ng W).com g 0=some v∧(v = .nilIface∨∃ t p,v = .iface t p):=by
 obtain ⟨ps,hl,_,_⟩:=h
 have key:∀ {l:List (String × DataW Unit)} {ps:List MemPlace},DataW.LaidVars P W l ps→(name,.iface nm d) ∈ l→∃ t p,W.cell? ⟨g,0,none⟩=some (.iface t p):=by
  intro l
  induction l with
  | nil=>intro ps _ hm;cases hm
  | cons x r ih =>
   obtain ⟨n,e⟩:=x
   intro ps hl hm
   obtain ⟨g',t,cs,fuel,p,q,h1,h2,h3,h4,h5,_⟩:=hl
   rcases List.mem_cons.1 hm with hm|hm
   ·simp only [Prod.mk.injEq] at hm
    obtain ⟨rfl,rfl⟩:=hm
    rw [hg] at h1;simp only [Option.some.injEq] at h1;subst h1
    rw [hty] at h2;simp only [Option.some.injEq] at h2;subst h2
    obtain ⟨_,u,v,h6,_,_⟩:=iface_of_trod hi h4
    simp only [World.var?,hg,Option.bind_some] at h3
    cases hw:W.heap[g]? with
    | none=>rw [hw] at h3;cases h3
    | some o =>
     rw [hw] at h3
     cases o with
     | cells c t' fz =>
      simp only [Option.some.injEq] at h3
      subst h3
      refine ⟨u,v,?_⟩
      have h7:c[0]? = some (.iface u v):=by rw [← Array.getElem?_toList,h6];rfl
      simp [World.cell?,hw,h7]
     | _=>cases h3
   ·exact ih h5 hm
 obtain ⟨t,p,hc⟩:=key hl hm
 exact ⟨_,jB hc rfl,.inr ⟨t,p,rfl⟩⟩
theorem ur {P:Program} {W:World} {name:String} {k:IntKind} {zs:List Int} {g:Nat} {t e:TypeId} {n:Nat} (hg:P.globalNamed name=some g) (hty:(P.globals[g]?).map (·.type)=some t) (ht:P.underlying t=some (.array n e)) (he:P.underlying e=some (.int k)) (hce:P.cellsOf e=1) (hct:P.cellsOf t=n)
  {l:List (String × DataW Unit)} (hm:(name,Lib.tabData k zs) ∈ l) (h:laidMet P l W):Lib.TabIs P W name k zs:=by
 obtain ⟨ps,hl,h1,h2⟩:=h
 clear h1 h2
 induction l generalizing ps with
 | nil=>cases hm
 | cons x r ih =>
  obtain ⟨n',d⟩:=x
  obtain ⟨g',t',cs,fuel,p,q,h1,h2,h3,h4,h5,_⟩:=hl
  rcases List.mem_cons.1 hm with hm|hm
  ·simp only [Prod.mk.injEq] at hm
   obtain ⟨rfl,rfl⟩:=hm
   rw [hg] at h1;simp only [Option.some.injEq] at h1;subst h1
   rw [hty] at h2;simp only [Option.some.injEq] at h2;subst h2
   have:=Lib.cells_of_tab ht he hce hct h4
   show W.var? P name=_
   rw [h3,← this]
  ·exact ih hm q h5
end Go.Ab
namespace Go.Proofs.YtfbnaalhioogoaaGreatDoor
open Go Go.Ab Go.ChangeShapes Go.WideShapes Go.RowKit
set_option maxRecDepth 100000
def LL:List (String × DataW Unit):=[("math/bits.deBruijn32tab",Rows.laid_math_bits_deBruijn32tab),("math/bits.deBruijn64tab",Rows.laid_math_bits_deBruijn64tab),("internal/strconv.uint64pow10",Rows.laid_internal_strconv_uint64pow10),("unicode/utf8.acceptRanges",Rows.laid_unicode_utf8_acceptRanges),("strconv.ErrRange",Rows.laid_strconv_ErrRange),("strconv.ErrSyntax",Rows.laid_strconv_ErrSyntax),("unicode/utf8.first",Rows.laid_unicode_utf8_first)]
def uv (c:Array Value):Obj→Obj
 | .cells _ t fz=>.cells c t fz
 | o=>o
def Ao (h:Array Obj):Array Obj:=(((((((h.modify 4 (uv #[.int .u8 0,.int .u8 1,.int .u8 28,.int .u8 2,.int .u8 29,.int .u8 14,.int .u8 24,.int .u8 3,.int .u8 30,.int .u8 22,.int .u8 20,.int .u8 15,.int .u8 25,.int .u8 17,.int .u8 4,.int .u8 8,.int .u8 31,.int .u8 27,.int .u8 13,.int .u8 23,.int .u8 21,.int .u8 19,.int .u8 16,.int .u8 7,.int .u8 26,.int .u8 12,.int .u8 18,.int .u8 6,.int .u8 11,.int .u8 5,.int .u8 10,.int .u8 9])).modify 5 (uv #[.int .u8 0,.int .u8 1,.int .u8 56,.int .u8 2,.int .u8 57,.int .u8 49,.int .u8 28,.int .u8 3,.int .u8 61,.int .u8 58,.int .u8 42,.int .u8 50,.int .u8 38,.int .u8 29,.int .u8 17,.int .u8 4,.int .u8 62,.int .u8 47,.int .u8 59,.int .u8 36,.int .u8 45,.int .u8 43,.int .u8 51,.int .u8 22,.int .u8 53,.int .u8 39,.int .u8 33,.int .u8 30,.int .u8 24,.int .u8 18,.int .u8 12,.int .u8 5,.int .u8 63,.int .u8 55,.int .u8 48,.int .u8 27,.int .u8 60,.int .u8 41,.int .u8 37,.int .u8 16,.int .u8 46,.int .u8 35,.int .u8 44,.int .u8 21,.int .u8 52,.int .u8 32,.int .u8 23,.int .u8 11,.int .u8 54,.int .u8 26,.int .u8 40,.int .u8 15,.int .u8 34,.int .u8 20,.int .u8 31,.int .u8 10,.int .u8 25,.int .u8 14,.int .u8 19,.int .u8 9,.int .u8 13,.int .u8 8,.int .u8 7,.int .u8 6])).modify 1 (uv #[.int .u64 1,.int .u64 10,.int .u64 100,.int .u64 1000,.int .u64 10000,.int .u64 100000,.int .u64 1000000,.int .u64 10000000,.int .u64 100000000,.int .u64 1000000000,.int .u64 10000000000,.int .u64 100000000000,.int .u64 1000000000000,.int .u64 10000000000000,.int .u64 100000000000000,.int .u64 1000000000000000,.int .u64 10000000000000000,.int .u64 100000000000000000,.int .u64 1000000000000000000,.int .u64 10000000000000000000])).modify 7 (uv #[.int .u8 128,.int .u8 191,.int .u8 160,.int .u8 191,.int .u8 128,.int .u8 159,.int .u8 144,.int .u8 191,.int .u8 128,.int .u8 143,.int .u8 0,.int .u8 0,.int .u8 0,.int .u8 0,.int .u8 0,.int .u8 0,.int .u8 0,.int .u8 0,.int .u8 0,.int .u8 0,.int .u8 0,.int .u8 0,.int .u8 0,.int .u8 0,.int .u8 0,.int .u8 0,.int .u8 0,.int .u8 0,.int .u8 0,.int .u8 0,.int .u8 0,.int .u8 0])).modify 3 (uv #[.iface 314 (.pointer (some ⟨13,0,none⟩))])).modify 2 (uv #[.iface 314 (.pointer (some ⟨14,0,none⟩))])).modify 6 (uv ((Go.Pinned.utf8FirstZ.map fun (n:Nat)=>Value.int .u8 (n:Int)).toArray)))++#[.cells #[.string ⟨#[118,97,108,117,101,32,111,117,116,32,111,102,32,114,97,110,103,101]⟩] 316 (0,0),.cells #[.string ⟨#[105,110,118,97,108,105,100,32,115,121,110,116,97,120]⟩] 316 (0,0)]
noncomputable def laidWorld (os:Os):World:={ World.holding Tryz.prog os ⟨#[],#[],[]⟩ with heap:=Ao (World.holding Tryz.prog os ⟨#[],#[],[]⟩).heap }
theorem laid_met (os:Os) (args:Array Value):laidMet Tryz.prog LL ((laidWorld os).forCall (fun _ _=>0) ⟨#[],args,[]⟩).memory :=
 laidMet_of_run' 8 (by kernel_rfl) (by kernel_rfl)
theorem Hk {W:World} (h:laidMetH Tryz.prog LL W):laidMet Tryz.prog LL W:=h
end Go.Proofs.YtfbnaalhioogoaaGreatDoor
namespace Go.Proofs.YtfbnaalhioogoaaGreatDoor
open Go Go.Ab
set_option maxRecDepth 100000
instance E0:Laid Tryz.checked.prog:=Al
theorem own:ownKnob Tryz.prog.godebug=none:=by kernel_rfl
theorem laidOut:laidOutB Tryz.prog=true:=by kernel_rfl
theorem full:∀ t e,t < Tryz.prog.types.size→Tryz.prog.underlying t=some (.slice e)→0 < Tryz.prog.cellsOf e:=slices_full_of _ (by kernel_rfl)
theorem Ap {W:World} (h':laidMet Tryz.prog LL W):jC (cS Tryz.prog.globals.size W) :=
 ⟨pI (P:=Tryz.prog) (name := "strconv.ErrSyntax") (ti:=196) (by kernel_rfl) (by kernel_rfl) Tryz.underlying196 (l:=LL) (List.mem_cons_of_mem _ (List.mem_cons_of_mem _ (List.mem_cons_of_mem _ (List.mem_cons_of_mem _ (List.mem_cons_of_mem _ List.mem_cons_self))))) h',
  pI (P:=Tryz.prog) (name := "strconv.ErrRange") (ti:=196) (by kernel_rfl) (by kernel_rfl) Tryz.underlying196 (l:=LL) (List.mem_cons_of_mem _ (List.mem_cons_of_mem _ (List.mem_cons_of_mem _ (List.mem_cons_of_mem _ List.mem_cons_self)))) h'⟩
theorem laid_facts {W:World} (h:laidMetH Tryz.prog LL W) (ho:W.ShapedOpen Tryz.prog):Laid.facts Tryz.prog (cS Tryz.prog.globals.size W):=by
 have h':=Hk h
 have ht:Lib.TabIs Tryz.prog W "internal/strconv.uint64pow10" .u64 Lib.pow10Tab :=
  ur (g:=1) (t:=298) (e:=238) (n:=20) (by kernel_rfl) (by kernel_rfl) (by kernel_rfl) (by kernel_rfl) (by kernel_rfl) (by kernel_rfl) (l:=LL) (List.mem_cons_of_mem _ (List.mem_cons_of_mem _ List.mem_cons_self)) h'
 have hn:Tryz.prog.globalNamed "internal/strconv.uint64pow10" = some 1:=by kernel_rfl
 obtain ⟨t1,t2⟩:=sP (ng:=Tryz.prog.globals.size) hn ht
 obtain ⟨m,hm⟩:=cell_of_shapedOpen_int (P:=Tryz.prog) (g:=0) (zero:=#[.int .i64 0]) (t:=3) ho (of_decide_eq_true (by kernel_rfl)) (by kernel_rfl) rfl (by kernel_rfl) (by kernel_rfl) Tryz.underlying3
 exact ⟨t1,t2,⟨m,jB hm rfl⟩,Ap h'⟩
end Go.Proofs.YtfbnaalhioogoaaGreatDoor
namespace Go.Proofs.YtfbnaalhioogoaaGreatDoor
open Go Go.Ab
set_option maxRecDepth 20000
set_option maxHeartbeats 2000000
theorem E3 {v:OpR}:gdR True v=v:=if_pos trivial
theorem qV {need:List (Oid × ah)} {upd:List (Oid × Option ah)} {m:Mem} (h1:∀ q,q ∈ upd→∀ o,q.2=some o→m q.1=some o) (h2:∀ q,q ∈ need→(∀ r,r ∈ upd→¬ r.1=q.1)→m q.1=some q.2) (i:Oid) (o:ah)
  (h:((Mem.of need).aK upd) i=some o):m i=some o:=by
 by_cases hk:∃ q ∈ upd,q.1=i
 ·obtain ⟨q',k1,k2,k3⟩:=iZ (m:=Mem.of need) hk
  rw [k3] at h
  rw [← k2];exact h1 q' k1 o h
 ·rw [a8 fun q hq e=>hk ⟨q,hq,e⟩] at h
  obtain ⟨q,k1,rfl,rfl⟩:=Mem.dX h
  exact h2 q k1 fun r hr e=>hk ⟨r,hr,e⟩
theorem a6 {P:Program} {rs:List ResultVar} {need:List (Oid × ah)} {fr:List (Nat × AV)} {m:Mem} {c:Nat} {val:AV} {upd:List (Oid × Option ah)} (h1:eS P m fr rs=some val)
  (h2:∀ q,q ∈ upd→∀ o,q.2=some o→m q.1=some o) (h3:∀ q,q ∈ need→(∀ r,r ∈ upd→¬ r.1=q.1)→m q.1=some q.2):dI P rs need (fun v u=>v=val∧u=upd) (fun _ _=>False) .ret ⟨fr,m,c,[]⟩ :=
 bp val upd h1 ⟨rfl,rfl⟩ (qV h2 h3)
theorem Aq (q:Oid) (s:List UInt8) (hl:s.length≤140737488355328) (p:Oid) (hq:¬ Oid.under p (.ty 194 q)) :
  aj Tryz.prog 178 [.ptr (.ty 194 q) 0,.str s] (Oid.under p) ⟨[(.ty 194 q,.cells [.nilPtr,.nilSl])],.tuple [.int .i64 s.length,.nilIface],
   [(.ty 194 q,some (.cells [.ptr (.ty 194 q) 0,.sl (.ty 5 (.sub 2 6 p)) 1 s.length])),(.ty 5 (.sub 2 6 p),some (.arr 1 (s.map byA)))]⟩:=by
 refine aD (n:=19) (rs:=[.tmp 4,.tmp 5]) Tryz.func178 rfl rfl (by decide) rfl rfl rfl ?_;rintro x rfl hrd hng
 (repeat (first|(refine ay rfl rfl ?_)|(refine aw rfl rfl ?_)|(refine ao nmd [] hng (by kernel_rfl) fun hf C S K hC1 hC hS hK=>?_;simp (disch:=first|omega|assumption) only [go_sem];(repeat ((first|refine hC1 _ (Am _ .nilSl _) (by simp (disch:=first|omega|assumption) only [go_sem]) ?_);simp (disch:=first|omega|assumption) only [go_sem]));refine hK ?_;clear hK hS hC hC1 K S C hf)|((first|refine zn ?_|refine ze ?_|refine zk ?_);with_reducible (constructor;repeat constructor);try refine zl ?_)))
 refine aB (a6 rfl ?_ ?_)
 all_goals simp only [List.mem_cons,List.not_mem_nil,or_false,forall_eq_or_imp,forall_eq,Option.some.injEq,forall_eq',Mem.ar,eq_self,if_true,↓reduceIte,reduceCtorEq,implies_true,not_true_eq_false,false_imp_iff,true_and,and_true,false_and,and_false,imp_self,Oid.eF hq,Oid.fS hq]
 rfl
theorem DU (q r:Oid) (s0 s:List UInt8) (hl:s0.length+s.length≤140737488355328) (p:Oid) (hq:¬ Oid.under p (.ty 194 q)) (hr:¬ Oid.under p (.ty 5 r)) :
  aj Tryz.prog 178 [.ptr (.ty 194 q) 0,.str s] (Oid.under p) ⟨[(.ty 194 q,.cells [.ptr (.ty 194 q) 0,.sl (.ty 5 r) 1 s0.length]),(.ty 5 r,.arr 1 (s0.map byA))],.tuple [.int .i64 s.length,.nilIface],
   [(.ty 194 q,some (.cells [.ptr (.ty 194 q) 0,.sl (.ty 5 (.sub 2 6 p)) 1 (s0++s).length])),(.ty 5 r,none),(.ty 5 (.sub 2 6 p),some (.arr 1 ((s0++s).map byA)))]⟩:=by
 have hr':(Oid.ty 5 r=Oid.ty 5 (.sub 2 6 p))=False:=Oid.eF hr _ _ _
 refine aD (n:=19) (rs:=[.tmp 4,.tmp 5]) Tryz.func178 rfl rfl (by decide) rfl rfl rfl ?_;rintro x rfl hrd hng
 (repeat (first|(refine ay rfl rfl ?_)|(refine aw rfl rfl ?_)|(refine ao nmd [] hng (by kernel_rfl) fun hf C S K hC1 hC hS hK=>?_;simp (disch:=first|omega|assumption) only [go_sem];(repeat ((first|refine hC1 _ (DT _ (.sl (.ty 5 r) 1 s0.length) _) (by simp (disch:=first|omega|assumption) only [go_sem]) ?_);simp (disch:=first|omega|assumption) only [go_sem]));refine hK ?_;clear hK hS hC hC1 K S C hf)|((first|refine zn ?_|refine ze ?_|refine zk ?_);with_reducible (constructor;repeat constructor);try refine zl ?_)))
 refine aB (a6 rfl ?_ ?_)
 all_goals simp only [List.mem_cons,List.not_mem_nil,or_false,forall_eq_or_imp,forall_eq,Option.some.injEq,forall_eq',Mem.ar,eq_self,if_true,↓reduceIte,reduceCtorEq,implies_true,not_true_eq_false,false_imp_iff,true_and,and_true,false_and,and_false,imp_self,Oid.eF hq,Oid.fS hq,Oid.eF hr,Oid.fS hr,List.length_append,List.map_append]
 rfl
theorem xt (q r:Oid) (s:List UInt8) (h0:0 < s.length) (hl:s.length≤140737488355328) (p:Oid) :
  aj Tryz.prog 179 [.ptr (.ty 194 q) 0] (Oid.under p) ⟨[(.ty 194 q,.cells [.ptr (.ty 194 q) 0,.sl (.ty 5 r) 1 s.length]),(.ty 5 r,.arr 1 (s.map byA))],.str s,[(.ty 5 r,none)]⟩:=by
 refine aD (n:=14) (rs:=[.tmp 2]) Tryz.func179 rfl rfl (by decide) rfl rfl rfl ?_;rintro x rfl hrd hng
 refine qw0 ?_
 refine qd (.d [] [] [0,2]) trivial trivial ?_
 refine aB (a6 rfl ?_ ?_)
 all_goals simp only [List.mem_cons,List.not_mem_nil,or_false,forall_eq_or_imp,forall_eq,Option.some.injEq,forall_eq',Mem.ar,eq_self,if_true,↓reduceIte,reduceCtorEq,implies_true,not_true_eq_false,false_imp_iff,true_and,and_true,false_and,and_false,imp_self]
theorem uw (q:Oid) (p:Oid) :
  aj Tryz.prog 179 [.ptr (.ty 194 q) 0] (Oid.under p) ⟨[(.ty 194 q,.cells [.nilPtr,.nilSl])],.str [],[]⟩:=by
 refine aD (n:=14) (rs:=[.tmp 2]) Tryz.func179 rfl rfl (by decide) rfl rfl rfl ?_;rintro x rfl hrd hng
 refine qw0 ?_
 refine bJ nmd [] [] mixed hng (by kernel_rfl) [0,2] fun hf C S K hC hS hK=>?_;simp (disch:=first|omega|assumption) only [go_sem,E3]
 (first|refine hK (aE rfl) ?_|refine hK (by simp (disch:=first|omega|assumption) only [go_sem,List.reverse_cons,List.reverse_nil,ne_eq,not_false_eq_true,implies_true]) ?_);clear hK hS hC K S C hf
 refine aB (a6 rfl ?_ ?_)
 all_goals simp only [List.mem_cons,List.not_mem_nil,or_false,forall_eq_or_imp,forall_eq,Option.some.injEq,forall_eq',Mem.ar,eq_self,if_true,↓reduceIte,reduceCtorEq,implies_true,not_true_eq_false,false_imp_iff,true_and,and_true,false_and,and_false,imp_self]
end Go.Proofs.YtfbnaalhioogoaaGreatDoor
namespace Go.Proofs.YtfbnaalhioogoaaGreatDoor
open Go Go.Ab Go.RowKit
set_option maxRecDepth 20000
set_option maxHeartbeats 2000000
abbrev Str:=List UInt8
theorem aq {c i:Nat} {p:Oid} (hi:(i == 999983)=false) (hp:p.mono=false):(Oid.sub c i p).mono=false:=by rw [Oid.rK,hi,hp];rfl
def bO (s:Str):Int:=match Lib.atoiAll s with | .ok v=>v | .range=>Lib.atoiSat s|_=>0
def kS (s:Str):Bool:=match Lib.atoiAll s with | .ok _=>true|_=>false
def pJ (s:Str):AV:=if kS s=true then .nilIface else .iface 281 .undef
theorem sQ (w:World) (e:TypeId) (s:ByteArray):Below w.heap.size w (Lib.bytesWorld w e s):=by
 unfold Lib.bytesWorld
 exact Lib.below_freeze ((Below.drew (Below.refl _ w)).alloc (Nat.le_refl _) _) (p:=⟨w.heap.size,_,none⟩) (Nat.le_refl _) _
theorem vH (s:Str) (hl:s.length≤281474976710656) (p:Oid) (hp:p.mono=false):aj Tryz.prog 183 [.str s] (Oid.under p) ⟨[],.tuple [.int .i64 (bO s),pJ s],[]⟩ :=
 kR (by kernel_rfl) hp fun g args w ha ht=>by
  obtain ⟨v,rfl,hv⟩:=ha.one
  obtain ⟨b,rfl,hb⟩:=hv.bC
  obtain ⟨_,_,_,⟨v1,h1,h2⟩,v2,h3,h4⟩:=ht.facts
  have hsz:b.size=s.length:=by rw [← hb];simp
  have pair:∀ (x y:AV) (u v:Value),VR g x u→VR g y v→VR g (.tuple [x,y]) (.tuple #[u,v]):=fun x y u v hx hy=>.tuple _ _ rfl (fun j hj=>by
   match j,hj with
   | 0,_=>exact hx
   | 1,_=>exact hy)
  cases hc:Lib.atoiAll s with
  | ok n =>
   refine (Tryz.strconv_Atoi_ok b (by omega) n (by rw [hb];exact hc) w).mono ?_
   rintro e w' ⟨rfl,hw⟩
   refine ⟨_,rfl,pair _ _ _ _ ?_ ?_,?_⟩
   ·simp only [bO,hc];exact .int _ _
   ·simp only [pJ,kS,hc,if_true];exact .nilIface
   ·rcases hw with rfl|⟨t,rfl⟩
    ·exact Below.refl _ _
    ·exact sQ _ _ _
  | range =>
   refine (Tryz.strconv_Atoi_range b (by omega) (by rw [hb];exact hc) v2 w (ht.com 3 0 _ h3) h4).mono ?_
   rintro e w' ⟨N,rfl,_,_,hw⟩
   refine ⟨_,rfl,pair _ _ _ _ ?_ ?_,hw⟩
   ·simp only [bO,hc,hb];exact .int _ _
   ·simp only [pJ,kS,hc,Bool.false_eq_true,if_false];exact .iface _ _ _ (.unk _)
  | _ =>
   refine (Any.strconv_Atoi_syntax Tryz.nH b (by omega) (by rw [hb];exact hc) v1 w (ht.com 2 0 _ h1) h2).mono ?_
   rintro e w' ⟨N,rfl,_,_,hw⟩
   refine ⟨_,rfl,pair _ _ _ _ ?_ ?_,hw⟩
   ·simp only [bO,hc];exact .int _ _
   ·simp only [pJ,kS,hc,Bool.false_eq_true,if_false];exact .iface _ _ _ (.unk _)
def fm (s:Str):Bool:=kS s && decide (0≤bO s) && decide (s.length≤9) && decide (Lib.itoa (bO s)=s)
theorem qW (s:Str):-9223372036854775808≤bO s∧bO s≤9223372036854775807:=by
 unfold bO
 split
 ·exact Lib.atoiAll_bounds (by assumption)
 ·unfold Lib.atoiSat;split<;>omega
 ·omega
theorem Hl {s:Str} (h:kS s=false):fm s=false:=by simp [fm,h]
theorem Hm {s:Str} (h:¬ 0≤bO s):fm s=false:=by simp [fm,h]
theorem Ar {s:Str} (h:¬ s.length≤9):fm s=false:=by simp only [fm,decide_eq_false h,Bool.and_false,Bool.false_and]
theorem Hn {s:Str} (h:kS s=true) (h2:0≤bO s) (h3:s.length≤9):fm s=decide (Lib.itoa (bO s)=s):=by simp only [fm,h,decide_eq_true h2,decide_eq_true h3,Bool.true_and]
theorem xu (s:Str) (hl:s.length≤281474976710656) (p:Oid) (hp:p.mono=false):aj Tryz.prog 101 [.str s] (Oid.under p) ⟨[],.tuple [.int .i64 (bO s),.bool (fm s)],[]⟩:=by
 obtain ⟨hb1,hb2⟩:=qW s
 cases hg:kS s with
 | true =>
  have hZ:∀ p:Oid,p.mono=false→aj Tryz.prog 183 [.str s] (Oid.under p) ⟨[],.tuple [.int .i64 (bO s),.nilIface],[]⟩:=fun p hp=>by have:=vH s hl p hp;rwa [pJ,if_pos hg] at this
  refine aD (n:=29) (rs:=[.tmp 2,.tmp 3]) Tryz.func101 rfl rfl (by decide) rfl rfl rfl ?_;rintro x rfl hrd hng
  (repeat (first|(refine ay rfl rfl ?_)|(refine aw rfl rfl ?_)|(refine ao nmd [] hng (by kernel_rfl) fun hf C S K hC1 hC hS hK=>?_;simp (disch:=first|omega|assumption) only [go_sem];(repeat ((first|refine hC1 _ (hZ _ (aq rfl hp)) (by simp (disch:=first|omega|assumption) only [go_sem]) ?_);simp (disch:=first|omega|assumption) only [go_sem]));refine hK ?_;clear hK hS hC hC1 K S C hf)|((first|refine zn ?_|refine ze ?_|refine zk ?_);with_reducible (constructor;repeat constructor);try refine zl ?_)))
  refine ao nmd [(3,14),(7,18),(12,23)] hng (by kernel_rfl) fun hf C S K hC1 hC hS hK=>?_;simp (disch:=first|omega|assumption) only [go_sem]
  (repeat' (first|(refine bG (fun hv=>?_) (fun hv=>?_)<;>(try simp only [zb1,zb2,zb3,zb4,zb5] at hv)<;>simp (disch:=first|omega|assumption) only [go_sem,hv])|(refine hC1 _ (iz (bO s) hb1 hb2 _ (aq rfl hp)) (by simp (disch:=first|omega|assumption) only [go_sem]) ?_;simp (disch:=first|omega|assumption) only [go_sem])|(refine hK ?_;clear hK hS hC hC1 K S C hf)))
  ·(try ((first|refine zn ?_|refine ze ?_|refine zk ?_);with_reducible (constructor;repeat constructor));try refine zl ?_)
   exact aB (bu (by rw [Hn hg (by omega) (by omega)];rfl))
  ·(try ((first|refine zn ?_|refine ze ?_|refine zk ?_);with_reducible (constructor;repeat constructor));try refine zl ?_)
   exact aB (bu (by rw [Ar (by omega)];rfl))
  ·(try ((first|refine zn ?_|refine ze ?_|refine zk ?_);with_reducible (constructor;repeat constructor));try refine zl ?_)
   exact aB (bu (by rw [Hm hv];rfl))
 | false =>
  have hZ:∀ p:Oid,p.mono=false→aj Tryz.prog 183 [.str s] (Oid.under p) ⟨[],.tuple [.int .i64 (bO s),.iface 281 .undef],[]⟩:=fun p hp=>by have:=vH s hl p hp;rwa [pJ,if_neg (by rw [hg];decide)] at this
  refine aD (n:=29) (rs:=[.tmp 2,.tmp 3]) Tryz.func101 rfl rfl (by decide) rfl rfl rfl ?_;rintro x rfl hrd hng
  (repeat (first|(refine ay rfl rfl ?_)|(refine aw rfl rfl ?_)|(refine ao nmd [] hng (by kernel_rfl) fun hf C S K hC1 hC hS hK=>?_;simp (disch:=first|omega|assumption) only [go_sem];(repeat ((first|refine hC1 _ (hZ _ (aq rfl hp)) (by simp (disch:=first|omega|assumption) only [go_sem]) ?_);simp (disch:=first|omega|assumption) only [go_sem]));refine hK ?_;clear hK hS hC hC1 K S C hf)|((first|refine zn ?_|refine ze ?_|refine zk ?_);with_reducible (constructor;repeat constructor);try refine zl ?_)))
  refine ao nmd [(3,14),(7,18),(12,23)] hng (by kernel_rfl) fun hf C S K hC1 hC hS hK=>?_;simp (disch:=first|omega|assumption) only [go_sem]
  (repeat' (first|(refine bG (fun hv=>?_) (fun hv=>?_)<;>(try simp only [zb1,zb2,zb3,zb4,zb5] at hv)<;>simp (disch:=first|omega|assumption) only [go_sem,hv])|(refine hC1 _ (iz (bO s) hb1 hb2 _ (aq rfl hp)) (by simp (disch:=first|omega|assumption) only [go_sem]) ?_;simp (disch:=first|omega|assumption) only [go_sem])|(refine hK ?_;clear hK hS hC hC1 K S C hf)))
  (try ((first|refine zn ?_|refine ze ?_|refine zk ?_);with_reducible (constructor;repeat constructor));try refine zl ?_)
  exact aB (bu (by rw [Hl hg];rfl))
end Go.Proofs.YtfbnaalhioogoaaGreatDoor
namespace Go.Proofs.YtfbnaalhioogoaaGreatDoor
open Go Go.Ab
set_option maxRecDepth 20000
set_option maxHeartbeats 4000000
theorem gO (n:Nat) (h:(n:Int)≤9223372036854775807):(Lib.decDigits n).length≤21:=by
 have:=Lib.itoa_length_le n (by omega) h;rwa [Lib.itoa_nonneg] at this
theorem I8 (v:Option AV):gd True v=v:=if_pos trivial
theorem dw (a b:Nat):(a:Int).tmod b=((a % b:Nat):Int):=by
 rw [Int.tmod_eq_emod_of_nonneg (by omega)];rfl
theorem lB (n:Nat) (hn:(n:Int)≤9223372036854775807):∀ p:Oid,aj Tryz.prog 272 [.int .i64 n] (Oid.under p) ⟨[],.str (Lib.decDigits n),[]⟩:=by
 induction n using Nat.strongRecOn with
 | ind n ih =>
  intro p
  have h10:(n:Int).tmod 10=((n % 10:Nat):Int):=dw n 10
  have h11:(n:Int).tdiv 10=((n / 10:Nat):Int):=nD n 10
  have hw:(48+((n % 10:Nat):Int))≤57:=by omega
  have hd:IntKind.u8.wrap (48+((n % 10:Nat):Int))=((UInt8.ofNat (48+n % 10)).toNat:Int):=by
   rw [w8 (by omega) (by omega),UInt8.toNat_ofNat'];omega
  have hlen:=gO (n / 10) (by omega)
  refine aD (n:=18) (rs:=[.tmp 2]) Tryz.func272 rfl rfl (by decide) rfl rfl rfl ?_;rintro x rfl hrd hng
  refine qr0 ?_
  refine ao nmd [] hng (by kernel_rfl) fun hf C S K hC1 hC hS hK=>?_;simp (disch:=first|omega|assumption) only [go_sem,h10,hd,I8]
  refine hK ?_;clear hK hS hC hC1 K S C hf
  refine qw0 ?_
  refine aP rfl rfl (fun hb=>?_) (fun hb=>?_)
  ·refine qw0 ?_
   exact aB (bA (congrArg AV.str (by rw [Lib.decDigits,dif_pos (by omega)];congr 2;rw [Nat.mod_eq_of_lt (by omega)])))
  ·(try ((first|refine zn ?_|refine ze ?_|refine zk ?_);with_reducible (constructor;repeat constructor));try refine zl ?_)
   refine qr .o h11 (cq (ih (n / 10) (by omega) (by omega) _) trivial) ?_
   refine qw0 ?_
   exact aB (bA (congrArg AV.str (by rw [Lib.decDigits.eq_def n,dif_neg (by omega)])))
end Go.Proofs.YtfbnaalhioogoaaGreatDoor
namespace Go.Proofs.YtfbnaalhioogoaaGreatDoor
open Go Go.Ab
theorem nI (b:UInt8):∀ (t:Str) (a:Nat),Lib.decFrom a (t++[b])=(Lib.decFrom a t).bind fun v=>(Lib.digitVal b).map fun d=>v * 10+d
 | [],a=>by
  simp only [List.nil_append,Lib.decFrom,Option.bind_some]
  cases Lib.digitVal b<;>rfl
 | c::t,a=>by
  simp only [List.cons_append,Lib.decFrom]
  cases Lib.digitVal c with
  | none=>rfl
  | some d=>exact nI b t _
theorem sR {d:Nat} (h:d < 10):Lib.digitVal (UInt8.ofNat (48+d))=some d:=by
 have h1:(UInt8.ofNat (48+d)).toNat=48+d:=by rw [UInt8.toNat_ofNat'];omega
 rw [Lib.digitVal,h1,if_pos (by omega)];congr 1;omega
theorem xv {b:UInt8} {d:Nat} (h:Lib.digitVal b=some d):d < 10∧b=UInt8.ofNat (48+d):=by
 unfold Lib.digitVal at h
 split at h
 ·simp only [Option.some.injEq] at h
  refine ⟨by omega,UInt8.toNat_inj.1 ?_⟩
  rw [UInt8.toNat_ofNat'];omega
 ·cases h
theorem b7 {n:Nat} (h:n < 10):Lib.decDigits n=[UInt8.ofNat (48+n)]:=by rw [Lib.decDigits,dif_pos h]
theorem eT {n:Nat} (h:¬ n < 10):Lib.decDigits n=Lib.decDigits (n / 10)++[UInt8.ofNat (48+n % 10)]:=by rw [Lib.decDigits.eq_def n,dif_neg h]
theorem lC (n:Nat):¬ Lib.decDigits n=[]:=by
 by_cases h:n < 10
 ·rw [b7 h];simp
 ·rw [eT h];simp
theorem nJ (n:Nat):Lib.decFrom 0 (Lib.decDigits n)=some n:=by
 induction n using Nat.strongRecOn with
 | ind n ih =>
  by_cases h:n < 10
  ·rw [b7 h,Lib.decFrom,sR h];simp [Lib.decFrom]
  ·rw [eT h,nI,ih _ (by omega),sR (by omega)]
   simp only [Option.bind_some,Option.map_some];congr 1;omega
theorem pK {t u:Str} (h:¬ t=[]):(t++u).getD 0 0=t.getD 0 0:=by
 cases t with
 | nil=>exact absurd rfl h
 | cons=>rfl
theorem l9 (n:Nat):(Lib.decDigits n).getD 0 0=48→n=0:=by
 induction n using Nat.strongRecOn with
 | ind n ih =>
  intro h
  by_cases hs:n < 10
  ·rw [b7 hs] at h
   have h1:=congrArg UInt8.toNat h
   simp only [List.getD_cons_zero] at h1
   rw [UInt8.toNat_ofNat'] at h1
   have:(48:UInt8).toNat=48:=rfl
   omega
  ·rw [eT hs,pK (lC _)] at h
   have:=ih (n / 10) (by omega) h
   omega
theorem xw:∀ (k:Nat) (s:Str) (n:Nat),s.length=k→¬ s=[]→¬ (s.getD 0 0=48∧1 < s.length)→Lib.decFrom 0 s=some n→Lib.decDigits n=s:=by
 intro k
 induction k with
 | zero=>intro s n hk hs;exact absurd (List.eq_nil_of_length_eq_zero hk) hs
 | succ k ih =>
  intro s n hk hs hc hd
  rcases List.eq_nil_or_concat s with rfl|⟨t,b,rfl⟩
  ·exact absurd rfl hs
  rw [List.concat_eq_append] at hk hs hc hd ⊢
  rw [nI] at hd
  simp only [Option.bind_eq_some_iff,Option.map_eq_some_iff] at hd
  obtain ⟨v,hv,d,hb,rfl⟩:=hd
  obtain ⟨hd10,rfl⟩:=xv hb
  by_cases ht:t=[]
  ·subst ht
   simp only [Lib.decFrom,Option.some.injEq] at hv
   subst hv
   rw [Nat.zero_mul,Nat.zero_add,b7 hd10];rfl
  ·rw [pK ht] at hc
   simp only [List.length_append,List.length_cons,List.length_nil] at hc hk
   have hlt:=List.length_pos_iff.2 ht
   have:=ih t v (by omega) ht (fun h=>hc ⟨h.1,by omega⟩) hv
   have hv1:¬ v=0:=fun e=>by
    subst e
    rw [b7 (by decide)] at this
    exact hc ⟨by rw [← this];rfl,by omega⟩
   rw [eT (by omega),show (v * 10+d) / 10=v by omega,show (v * 10+d) % 10=d by omega,this]
def iN (s:Str):Int:=if s=[]∨9 < s.length∨s.getD 0 0=48∧1 < s.length then -1 else match Lib.decFrom 0 s with|some n=>n|none=>-1
theorem kT (s:Str):fm s=decide (0≤iN s)∧(fm s=true→bO s=iN s):=by
 by_cases hl:s.length≤9
 ·have hsh:=Lib.atoiAll_short s (by omega)
  by_cases hg:fm s=true
  ·have h:=hg
   simp only [fm,Bool.and_eq_true,decide_eq_true_eq] at h
   obtain ⟨⟨⟨h1,h2⟩,_⟩,h4⟩:=h
   obtain ⟨n,hn⟩:=Int.eq_ofNat_of_zero_le h2
   rw [hn,Lib.itoa_nonneg] at h4
   have hR:iN s=n:=by
    rw [iN,if_neg,← h4,nJ]
    rintro (h|h|⟨h,h'⟩)
    ·exact lC n (h4.trans h)
    ·omega
    ·rw [← h4] at h h'
     have:=l9 n h
     subst this
     rw [b7 (by decide)] at h'
     simp at h'
   rw [hg,hR]
   exact ⟨by simp,fun _=>hn⟩
  ·refine ⟨?_,fun h=>absurd h hg⟩
   have hgf:fm s=false:=by simpa using hg
   rw [hgf]
   symm
   rw [decide_eq_false_iff_not]
   intro h0
   apply hg
   unfold iN at h0
   split at h0
   ·omega
   ·rename_i hc
    split at h0
    ·rename_i n hd
     have hs:¬ s=[]:=fun e=>hc (.inl e)
     have hcan:=xw _ s n rfl hs (fun h=>hc (.inr (.inr h))) hd
     have hat:Lib.atoi s=some (n:Int):=by
      cases s with
      | nil=>exact absurd rfl hs
      | cons b r =>
       have hb:∃ d,Lib.digitVal b=some d:=by
        simp only [Lib.decFrom] at hd
        split at hd
        ·exact ⟨_,by assumption⟩
        ·cases hd
       obtain ⟨d,hbd⟩:=hb
       unfold Lib.digitVal at hbd
       split at hbd
       ·rename_i hr
        have h45:(b == 45)=false:=by rw [beq_eq_false_iff_ne];rintro rfl;exact absurd hr.1 (by decide)
        have h43:(b == 43)=false:=by rw [beq_eq_false_iff_ne];rintro rfl;exact absurd hr.1 (by decide)
        simp only [Lib.atoi,h45,h43,Lib.decNat,List.isEmpty_cons,hd,Bool.false_eq_true,if_false,Option.map_some]
       ·cases hbd
     rw [hat] at hsh
     have h1:Lib.atoiAll s = .ok (n:Int):=hsh
     have h2:bO s=n:=by simp only [bO,h1]
     simp only [fm,h2,kS,h1,Lib.itoa_nonneg,hcan,Bool.and_eq_true,decide_eq_true_eq]
     exact ⟨⟨⟨trivial,by omega⟩,hl⟩,trivial⟩
    ·omega
 ·have hR:iN s = -1:=by rw [iN,if_pos (.inr (.inl (by omega)))]
  rw [hR,Ar hl]
  exact ⟨by decide,fun h=>by cases h⟩
end Go.Proofs.YtfbnaalhioogoaaGreatDoor
namespace Go.Proofs.YtfbnaalhioogoaaGreatDoor
open Go Go.Ab
set_option maxRecDepth 20000
set_option maxHeartbeats 4000000
theorem ux {l:Str} {i:Nat} (h:i < l.length):l.drop i=l.getD i 0::l.drop (i+1):=by
 rw [List.drop_eq_getElem_cons h,List.getD_eq_getElem?_getD,List.getElem?_eq_getElem h];rfl
end Go.Proofs.YtfbnaalhioogoaaGreatDoor
namespace Go.Proofs.YtfbnaalhioogoaaGreatDoor
open Go Go.Ab
set_option maxRecDepth 20000
set_option maxHeartbeats 2000000
def chunk (s:Str):Str:=Lib.itoa s.length++[58]++s++[44]
def cF:List Str→Str
 | []=>[]
 | s::l=>chunk s++cF l
theorem ma (a b:List Str):cF (a++b)=cF a++cF b:=by
 induction a with
 | nil=>rfl
 | cons s a ih=>simp only [List.cons_append,cF,ih,List.append_assoc]
theorem lD {l:List Str} {i:Nat} (h:i < l.length):cF (l.take (i+1))=cF (l.take i)++chunk (l.getD i default):=by
 rw [List.take_add_one,ma,List.getElem?_eq_getElem h,List.getD_eq_getElem?_getD,List.getElem?_eq_getElem h]
 simp [cF]
theorem iA {l:List Str} (i:Nat):(cF (l.take i)).length≤(cF l).length:=by
 conv=>rhs;rw [← List.take_append_drop i l,ma,List.length_append]
 omega
theorem eU (s:Str):(Lib.itoa s.length).length+1+s.length+1=(chunk s).length:=by simp only [chunk,List.length_append,List.length_cons,List.length_nil]
theorem uy (q:Oid) (s:Str) (hl:(chunk s).length≤140737488355328) (p:Oid) (hp:p.mono=false) (hq:¬ Oid.under p (.ty 194 q)) :
  aj Tryz.prog 177 [.ptr (.ty 194 q) 0,.str s] (Oid.under p) ⟨[(.ty 194 q,.cells [.nilPtr,.nilSl])],.ptr (.ty 194 q) 0,
   [(.ty 194 q,some (.cells [.ptr (.ty 194 q) 0,.sl (.ty 5 (.sub 2 6 (.sub 1 8 p))) 1 (chunk s).length])),(.ty 5 (.sub 2 6 (.sub 1 8 p)),some (.arr 1 ((chunk s).map byA)))]⟩:=by
 have hs:=eU s
 have hq':∀ c i,¬ Oid.under (.sub c i p) (.ty 194 q):=fun c i h=>hq (Oid.ae h)
 refine aD (n:=15) (rs:=[.tmp 4]) Tryz.func177 rfl rfl (by decide) rfl rfl rfl ?_;rintro x rfl hrd hng
 (repeat (first|(refine ay rfl rfl ?_)|(refine aw rfl rfl ?_)|(refine ao nmd [] hng (by kernel_rfl) fun hf C S K hC1 hC hS hK=>?_;simp (disch:=first|omega|assumption) only [go_sem];(repeat ((first|refine hC1 _ (iz s.length (by omega) (by omega) _ (aq rfl hp)) (by simp (disch:=first|omega|assumption) only [go_sem]) ?_|refine hC1 _ (Aq q (chunk s) hl _ (hq' _ _)) (by simp (disch:=first|omega|assumption) only [go_sem]) ?_);simp (disch:=first|omega|assumption) only [go_sem]));refine hK ?_;clear hK hS hC hC1 K S C hf)|((first|refine zn ?_|refine ze ?_|refine zk ?_);with_reducible (constructor;repeat constructor);try refine zl ?_)))
 refine aB (a6 rfl ?_ ?_)
 all_goals simp only [List.mem_cons,List.not_mem_nil,or_false,forall_eq_or_imp,forall_eq,Option.some.injEq,forall_eq',Mem.ar,eq_self,if_true,↓reduceIte,reduceCtorEq,implies_true,not_true_eq_false,false_imp_iff,true_and,and_true,false_and,and_false,imp_self,Oid.ty.injEq,Nat.reduceEqDiff]
theorem xx (q r:Oid) (s0 s:Str) (hl:s0.length+(chunk s).length≤140737488355328) (p:Oid) (hp:p.mono=false) (hq:¬ Oid.under p (.ty 194 q)) (hr:¬ Oid.under p (.ty 5 r)) :
  aj Tryz.prog 177 [.ptr (.ty 194 q) 0,.str s] (Oid.under p) ⟨[(.ty 194 q,.cells [.ptr (.ty 194 q) 0,.sl (.ty 5 r) 1 s0.length]),(.ty 5 r,.arr 1 (s0.map byA))],.ptr (.ty 194 q) 0,
   [(.ty 194 q,some (.cells [.ptr (.ty 194 q) 0,.sl (.ty 5 (.sub 2 6 (.sub 1 8 p))) 1 (s0++chunk s).length])),(.ty 5 r,none),(.ty 5 (.sub 2 6 (.sub 1 8 p)),some (.arr 1 ((s0++chunk s).map byA)))]⟩:=by
 have hs:=eU s
 have hq':∀ c i,¬ Oid.under (.sub c i p) (.ty 194 q):=fun c i h=>hq (Oid.ae h)
 have hr':∀ c i,¬ Oid.under (.sub c i p) (.ty 5 r):=fun c i h=>hr (Oid.ae h)
 have hn:¬ Oid.sub 2 6 (.sub 1 8 p)=r:=fun e=>hr (by subst e;simp [Oid.under,Oid.ax])
 have hn':¬ r=Oid.sub 2 6 (.sub 1 8 p):=fun e=>hn e.symm
 refine aD (n:=15) (rs:=[.tmp 4]) Tryz.func177 rfl rfl (by decide) rfl rfl rfl ?_;rintro x rfl hrd hng
 (repeat (first|(refine ay rfl rfl ?_)|(refine aw rfl rfl ?_)|(refine ao nmd [] hng (by kernel_rfl) fun hf C S K hC1 hC hS hK=>?_;simp (disch:=first|omega|assumption) only [go_sem];(repeat ((first|refine hC1 _ (iz s.length (by omega) (by omega) _ (aq rfl hp)) (by simp (disch:=first|omega|assumption) only [go_sem]) ?_|refine hC1 _ (DU q r s0 (chunk s) hl _ (hq' _ _) (hr' _ _)) (by simp (disch:=first|omega|assumption) only [go_sem]) ?_);simp (disch:=first|omega|assumption) only [go_sem]));refine hK ?_;clear hK hS hC hC1 K S C hf)|((first|refine zn ?_|refine ze ?_|refine zk ?_);with_reducible (constructor;repeat constructor);try refine zl ?_)))
 refine aB (a6 rfl ?_ ?_)
 all_goals simp only [List.mem_cons,List.not_mem_nil,or_false,forall_eq_or_imp,forall_eq,Option.some.injEq,forall_eq',Mem.ar,eq_self,if_true,↓reduceIte,reduceCtorEq,implies_true,not_true_eq_false,false_imp_iff,true_and,and_true,false_and,and_false,imp_self,Oid.ty.injEq,Nat.reduceEqDiff,hn,hn',List.length_append]
def qX (n:Nat) (p:Oid):Oid:=.sub 2 6 (.sub 1 8 (.sub (4 * n) 3 p))
theorem uz {c n:Nat} {p:Oid} (h:4 * n < c):¬ Oid.under (.sub c 3 p) (.ty 5 (qX n p)):=by
 have hself:¬ Oid.under (.sub c 3 p) p:=fun h=>by have:=Oid.eh h;simp [Oid.depth] at this;omega
 simp only [qX,Oid.under,reduceCtorEq,false_or,Oid.sub.injEq,Nat.reduceEqDiff,false_and,and_false,hself,or_false]
 omega
theorem DV (l:List Str) (hne:¬ l=[]) (hl:(cF l).length≤140737488355328) (hn:l.length≤140737488355328) (q:Oid) (p:Oid) (hp:p.mono=false) (hq:¬ Oid.under p (.ty 194 q)) :
  aj Tryz.prog 176 [.list 1 (l.map AV.str),.ptr (.ty 194 q) 0,.fn (.func 177) [] []] (Oid.under p) ⟨[(.ty 194 q,.cells [.nilPtr,.nilSl])],.ptr (.ty 194 q) 0,
   [(.ty 194 q,some (.cells [.ptr (.ty 194 q) 0,.sl (.ty 5 (qX l.length p)) 1 (cF l).length])),(.ty 5 (qX l.length p),some (.arr 1 ((cF l).map byA)))]⟩:=by
 have hq':∀ c i,¬ Oid.under (.sub c i p) (.ty 194 q):=fun c i h=>hq (Oid.ae h)
 refine aD (n:=21) (rs:=[.tmp 6]) Tryz.func176 rfl rfl (by decide) rfl rfl rfl ?_;rintro x rfl hrd hng
 refine qw0 ?_
 refine bV [1,2,9,10,11] (fun k s'=>∃ (i:Nat) (M:List (Oid × ah)),k=l.length - i∧i≤l.length∧(i=0∧M=[(.ty 194 q,.cells [.nilPtr,.nilSl])] ∨
   ¬ i=0∧M=[(.ty 194 q,.cells [.ptr (.ty 194 q) 0,.sl (.ty 5 (qX i x.p)) 1 (cF (l.take i)).length]),(.ty 5 (qX i x.p),.arr 1 ((cF (l.take i)).map byA))]) ∧
   s' = ⟨[(1,.ptr (.ty 194 q) 0),(2,.fn (.func 177) [] []),(9,.list 1 (l.map AV.str)),(10,.int .i64 l.length),(11,.int .i64 i)],Mem.of M,2+4 * i,[]⟩) _ ⟨0,_,rfl,Nat.zero_le _,.inl ⟨rfl,rfl⟩,rfl⟩ ?_
 rintro k s' ⟨i,M,rfl,hi,hM,rfl⟩
 rcases hM with ⟨rfl,rfl⟩|⟨h0,rfl⟩
 ·refine qw0 ?_
  refine aP rfl rfl (fun hb=>?_) (fun hb=>?_)
  ·have hi0:0 < l.length:=by omega
   have ht:=lD (l:=l) hi0
   have hle:=iA (l:=l) 1
   rw [List.take_zero] at ht
   simp only [Nat.zero_add] at ht
   (repeat (first|(refine ay rfl rfl ?_)|(refine aw rfl rfl ?_)|(refine ao nmd [] hng (by kernel_rfl) fun hf C S K hC1 hC hS hK=>?_;simp (disch:=first|omega|assumption) only [go_sem];(repeat ((first|refine hC1 _ (uy q (l.getD 0 default) (by rw [ht] at hle;simp only [cF,List.nil_append] at hle;omega) _ (aq rfl hp) (hq' _ _)) (by simp (disch:=first|omega|assumption) only [go_sem]) ?_);simp (disch:=first|omega|assumption) only [go_sem]));refine hK ?_;clear hK hS hC hC1 K S C hf)|((first|refine zn ?_|refine ze ?_|refine zk ?_);with_reducible (constructor;repeat constructor);try refine zl ?_)))
   refine ⟨_,_,?_,fun _ _ h=>h,1,_,rfl,by omega,.inr ⟨by omega,rfl⟩,?_⟩
   ·omega
   ·rw [ht];rfl
  ·exact absurd (List.eq_nil_of_length_eq_zero (by omega)) hne
 ·refine qw0 ?_
  refine aP rfl rfl (fun hb=>?_) (fun hb=>?_)
  ·have ht:=lD (l:=l) (i:=i) (by omega)
   have hle:=iA (l:=l) (i+1)
   (repeat (first|(refine ay rfl rfl ?_)|(refine aw rfl rfl ?_)|(refine ao nmd [] hng (by kernel_rfl) fun hf C S K hC1 hC hS hK=>?_;simp (disch:=first|omega|assumption) only [go_sem];(repeat ((first|refine hC1 _ (xx q (qX i x.p) (cF (l.take i)) (l.getD i default) (by rw [ht,List.length_append] at hle;omega) _ (aq rfl hp) (hq' _ _) (uz (by omega))) (by simp (disch:=first|omega|assumption) only [go_sem]) ?_);simp (disch:=first|omega|assumption) only [go_sem]));refine hK ?_;clear hK hS hC hC1 K S C hf)|((first|refine zn ?_|refine ze ?_|refine zk ?_);with_reducible (constructor;repeat constructor);try refine zl ?_)))
   refine ⟨_,_,?_,fun _ _ h=>h,i+1,_,rfl,by omega,.inr ⟨by omega,rfl⟩,?_⟩
   ·omega
   ·have hc:4 * (i+1)=2+4 * i+1+1:=by omega
    rw [ht,List.length_append,qX,hc,show 2+4 * i+1+1+1+1=2+(2+4 * i+1+1) by omega];rfl
  ·obtain rfl:i=l.length:=by omega
   refine qw0 ?_
   refine aB (a6 rfl ?_ ?_)
   all_goals simp only [List.mem_cons,List.not_mem_nil,or_false,forall_eq_or_imp,forall_eq,Option.some.injEq,forall_eq',Mem.ar,eq_self,if_true,↓reduceIte,reduceCtorEq,implies_true,not_true_eq_false,false_imp_iff,true_and,and_true,false_and,and_false,imp_self,Oid.ty.injEq,Nat.reduceEqDiff,List.take_length]
theorem Au (q:Oid) (p:Oid) :
  aj Tryz.prog 176 [.list 1 [],.ptr q 0,.fn (.func 177) [] []] (Oid.under p) ⟨[(q,.cells [.nilPtr,.nilSl])],.ptr q 0,[]⟩:=by
 refine aD (n:=21) (rs:=[.tmp 6]) Tryz.func176 rfl rfl (by decide) rfl rfl rfl ?_;rintro x rfl hrd hng
 refine qw0 ?_
 refine bV [1,2,9,10,11] (fun k s'=>k=0∧s' = ⟨[(1,.ptr q 0),(2,.fn (.func 177) [] []),(9,.list 1 []),(10,.int .i64 0),(11,.int .i64 0)],Mem.of [(q,.cells [.nilPtr,.nilSl])],2,[]⟩) _ ⟨rfl,rfl⟩ ?_
 rintro k s' ⟨rfl,rfl⟩
 refine qw0 ?_
 refine aB (a6 rfl ?_ ?_)
 all_goals simp only [List.mem_cons,List.not_mem_nil,or_false,forall_eq_or_imp,forall_eq,Option.some.injEq,forall_eq',Mem.ar,eq_self,if_true,↓reduceIte,reduceCtorEq,implies_true,not_true_eq_false,false_imp_iff,true_and,and_true,false_and,and_false,imp_self,Oid.ty.injEq,Nat.reduceEqDiff]
theorem uA {c i j:Nat} {t:Nat} {p:Oid} (h:¬ j=i):¬ Oid.under (.sub c j p) (.ty t (.sub c i p)):=by
 have hself:¬ Oid.under (.sub c j p) p:=fun h=>by have:=Oid.eh h;simp [Oid.depth] at this;omega
 simp only [Oid.under,reduceCtorEq,false_or,Oid.sub.injEq,h,false_and,and_false,hself,or_false,not_false_eq_true]
theorem pL (l:List Str) (hl:(cF l).length≤140737488355328) (hn:l.length≤140737488355328) (p:Oid) (hp:p.mono=false) :
  aj Tryz.prog 97 [.list 1 (l.map AV.str)] (Oid.under p) ⟨[],.str (cF l),[]⟩:=by
 by_cases hne:l=[]
 ·subst hne
  refine aD (n:=8) (rs:=[.tmp 2]) Tryz.func97 rfl rfl (by decide) rfl rfl rfl ?_;rintro x rfl hrd hng
  refine qw0 ?_
  refine ao nmd [] hng (by kernel_rfl) fun hf C S K hC1 hC hS hK=>?_;simp (disch:=first|omega|assumption) only [go_sem]
  refine hC1 _ (Au (.ty 194 (.sub 1 2 _)) _) qs0 ?_
  simp (disch:=first|omega|assumption) only [go_sem]
  refine hC1 _ (uw (.sub 1 2 _) _) qs0 ?_
  simp (disch:=first|omega|assumption) only [go_sem]
  refine hK ?_;clear hK hS hC hC1 K S C hf
  refine qw0 ?_
  exact aB (bA rfl)
 ·have h0:0 < (cF l).length:=by
   cases l with
   | nil=>exact absurd rfl hne
   | cons s l =>
    have:=eU s
    simp only [cF,List.length_append];omega
  refine aD (n:=8) (rs:=[.tmp 2]) Tryz.func97 rfl rfl (by decide) rfl rfl rfl ?_;rintro x rfl hrd hng
  refine qw0 ?_
  refine ao nmd [] hng (by kernel_rfl) fun hf C S K hC1 hC hS hK=>?_;simp (disch:=first|omega|assumption) only [go_sem]
  refine hC1 _ (DV l hne hl hn (.sub 1 2 _) _ (aq rfl hp) (uA (by decide))) qs0 ?_
  simp (disch:=first|omega|assumption) only [go_sem]
  refine hC1 _ (xt (.sub 1 2 _) (qX l.length (.sub 1 3 x.p)) _ h0 hl _) qs0 ?_
  simp (disch:=first|omega|assumption) only [go_sem]
  refine hK ?_;clear hK hS hC hC1 K S C hf
  refine qw0 ?_
  exact aB (bA rfl)
end Go.Proofs.YtfbnaalhioogoaaGreatDoor
namespace Go.Proofs.YtfbnaalhioogoaaGreatDoor
open Go Go.Ab Go.RowKit
set_option maxRecDepth 20000
set_option maxHeartbeats 2000000
def colon (s:Str):Nat:=(Lib.indexByte s 58).toNat
def mb (s:Str):Str:=s.take (colon s)
def jR (s:Str):Str:=s.drop (colon s+1)
def mc (s:Str):Nat:=(bO (mb s)).toNat
def okS (s:Str):Prop:=0≤Lib.indexByte s 58∧fm (mb s)=true∧bO (mb s) < (jR s).length∧(jR s).getD (mc s) 0=44
instance (s:Str):Decidable (okS s):=by unfold okS;infer_instance
def xy:Nat→Str→Option (List Str)
 | 0,_=>none
 | k+1,s=>if s=[] then some [] else if okS s then (xy k ((jR s).drop (mc s+1))).map ((jR s).take (mc s)::·) else none
theorem qY {s:Str} (h:¬ s=[]):((jR s).drop (mc s+1)).length < s.length:=by
 have:=List.length_pos_iff.2 h;simp only [jR,List.length_drop];omega
theorem pO:∀ (k k':Nat) (s:Str),s.length < k→s.length < k'→xy k s=xy k' s
 | 0,_,_,h,_=>absurd h (Nat.not_lt_zero _)
 | _+1,0,_,_,h=>absurd h (Nat.not_lt_zero _)
 | k+1,k' + 1,s,h,h'=>by
  simp only [xy]
  by_cases h0:s=[]
  ·rw [if_pos h0,if_pos h0]
  rw [if_neg h0,if_neg h0]
  split
  ·rw [pO k k' _ (by have:=qY h0;omega) (by have:=qY h0;omega)]
  ·rfl
def sS (s:Str):Option (List Str):=xy (s.length+1) s
theorem xz {s:Str} (h0:¬ s=[]) (h:okS s):sS s=(sS ((jR s).drop (mc s+1))).map ((jR s).take (mc s)::·):=by
 rw [sS,xy,if_neg h0,if_pos h]
 exact congrArg _ (pO _ _ _ (qY h0) (Nat.lt_succ_self _))
end Go.Proofs.YtfbnaalhioogoaaGreatDoor
namespace Go.Proofs.YtfbnaalhioogoaaGreatDoor
open Go Go.Ab
set_option maxRecDepth 20000
set_option maxHeartbeats 4000000
structure Bits where
 k:Int
 m:Int
 l:Str
deriving DecidableEq
def Bits.av (b:Bits):AV:=.agg [.int .i64 b.k,.int .i64 b.m,.str b.l]
def Bits.no:Bits:=⟨0,0,[]⟩
def Bits.ok (b:Bits):Prop:=(-9223372036854775808≤b.k∧b.k≤9223372036854775807)∧(-9223372036854775808≤b.m∧b.m≤9223372036854775807)∧b.l.length≤4000000000
def dq (b:Bits):Str:=if b.k=0 then [] else cF [Lib.itoa b.k,Lib.itoa b.m,b.l]
theorem ig {s:Str} (h:s.length≤4000000000):(chunk s).length≤4000000100:=by
 have h1:=eU s
 have h2:=Lib.itoa_length_le s.length (by omega) (by omega)
 omega
theorem Av (b:Bits) (hb:b.ok) (p:Oid) (hp:p.mono=false):aj Tryz.prog 74 [b.av] (Oid.under p) ⟨[],.str (dq b),[]⟩:=by
 obtain ⟨k,m,l⟩:=b
 obtain ⟨⟨k1,k2⟩,⟨m1,m2⟩,hl⟩:=hb
 simp only at k1 k2 m1 m2 hl
 have hk:=Lib.itoa_length_le k k1 k2
 have hm:=Lib.itoa_length_le m m1 m2
 have h1:=ig (s:=Lib.itoa k) (by omega)
 have h2:=ig (s:=Lib.itoa m) (by omega)
 have h3:=ig hl
 have hE:(cF [Lib.itoa k,Lib.itoa m,l]).length≤140737488355328:=by simp only [cF,List.length_append,List.length_nil];omega
 simp only [Bits.av]
 refine aD (n:=16) (rs:=[.tmp 2]) Tryz.func74 rfl rfl (by decide) rfl rfl rfl ?_;rintro x rfl hrd hng
 refine qw0 ?_
 refine aP rfl rfl (fun hb=>?_) (fun hb=>?_)
 ·refine qw0 ?_
  exact aB (bA (congrArg AV.str (by rw [dq,if_pos hb])))
 ·(try ((first|refine zn ?_|refine ze ?_|refine zk ?_);with_reducible (constructor;repeat constructor));try refine zl ?_)
  refine bJ nmd [] [(2,4),(2,7),(5,7)] mixed hng (by kernel_rfl) [2] fun hf C S K hC hS hK=>?_;simp (disch:=first|omega|assumption) only [go_sem]
  (repeat ((first|refine hC _ (iz k k1 k2 _ (aq rfl hp)) (by simp (disch:=first|omega|assumption) only [go_sem]) ?_|refine hC _ (iz m m1 m2 _ (aq rfl hp)) (by simp (disch:=first|omega|assumption) only [go_sem]) ?_|refine hC _ (pL [Lib.itoa k,Lib.itoa m,l] hE (by simp) _ (aq rfl hp)) (by simp (disch:=first|omega|assumption) only [go_sem]) ?_);simp (disch:=first|omega|assumption) only [go_sem]))
  (first|refine hK (aE rfl) ?_|refine hK (by simp (disch:=first|omega|assumption) only [go_sem,List.reverse_cons,List.reverse_nil,ne_eq,not_false_eq_true,implies_true]) ?_);clear hK hS hC K S C hf
  refine qw0 ?_
  exact aB (bA (congrArg AV.str (by rw [dq,if_neg hb])))
def uB (s a b c:Str):Bool:=fm a && fm b && decide (1≤bO a) && decide (bO a≤3) && decide (bO b≤7) && !(decide (bO a=2) && decide (c≠[])) && decide (dq ⟨bO a,bO b,c⟩=s)
theorem sT {s a b c:Str}:uB s a b c=true↔fm a=true∧fm b=true∧1≤bO a∧bO a≤3∧bO b≤7∧¬ (bO a=2∧¬ c=[])∧dq ⟨bO a,bO b,c⟩=s:=by
 simp only [uB,Bool.and_eq_true,decide_eq_true_eq,Bool.not_eq_true',Bool.and_eq_false_imp,decide_eq_false_iff_not,not_and,and_assoc,ne_eq]
def lE (s:Str):Bits × Int:=if s=[] then (Bits.no,0) else match sS s with
 | some [a,b,c]=>if uB s a b c=true then (⟨bO a,bO b,c⟩,0) else (Bits.no,20)
 | _=>(Bits.no,20)
end Go.Proofs.YtfbnaalhioogoaaGreatDoor
namespace Go.Proofs.YtfbnaalhioogoaaGreatDoor
open Go Go.Ab
set_option maxRecDepth 20000
set_option maxHeartbeats 4000000
theorem nK (l:List Str) (hl:(cF l).length≤140737488355328) (hn:l.length≤140737488355328) (p:Oid):aj Tryz.prog 207 [.list 1 (l.map AV.str)] (Oid.under p) ⟨[],.str (cF l),[]⟩:=by
 refine aD (n:=27) (rs:=[.tmp 2]) Tryz.func207 rfl rfl (by decide) rfl rfl rfl ?_;rintro x rfl hrd hng
 refine qw0 ?_
 refine bV [0,3,4] (fun k s'=>∃ (i c:Nat),k=l.length - i∧i≤l.length∧s' = ⟨[(0,.list 1 (l.map AV.str)),(3,.str (cF (l.take i))),(4,.int .i64 i)],Mem.of [],c,[]⟩) _ ⟨0,_,rfl,Nat.zero_le _,rfl⟩ ?_
 rintro k s' ⟨i,c,rfl,hi,rfl⟩
 refine qw0 ?_
 refine aP rfl rfl (fun hb=>?_) (fun hb=>?_)
 ·have ht:=lD (l:=l) (i:=i) (by omega)
  have hle:=iA (l:=l) (i+1)
  have hch:=eU (l.getD i default)
  have hdl:=Lib.itoa_nonneg (l.getD i default).length
  rw [hdl] at hch
  rw [ht,List.length_append] at hle
  (try ((first|refine zn ?_|refine ze ?_|refine zk ?_);with_reducible (constructor;repeat constructor));try refine zl ?_)
  refine bJ nmd [] [(6,12)] mixed hng (by kernel_rfl) [0,3,4] fun hf C S K hC hS hK=>?_;simp (disch:=first|omega|assumption) only [go_sem]
  (repeat ((first|refine hC _ (lB (l.getD i default).length (by omega) _) (by simp (disch:=first|omega|assumption) only [go_sem]) ?_);simp (disch:=first|omega|assumption) only [go_sem]))
  (first|refine hK (aE rfl) ?_|refine hK (by simp (disch:=first|omega|assumption) only [go_sem,List.reverse_cons,List.reverse_nil,ne_eq,not_false_eq_true,implies_true]) ?_);clear hK hS hC K S C hf
  refine qw0 ?_
  have hs:cF (l.take i)++Lib.decDigits (l.getD i default).length++[58]++l.getD i default++[44]=cF (l.take (i+1)):=by rw [ht,chunk,hdl];simp only [List.append_assoc]
  rw [hs]
  exact ⟨_,_,by omega,fun _ _ h=>h,i+1,c+1+1+1,rfl,by omega,rfl⟩
 ·obtain rfl:i=l.length:=by omega
  refine qw0 ?_
  exact aB (bA (congrArg AV.str (by rw [List.take_length])))
theorem xA (b:Bits) (hb:b.ok) (h0:0≤b.k∧0≤b.m) (p:Oid):aj Tryz.prog 209 [b.av] (Oid.under p) ⟨[],.str (dq b),[]⟩:=by
 obtain ⟨k,m,l⟩:=b
 obtain ⟨⟨k1,k2⟩,⟨m1,m2⟩,hl⟩:=hb
 simp only at k1 k2 m1 m2 hl h0
 obtain ⟨k,rfl⟩:=Int.eq_ofNat_of_zero_le h0.1
 obtain ⟨m,rfl⟩:=Int.eq_ofNat_of_zero_le h0.2
 have hk:=gO k k2
 have hm:=gO m m2
 have h1:=ig (s:=Lib.decDigits k) (by omega)
 have h2:=ig (s:=Lib.decDigits m) (by omega)
 have h3:=ig hl
 have hE:(cF [Lib.decDigits k,Lib.decDigits m,l]).length≤140737488355328:=by simp only [cF,List.length_append,List.length_nil];omega
 simp only [Bits.av]
 refine aD (n:=16) (rs:=[.tmp 2]) Tryz.func209 rfl rfl (by decide) rfl rfl rfl ?_;rintro x rfl hrd hng
 refine qw0 ?_
 refine aP rfl rfl (fun hb=>?_) (fun hb=>?_)
 ·refine qw0 ?_
  exact aB (bA (congrArg AV.str (by rw [dq,if_pos hb])))
 ·(try ((first|refine zn ?_|refine ze ?_|refine zk ?_);with_reducible (constructor;repeat constructor));try refine zl ?_)
  refine bJ nmd [] [(2,4),(2,7),(5,7)] mixed hng (by kernel_rfl) [2] fun hf C S K hC hS hK=>?_;simp (disch:=first|omega|assumption) only [go_sem]
  (repeat ((first|refine hC _ (lB k k2 _) (by simp (disch:=first|omega|assumption) only [go_sem]) ?_|refine hC _ (lB m m2 _) (by simp (disch:=first|omega|assumption) only [go_sem]) ?_|refine hC _ (nK [Lib.decDigits k,Lib.decDigits m,l] hE (by simp) _) (by simp (disch:=first|omega|assumption) only [go_sem]) ?_);simp (disch:=first|omega|assumption) only [go_sem]))
  (first|refine hK (aE rfl) ?_|refine hK (by simp (disch:=first|omega|assumption) only [go_sem,List.reverse_cons,List.reverse_nil,ne_eq,not_false_eq_true,implies_true]) ?_);clear hK hS hC K S C hf
  refine qw0 ?_
  exact aB (bA (congrArg AV.str (by rw [dq,if_neg hb,Lib.itoa_nonneg,Lib.itoa_nonneg])))
end Go.Proofs.YtfbnaalhioogoaaGreatDoor
namespace Go.Proofs.YtfbnaalhioogoaaGreatDoor
open Go Go.Ab
set_option maxRecDepth 20000
set_option maxHeartbeats 4000000
theorem sU (c:UInt8):∀ r:Str,(Lib.indexByte r c = -1∧∀ j,j < r.length→¬ r.getD j 0=c)∨∃ i:Nat,Lib.indexByte r c=i∧i < r.length∧r.getD i 0=c∧∀ j,j < i→¬ r.getD j 0=c
 | []=>.inl ⟨rfl,fun j hj=>absurd hj (Nat.not_lt_zero _)⟩
 | b::r=>by
  by_cases hb:b=c
  ·refine .inr ⟨0,by simp [Lib.indexByte,hb],by simp,by simp [hb],fun j hj=>absurd hj (Nat.not_lt_zero _)⟩
  have hb':(b == c)=false:=by simpa using hb
  rcases sU c r with ⟨h1,h2⟩|⟨i,h1,h2,h3,h4⟩
  ·refine .inl ⟨by simp [Lib.indexByte,hb',h1],fun j hj=>?_⟩
   cases j with
   | zero=>simpa using hb
   | succ j=>simpa using h2 j (by simpa using hj)
  ·refine .inr ⟨i+1,?_,by simpa using h2,by simpa using h3,fun j hj=>?_⟩
   ·have:¬ Lib.indexByte r c = -1:=by omega
    simp only [Lib.indexByte,hb',Bool.false_eq_true,if_false,beq_iff_eq,this,h1];omega
   ·cases j with
    | zero=>simpa using hb
    | succ j=>simpa using h4 j (by omega)
end Go.Proofs.YtfbnaalhioogoaaGreatDoor
namespace Go.Proofs.YtfbnaalhioogoaaGreatDoor
open Go Go.Ab
set_option maxRecDepth 20000
set_option maxHeartbeats 4000000
theorem Aw {s a b c:Str}:uB s a b c=true↔1≤iN a∧iN a≤3∧0≤iN b∧iN b≤7∧¬ (iN a=2∧¬ c=[])∧dq ⟨iN a,iN b,c⟩=s:=by
 rw [sT]
 obtain ⟨a1,a2⟩:=kT a
 obtain ⟨b1,b2⟩:=kT b
 constructor
 ·rintro ⟨h1,h2,h3,h4,h5,h6,h7⟩
  rw [a2 h1] at h3 h4 h6 h7
  rw [b2 h2] at h5 h7
  rw [b1,decide_eq_true_eq] at h2
  exact ⟨h3,h4,h2,h5,h6,h7⟩
 ·rintro ⟨h1,h2,h3,h4,h5,h6⟩
  have g1:fm a=true:=by rw [a1,decide_eq_true_eq];omega
  have g2:fm b=true:=by rw [b1,decide_eq_true_eq];omega
  rw [a2 g1,b2 g2]
  exact ⟨g1,g2,h1,h2,h4,h5,h6⟩
theorem DW {s a b c:Str}:(if uB s a b c=true then ((⟨bO a,bO b,c⟩:Bits),(0:Int)) else (Bits.no,20))=if uB s a b c=true then (⟨iN a,iN b,c⟩,0) else (Bits.no,20):=by
 split
 ·rename_i h
  have:=sT.1 h
  rw [(kT a).2 this.1,(kT b).2 this.2.1]
 ·rfl
end Go.Proofs.YtfbnaalhioogoaaGreatDoor
namespace Go.Proofs.YtfbnaalhioogoaaGreatDoor
open Go Go.Ab
set_option maxRecDepth 20000
set_option maxHeartbeats 4000000
theorem xB {a b:List Str} {i:Nat} (ha:i < a.length) (hb:i < b.length) (h:a.take i=b.take i) (he:a.getD i default=b.getD i default):a.take (i+1)=b.take (i+1):=by
 rw [List.take_add_one,List.take_add_one,h,List.getElem?_eq_getElem ha,List.getElem?_eq_getElem hb]
 rw [List.getD_eq_getElem?_getD,List.getD_eq_getElem?_getD,List.getElem?_eq_getElem ha,List.getElem?_eq_getElem hb] at he
 simp only [Option.getD_some] at he
 rw [he]
theorem vI (a b:List Str) (ha:a.length≤140737488355328) (hbl:b.length≤140737488355328) (p:Oid):aj Tryz.prog 36 [.list 1 (a.map AV.str),.list 1 (b.map AV.str)] (Oid.under p) ⟨[],.bool (decide (a=b)),[]⟩:=by
 refine aD (n:=26) (rs:=[.tmp 4]) Tryz.func36 rfl rfl (by decide) rfl rfl rfl ?_;rintro x rfl hrd hng
 refine qw0 ?_
 refine aP rfl rfl (fun hb=>?_) (fun hb=>?_)
 ·have hne:¬ a=b:=fun e=>hb (by rw [e])
  refine qw0 ?_
  exact aB (bA (congrArg AV.bool (decide_eq_false hne).symm))
 ·have hlen:a.length=b.length:=by omega
  refine qw0 ?_
  refine bV [0,1,5] (fun k s'=>∃ (i c:Nat),k=a.length - i∧i≤a.length∧a.take i=b.take i∧s' = ⟨[(0,.list 1 (a.map AV.str)),(1,.list 1 (b.map AV.str)),(5,.int .i64 i)],Mem.of [],c,[]⟩) _ ⟨0,_,rfl,Nat.zero_le _,rfl,rfl⟩ ?_
  rintro k s' ⟨i,c,rfl,hi,htk,rfl⟩
  refine qw0 ?_
  refine aP rfl rfl (fun hb=>?_) (fun hb=>?_)
  ·(try ((first|refine zn ?_|refine ze ?_|refine zk ?_);with_reducible (constructor;repeat constructor));try refine zl ?_)
   refine cB [0,1,5,25] (fun s'=>∃ c':Nat,s' = ⟨[(0,.list 1 (a.map AV.str)),(1,.list 1 (b.map AV.str)),(5,.int .i64 i),(25,.bool (decide (¬ a.getD i default=b.getD i default)))],Mem.of [],c',[]⟩) ?_ ?_
   ·refine qd (.d [] [] [0,1,5,25]) trivial trivial ?_
    exact aM ⟨_,rfl⟩
   rintro s' ⟨c',rfl⟩
   refine qw0 ?_
   refine aP rfl rfl (fun hb=>?_) (fun hb=>?_)
   ·have hne:¬ a=b:=fun e=>hb (by rw [e])
    refine qw0 ?_
    exact aB (bA (congrArg AV.bool (decide_eq_false hne).symm))
   ·refine qw0 ?_
    exact ⟨_,_,by omega,fun _ _ h=>h,i+1,_,rfl,by omega,xB (by omega) (by omega) htk (Classical.not_not.1 hb),rfl⟩
  ·have he:a=b:=by
    have h1:i=a.length:=by omega
    rw [h1,List.take_length,hlen,List.take_length] at htk
    exact htk
   refine qw0 ?_
   exact aB (bA (congrArg AV.bool (decide_eq_true he).symm))
end Go.Proofs.YtfbnaalhioogoaaGreatDoor
namespace Go.Proofs.YtfbnaalhioogoaaGreatDoor
open Go Go.Ab
set_option maxRecDepth 20000
set_option maxHeartbeats 4000000
def paths:List Str:=[[],[47,97],[47,98],[47,97,47,97],[47,97,47,98],[47,98,47,97],[97],[47,97,47,97,47,97],[47],[47,97,98]]
def vJ (i:UInt8):Str:=paths.getD (i.toNat % 10) default
def dJ (m k l:UInt8):Bits :=
 ⟨(m.toNat % 4:Nat),(k.toNat % 8:Nat),if m.toNat % 4=1∨m.toNat % 4=3 then ([120,121,122]:Str).drop (l.toNat % 3) else []⟩
theorem Ho (p:Oid):aj Tryz.prog 50 [] (Oid.under p) ⟨[],.ptr (.sub 1 2 p) 0,[(.sub 1 2 p,some (.cells [.map (.sub 1 0 p),.nilPtr])),(.sub 1 0 p,some (.map [.ss] false [] 0))]⟩:=by
 refine aD (n:=4) (rs:=[.tmp 0]) Tryz.func50 rfl rfl (by decide) rfl rfl rfl ?_;rintro x rfl hrd hng
 refine qw0 ?_
 refine aB (a6 rfl ?_ ?_)
 all_goals simp [Mem.ar]
end Go.Proofs.YtfbnaalhioogoaaGreatDoor
namespace Go.Proofs.YtfbnaalhioogoaaGreatDoor
open Go Go.Ab
set_option maxRecDepth 20000
set_option maxHeartbeats 4000000
theorem b9 {P:Program} {rs:List ResultVar} {need:List (Oid × ah)} {fr:List (Nat × AV)} {m:Mem} {c:Nat} {val:AV} {upd:List (Oid × Option ah)} (h1:eS P m fr rs=some val)
  (h2:∀ q,q ∈ upd→∀ o,q.2=some o→m q.1=some o) (h3:∀ q,q ∈ need→(∀ r,r ∈ upd→¬ r.1=q.1)→m q.1=some q.2):dI P rs need (fun v u=>v=val∧u=upd) (fun _ _=>False) .normal ⟨fr,m,c,[]⟩ :=
 bt val upd h1 ⟨rfl,rfl⟩ (qV h2 h3)
variable (st t:Oid) (es:List ME) (clock:Nat) (hts:¬ t=st) (p:Oid) (hs:¬ Oid.under p st) (ht:¬ Oid.under p t)
include hts hs ht
theorem DX (b:Bits):aj Tryz.prog 23 [.ptr st 0,.str [],b.av] (Oid.under p) ⟨[(st,.cells [.map t,.nilPtr]),(t,.map [.ss] false es clock)],.tuple [],[]⟩:=by
 simp only [Bits.av]
 refine aD (n:=35) (rs:=[]) Tryz.func23 rfl rfl (by decide) rfl rfl rfl ?_;rintro x rfl hrd hng
 refine qw (ai (uu ht) (ai (uu hs) hts)) ?_
 refine aB (a6 rfl ?_ ?_)
 all_goals simp only [List.mem_cons,List.not_mem_nil,or_false,forall_eq_or_imp,forall_eq,Option.some.injEq,forall_eq',Mem.ar,eq_self,if_true,↓reduceIte,reduceCtorEq,implies_true,not_true_eq_false,false_imp_iff,true_and,and_true,false_and,and_false,imp_self,Oid.ab ht,Oid.aa ht,Oid.ab hs,Oid.aa hs,hts]
theorem DY (n:Str) (hn:¬ n=[]) (b:Bits) (hb:¬ b.k=0):aj Tryz.prog 23 [.ptr st 0,.str n,b.av] (Oid.under p) ⟨[(st,.cells [.map t,.nilPtr]),(t,.map [.ss] false es clock)],.tuple [],[(t,some (.map [.ss] false (cW (.str n) b.av clock es) (if cx (.str n) es then clock else clock+1)))]⟩:=by
 simp only [Bits.av]
 refine aD (n:=35) (rs:=[]) Tryz.func23 rfl rfl (by decide) rfl rfl rfl ?_;rintro x rfl hrd hng
 refine qw (ai (uu ht) (ai (uu hs) hts)) ?_
 refine aP rfl rfl (fun hb'=>?_) (fun hb'=>?_)
 ·exact absurd hb' hn
 ·refine qw (ai (uu ht) (ai (uu hs) hts)) ?_
  refine aP rfl rfl (fun hb'=>?_) (fun hb'=>?_)
  ·exact absurd hb' hb
  ·(try ((first|refine zn ?_|refine ze ?_|refine zk ?_);with_reducible (constructor;repeat constructor));try refine zl ?_)
   refine qd (.d [] [] [0]) (ai (uu ht) (ai (uu hs) hts)) trivial ?_
   refine bZ (b9 rfl ?_ ?_)
   all_goals simp only [List.mem_cons,List.not_mem_nil,or_false,forall_eq_or_imp,forall_eq,Option.some.injEq,forall_eq',Mem.ar,eq_self,if_true,↓reduceIte,reduceCtorEq,implies_true,not_true_eq_false,false_imp_iff,true_and,and_true,false_and,and_false,imp_self,Oid.ab ht,Oid.aa ht,Oid.ab hs,Oid.aa hs,hts]
theorem DZ (n:Str) (hn:¬ n=[]) (b:Bits) (hb:b.k=0):aj Tryz.prog 23 [.ptr st 0,.str n,b.av] (Oid.under p) ⟨[(st,.cells [.map t,.nilPtr]),(t,.map [.ss] false es clock)],.tuple [],[(t,some (.map [.ss] false (kH (.str n) es) clock))]⟩:=by
 simp only [Bits.av]
 refine aD (n:=35) (rs:=[]) Tryz.func23 rfl rfl (by decide) rfl rfl rfl ?_;rintro x rfl hrd hng
 refine qw (ai (uu ht) (ai (uu hs) hts)) ?_
 refine aP rfl rfl (fun hb'=>?_) (fun hb'=>?_)
 ·exact absurd hb' hn
 ·refine qw (ai (uu ht) (ai (uu hs) hts)) ?_
  refine aP rfl rfl (fun hb'=>?_) (fun hb'=>?_)
  ·refine qw (ai (uu ht) (ai (uu hs) hts)) ?_
   refine bZ (b9 rfl ?_ ?_)
   all_goals simp only [List.mem_cons,List.not_mem_nil,or_false,forall_eq_or_imp,forall_eq,Option.some.injEq,forall_eq',Mem.ar,eq_self,if_true,↓reduceIte,reduceCtorEq,implies_true,not_true_eq_false,false_imp_iff,true_and,and_true,false_and,and_false,imp_self,Oid.ab ht,Oid.aa ht,Oid.ab hs,Oid.aa hs,hts]
  ·exact absurd hb hb'
omit hts in
theorem Ax (n:Str) (b:Bits) (hv:gL (.str n) (.agg [.int .i64 0,.int .i64 0,.str []]) es=b.av):aj Tryz.prog 75 [.map t,.str n] (Oid.under p) ⟨[(t,.map [.ss] false es clock)],(if n=[] then (⟨2,7,[]⟩:Bits) else b).av,[]⟩:=by
 simp only [Bits.av] at hv
 refine aD (n:=11) (rs:=[.cell 4 56]) Tryz.func75 rfl rfl (by decide) rfl rfl rfl ?_;rintro x rfl hrd hng
 refine qw (uu ht) ?_
 refine aP rfl rfl (fun hb'=>?_) (fun hb'=>?_)
 ·rw [if_pos hb']
  refine qw (uu ht) ?_
  refine aB (a6 (by simp (disch:=first|omega|assumption) only [go_sem,Bits.av,Oid.ab ht,Oid.aa ht]) ?_ ?_)
  all_goals simp only [List.mem_cons,List.not_mem_nil,or_false,forall_eq_or_imp,forall_eq,Option.some.injEq,forall_eq',Mem.ar,eq_self,if_true,↓reduceIte,reduceCtorEq,implies_true,not_true_eq_false,false_imp_iff,true_and,and_true,false_and,and_false,imp_self,Oid.ab ht,Oid.aa ht]
 ·rw [if_neg hb']
  refine qw (ai (uu ht) hv) ?_
  refine aB (a6 (by simp (disch:=first|omega|assumption) only [go_sem,Bits.av,Oid.ab ht,Oid.aa ht]) ?_ ?_)
  all_goals simp only [List.mem_cons,List.not_mem_nil,or_false,forall_eq_or_imp,forall_eq,Option.some.injEq,forall_eq',Mem.ar,eq_self,if_true,↓reduceIte,reduceCtorEq,implies_true,not_true_eq_false,false_imp_iff,true_and,and_true,false_and,and_false,imp_self,Oid.ab ht,Oid.aa ht]
omit hts ht in
theorem vK (n:Str) (f:Bool):aj Tryz.prog 106 [.ptr st 0,.agg [.str n,.bool f]] (Oid.under p) ⟨[(st,.cells [.map t,.nilPtr])],.tuple [],[]⟩:=by
 refine aD (n:=59) (rs:=[]) Tryz.func106 rfl rfl (by decide) rfl rfl rfl ?_;rintro x rfl hrd hng
 refine qr .o (uu hs) trivial ?_
 refine bJ nmd [(5,11),(9,15)] [] mixed hng (by kernel_rfl) [27] fun hf C S K hC hS hK=>?_;simp (disch:=first|omega|assumption) only [go_sem,Oid.ab hs,Oid.aa hs]
 (first|refine hK (aE rfl) ?_|refine hK (by simp (disch:=first|omega|assumption) only [go_sem,List.reverse_cons,List.reverse_nil,ne_eq,not_false_eq_true,implies_true]) ?_);clear hK hS hC K S C hf
 refine qw0 ?_
 refine aB (a6 rfl ?_ ?_)
 all_goals simp only [List.mem_cons,List.not_mem_nil,or_false,forall_eq_or_imp,forall_eq,Option.some.injEq,forall_eq',Mem.ar,eq_self,if_true,↓reduceIte,reduceCtorEq,implies_true,not_true_eq_false,false_imp_iff,true_and,and_true,false_and,and_false,imp_self,Oid.ab hs,Oid.aa hs]
theorem uC (n:Str) (b:Bits) (hv:gL (.str n) (.agg [.int .i64 0,.int .i64 0,.str []]) es=b.av):aj Tryz.prog 37 [.ptr st 0,.str n] (Oid.under p) ⟨[(st,.cells [.map t,.nilPtr]),(t,.map [.ss] false es clock)],(if n=[] then (⟨2,7,[]⟩:Bits) else b).av,[]⟩:=by
 have hs':∀ c i,¬ Oid.under (.sub c i p) st:=fun c i h=>hs (Oid.ae h)
 have ht':∀ c i,¬ Oid.under (.sub c i p) t:=fun c i h=>ht (Oid.ae h)
 generalize hB:(if n=[] then (⟨2,7,[]⟩:Bits) else b)=B
 have hat:=fun p hs ht=>Ax st t es clock p hs ht n b hv
 rw [hB] at hat
 simp only [Bits.av] at hat ⊢
 refine aD (n:=15) (rs:=[.cell 4 56]) Tryz.func37 rfl rfl (by decide) rfl rfl rfl ?_;rintro x rfl hrd hng
 refine qw (ai (uu ht) (ai (uu hs) hts)) ?_
 refine qr .o (ai (uu ht) (ai (uu hs) hts)) (cq (vK st t _ (hs' _ _) n false) trivial) ?_
 refine qr .o (ai (uu ht) (ai (uu hs) hts)) (cq (hat _ (hs' _ _) (ht' _ _)) trivial) ?_
 refine qw (ai (uu ht) (ai (uu hs) hts)) ?_
 refine aB (a6 (qs (ai (uu ht) (ai (uu hs) hts))) ?_ ?_)
 all_goals simp only [List.mem_cons,List.not_mem_nil,or_false,forall_eq_or_imp,forall_eq,Option.some.injEq,forall_eq',Mem.ar,eq_self,if_true,↓reduceIte,reduceCtorEq,implies_true,not_true_eq_false,false_imp_iff,true_and,and_true,false_and,and_false,imp_self,Oid.ab ht,Oid.aa ht,Oid.ab hs,Oid.aa hs,hts]
end Go.Proofs.YtfbnaalhioogoaaGreatDoor
namespace Go.Proofs.YtfbnaalhioogoaaGreatDoor
open Go Go.Ab
set_option maxRecDepth 20000
set_option maxHeartbeats 4000000
theorem mg (s:Str) (c:UInt8) (sp:Oid→Prop):aj Tryz.prog 233 [.str s,.str [c]] sp ⟨[],.bool (decide (0≤Lib.indexByte s c)),[]⟩ :=
 fk (by kernel_rfl) fun g args w ha _=>by
  obtain ⟨v,u,rfl,hv,hu⟩:=ha.two
  obtain ⟨b,rfl,hb⟩:=hv.bC
  obtain ⟨d,rfl,hd⟩:=hu.bC
  obtain rfl:d=⟨#[c]⟩:=by cases d with|mk a=>cases a with|mk l=>simp only at hd;rw [hd]
  refine (Tryz.strings_Contains_one b c w).mono ?_
  rintro e w' ⟨rfl,rfl⟩
  exact ⟨_,rfl,by rw [hb];exact .bool _,rfl⟩
def gw (s t:Str):Bool:=decide (t.length≤s.length) && decide (s.take t.length=t)
theorem kU (s t:Str) (hl:s.length≤140737488355328) (hl2:t.length≤140737488355328) (p:Oid):aj Tryz.prog 212 [.str s,.str t] (Oid.under p) ⟨[],.bool (gw s t),[]⟩:=by
 refine aD (n:=18) (rs:=[.tmp 4]) Tryz.func212 rfl rfl (by decide) rfl rfl rfl ?_;rintro x rfl hrd hng
 refine qr0 ?_
 refine ao nmd [(5,10)] hng (by kernel_rfl) fun hf C S K hC1 hC hS hK=>?_;simp (disch:=first|omega|assumption) only [go_sem]
 (repeat' (first|(refine bG (fun hv=>?_) (fun hv=>?_)<;>(try simp only [zb1,zb2,zb3,zb4,zb5] at hv)<;>simp (disch:=first|omega|assumption) only [go_sem,hv])|(refine hK ?_;clear hK hS hC hC1 K S C hf)))
 ·refine qw0 ?_
  exact aB (bA (congrArg AV.bool (by rw [gw,decide_eq_true (by omega:t.length≤s.length),Bool.true_and])))
 ·refine qw0 ?_
  exact aB (bA (congrArg AV.bool (by rw [gw,decide_eq_false (by omega:¬ t.length≤s.length),Bool.false_and])))
theorem oT (s t:Str) (hl:s.length≤140737488355328) (hl2:t.length≤140737488355328) (p:Oid):aj Tryz.prog 321 [.str s,.str t] (Oid.under p) ⟨[],.tuple [.str (if gw s t=true then s.drop t.length else s),.bool (gw s t)],[]⟩:=by
 have hpre:gw s t=true→t.length≤s.length:=fun h=>by simp only [gw,Bool.and_eq_true,decide_eq_true_eq] at h;exact h.1
 refine aD (n:=15) (rs:=[.tmp 4,.tmp 5]) Tryz.func321 rfl rfl (by decide) rfl rfl rfl ?_;rintro x rfl hrd hng
 (repeat (first|(refine ay rfl rfl ?_)|(refine aw rfl rfl ?_)|(refine ao nmd [] hng (by kernel_rfl) fun hf C S K hC1 hC hS hK=>?_;simp (disch:=first|omega|assumption) only [go_sem];(repeat ((first|refine hC1 _ (kU s t hl hl2 _) (by simp (disch:=first|omega|assumption) only [go_sem]) ?_);simp (disch:=first|omega|assumption) only [go_sem]));refine hK ?_;clear hK hS hC hC1 K S C hf)|((first|refine zn ?_|refine ze ?_|refine zk ?_);with_reducible (constructor;repeat constructor);try refine zl ?_)))
 cases hp:gw s t with
 | true =>
  have:=hpre hp
  refine qw0 ?_
  exact aB (bu rfl)
 | false =>
  refine qw0 ?_
  exact aB (bu rfl)
theorem kV (s t:Str) (hl:s.length≤140737488355328) (hl2:t.length≤140737488355328) (p:Oid):aj Tryz.prog 295 [.str s,.str t] (Oid.under p) ⟨[],.tuple [.str (if gw s t=true then s.drop t.length else s),.bool (gw s t)],[]⟩:=by
 refine aD (n:=11) (rs:=[.tmp 4,.tmp 5]) Tryz.func295 rfl rfl (by decide) rfl rfl rfl ?_;rintro x rfl hrd hng
 (repeat (first|(refine ay rfl rfl ?_)|(refine aw rfl rfl ?_)|(refine ao nmd [] hng (by kernel_rfl) fun hf C S K hC1 hC hS hK=>?_;simp (disch:=first|omega|assumption) only [go_sem];(repeat ((first|refine hC1 _ (oT s t hl hl2 _) (by simp (disch:=first|omega|assumption) only [go_sem]) ?_);simp (disch:=first|omega|assumption) only [go_sem]));refine hK ?_;clear hK hS hC hC1 K S C hf)|((first|refine zn ?_|refine ze ?_|refine zk ?_);with_reducible (constructor;repeat constructor);try refine zl ?_)))
 exact aB (bu rfl)
end Go.Proofs.YtfbnaalhioogoaaGreatDoor
namespace Go.Ab
theorem oU {P:Program} [Laid P] {f:FuncId} {xs:List AV} {p:Oid} (vs:List AV) (cs:Array Value) (t:TypeId) (he:cQ P f=true)
  (h1:cs.size=vs.length) (h2:∀ i,i < vs.length→(vs.getD i .undef).cells.length=1) (h3:∀ j,j < vs.length→(cs.getD j undef).oneCell' = true)
  (h4:∀ g i,i < vs.length→VR g ((vs.getD i .undef).cells.getD 0 .undef) (cs.getD i undef))
  (h:∀ (g:Gh) (args:Array Value) (w:World),VRs g xs args→lA P g w→Calls P f args w fun en w'=>en = .returned (.slice (some ⟨w.heap.size,0,none⟩) vs.length vs.length)∧w' = w.alloc (.cells cs t)) :
  aj P f xs (Oid.under p) ⟨[],.sl (.sub 0 0 p) 1 vs.length,[(.sub 0 0 p,some (.arr 1 vs))]⟩:=by
 refine ⟨he,fun x g args w m hm _ ha hs hx=>(h g args w ha (hm.told hx)).mono ?_⟩
 rintro en w' ⟨rfl,rfl⟩
 obtain ⟨hl,hu⟩:=hs (.sub 0 0 p) (Oid.ae (Oid.ax _))
 have hrn:g.row w.heap.size=none:=hm.mF (Nat.le_refl _)
 have hnew:=hm.new hl hu (o:=.arr 1 vs) (ob:=.cells cs t) ⟨cs,t,(0,0),cj w _,by omega,fun j _ hj=>by omega,h2,fun j hj=>h3 j (by omega),fun i j hi hj=>by
  obtain rfl:j=0:=by omega
  have:=h4 (g.bind (.sub 0 0 p) w.heap.size) i hi
  simpa using this⟩ (fun t ht=>by cases ht)
 refine ⟨(g.bind (.sub 0 0 p) w.heap.size).measure w.heap.size (vs.length * 1),_,rfl,Gh.le_trans (Gh.bX hl) (Gh.eP (.inl hrn)),fun j hj=>?_,?_,hnew.measure ⟨cs,t,(0,0),cj w _,by omega⟩ (.inl hrn)⟩
 ·have hne:¬ j = .sub 0 0 p:=fun e=>by subst e;exact hj (Oid.ae (Oid.ax (.sub 0 0 p)))
  simp only [Gh.bind,Gh.measure];rw [if_neg hne]
 ·exact .sl _ _ _ _ _ (by simp [Gh.bind,Gh.measure]) (Nat.le_refl _) (by simp [Gh.measure])
end Go.Ab
