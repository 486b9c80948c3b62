/- A part of the proof: the texts FwD, FwE, Ty, S0, one behind the other. -/
import Derived.Test.YtlfeacmbhldjcaaGreatDoorPEb
import Derived.ProofKit
import Derived.SizedLaws
import Derived.ReadAgain
import Derived.Below
import Derived.Deep.Draws
import Derived.Test.YtlfeacmbhldjcaaGreatDoorProg
import Derived.KernelRfl
import Derived.Lib.Builder
import Derived.WalkKit
import Derived.Laws.Externs
import Derived.Laws.BitsLemmas
set_option linter.unusedVariables false
set_option linter.unusedSimpArgs false
set_option linter.unusedSectionVars false
namespace Go.Ab
universe u
def both (b:Bool) (A B:Prop):Prop:=(b=true→A)∧(b=false→B)
theorem od (A B:Prop):both true A B=A:=by simp [both]
theorem sS (A B:Prop):both false A B=B:=by simp [both]
structure LOp where
 dst:Option Nat
 op:Op
 guard:Option (Nat × Bool)
def mc (o:Oper):LOp:=⟨o.dst,o.op,o.guard⟩
def cT:List Oper→List LOp
 | []=>[]
 | o::l=>mc o::cT l
def prs (ρ:Operand→AV):List (Nat × Operand)→List (Nat × AV)
 | []=>[]
 | q::l=>(q.1,ρ q.2)::prs ρ l
theorem DT (ρ:Operand→AV) (l:List (Nat × Operand)):l.map (fun q=>(q.1,ρ q.2))=prs ρ l:=by
 induction l with
 | nil=>rfl
 | cons q l ih=>simp only [List.map_cons,prs,ih]
def opL (P:Program) (m:Mem) (nid:Oid) (md:Nat→Bool) (ρ:Operand→AV) (dst:Option Nat) (op:Op):OpR :=
 match op with
 | .move x=>bL (ρ x)
 | .assign x=>bL (ρ x)
 | .pick c a b=>match ρ c with
  | .bool v=>bL (if v then ρ a else ρ b)
  | _=>.no
 | .alloc t=>match zer P t with
  | some z=>.eff ⟨[],.ptr (e6 P t nid) 0,[(e6 P t nid,some (.cells z))]⟩
  | none=>.no
 | .box t x=>if (ρ x).known=true then .eff ⟨[],.ptr (e6 P t nid) 0,[(e6 P t nid,some (.cells (ρ x).cells))]⟩ else .no
 | .build t ps=>dC (lY P t (prs ρ ps.toList))
 | .buildSlice t n ps=>match lZ P (tyk P t) n (prs ρ ps.toList) with
  | some (sz,vs)=>if (match dst with|some d=>md d|none=>false)=true then .eff ⟨[],.sl nid sz n,[(nid,some (.arr sz vs))]⟩ else bL (.list sz vs)
  | none=>.no
 | .load t a=>gQ (shp P t) m (ρ a)
 | .store t a v=>jg (shp P t) m (ρ a) (ρ v)
 | .nilCheck x=>if lT (ρ x)=true then bL (ρ x) else .no
 | .binOp op t x y _=>dC (DO P op t (isC y) (ρ x) (ρ y))
 | .unOp op _ x=>dC (unA op (ρ x))
 | .convert s d x=>dC (uw P s d (ρ x))
 | .fieldAddr t x k=>dC (eX (aB P t k) (ρ x))
 | .field t x k=>dC (lV (aB P t k) (ρ x))
 | .indexAddr t x i=>dC (dA (tyk P t) (ρ x) (ρ i))
 | .index t x i=>dC (ki (tyk P t) (ρ x) (ρ i))
 | .extract x i=>dC (ik (ρ x) i)
 | .makeFunc f xs ys=>bL (.fn f (xs.toList.map ρ) (ys.toList.map ρ))
 | .makeInterface t x=>dC (kl (tyk P t) t (ρ x))
 | .slice t x lo hi none=>dC (bB (tyk P t) (ρ x) (lo.map ρ) (hi.map ρ))
 | .makeMap t none=>match eY P t with
  | some (ks,ag)=>.eff ⟨[],.map nid,[(nid,some (.map ks ag [] 0))]⟩
  | none=>.no
 | .lookup t x k ok=>eM P m t (ρ x) (ρ k) ok
 | .mapUpdate t x k v=>bV P m t (ρ x) (ρ k) (ρ v)
 | .insert t x k v=>bV P m t (ρ x) (ρ k) (ρ v)
 | .mapEntry t x k=>dX P m t (ρ x) (ρ k)
 | .entryStore _ x k v=>cS m (ρ x) (ρ k) (ρ v)
 | .range t x=>jm (tyk P t) m nid (ρ x)
 | .entry x=>jo m (ρ x)
 | .call c=>jR P m nid ρ c
 | _=>.no
theorem sT (P:Program) (m:Mem) (nid:Oid) (md:Nat→Bool) (ρ:Operand→AV) (o:Oper):opF P m nid md ρ o=opL P m nid md ρ o.dst o.op:=by
 unfold opF opL;simp only [DT];rfl
def oe:List (Nat × Nat)→Nat→Option Nat
 | [],_=>none
 | q::l,j=>if j=q.1 then some q.2 else oe l j
def kW (gl:List (Nat × Nat)) (g:Option (Nat × Bool)) (f:Nat→AV):Option Bool :=
 match g with
 | none=>some true
 | some (j,want)=>match oe gl j with
  | none=>none
  | some d=>match f d with
   | .bool b=>some (b == want)
   | .tuple []=>some false
   | _=>none
def nA (ops:Array Oper) (gl:List (Nat × Nat)):Bool:=gl.all fun q=>match ops[q.1]? with
 | some o=>o.dst == some q.2
 | none=>false
theorem qZ {ops:Array Oper}:∀ {gl:List (Nat × Nat)},nA ops gl=true→∀ {j d:Nat},oe gl j=some d→(ops[j]?).bind (·.dst)=some d
 | [],_,_,_,h=>by cases h
 | q::l,hg,j,d,h=>by
  simp only [nA,List.all_cons,Bool.and_eq_true] at hg
  simp only [oe] at h
  split at h
  ·rename_i e
   simp only [Option.some.injEq] at h;subst h;subst e
   have:=hg.1
   split at this
   ·rename_i o ho;rw [ho];simpa using this
   ·cases this
  ·exact qZ (by simpa [nA] using hg.2) h
theorem q7 {ops:Array Oper} {gl:List (Nat × Nat)} (hg:nA ops gl=true) {o:Oper} {f:Nat→AV} {b:Bool} (h:kW gl o.guard f=some b):fV ops o f=some b:=by
 unfold kW at h
 unfold fV
 split at h
 ·rename_i e;rw [e];exact h
 ·rename_i j want e
  rw [e];simp only
  cases hl:oe gl j with
  | none=>rw [hl] at h;cases h
  | some d =>
   rw [hl] at h
   rw [qZ hg hl]
   exact h
structure LE where
 need:List Oid
 upd:List Oid
def LE.none:LE:=⟨[],[]⟩
def jq {α β:Type}:List (α × β)→List α
 | []=>[]
 | q::l=>q.1::jq l
theorem gb {α β:Type} {l:List (α × β)} {q:α × β} (h:q ∈ l):q.1 ∈ jq l:=by
 induction l with
 | nil=>cases h
 | cons a l ih =>
  rcases List.mem_cons.1 h with rfl|h
  ·exact List.mem_cons_self
  ·exact List.mem_cons_of_mem _ (ih h)
def jr (e:Eff):LE:=⟨jq e.need,jq e.upd⟩
def q8 (lg:Bool) (e:LE) (log:List LE):List LE:=if lg then e::log else log
def ev (P:Program) (md:Nat→Bool) (gl:List (Nat × Nat)) (p:Oid) (c:Nat) (lg:Bool) (C:Nat→List LOp→FuncId→List AV→List (Nat × AV)→Mem→List LE→Prop) (S:Nat→List LOp→List (Nat × AV)→Mem→List LE→Prop)
    (K:List (Nat × AV)→Mem→List LE→Prop):Nat→List LOp→List (Nat × AV)→Mem→List LE→Prop
 | _,[],fr,m,log=>K fr m log
 | i,o::rest,fr,m,log =>
  match kW gl o.guard (F fr) with
  | some b=>both b
    (match opL P m (.sub c i p) md (evA fr) o.dst o.op with
     | .eff e=>ev P md gl p c lg C S K (i+1) rest (put o.dst e.val fr) (m.aF e.upd) (q8 lg (jr e) log)
     | .call f xs=>C i (o::rest) f xs fr m log
     | .no=>S i (o::rest) fr m log)
    (ev P md gl p c lg C S K (i+1) rest (put o.dst (.tuple []) fr) m (q8 lg LE.none log))
  | none=>False
section
variable (P:Program) (md:Nat→Bool) (gl:List (Nat × Nat)) (p:Oid) (c:Nat) (lg:Bool) (C:Nat→List LOp→FuncId→List AV→List (Nat × AV)→Mem→List LE→Prop) (S:Nat→List LOp→List (Nat × AV)→Mem→List LE→Prop)
  (K:List (Nat × AV)→Mem→List LE→Prop) (i:Nat) (o:LOp) (rest:List LOp) (fr:List (Nat × AV)) (m:Mem) (log:List LE)
def evR (r:OpR):Prop:=match r with
 | .eff e=>ev P md gl p c lg C S K (i+1) rest (put o.dst e.val fr) (m.aF e.upd) (q8 lg (jr e) log)
 | .call f xs=>C i (o::rest) f xs fr m log
 | .no=>S i (o::rest) fr m log
def evG (b:Option Bool):Prop:=match b with
 | some b=>both b (evR P md gl p c lg C S K i o rest fr m log (opL P m (.sub c i p) md (evA fr) o.dst o.op)) (ev P md gl p c lg C S K (i+1) rest (put o.dst (.tuple []) fr) m (q8 lg LE.none log))
 | none=>False
theorem nr {α:Sort u} {a b:α} (h:a=b):a=b:=h
theorem Yf:ev P md gl p c lg C S K i [] fr m log=K fr m log:=nr (by rw [ev])
theorem Yg (dst:Option Nat) (op:Op):ev P md gl p c lg C S K i (⟨dst,op,none⟩::rest) fr m log=evR P md gl p c lg C S K i ⟨dst,op,none⟩ rest fr m log (opL P m (.sub c i p) md (evA fr) dst op):=nr (by
 rw [ev];simp only [kW,od];rfl)
theorem Am (dst:Option Nat) (op:Op) (j:Nat) (w:Bool):ev P md gl p c lg C S K i (⟨dst,op,some (j,w)⟩::rest) fr m log=evG P md gl p c lg C S K i ⟨dst,op,some (j,w)⟩ rest fr m log (kW gl (some (j,w)) (F fr)):=nr (by
 rw [ev];rfl)
theorem DU (e:Eff):evR P md gl p c lg C S K i o rest fr m log (.eff e)=ev P md gl p c lg C S K (i+1) rest (put o.dst e.val fr) (m.aF e.upd) (q8 lg (jr e) log):=nr (by rw [evR])
theorem Ao (f:FuncId) (xs:List AV):evR P md gl p c lg C S K i o rest fr m log (.call f xs)=C i (o::rest) f xs fr m log:=nr (by rw [evR])
theorem Yh:evR P md gl p c lg C S K i o rest fr m log .no=S i (o::rest) fr m log:=nr (by rw [evR])
theorem Ap:evG P md gl p c lg C S K i o rest fr m log (some true)=evR P md gl p c lg C S K i o rest fr m log (opL P m (.sub c i p) md (evA fr) o.dst o.op):=nr (by rw [evG];simp only [od])
theorem vJ:evG P md gl p c lg C S K i o rest fr m log (some false)=ev P md gl p c lg C S K (i+1) rest (put o.dst (.tuple []) fr) m (q8 lg LE.none log):=nr (by rw [evG];simp only [sS])
variable {P md gl p c lg C S K i o rest fr m log}
theorem bd {b:Bool} (h1:b=true→evR P md gl p c lg C S K i o rest fr m log (opL P m (.sub c i p) md (evA fr) o.dst o.op)) (h2:b=false→ev P md gl p c lg C S K (i+1) rest (put o.dst (.tuple []) fr) m (q8 lg LE.none log)) :
  evG P md gl p c lg C S K i o rest fr m log (some b):=⟨h1,h2⟩
end
section
variable {P:Program} [Laid P] {md:Nat→Bool} {ops:Array Oper} {p:Oid} {c:Nat} {gl:List (Nat × Nat)}
theorem gg {i:Nat} {o:Oper} {rest:List Oper} (h:ops.toList.drop i=o::rest):ops.toList.drop (i+1)=rest:=by
 have:(ops.toList.drop i).drop 1=rest:=by rw [h];rfl
 rwa [List.drop_drop] at this
def DV (P:Program) [Laid P] (md:Nat→Bool) (ops:Array Oper) (p:Oid) (c:Nat) (K:List (Nat × AV)→Mem→Prop) (Kp:AV→List (Nat × AV)→Mem→Prop):Nat→List LOp→FuncId→List AV→List (Nat × AV)→Mem→List LE→Prop :=
 fun i L f xs fr m _=>∀ o rest,ops.toList.drop i=o::rest→cT (o::rest)=L→∃ need R Rp,aX P f xs (Oid.under (.sub c i p)) need R Rp∧(∀ q,q ∈ need→m q.1=some q.2)∧(∀ val upd,R val upd→e8 P md ops p c (i+1) rest (put o.dst val fr) (m.aF upd) K Kp)∧∀ pv upd,Rp pv upd→Kp pv fr (m.aF upd)
def ag5 (P:Program) [Laid P] (dst:Option Nat) (op:Op) (ρ:Operand→AV) (sp:Oid→Prop) (need:List (Oid × ar)) (R Rp:AV→List (Oid × Option ar)→Prop):Prop :=
 ∀ o:Oper,o.dst=dst→o.op=op→kV P o ρ sp need R Rp
def ag6 (P:Program) [Laid P] (dst:Option Nat) (op:Op) (ρ:Operand→AV) (sp:Oid→Prop) (e:Eff):Prop:=∀ o:Oper,o.dst=dst→o.op=op→aG P o ρ sp e
def afE (P:Program) [Laid P] (md:Nat→Bool) (ops:Array Oper) (p:Oid) (c:Nat) (K:List (Nat × AV)→Mem→Prop) (Kp:AV→List (Nat × AV)→Mem→Prop):Nat→List LOp→List (Nat × AV)→Mem→List LE→Prop :=
 fun i L fr m _=>∀ o rest,ops.toList.drop i=o::rest→cT (o::rest)=L→∃ need R Rp,kV P o (evA fr) (Oid.under (.sub c i p)) need R Rp∧(∀ q,q ∈ need→m q.1=some q.2)∧(∀ val upd,R val upd→e8 P md ops p c (i+1) rest (put o.dst val fr) (m.aF upd) K Kp)∧∀ pv upd,Rp pv upd→Kp pv fr (m.aF upd)
theorem gh {K:List (Nat × AV)→Mem→Prop} {Kp:AV→List (Nat × AV)→Mem→Prop} {lg:Bool} (hg:nA ops gl=true):∀ (rest:List Oper) (i:Nat) (fr:List (Nat × AV)) (m:Mem) (log:List LE),ops.toList.drop i=rest →
  ev P md gl p c lg (DV P md ops p c K Kp) (afE P md ops p c K Kp) (fun fr m _=>K fr m) i (cT rest) fr m log→e8 P md ops p c i rest fr m K Kp
 | [],_,_,_,_,_,h=>h
 | o::rest,i,fr,m,log,hd,h=>by
  simp only [cT,ev] at h
  simp only [e8]
  cases hw:kW gl (mc o).guard (F fr) with
  | none=>simp only [hw] at h
  | some b =>
   simp only [hw] at h
   rw [q7 (o:=o) hg hw]
   cases b with
   | true =>
    have h:=h.1 rfl
    rw [sT]
    simp only [mc] at h
    simp only
    cases ho:opL P m (.sub c i p) md (evA fr) o.dst o.op with
    | eff e=>simp only [ho] at h;exact gh hg rest _ _ _ _ (gg hd) h
    | call f xs=>simp only [ho] at h;exact .inr (h o rest hd rfl)
    | no=>simp only [ho] at h;exact h o rest hd rfl
   | false=>exact gh hg rest _ _ _ _ (gg hd) (h.2 rfl)
def kX (ops:Array Oper) (i:Nat) (rest:List Oper) (log:List Eff):Prop:=(∀ j,rest[j]? = ops[i+j]?)∧log.length=i∧∀ (k:Nat) o e,ops[k]? = some o→log.reverse[k]? = some e→vF o e
def KT (ops:Array Oper) (K:List (Nat × AV)→Mem→List Eff→Prop) (fr:List (Nat × AV)) (m:Mem) (log:List Eff):Prop:=K fr m log∧∀ (k:Nat) o e,ops[k]? = some o→log.reverse[k]? = some e→vF o e
theorem kX.step {i:Nat} {o:Oper} {rest:List Oper} {log:List Eff} (h:kX ops i (o::rest) log) {e:Eff} (he:vF o e):kX ops (i+1) rest (e::log):=by
 obtain ⟨hl,hn,ht⟩:=h
 have h0:ops[i]? = some o:=by simpa using (hl 0).symm
 refine ⟨fun j=>by have:=hl (j+1);simpa [Nat.add_assoc,Nat.add_comm 1 j] using this,by simp [hn],?_⟩
 intro k o' e' ho' he'
 rw [List.reverse_cons] at he'
 by_cases hk:k < log.reverse.length
 ·rw [List.getElem?_append_left hk] at he';exact ht k o' e' ho' he'
 ·rw [List.getElem?_append_right (by omega)] at he'
  have hk0:k - log.reverse.length=0:=by
   cases hz:k - log.reverse.length with
   | zero=>rfl
   | succ z=>rw [hz] at he';simp at he'
  have hki:k=i:=by rw [List.length_reverse,hn] at hk0 hk;omega
  subst hki
  rw [hk0] at he'
  simp only [List.getElem?_cons_zero,Option.some.injEq] at he'
  rw [h0] at ho';simp only [Option.some.injEq] at ho'
  subst ho';subst he';exact he
theorem kX.drop {i:Nat} {rest:List Oper} {log:List Eff} (h:kX ops i rest log):ops.toList.drop i=rest:=by
 apply List.ext_getElem?
 intro j
 rw [List.getElem?_drop,h.1 j];simp
def ux (P:Program) [Laid P] (ops:Array Oper) (p:Oid) (c:Nat) (K:List (Nat × AV)→Mem→List LE→Prop):Nat→List LOp→FuncId→List AV→List (Nat × AV)→Mem→List LE→Prop :=
 fun i L f xs fr m lg=>∀ o rest log,kX ops i (o::rest) log→log.map jr=lg→cT (o::rest)=L→(eE o.op=false∧e7 o.op=false)→∃ e,aA P f xs (Oid.under (.sub c i p)) e∧(∀ q,q ∈ e.need→m q.1=some q.2) ∧
     cW P ops p c (i+1) rest (put o.dst e.val fr) (m.aF e.upd) (e::log) (KT ops fun fr m log=>K fr m (log.map jr))
def XK (P:Program) [Laid P] (ops:Array Oper) (p:Oid) (c:Nat) (K:List (Nat × AV)→Mem→List LE→Prop):Nat→List LOp→List (Nat × AV)→Mem→List LE→Prop :=
 fun i L fr m lg=>∀ o rest log,kX ops i (o::rest) log→log.map jr=lg→cT (o::rest)=L→∃ e,aG P o (evA fr) (Oid.under (.sub c i p)) e∧(∀ q,q ∈ e.need→m q.1=some q.2) ∧
     cW P ops p c (i+1) rest (put o.dst e.val fr) (m.aF e.upd) (e::log) (KT ops fun fr m log=>K fr m (log.map jr))
theorem fc {K:List (Nat × AV)→Mem→List LE→Prop} (hg:nA ops gl=true):∀ (rest:List Oper) (i:Nat) (fr:List (Nat × AV)) (m:Mem) (log:List Eff),kX ops i rest log →
  ev P md gl p c true (ux P ops p c K) (XK P ops p c K) K i (cT rest) fr m (log.map jr)→cW P ops p c i rest fr m log (KT ops fun fr m log=>K fr m (log.map jr))
 | [],_,_,_,_,hL,h=>⟨h,hL.2.2⟩
 | o::rest,i,fr,m,log,hL,h=>by
  simp only [cT,ev] at h
  simp only [cW]
  cases hw:kW gl (mc o).guard (F fr) with
  | none=>simp only [hw] at h
  | some b =>
   simp only [hw] at h
   rw [q7 (o:=o) hg hw]
   cases b with
   | true =>
    have h:=h.1 rfl
    simp only [mc] at h
    simp only
    cases ho:opL P m (.sub c i p) md (evA fr) o.dst o.op with
    | eff e =>
     simp only [ho] at h
     rw [← sT] at ho
     obtain ⟨h1,h2⟩:=Ac (sp:=Oid.under (.sub c i p)) (Oid.az _) (fun t=>Oid.fT t _) rfl ho
     exact ⟨e,h1,h2,fc hg rest _ _ _ (e::log) (hL.step ⟨fun hi=>Ae hi ho,fun hi=>Af hi ho⟩) h⟩
    | call f xs =>
     simp only [ho] at h
     rw [← sT] at ho
     have i1:eE o.op=false:=by
      cases hi:eE o.op with
      | false=>rfl
      | true=>exact (nw hi ho).elim
     have i2:e7 o.op=false:=by
      cases hi:e7 o.op with
      | false=>rfl
      | true=>exact (nz hi ho).elim
     obtain ⟨e,h1,h2,h3⟩:=h o rest log hL rfl rfl ⟨i1,i2⟩
     exact ⟨e,qS ho h1,h2,h3⟩
    | no =>
     simp only [ho] at h
     exact h o rest log hL rfl rfl
   | false=>exact fc hg rest _ _ _ (Eff.none::log) (hL.step ⟨fun _=>⟨rfl,rfl⟩,fun _=>rfl⟩) (h.2 rfl)
def uy (a b:LE):Prop:=(∀ i,i ∈ a.upd→∀ j,j ∈ b.need→i≠j)∧(∀ i,i ∈ a.upd→∀ j,j ∈ b.upd→i≠j)∧(∀ i,i ∈ a.need→∀ j,j ∈ b.upd→i≠j)
def q9 (E:List LE):List (Nat × Nat)→Prop
 | []=>True
 | (i,j)::r=>uy (E.getD i LE.none) (E.getD j LE.none)∧q9 E r
theorem rb {a b:LE} (ha:a.upd=[]) (hb:b.upd=[]):uy a b:=by
 unfold uy;rw [ha,hb]
 refine ⟨?_,?_,?_⟩<;>intro i h j k<;>first|(cases h;done)|(cases k;done)
theorem aM {E:List LE} (h:(E.all fun e=>e.upd.isEmpty)=true):∀ {U:List (Nat × Nat)},q9 E U
 | []=>trivial
 | (i,j)::r=>by
  have hget:∀ k,(E.getD k LE.none).upd=[]:=fun k=>by
   rw [List.getD_eq_getElem?_getD]
   cases hk:E[k]? with
   | none=>rfl
   | some e =>
    rw [List.all_eq_true] at h
    exact List.isEmpty_iff.1 (h e (List.mem_of_getElem? hk))
  exact ⟨rb (hget i) (hget j),aM h⟩
theorem og {E:List Eff}:∀ {U:List (Nat × Nat)},q9 (E.map jr) U→Ag E U
 | [],_=>trivial
 | (i,j)::r,h=>by
  have hget:∀ k,(E.map jr).getD k LE.none=jr (E.getD k Eff.none):=fun k=>by
   simp only [List.getD_eq_getElem?_getD,List.getElem?_map]
   cases E[k]? <;> rfl
  simp only [q9,hget] at h
  obtain ⟨⟨h1,h2,h3⟩,h4⟩:=h
  exact ⟨⟨fun q hq q' hq'=>h1 _ (gb hq) _ (gb hq'),fun q hq q' hq'=>h2 _ (gb hq) _ (gb hq'),fun q hq q' hq'=>h3 _ (gb hq) _ (gb hq')⟩,og h4⟩
end
end Go.Ab
namespace Go.Ab
inductive Pc where
 | code (c:Code)
 | bend (id:Nat)
 | lend (ts:List Nat) (I:Nat→AS→Prop) (k:Nat)
def after (P:Program) (x:Ctx) (n:Nat) (Q:AX→AS→Prop):List Pc→AX→AS→Prop
 | [],e,s=>Q e s
 | k::ks,e,s=>match k,e with
  | .code c,.normal=>T P x n c s (after P x n Q ks)
  | .lend ts I k,.normal=>∃ k' m',k' < k∧(∀ i o,m' i=some o→s.mem i=some o)∧I k' ⟨bW ts s.fr,m',s.c,s.ds⟩
  | .bend j,.exit i=>if i=j then after P x n Q ks .normal s else after P x n Q ks (.exit i) s
  | _,e=>after P x n Q ks e s
section
variable {P:Program} [Laid P] {x:Ctx} {n:Nat} {Q:AX→AS→Prop} {ks:List Pc} {s:AS} {fr:List (Nat × AV)} {m:Mem} {c:Nat} {ds:List AD}
theorem mg {a:Code} (h:T P x n a s (after P x n Q ks)):after P x n Q (.code a::ks) .normal s:=h
theorem fe {j:Nat} (h:after P x n Q ks .normal s):after P x n Q (.bend j::ks) .normal s:=h
theorem br {e:AX} (h:Q e s):after P x n Q [] e s:=h
theorem Yi {i:Nat} (h:after P x n Q ks .normal s):after P x n Q (.bend i::ks) (.exit i) s:=by simp only [after,if_true];exact h
theorem ag7 {i j:Nat} (hj:(Nat.beq i j)=false) (h:after P x n Q ks (.exit i) s):after P x n Q (.bend j::ks) (.exit i) s:=by
 have:¬ i=j:=fun e=>by subst e;simp at hj
 simp only [after,if_neg this];exact h
theorem iF:∀ {ks:List Pc},Q .ret s→after P x n Q ks .ret s
 | [],h=>h
 | .code _::ks,h=>iF (ks:=ks) h
 | .bend _::ks,h=>iF (ks:=ks) h
 | .lend .. :: ks,h=>iF (ks:=ks) h
theorem ew {v:AV}:∀ {ks:List Pc},Q (.panic v) s→after P x n Q ks (.panic v) s
 | [],h=>h
 | .code _::ks,h=>ew (ks:=ks) h
 | .bend _::ks,h=>ew (ks:=ks) h
 | .lend .. :: ks,h=>ew (ks:=ks) h
theorem mh {a b:Code} (h:T P x n a s (after P x n Q (.code b::ks))):T P x n (.seq a b) s (after P x n Q ks) :=
 afA (gY h fun e s h=>by cases e<;>exact h)
theorem Yj (h:after P x n Q ks .normal s):T P x n .skip s (after P x n Q ks):=X6 h
theorem aC (h:Q .ret s):T P x n .ret s (after P x n Q ks):=afy (iF h)
theorem Yk {i:Nat} (h:after P x n Q ks (.exit i) s):T P x n (.exit i) s (after P x n Q ks):=X7 h
theorem jV {id:Nat} {a:Code} (h:T P x n a s (after P x n Q (.bend id::ks))):T P x n (.block id a) s (after P x n Q ks) :=
 Dw (gY h fun e s h=>by cases e<;>first|exact h|(simp only [after] at h;simp only [AX.inBlock];split<;>simp_all))
theorem a6 (ts:List Nat) {a:Code} (I:Nat→AS→Prop) (k:Nat) (h0:I k ⟨bW ts fr,m,c,ds⟩)
  (round:∀ k s,I k s→T P x n a s (after P x n Q (.lend ts I k::ks))):T P x n (.loop a) ⟨fr,m,c,ds⟩ (after P x n Q ks):=by
 refine X9 (fun k s=>∃ m',(∀ i o,m' i=some o→s.mem i=some o)∧I k ⟨bW ts s.fr,m',s.c,s.ds⟩) k ⟨m,fun _ _ h=>h,h0⟩ ?_
 rintro k ⟨fr',m1,c',ds'⟩ ⟨m',hm,hi⟩
 refine gZ (s:=⟨fr',m1,c',ds'⟩) (bW ts fr') (fun t _=>jT ts fr' t) ?_
 refine lN (s:=⟨bW ts fr',m1,c',ds'⟩) m' hm ?_
 refine gY (round k _ hi) fun e s h=>?_
 cases e with
 | normal=>obtain ⟨k',m',h1,h2,h3⟩:=h;exact ⟨k',h1,m',h2,h3⟩
 | _=>exact h
theorem mi {t:Nat} {a b:Code} {v:Bool} (ht:(decide (t < n))=true) (hv:F fr t = .bool v) (h1:v=true→T P x n a ⟨fr,m,c,ds⟩ (after P x n Q ks)) (h2:v=false→T P x n b ⟨fr,m,c,ds⟩ (after P x n Q ks)) :
  T P x n (.cond (.tmp t) a b) ⟨fr,m,c,ds⟩ (after P x n Q ks):=afC ht hv h1 h2
theorem bD {t:Nat} {a b:Code} {p:Prop} {i:Decidable p} (ht:(decide (t < n))=true) (hv:F fr t = .bool (decide p)) (h1:p→T P x n a ⟨fr,m,c,ds⟩ (after P x n Q ks)) (h2:¬ p→T P x n b ⟨fr,m,c,ds⟩ (after P x n Q ks)) :
  T P x n (.cond (.tmp t) a b) ⟨fr,m,c,ds⟩ (after P x n Q ks):=afC ht hv (fun h=>h1 (of_decide_eq_true h)) (fun h=>h2 (of_decide_eq_false h))
theorem ah {t:Nat} {a b:Code} (ht:(decide (t < n))=true) (hv:F fr t = .bool true) (h1:T P x n a ⟨fr,m,c,ds⟩ (after P x n Q ks)):T P x n (.cond (.tmp t) a b) ⟨fr,m,c,ds⟩ (after P x n Q ks):=mi ht hv (fun _=>h1) (fun h=>by cases h)
theorem aj {t:Nat} {a b:Code} (ht:(decide (t < n))=true) (hv:F fr t = .bool false) (h1:T P x n b ⟨fr,m,c,ds⟩ (after P x n Q ks)):T P x n (.cond (.tmp t) a b) ⟨fr,m,c,ds⟩ (after P x n Q ks):=mi ht hv (fun h=>by cases h) (fun _=>h1)
def Cut (P:Program) (x:Ctx) (n:Nat) (Q:AX→AS→Prop) (ks:List Pc) (ts:List Nat) (R:AS→Prop):AX→AS→Prop
 | .normal,s=>∃ m',(∀ i o,m' i=some o→s.mem i=some o)∧R ⟨bW ts s.fr,m',s.c,s.ds⟩
 | e,s=>after P x n Q ks e s
theorem dG {a b:Code} (ts:List Nat) (R:AS→Prop) (h:T P x n a s (after P x n (Cut P x n Q ks ts R) [])) (h2:∀ s,R s→T P x n b s (after P x n Q ks)):T P x n a s (after P x n Q (.code b::ks)) :=
 gY h fun e s h=>by
  cases e with
  | normal =>
   obtain ⟨m',h1,h3⟩:=h
   obtain ⟨fr',m1,c',ds'⟩:=s
   refine gZ (s:=⟨fr',m1,c',ds'⟩) (bW ts fr') (fun t _=>jT ts fr' t) ?_
   exact lN (s:=⟨bW ts fr',m1,c',ds'⟩) m' h1 (h2 _ h3)
  | _=>exact h
theorem aQ {ts:List Nat} {R:AS→Prop} (h:R ⟨bW ts fr,m,c,ds⟩):after P x n (Cut P x n Q ks ts R) [] .normal ⟨fr,m,c,ds⟩:=⟨m,fun _ _ h=>h,h⟩
theorem ag8 {a:Code} (fr':List (Nat × AV)) (hk:fr'.all (fun q=>decide (q.1 < n))=true) (hv:∀ q,q ∈ fr'→q.2=F fr q.1) (h:T P x n a ⟨fr',m,c,ds⟩ Q):T P x n a ⟨fr,m,c,ds⟩ Q:=by
 refine gZ (s:=⟨fr,m,c,ds⟩) fr' (fun t _=>?_) h
 clear hk h
 induction fr' with
 | nil=>exact .inl rfl
 | cons q l ih =>
  simp only [F]
  split
  ·rename_i h;right;rw [hv q List.mem_cons_self,h]
  ·exact ih fun q' hq'=>hv q' (List.mem_cons_of_mem _ hq')
theorem b6 {a:Code} (t sz:Nat) (ht:F fr t = .nilSl) (h:T P x n a ⟨(t,.list sz [])::fr,m,c,ds⟩ Q):T P x n a ⟨fr,m,c,ds⟩ Q:=by
 refine fm (s:=⟨fr,m,c,ds⟩) (s':=⟨(t,.list sz [])::fr,m,c,ds⟩) (fun g b w hr=>⟨g,hr.mr,hr.tm,hr.df,fun u hu=>?_,hr.young⟩) h
 simp only [F]
 split
 ·rename_i e;subst e
  have:=hr.fr u hu
  simp only [ht] at this
  rw [this.bu];exact .listNil _
 ·exact hr.fr u hu
theorem py {a:Code} (t sz:Nat) (ht:F fr t = .nilSl) (h:T P x n a ⟨(t,.sl (.sub c 0 x.p) sz 0)::fr,m.set (.sub c 0 x.p) (some (.arr sz [])),c+1,ds⟩ Q):T P x n a ⟨fr,m,c,ds⟩ Q:=by
 refine fm (s:=⟨fr,m,c,ds⟩) _ (fun g b w hr=>?_) h
 have hl:g.loc (.sub c 0 x.p)=none:=hr.young _ ⟨c,0,Nat.le_refl _,Oid.az _⟩
 have hle:=Gh.jh hl
 refine ⟨g.cj (.sub c 0 x.p),hr.mr.ur sz hl (Oid.ay (Oid.az _)),hr.tm,hr.df.mono hle,fun u hu=>?_,fun i hi=>?_⟩
 ·simp only [F]
  split
  ·rename_i e;subst e
   have:=hr.fr u hu
   simp only [ht] at this
   rw [this.bu]
   exact .slNil _ _ (by simp [Gh.cj])
  ·exact (hr.fr u hu).mono hle
 ·simp only [Gh.cj]
  split
  ·rename_i e;subst e
   obtain ⟨c',i',h1,h2⟩:=hi
   have:=(Oid.apart (Oid.az _) h2).1
   simp only at h1
   omega
  ·exact hr.young i (hi.mono (Nat.le_succ _))
def nB (i:Oid) (sz:Nat) (xs:List AV):AV→AV
 | .sl j s n=>if j=i∧s=sz∧n=xs.length then .list sz xs else .sl j s n
 | v=>v
def frz (i:Oid) (sz:Nat) (xs:List AV):List (Nat × AV)→List (Nat × AV)
 | []=>[]
 | q::l=>(q.1,nB i sz xs q.2)::frz i sz xs l
theorem uz (i:Oid) (sz:Nat) (xs:List AV) (t:Nat):∀ fr,F (frz i sz xs fr) t=nB i sz xs (F fr t)
 | []=>rfl
 | q::l=>by
  simp only [frz,F]
  split
  ·rfl
  ·exact uz i sz xs t l
theorem mj {a:Code} (i:Oid) (sz:Nat) (xs:List AV) (hi:m i=some (.arr sz xs)) (h:T P x n a ⟨frz i sz xs fr,m.set i none,c,ds⟩ Q):T P x n a ⟨fr,m,c,ds⟩ Q:=by
 refine Ad (s:=⟨fr,m,c,ds⟩) i (frz i sz xs fr) hi (fun t _=>?_) h
 rw [uz]
 generalize F fr t=v
 unfold nB
 split
 ·split
  ·rename_i h;obtain ⟨rfl,rfl,rfl⟩:=h;exact .inr (.inr ⟨rfl,rfl⟩)
  ·exact .inr (.inl rfl)
 ·exact .inr (.inl rfl)
theorem Yl {a:Code} (m':Mem) (hm:∀ i o,m' i=some o→m i=some o) (h:T P x n a ⟨fr,m',c,ds⟩ Q):T P x n a ⟨fr,m,c,ds⟩ Q:=lN (s:=⟨fr,m,c,ds⟩) m' hm h
theorem af {id:Nat} {ops:Array Oper} (md:Nat→Bool) (gl:List (Nat × Nat)) (hng:Fit P x) (hok:(XJ n P.globals.size ops && nA ops gl)=true)
  (h:qz x.p c m→∀ C S (K:List (Nat × AV)→Mem→List LE→Prop),
   (∀ {i o rest f xs fr m log} e,aA P f xs (Oid.under (.sub c i x.p)) e→(∀ q,q ∈ e.need→m q.1=some q.2)→ev P md gl x.p c false C S K (i+1) rest (put o.dst e.val fr) (m.aF e.upd) log→C i (o::rest) f xs fr m log) →
   (∀ {i o rest f xs fr m log} need R Rp,aX P f xs (Oid.under (.sub c i x.p)) need R Rp→(∀ q,q ∈ need→m q.1=some q.2)→(∀ val upd,R val upd→ev P md gl x.p c false C S K (i+1) rest (put o.dst val fr) (m.aF upd) log) →
    (∀ pv upd,Rp pv upd→Q (.panic pv) ⟨fr,m.aF upd,c+1,ds⟩)→C i (o::rest) f xs fr m log) →
   (∀ {i o rest fr m log} need R Rp,ag5 P o.dst o.op (evA fr) (Oid.under (.sub c i x.p)) need R Rp→(∀ q,q ∈ need→m q.1=some q.2)→(∀ val upd,R val upd→ev P md gl x.p c false C S K (i+1) rest (put o.dst val fr) (m.aF upd) log) →
    (∀ pv upd,Rp pv upd→Q (.panic pv) ⟨fr,m.aF upd,c+1,ds⟩)→S i (o::rest) fr m log) →
   (∀ {fr m log},after P x n Q ks .normal ⟨fr,m,c+1,ds⟩→K fr m log) →
   ev P md gl x.p c false C S K 0 (cT ops.toList) fr m []):T P x n (.region id ops false) ⟨fr,m,c,ds⟩ (after P x n Q ks):=by
 simp only [Bool.and_eq_true] at hok
 obtain ⟨hok,hgl⟩:=hok
 refine qU md hng hok fun hf=>?_
 let K0:List (Nat × AV)→Mem→Prop:=fun fr m=>after P x n Q ks .normal ⟨fr,m,c+1,ds⟩
 let Kp:AV→List (Nat × AV)→Mem→Prop:=fun pv fr m=>after P x n Q ks (.panic pv) ⟨fr,m,c+1,ds⟩
 refine gh (md:=md) (lg:=false) (K:=K0) (Kp:=Kp) hgl _ _ _ _ [] (by simp) ?_
 refine h hf _ _ _ ?_ ?_ ?_ ?_
 ·intro i o rest f xs fr m log e h1 h2 h3 o' rest' hd hl
  simp only [cT,List.cons.injEq] at hl
  obtain ⟨rfl,rfl⟩:=hl
  exact ⟨_,_,_,h1.nd,h2,fun val upd ⟨hv,hu⟩=>by subst hv;subst hu;exact gh hgl _ _ _ _ log (gg hd) h3,fun _ _ h=>h.elim⟩
 ·intro i o rest f xs fr m log need R Rp h1 h2 h3 h4 o' rest' hd hl
  simp only [cT,List.cons.injEq] at hl
  obtain ⟨rfl,rfl⟩:=hl
  exact ⟨need,R,Rp,h1,h2,fun val upd hr=>gh hgl _ _ _ _ log (gg hd) (h3 val upd hr),fun pv upd hr=>ew (h4 pv upd hr)⟩
 ·intro i o rest fr m log need R Rp h1 h2 h3 h4 o' rest' hd hl
  simp only [cT,List.cons.injEq] at hl
  obtain ⟨rfl,rfl⟩:=hl
  exact ⟨need,R,Rp,h1 o' rfl rfl,h2,fun val upd hr=>gh hgl _ _ _ _ log (gg hd) (h3 val upd hr),fun pv upd hr=>ew (h4 pv upd hr)⟩
 ·intro fr m log h
  exact h
theorem bE {id:Nat} {ops:Array Oper} (md:Nat→Bool) (gl:List (Nat × Nat)) (U:List (Nat × Nat)) (hmx:P.follows .mixedOrders=true) (hng:Fit P x) (hok:(Ai n P.globals.size ops U && nA ops gl)=true) (ts:List Nat)
  (h:qz x.p c m→∀ C S (K:List (Nat × AV)→Mem→List LE→Prop),
   (∀ {i o rest f xs fr m log} e,aA P f xs (Oid.under (.sub c i x.p)) e→(∀ q,q ∈ e.need→m q.1=some q.2)→ev P md gl x.p c true C S (fun fr m log=>K (bW ts fr) m log) (i+1) rest (put o.dst e.val fr) (m.aF e.upd) (jr e::log)→C i (o::rest) f xs fr m log) →
   (∀ {i o rest fr m log} e,ag6 P o.dst o.op (evA fr) (Oid.under (.sub c i x.p)) e→eE o.op=false→e7 o.op=false→(∀ q,q ∈ e.need→m q.1=some q.2)→ev P md gl x.p c true C S (fun fr m log=>K (bW ts fr) m log) (i+1) rest (put o.dst e.val fr) (m.aF e.upd) (jr e::log)→S i (o::rest) fr m log) →
   (∀ {fr m log},q9 log.reverse U→after P x n Q ks .normal ⟨fr,m,c+1,ds⟩→K fr m log) →
   ev P md gl x.p c true C S (fun fr m log=>K (bW ts fr) m log) 0 (cT ops.toList) fr m []):T P x n (.region id ops true) ⟨fr,m,c,ds⟩ (after P x n Q ks):=by
 simp only [Bool.and_eq_true] at hok
 obtain ⟨hok,hgl⟩:=hok
 simp only [Ai,Bool.and_eq_true] at hok
 obtain ⟨⟨k1,k2⟩,k3⟩:=hok
 have key:=ns (P:=P) (x:=x) (n:=n) (s:=⟨fr,m,c,ds⟩) (Q:=fun e s=>e = .normal∧after P x n Q ks .normal ⟨bW ts s.fr,s.mem,s.c,s.ds⟩) (id:=id) hmx hng k1 k2 fun hf=>by
  have h1:=fc (P:=P) (md:=md) (ops:=ops) (p:=x.p) (c:=c) (K:=fun fr m log=>q9 log.reverse U∧after P x n Q ks .normal ⟨bW ts fr,m,c+1,ds⟩) hgl ops.toList 0 fr m [] ⟨fun j=>by simp,rfl,fun k o e _ he=>by simp at he⟩
   (h hf (ux P ops x.p c _) (XK P ops x.p c _) (fun fr m log=>q9 log.reverse U∧after P x n Q ks .normal ⟨fr,m,c+1,ds⟩)
    (fun {i o rest f xs fr m log} e h1 h2 h3=>fun o' rest' log' hL hlg hl hi=>by
     simp only [cT,List.cons.injEq] at hl
     obtain ⟨rfl,rfl⟩:=hl
     subst hlg
     exact ⟨e,h1,h2,fc hgl _ _ _ _ (e::log') (hL.step (show vF o' e from ⟨fun h=>absurd h (by simp [hi.1]),fun h=>absurd h (by simp [hi.2])⟩)) h3⟩)
    (fun {i o rest fr m log} e h1 i1 i2 h2 h3=>fun o' rest' log' hL hlg hl=>by
     simp only [cT,List.cons.injEq] at hl
     obtain ⟨rfl,rfl⟩:=hl
     subst hlg
     simp only [mc] at i1 i2
     exact ⟨e,h1 o' rfl rfl,h2,fc hgl _ _ _ _ (e::log') (hL.step (show vF o' e from ⟨fun h=>absurd h (by simp [i1]),fun h=>absurd h (by simp [i2])⟩)) h3⟩)
    (fun {fr m log} h1 h2=>⟨h1,h2⟩))
  refine fI (N:=ops.size) ?_ _ _ _ _ _ (by simp) h1
  rintro fr1 m1 log hlen ⟨⟨hd,hq⟩,ht⟩
  refine ⟨vG k3 (by simpa using hlen) ht (og (by rw [List.map_reverse];exact hd)),fun fr' hF=>⟨rfl,?_⟩⟩
  have:bW ts fr' = bW ts fr1:=by simp only [vE,hF]
  rw [this];exact hq
 intro g a w hr
 refine wpIn_mono (key g a w hr) fun e a' w' ⟨g',ex,s',h1,h2,h4,h5⟩=>?_
 subst h4
 exact ⟨g',.normal,⟨bW ts s'.fr,s'.mem,s'.c,s'.ds⟩,h1.forget _ (fun t _=>jT ts s'.fr t),h2,h5⟩
end
theorem ml {P:Program} [Laid P] {f:FuncId} {fn:Func} {n:Nat} {rs:List ResultVar} {c:Code} {xs:List AV} {p:Oid} {need:List (Oid × ar)} {R Rp:AV→List (Oid × Option ar)→Prop} (hf:P.funcs[f]? = some fn) (hn:fn.ntmps=n) (hr:fn.results.toList=rs)
  (hnm:(fn.name != "runtime.NumGoroutine")=true) (hl:(Nat.ble xs.length n)=true) (hok:e9 n rs=true) (hb:fn.body=some c)
  (hT:∀ x:Ctx,x.p=p→x.rd=none→Fit P x→T P x n c ⟨cB 0 xs,Mem.of need,0,[]⟩ (after P x n (fb P rs need R Rp) [])):aX P f xs (Oid.under p) need R Rp :=
 vH hf hn hr hnm hl hok hb fun x h1 h2 h3=>gY (hT x h1 h2 h3) fun _ _ h=>h
theorem aN {P:Program} [Laid P] {f:FuncId} {fn:Func} {n:Nat} {rs:List ResultVar} {c:Code} {xs:List AV} {p:Oid} {e:Eff} (hf:P.funcs[f]? = some fn) (hn:fn.ntmps=n) (hr:fn.results.toList=rs)
  (hnm:(fn.name != "runtime.NumGoroutine")=true) (hl:(Nat.ble xs.length n)=true) (hok:e9 n rs=true) (hb:fn.body=some c)
  (hT:∀ x:Ctx,x.p=p→x.rd=none→Fit P x→T P x n c ⟨cB 0 xs,Mem.of e.need,0,[]⟩ (after P x n (fb P rs e.need (fun v u=>v=e.val∧u=e.upd) fun _ _=>False) [])):aA P f xs (Oid.under p) e :=
 (ml hf hn hr hnm hl hok hb hT).ok
theorem cU {P:Program} {rs:List ResultVar} {need:List (Oid × ar)} {R Rp:AV→List (Oid × Option ar)→Prop} {fr:List (Nat × AV)} {m:Mem} {c:Nat} (val:AV) (upd:List (Oid × Option ar)) (h1:il P m fr rs=some val) (h2:R val upd)
  (h3:∀ i o,((Mem.of need).aF upd) i=some o→m i=some o):fb P rs need R Rp .ret ⟨fr,m,c,[]⟩:=⟨val,upd,h1,h2,h3⟩
theorem bc {P:Program} {rs:List ResultVar} {need:List (Oid × ar)} {R Rp:AV→List (Oid × Option ar)→Prop} {fr:List (Nat × AV)} {m:Mem} {c:Nat} (val:AV) (upd:List (Oid × Option ar)) (h1:il P m fr rs=some val) (h2:R val upd)
  (h3:∀ i o,((Mem.of need).aF upd) i=some o→m i=some o):fb P rs need R Rp .normal ⟨fr,m,c,[]⟩:=⟨val,upd,h1,h2,h3⟩
theorem aE {P:Program} {rs:List ResultVar} {val:AV} {fr:List (Nat × AV)} {m:Mem} {c:Nat} (h1:il P m fr rs=some val):fb P rs [] (fun v u=>v=val∧u=[]) (fun _ _=>False) .ret ⟨fr,m,c,[]⟩ :=
 cU val [] h1 ⟨rfl,rfl⟩ fun i o h=>by cases h
theorem aT {P:Program} {t:Nat} {val:AV} {fr:List (Nat × AV)} {m:Mem} {c:Nat} (h1:F fr t=val):fb P [.tmp t] [] (fun v u=>v=val∧u=[]) (fun _ _=>False) .ret ⟨fr,m,c,[]⟩ :=
 aE (by simp only [il,ph,h1,DS])
theorem fK {P:Program} [Laid P] {x:Ctx} {n:Nat} {ks:List Pc} {t sz k c:Nat} {id:Oid} {xs ys:List AV} {fr:List (Nat × AV)} {m:Mem} (hv:F fr t = .sl id sz k) (hi:m id=some (.arr sz xs)) (hk:k=xs.length) (hx:xs=ys) :
  T P x n .ret ⟨fr,m,c,[]⟩ (after P x n (fb P [.tmp t] [] (fun v u=>v = .list sz ys∧u=[]) (fun _ _=>False)) ks):=by
 subst hx
 refine mj id sz xs hi (aC (aT ?_))
 rw [uz,hv,nB,if_pos ⟨rfl,rfl,hk⟩]
end Go.Ab
namespace Go.Ab
def gd (p:Prop) [Decidable p] (v:Option AV):Option AV:=if p then v else none
theorem Ym {p:Prop} [Decidable p] {v:Option AV} (h:p):gd p v=v:=if_pos h
def gdR (p:Prop) [Decidable p] (v:OpR):OpR:=if p then v else .no
theorem DW {p:Prop} [Decidable p] {v:OpR} (h:p):gdR p v=v:=if_pos h
theorem sU (s:List UInt8) (k:IntKind) (n:Int):ki (some .str) (.str s) (.int k n)=gd (0≤n∧n < s.length) (some (.int .u8 (s.getD n.toNat 0).toNat)):=rfl
theorem lr (el:TypeId) (ag:Bool) (sz by' sz':Nat) (xs:List AV) (k:IntKind) (n:Int):dA (some (.slice el ag sz by')) (.list sz' xs) (.int k n)=gd (sz' = sz∧0≤n∧n < xs.length) (some (.eptr (xs.getD n.toNat .undef))):=rfl
theorem nC (el:TypeId) (ag:Bool) (sz by' sz' len:Nat) (id:Oid) (k:IntKind) (n:Int):dA (some (.slice el ag sz by')) (.sl id sz' len) (.int k n)=gd (sz' = sz∧0≤n∧n < len) (some (.aptr id sz n.toNat 0)):=rfl
theorem mo (el:TypeId) (ag:Bool) (sz len off:Nat) (id:Oid) (k:IntKind) (n:Int):dA (some (.arr len el ag sz)) (.ptr id off) (.int k n)=gd (0≤n∧n < len) (some (.ptr id (off+n.toNat * sz))):=rfl
theorem re (s:List UInt8):bB (some .str) (.str s) none none=some (.str s):=by
 simp [bB,bN]
theorem rh (s:List UInt8) (k:IntKind) (l:Int):bB (some .str) (.str s) (some (.int k l)) none=gd (0≤l∧l≤s.length) (some (.str (s.drop l.toNat))):=by
 simp only [bB,bN,gd]
 by_cases h:0≤l∧l≤s.length
 ·rw [if_pos h,if_pos ⟨h.1,h.2,Int.le_refl _⟩];simp
 ·rw [if_neg h,if_neg (fun h'=>h ⟨h'.1,h'.2.1⟩)]
theorem ri (s:List UInt8) (k:IntKind) (h:Int):bB (some .str) (.str s) none (some (.int k h))=gd (0≤h∧h≤s.length) (some (.str (s.take h.toNat))):=by
 simp only [bB,bN,gd]
 by_cases hc:0≤h∧h≤s.length
 ·rw [if_pos hc,if_pos ⟨Int.le_refl _,hc.1,hc.2⟩];simp
 ·rw [if_neg hc,if_neg (fun h'=>hc ⟨h'.2.1,h'.2.2⟩)]
theorem rj (s:List UInt8) (k k':IntKind) (l h:Int):bB (some .str) (.str s) (some (.int k l)) (some (.int k' h))=gd (0≤l∧l≤h∧h≤s.length) (some (.str ((s.take h.toNat).drop l.toNat))):=rfl
theorem pz (el:TypeId) (ag:Bool) (sz by' sz':Nat) (xs:List AV) (k:IntKind) (l:Int):bB (some (.slice el ag sz by')) (.list sz' xs) (some (.int k l)) none=gd (sz' = sz∧0≤l∧l≤xs.length) (some (.list sz (xs.drop l.toNat))):=by
 simp only [bB,bN,gd]
 by_cases h:sz' = sz∧0≤l∧l≤xs.length
 ·rw [if_pos h,if_pos ⟨h.1,h.2.1,h.2.2,Int.le_refl _⟩];simp
 ·rw [if_neg h,if_neg (fun h'=>h ⟨h'.1,h'.2.1,h'.2.2.1⟩)]
theorem pA (el:TypeId) (ag:Bool) (sz by' sz':Nat) (xs:List AV) (k:IntKind) (h:Int):bB (some (.slice el ag sz by')) (.list sz' xs) none (some (.int k h))=gd (sz' = sz∧0≤h∧h≤xs.length) (some (.list sz (xs.take h.toNat))):=by
 simp only [bB,bN,gd]
 by_cases hc:sz' = sz∧0≤h∧h≤xs.length
 ·rw [if_pos hc,if_pos ⟨hc.1,Int.le_refl _,hc.2.1,hc.2.2⟩];simp
 ·rw [if_neg hc,if_neg (fun h'=>hc ⟨h'.1,h'.2.2.1,h'.2.2.2⟩)]
theorem pB (el:TypeId) (ag:Bool) (sz by':Nat) (xs:List AV):bB (some (.slice el ag sz by')) (.list sz xs) none none=some (.list sz xs):=by
 simp [bB,bN]
theorem pC (el:TypeId) (ag:Bool) (sz by' sz':Nat) (xs:List AV) (k k':IntKind) (l h:Int):bB (some (.slice el ag sz by')) (.list sz' xs) (some (.int k l)) (some (.int k' h))=gd (sz' = sz∧0≤l∧l≤h∧h≤xs.length) (some (.list sz ((xs.take h.toNat).drop l.toNat))):=rfl
theorem sV (el:TypeId) (ag:Bool) (sz by' sz' len:Nat) (id:Oid) (k:IntKind) (h:Int):bB (some (.slice el ag sz by')) (.sl id sz' len) none (some (.int k h))=gd (0≤h∧h≤len) (some (.sl id sz' h.toNat)):=by
 simp only [bB,bN,gd,true_and]
theorem sW (el:TypeId) (ag:Bool) (sz by' sz' len:Nat) (id:Oid):bB (some (.slice el ag sz by')) (.sl id sz' len) none none=some (.sl id sz' len):=by
 simp [bB,bN]
theorem rk (el:TypeId) (ag:Bool) (sz by':Nat):bB (some (.slice el ag sz by')) .nilSl none none=some .nilSl:=by
 simp [bB,bN]
theorem sX (el:TypeId) (ag:Bool) (sz len:Nat) (cs:List AV) (k:IntKind) (n:Int):ki (some (.arr len el ag sz)) (.agg cs) (.int k n)=gd (0≤n∧n < len∧n.toNat * sz+sz≤cs.length∧(ag=true∨sz=1)) (some (iU ag cs (n.toNat * sz) sz)):=rfl
theorem rm (el:TypeId) (ag:Bool) (sz len:Nat) (id:Oid) (k:IntKind) (l:Int):bB (some (.arr len el ag sz)) (.ptr id 0) (some (.int k l)) none=gd (0≤l∧l < len) (some (.win id sz l.toNat (len - l.toNat))):=by
 simp only [bB,bN,gd,Int.toNat_natCast]
 by_cases h:0≤l∧l < len
 ·rw [if_pos h,if_pos ⟨trivial,h.1,h.2,by omega,Int.le_refl _⟩]
 ·rw [if_neg h,if_neg (fun h'=>h ⟨h'.2.1,h'.2.2.1⟩)]
theorem rn (el:TypeId) (ag:Bool) (sz len:Nat) (id:Oid) (k:IntKind) (h:Int):bB (some (.arr len el ag sz)) (.ptr id 0) none (some (.int k h))=gd ((0:Int) < len∧0≤h∧h≤len) (some (.win id sz 0 h.toNat)):=by
 simp only [bB,bN,gd]
 by_cases hc:(0:Int) < len∧0≤h∧h≤len
 ·rw [if_pos hc,if_pos ⟨trivial,Int.le_refl _,hc.1,hc.2.1,hc.2.2⟩];simp
 ·rw [if_neg hc,if_neg (fun h'=>hc ⟨h'.2.2.1,h'.2.2.2.1,h'.2.2.2.2⟩)]
theorem Aq (k:IntKind) (a b:Int):fi .add k a b=some (.int k (k.wrap (a+b))):=rfl
theorem Ar (k:IntKind) (a b:Int):fi .sub k a b=some (.int k (k.wrap (a - b))):=rfl
theorem Au (k:IntKind) (a b:Int):fi .mul k a b=some (.int k (k.wrap (a * b))):=rfl
theorem Av (k:IntKind) (a b:Int):fi .quo k a b=gd (b≠0) (some (.int k (k.wrap (a.tdiv b)))):=rfl
theorem Aw (k:IntKind) (a b:Int):fi .rem k a b=gd (b≠0) (some (.int k (a.tmod b))):=rfl
theorem Ax (k:IntKind) (a b:Int):fi .and k a b=some (.int k (k.wrap (BitVec.ofInt k.bits a &&& BitVec.ofInt k.bits b).toNat)):=rfl
theorem DX (k:IntKind) (a b:Int):fi .or k a b=some (.int k (k.wrap (BitVec.ofInt k.bits a ||| BitVec.ofInt k.bits b).toNat)):=rfl
theorem Ay (k:IntKind) (a b:Int):fi .xor k a b=some (.int k (k.wrap (BitVec.ofInt k.bits a ^^^ BitVec.ofInt k.bits b).toNat)):=rfl
theorem rp (k:IntKind) (a b:Int):fi .andNot k a b=some (.int k (k.wrap (BitVec.ofInt k.bits a &&& ~~~ BitVec.ofInt k.bits b).toNat)):=rfl
theorem lC {α:Type} [BEq α] [LawfulBEq α] [DecidableEq α] (a b:α):(a == b)=decide (a=b):=by
 rw [Bool.eq_iff_iff];simp
theorem uA {α:Type} [BEq α] [LawfulBEq α] [DecidableEq α] (a b:α):(a != b)=decide (a≠b):=by
 rw [Bool.eq_iff_iff];simp
theorem Az (k:IntKind) (a b:Int):fi .eql k a b=some (.bool (decide (a=b))):=by
 simp only [fi,lC]
theorem AA (k:IntKind) (a b:Int):fi .neq k a b=some (.bool (decide (a≠b))):=by
 simp only [fi,uA]
theorem AB (k:IntKind) (a b:Int):fi .lss k a b=some (.bool (decide (a < b))):=rfl
theorem AE (k:IntKind) (a b:Int):fi .leq k a b=some (.bool (decide (a≤b))):=rfl
theorem AF (k:IntKind) (a b:Int):fi .gtr k a b=some (.bool (decide (b < a))):=rfl
theorem AG (k:IntKind) (a b:Int):fi .geq k a b=some (.bool (decide (b≤a))):=rfl
theorem sY (k:IntKind) (a b:Int):ic .shl k a b=gd (0≤b) (some (.int k (k.wrap (a * 2 ^ (min b.toNat k.bits))))):=by
 unfold ic gd
 by_cases h:0≤b
 ·rw [if_neg (by omega),if_pos h]
 ·rw [if_pos (by omega),if_neg h]
theorem sZ (k:IntKind) (a b:Int):ic .shr k a b=gd (0≤b) (some (.int k (a.fdiv (2 ^ (min b.toNat k.bits))))):=by
 unfold ic gd
 by_cases h:0≤b
 ·rw [if_neg (by omega),if_pos h]
 ·rw [if_pos (by omega),if_neg h]
theorem AH (a b:List UInt8):jJ .add a b=gd (a.length+b.length≤9223372036854775807) (some (.str (a++b))):=rfl
theorem AI (a b:List UInt8):jJ .eql a b=some (.bool (decide (a=b))):=by
 simp only [jJ,lC]
theorem AJ (a b:List UInt8):jJ .neq a b=some (.bool (decide (a≠b))):=by
 simp only [jJ,uA]
def ltS (a b:List UInt8):Bool:=Op.bytesLess a b
theorem AK (a b:List UInt8):jJ .lss a b=some (.bool (ltS a b)):=rfl
theorem AL (a b:List UInt8):jJ .leq a b=some (.bool (ltS a b || decide (a=b))):=by
 simp only [jJ,ltS,lC]
theorem AM (a b:List UInt8):jJ .gtr a b=some (.bool (!(ltS a b || decide (a=b)))):=by
 simp only [jJ,ltS,lC]
theorem AN (a b:List UInt8):jJ .geq a b=some (.bool (!ltS a b)):=rfl
def vK (P:Program) (m:Mem) (nid:Oid) (k:Option TyK) (s:AV) (x:Option (List (Oid × ar) × List AV)):OpR :=
 match k,s,x with
 | some (.slice el _ sz by'),.nilSl,some (nd,ys)=>gdR (l3 P el sz=true∧0 < by'∧ys.length * by'≤140737488355328) (.eff ⟨nd,.sl nid sz ys.length,[(nid,some (.arr sz ys))]⟩)
 | some (.slice el _ sz by'),.sl id sz' len,some (nd,ys)=>match m id with
  | some (.arr s' xs)=>gdR (l3 P el sz=true∧sz' = sz∧s' = sz∧xs.length=len∧0 < by'∧(len+ys.length) * by'≤140737488355328)
     (.eff ⟨(id,.arr s' xs)::nd,.sl nid sz (len+ys.length),[(id,none),(nid,some (.arr sz (xs++ys)))]⟩)
  | _=>.no
 | _,_,_=>.no
def AO:Option TyK→Nat
 | some (.slice _ _ sz _)=>sz
 | _=>0
theorem DY (P:Program) (m:Mem) (nid:Oid) (t:TypeId) (s x:AV):sM P m nid t s x=vK P m nid (tyk P t) s (qH m (AO (tyk P t)) x):=by
 unfold sM vK
 cases tyk P t with
 | none=>rfl
 | some k =>
  cases k<;>try rfl
  simp only [AO]
  generalize qH m _ x=r
  cases r with
  | none=>cases s<;>rfl
  | some r =>
   obtain ⟨nd,ys⟩:=r
   cases s<;>rfl
def db (i:Oid) (x:Option ar):List (Oid × ar)→List (Oid × ar)
 | []=>match x with
  | some o=>[(i,o)]
  | none=>[]
 | q::l=>if i=q.1 then (match x with
     | some o=>(i,o)::l
     | none=>db i none l) else q::db i x l
def dH:List (Oid × Option ar)→List (Oid × ar)→List (Oid × ar)
 | [],l=>l
 | q::u,l=>dH u (db q.1 q.2 l)
theorem Mem.bG (i:Oid) (x:Option ar):∀ l,(Mem.of l).set i x=Mem.of (db i x l)
 | []=>by cases x<;>(funext k;simp [Mem.of,Mem.set,db,Mem.emp])
 | q::l=>by
  have ih:=fun x=>Mem.bG i x l
  simp only [db]
  by_cases h:i=q.1
  ·rw [if_pos h]
   cases x with
   | some o=>funext k;simp only [Mem.of,Mem.set];subst h;split<;>rfl
   | none=>rw [← ih];funext k;simp only [Mem.of,Mem.set];subst h;split<;>rfl
  ·rw [if_neg h];funext k;simp only [Mem.of];rw [← ih];simp only [Mem.set]
   by_cases h1:k=i
   ·rw [if_pos h1,if_pos h1,if_neg (fun h2=>h (h1.symm.trans h2))]
   ·rw [if_neg h1,if_neg h1]
theorem Mem.bs:∀ (u:List (Oid × Option ar)) (l:List (Oid × ar)),(Mem.of l).aF u=Mem.of (dH u l)
 | [],_=>rfl
 | q::u,l=>by
  show ((Mem.of l).set q.1 q.2).aF u=_
  rw [Mem.bG,Mem.bs u];rfl
theorem Mem.Yn:Mem.emp=Mem.of []:=rfl
theorem Mem.bn (i:Oid):Mem.of [] i=none:=rfl
theorem Mem.ae (q:Oid × ar) (l:List (Oid × ar)) (i:Oid):Mem.of (q::l) i=if i=q.1 then some q.2 else Mem.of l i:=rfl
theorem DZ {L L':List (Oid × ar)} (h:∀ q,q ∈ L→Mem.of L' q.1=some q.2):∀ i o,Mem.of L i=some o→Mem.of L' i=some o:=by
 induction L with
 | nil=>intro i o h;cases h
 | cons q l ih =>
  intro i o hi
  simp only [Mem.ae] at hi
  split at hi
  ·rename_i e;simp only [Option.some.injEq] at hi;subst hi;subst e;exact h q List.mem_cons_self
  ·exact ih (fun q hq=>h q (List.mem_cons_of_mem _ hq)) i o hi
theorem cL {α:Type} (p:α→Prop):(∀ q,q ∈ ([]:List α)→p q)=True:=by simp
theorem bX {α:Type} (p:α→Prop) (a:α) (l:List α):(∀ q,q ∈ (a::l)→p q)=(p a∧∀ q,q ∈ l→p q):=by simp
theorem Oid.rq (c i:Nat) (p:Oid):(Oid.sub c i p=p)=False:=by
 apply eq_false
 intro h
 have:(Oid.sub c i p).depth=p.depth:=by rw [h]
 simp only [Oid.depth] at this;omega
theorem Oid.ru (c i:Nat) (p:Oid):(p=Oid.sub c i p)=False:=by
 apply eq_false
 intro h
 have:p.depth=(Oid.sub c i p).depth:=by rw [← h]
 simp only [Oid.depth] at this;omega
theorem Oid.Yo {c c' i i':Nat} {p p':Oid} (h:c≠c'):(Oid.sub c i p=Oid.sub c' i' p')=False:=by
 apply eq_false;intro e;injection e with h1 _ _;exact h h1
theorem Oid.aa {p q:Oid} (h:¬ Oid.under p q) (c i:Nat):(q=Oid.sub c i p)=False:=by
 apply eq_false;intro e;subst e;exact h (Oid.ay (Oid.az _))
theorem Oid.ab {p q:Oid} (h:¬ Oid.under p q) (c i:Nat):(Oid.sub c i p=q)=False:=by
 apply eq_false;intro e;subst e;exact h (Oid.ay (Oid.az _))
theorem Oid.mq {p q:Oid} (h:¬ Oid.under p q):(q=p)=False:=by
 apply eq_false;intro e;subst e;exact h (Oid.az _)
theorem Oid.mv {p q:Oid} (h:¬ Oid.under p q):(p=q)=False:=by
 apply eq_false;intro e;subst e;exact h (Oid.az _)
theorem vL:qO .nilSl=some .nilPtr:=rfl
theorem AP (id:Oid) (sz n:Nat):qO (.sl id sz n)=gd (0 < n) (some (.aptr id sz 0 0)):=rfl
theorem AQ (P:Program) (m:Mem) (t:TypeId) (n:Int):qP P m t .nilPtr (.int .i64 n)=gdR (n=0) (.eff ⟨[],.str [],[]⟩):=rfl
def afF (P:Program) (id:Oid) (sz i off:Nat) (n:Int) (o:Option ar) (k:Option TyK):OpR :=
 match o,k with
 | some (.arr s xs),some (.ptr e)=>gdR (sz=1∧i=0∧off=0∧s=1∧id.tyd=some e∧shp P e=some (false,1)∧0 < xs.length∧n=xs.length∧xs.length≤140737488355328∧xs.all gB=true)
   (.eff ⟨[(id,.arr s xs)],.str (xs.map byteOf),[(id,none)]⟩)
 | _,_=>.no
theorem AR (P:Program) (m:Mem) (t:TypeId) (id:Oid) (sz i off:Nat) (n:Int):qP P m t (.aptr id sz i off) (.int .i64 n)=afF P id sz i off n (m id) (tyk P t):=by
 simp only [qP]
 generalize m id=a
 generalize tyk P t=b
 cases a with
 | none=>rfl
 | some a=>cases a<;>first|rfl|(cases b with
  | none=>rfl
  | some b=>cases b<;>rfl)
def byA (b:UInt8):AV:=.int .u8 b.toNat
theorem mw (l:List UInt8):(l.map byA).all gB=true:=by
 rw [List.all_eq_true];intro v hv
 obtain ⟨b,_,rfl⟩:=List.mem_map.1 hv
 have:=b.toNat_lt
 show decide (b.toNat < 256)=true
 simp;omega
theorem mx (l:List UInt8):(l.map byA).map byteOf=l:=by
 rw [List.map_map]
 have:byteOf ∘ byA=id:=by funext b;simp [byteOf,byA,Int.toNat_natCast]
 rw [this,List.map_id]
def XL (P:Program) (sz:Nat) (xs:List AV) (a b:Option TyK):Option AV :=
 match a,b with
 | some (.slice el _ _ _),some .str=>gd (sz=1∧u8K (tyk P el)=true∧0 < xs.length∧xs.all gB=true) (some (.str (xs.map byteOf)))
 | _,_=>none
theorem s5 (P:Program) (src dst:TypeId) (sz:Nat) (xs:List AV):l8 P src dst (.list sz xs)=XL P sz xs (tyk P src) (tyk P dst):=by
 simp only [l8]
 generalize tyk P src=a
 generalize tyk P dst=b
 cases a with
 | none=>rfl
 | some a=>cases a<;>first|rfl|(cases b with
  | none=>rfl
  | some b=>cases b<;>rfl)
def XM (P:Program) (a b:Option TyK):Option AV :=
 match a,b with
 | some (.slice el _ _ _),some .str=>gd (u8K (tyk P el)=true) (some (.str []))
 | _,_=>none
theorem vM (P:Program) (src dst:TypeId):l8 P src dst .nilSl=XM P (tyk P src) (tyk P dst):=by
 simp only [l8]
 generalize tyk P src=a
 generalize tyk P dst=b
 cases a with
 | none=>rfl
 | some a=>cases a<;>first|rfl|(cases b with
  | none=>rfl
  | some b=>cases b<;>rfl)
theorem s6 (b:UInt8):gB (.int .u8 (b.toNat:Int))=true:=by
 have:=b.toNat_lt
 show decide (b.toNat < 256)=true
 simp;omega
theorem s7 (b:UInt8):byteOf (.int .u8 (b.toNat:Int))=b:=by simp [byteOf,Int.toNat_natCast]
attribute [go_sem] s5 vM XM XL s6 s7
attribute [go_sem] vL AP AQ AR afF mw mx iD
def uB:Bool→Nat→Oid→Oid
 | true,t,nid=>.ty t nid
 | false,_,nid=>nid
theorem AT (P:Program) (t:TypeId) (nid:Oid):e6 P t nid=uB (al P t) t nid:=by
 unfold e6;cases al P t<;>rfl
def uC:Bool→Option Nat→Nat→Oid→Oid
 | true,some t',t,nid=>if t' = t then .ty t nid else nid
 | _,_,_,nid=>nid
def AU (P:Program) (k:Option TyK) (nid:Oid) (s:AV):Oid :=
 match k,s with
 | some (.slice el _ _ _),.nilSl=>uB (pc (tyk P el)) el nid
 | some (.slice el _ _ _),.sl id _ _=>uC (pc (tyk P el)) id.tyd el nid
 | _,_=>nid
theorem AW (P:Program) (t:TypeId) (nid:Oid) (s:AV):kU P t nid s=AU P (tyk P t) nid s:=by
 unfold kU AU
 split
 ·rename_i el _ _ _ h
  try rw [h]
  show _=uB (pc (tyk P el)) el nid
  cases pc (tyk P el)<;>rfl
 ·rename_i el _ _ _ id _ _ h
  try rw [h]
  show _=uC (pc (tyk P el)) id.tyd el nid
  cases pc (tyk P el)<;>cases id.tyd<;>simp [uC]
 ·rename_i h1 h2
  first
   | rfl
   | (split
      ·rename_i h;exact (h1 _ _ _ _ h rfl).elim
      ·rename_i h;exact (h2 _ _ _ _ _ _ _ h rfl).elim
      ·rfl)
theorem AY (n:Nat):(Oid.root n).tyd=none:=rfl
theorem D1 (c i:Nat) (p:Oid):(Oid.sub c i p).tyd=none:=rfl
theorem Yp (t:Nat) (p:Oid):(Oid.ty t p).tyd=some t:=rfl
theorem Oid.vN (t c i:Nat) (p q:Oid):(Oid.sub c i q=Oid.ty t p)=False:=by apply eq_false;intro e;cases e
theorem Oid.aO {p q:Oid} (h:¬ Oid.under p q) (t c i:Nat):(q=Oid.ty t (Oid.sub c i p))=False:=by
 apply eq_false;intro e;subst e;exact h (.inr (Oid.ay (Oid.az _)))
theorem Oid.aS {p q:Oid} (h:¬ Oid.under p q) (t c i:Nat):(Oid.ty t (Oid.sub c i p)=q)=False:=by
 apply eq_false;intro e;subst e;exact h (.inr (Oid.ay (Oid.az _)))
attribute [go_sem] AT uB uC AU AW AY D1 Yp pc Oid.vN Oid.aO Oid.aS Oid.ty.injEq
theorem rv {α:Type} [Inhabited α] (f:α→AV) {l:List α} {i:Nat} (h:i < l.length) (d:AV):(l.map f).getD i d=f (l.getD i default):=by
 simp [List.getD_eq_getElem?_getD,List.getElem?_map,List.getElem?_eq_getElem h]
attribute [go_sem] Ym DW sX rm rn nT sU lr nC mo re rh ri rj pz pA pB pC sV sW rk
 Aq Ar Au Av Aw Ax DX Ay rp Az AA AB AE AF AG sY sZ AH AI AJ AK AL AM AN
 DY vK AO lZ l3 Yf Yg Am DU Ao Yh Ap vJ q8 jr jq opL prs kW oe mc cT q9 uy db dH Mem.bs Mem.Yn Mem.bn Mem.ae Oid.Yo Oid.aa Oid.ab Oid.mq Oid.mv Oid.rq Oid.ru Oid.sub.injEq
 rv w64 Option.isSome_some Option.isSome_none beq_self_eq_true Option.bind_some Option.bind_none Option.map_some Option.map_none Int.toNat_natCast List.length_map List.length_take List.length_drop List.length_append List.length_cons List.length_nil List.map_cons List.map_nil List.getD_cons_zero List.getD_cons_succ List.getD_nil
 List.take_succ_cons List.take_zero List.take_nil List.drop_succ_cons List.drop_zero List.drop_nil List.cons_append List.nil_append List.all_cons List.all_nil Bool.and_true Bool.true_and Bool.and_false Bool.false_and Bool.or_true Bool.true_or Bool.or_false Bool.false_or Bool.not_true Bool.not_false
 true_and and_true and_self or_true true_or or_false false_or false_and and_false eq_self List.getElem?_cons_zero List.getElem?_cons_succ List.getElem?_toArray cL bX ph il DS e9
theorem bt1 (b:Bool):(b == true)=b:=by cases b<;>rfl
theorem bt2 (b:Bool):(b == false) = !b:=by cases b<;>rfl
attribute [go_sem] frz nB Mem.bG
attribute [go_sem] bt1 bt2 decide_true decide_false
attribute [go_sem] decide_eq_true_eq decide_eq_false_iff_not Bool.and_eq_true Bool.or_eq_true Bool.not_eq_true' Bool.not_eq_false'
def nmd:Nat→Bool:=fun _=>false
theorem Yq (d:Nat):nmd d=false:=rfl
def mdl (l:List Nat):Nat→Bool:=fun d=>l.contains d
attribute [go_sem] Yq mdl List.contains_cons List.contains_nil
theorem Yr (k:IntKind):(k == k)=true:=by cases k<;>rfl
attribute [go_sem] Yr
theorem ck {α:Type} {l:List α} {i:Nat} (h:i < l.length) (d:α):l.getD i d=l[i]:=by
 simp [List.getD_eq_getElem?_getD,List.getElem?_eq_getElem h]
theorem Ys {x:UInt8} {n:Nat} (hn:n < 256):((x.toNat:Int)=(n:Int))↔x=UInt8.ofNat n:=by
 constructor
 ·intro h
  apply UInt8.toNat_inj.1
  rw [UInt8.toNat_ofNat',Nat.mod_eq_of_lt (by omega)];omega
 ·rintro rfl
  rw [UInt8.toNat_ofNat',Nat.mod_eq_of_lt (by omega)]
theorem cg {x y:UInt8}:((x.toNat:Int)=(y.toNat:Int))↔x=y:=by
 rw [← UInt8.toNat_inj];omega
theorem drop_cons {α:Type} [Inhabited α] {l:List α} {i:Nat} (h:i < l.length):l.drop i=l.getD i default::l.drop (i+1):=by
 rw [List.drop_eq_getElem_cons h,ck h]
theorem nD {α β:Type} [Inhabited α] (f:α→β) {l:List α} {i:Nat} (h:i < l.length):(l.take (i+1)).map f=(l.take i).map f++[f (l.getD i default)]:=by
 rw [List.take_succ_eq_append_getElem h,List.map_append,ck h];rfl
theorem Yt (x:UInt8):IntKind.i64.wrap (x.toNat:Int)=x.toNat:=by
 have:=x.toNat_lt;exact w64 (by omega) (by omega)
theorem afG (x:UInt8):IntKind.u8.wrap (x.toNat:Int)=x.toNat:=by
 have:=x.toNat_lt
 simp [IntKind.wrap,IntKind.bits,IntKind.signed];omega
attribute [go_sem] Yt afG
theorem ry (a b:Nat):(a:Int).tmod b=((a % b:Nat):Int):=by
 rw [Int.tmod_eq_emod_of_nonneg (by omega)];rfl
theorem AZ (a b:Nat):(a:Int).tdiv b=((a / b:Nat):Int):=by
 rw [Int.tdiv_eq_ediv_of_nonneg (by omega)];rfl
theorem w8 {n:Int} (h1:0≤n) (h2:n≤255):IntKind.u8.wrap n=n:=by
 simp [IntKind.wrap,IntKind.bits,IntKind.signed];omega
end Go.Ab
namespace Go.Ab
variable {α:Type} [DecidableEq α]
def iY (enc:α→AV):Prop:=∀ a b,dF (enc a) (enc b)=decide (a=b)
variable {enc:α→AV}
end Go.Ab
namespace Go.Ab
theorem fB {P:Program} [Laid P] {f:FuncId} {xs:List AV} {sp:Oid→Prop} {L:List (Oid × ar)} {R Rp:AV→List (Oid × Option ar)→Prop} (he:cM P f=true)
  (h:(∀ q ∈ L,Mem.of L q.1=some q.2)→aX P f xs sp L R Rp):aX P f xs sp L R Rp:=by
 by_cases hc:∀ q ∈ L,Mem.of L q.1=some q.2
 ·exact h hc
 ·refine ⟨he,fun x g args w m hm hn _ _ _=>absurd (fun q hq=>?_) hc⟩
  obtain ⟨o,ho⟩:=Mem.pd hq
  obtain ⟨q',h1,h2,h3⟩:=Mem.dN ho
  have h4:=hn q hq
  have h5:=hn q' h1
  rw [h2,h4,h3] at h5
  rw [ho];exact h5.symm
theorem vO {B L L':List (Oid × ar)} {m:Mem} {upd:List (Oid × Option ar)} {sp:Oid→Prop} (hU:nZ L sp upd L') (hL:∀ q ∈ L,m q.1=some q.2) (hB:∀ q ∈ B,m q.1=some q.2)
  (hd:∀ q ∈ B,(∀ q' ∈ L,¬ q'.1=q.1)∧¬ sp q.1):∀ q,q ∈ B++L'→(m.aF upd) q.1=some q.2:=by
 intro q hq
 rcases List.mem_append.1 hq with hq|hq
 ·rw [aU fun q' hq' e=>?_]
  ·exact hB q hq
  ·obtain ⟨h1,h2⟩:=hd q hq
   rcases hU.tou q' hq' with ⟨q2,h3,h4⟩|h3
   ·exact h1 q2 h3 (h4.trans e)
   ·exact h2 (e ▸ h3)
 ·exact qX hL (hU.got q hq)
theorem my {B L:List (Oid × ar)} (hB:∀ q ∈ B,Mem.of (B++L) q.1=some q.2) (hd:∀ q ∈ L,∀ q' ∈ B,¬ q.1=q'.1) (hL:∀ q ∈ L,Mem.of L q.1=some q.2):∀ q ∈ B++L,Mem.of (B++L) q.1=some q.2:=by
 intro q hq
 rcases List.mem_append.1 hq with hq|hq
 ·exact hB q hq
 ·have:∀ (B:List (Oid × ar)),(∀ q' ∈ B,¬ q.1=q'.1)→Mem.of (B++L) q.1=Mem.of L q.1:=by
   intro B h
   induction B with
   | nil=>rfl
   | cons b B ih=>rw [List.cons_append,Mem.ae,if_neg (h b List.mem_cons_self)];exact ih fun q' hq'=>h q' (List.mem_cons_of_mem _ hq')
  rw [this B (hd q hq)];exact hL q hq
theorem bp {P:Program} [Laid P] {x:Ctx} {n:Nat} {a:Code} {Q:AX→AS→Prop} {fr:List (Nat × AV)} {m:Mem} {c:Nat} {ds:List AD} (L:List (Oid × ar)) (hm:∀ q,q ∈ L→m q.1=some q.2) (h:T P x n a ⟨fr,Mem.of L,c,ds⟩ Q):T P x n a ⟨fr,m,c,ds⟩ Q :=
 Yl (Mem.of L) (fun i o hi=>by obtain ⟨q,h1,rfl,rfl⟩:=Mem.dN hi;exact hm q h1) h
theorem pD {L:List (Oid × ar)} {m:Mem} (hm:∀ q,q ∈ L→m q.1=some q.2):∀ i o,Mem.of L i=some o→m i=some o:=fun i o hi=>by
 obtain ⟨q,h1,rfl,rfl⟩:=Mem.dN hi;exact hm q h1
theorem aJ (i:Oid) (x:Option ar) (l:List (Oid × ar)) (j:Oid):Mem.of (db i x l) j=if j=i then x else Mem.of l j:=by rw [← Mem.bG];rfl
end Go.Ab
namespace Go.Ab
open Go.ChangeShapes Go.WideShapes
def dI (a b:AV):Prop:=∀ g v,VR g a v→VR g b v
theorem dI.refl (a:AV):dI a a:=fun _ _ h=>h
theorem dI.nil (sz:Nat):dI .nilSl (.list sz []):=fun _ _ h=>by rw [h.bu];exact .listNil sz
inductive c8:List AV→List AV→Prop
 | nil:c8 [] []
 | cons {a b:AV} {l m:List AV} (h:dI a b) (t:c8 l m):c8 (a::l) (b::m)
theorem c8.length {l m:List AV} (h:c8 l m):l.length=m.length:=by
 induction h with
 | nil=>rfl
 | cons _ _ ih=>simp [ih]
theorem c8.at {l m:List AV} (h:c8 l m):∀ j,dI (l.getD j .undef) (m.getD j .undef):=by
 induction h with
 | nil=>exact fun j=>.refl _
 | cons h _ ih =>
  intro j
  cases j with
  | zero=>exact h
  | succ j=>simpa using ih j
theorem dI.agg {l m:List AV} (h:c8 l m):dI (.agg l) (.agg m):=fun g v hv=>by
 obtain ⟨a,rfl,h1,h2⟩:=hv.ef
 exact .agg _ _ (h1.trans h.length) fun j hj=>h.at j _ _ (h2 j (by rw [h.length];exact hj))
def pE (a b:AV):Prop:=c8 a.cells b.cells
theorem pE.agg {l m:List AV} (h:c8 l m):pE (.agg l) (.agg m):=h
inductive kY:List AV→List AV→Prop
 | nil:kY [] []
 | cons {a b:AV} {l m:List AV} (h:pE a b) (t:kY l m):kY (a::l) (b::m)
theorem kY.length {l m:List AV} (h:kY l m):l.length=m.length:=by
 induction h with
 | nil=>rfl
 | cons _ _ ih=>simp [ih]
theorem kY.at {l m:List AV} (h:kY l m):∀ j,pE (l.getD j .undef) (m.getD j .undef):=by
 induction h with
 | nil=>exact fun j=>.cons (.refl _) .nil
 | cons h _ ih =>
  intro j
  cases j with
  | zero=>exact h
  | succ j=>simpa using ih j
theorem dI.list {sz:Nat} {l m:List AV} (h:kY l m):dI (.list sz l) (.list sz m):=fun g v hv=>by
 rcases hv.dK with ⟨rfl,hu|⟨a,cap,hu⟩⟩|⟨b,o,cap,cs,hu,h1,h2,h3,h4⟩
 ·cases h;rw [hu];exact .listNil _
 ·cases h;rw [hu];exact .listAny _ _ _
 ·rw [hu,h.length]
  have hl:=h.length
  exact .list sz m b o cap cs (by omega) (fun i hi=>by have:=(h.at i).length;have:=h2 i (by omega);omega) (fun i j hi hj=>h3 i j (by omega) hj) fun i j hi hj=>(h.at i).at j _ _ (h4 i j (by omega) hj)
theorem VRs.ko {g:Gh} {xs ys:List AV} {a:Array Value} (h:VRs g xs a) (k:c8 xs ys):VRs g ys a:=⟨h.1.trans k.length,fun j hj=>k.at j _ _ (h.2 j (by rw [k.length];exact hj))⟩
theorem aA.ko {P:Program} [Laid P] {f:FuncId} {xs ys:List AV} {sp:Oid→Prop} {e:Eff} (h:aA P f ys sp e) (k:c8 xs ys):aA P f xs sp e :=
 ⟨h.enters,fun x g args w m h1 h2 h3=>h.calls x g args w m h1 h2 (h3.ko k)⟩
theorem aX.ko {P:Program} [Laid P] {f:FuncId} {xs ys:List AV} {sp:Oid→Prop} {need:List (Oid × ar)} {R Rp:AV→List (Oid × Option ar)→Prop} (h:aX P f ys sp need R Rp) (k:c8 xs ys):aX P f xs sp need R Rp :=
 ⟨h.enters,fun x g args w m h1 h2 h3=>h.calls x g args w m h1 h2 (h3.ko k)⟩
def cn (ng:Nat) (w:World):Gh :=
 ⟨fun i=>match i with | .root k=>if k < ng then some (some k) else none | .sub .. => none | .ty .. => none,
  fun b o=>match w.cell? ⟨b,o,none⟩ with|some v=>if v.oneCell' = true then some v else none|none=>none,fun b=>match w.heap[b]? with|some (.cells c _ _)=>some c.size|_=>none⟩
theorem iG {ng:Nat} {w:World} {b o:Nat} {v:Value} (h:w.cell? ⟨b,o,none⟩=some v) (hv:v.oneCell' = true):(cn ng w).com b o=some v:=by
 simp only [cn,h,hv,if_true]
theorem mz {ng:Nat} {w:World} {b o:Nat} {v:Value} (h:(cn ng w).com b o=some v):w.cell? ⟨b,o,none⟩=some v∧v.oneCell' = true:=by
 simp only [cn] at h
 split at h
 ·rename_i u hu
  split at h
  ·rename_i h1;cases h;exact ⟨hu,h1⟩
  ·cases h
 ·cases h
theorem s8 (ng:Nat) (w:World):aD ⟨ng,cn ng w,w,fun _=>False,.root ng,none⟩ (cn ng w) Mem.emp w where
 le:=Gh.le_refl _
 locs _ _:=rfl
 glob k hk:=by simp [cn,hk]
 coms _ _ _ h:=.inl h
 obj0 _ _ h:=by cases h
 inj _ _ _ _ _ h:=by cases h
 com _ _ _ h:=(mz h).1
 one _ _ _ h:=(mz h).2
 rows b r h:=by
  simp only [cn] at h
  split at h
  ·rename_i c t fz hc;simp only [Option.some.injEq] at h;exact ⟨c,t,fz,hc,h⟩
  ·cases h
 os:=rfl
 tape:=rfl
 output:=⟨rfl,fun _=>Nat.le_refl _⟩
 size:=Nat.le_refl _
 kept _ _ _:=rfl
 typs _ _ _ h:=by cases h
structure Rd (P:Program) (t:TypeId) {α:Type} (A:α→AV) (V:α→Prop):Prop where
 len:∀ a,(A a).cells.length=P.cellsOf t
 rd:∀ {H:Type} {enc:TypeId × Value→H} {w:World} {ng base fuel:Nat} {spare:Nat→Bool} {held:Bool} {cs:List Value} {x:DataW H × List MemPlace},DataW.trod enc P w base spare held fuel t cs=some x →
  (∀ n ∈ x.1.weights P t,n≤reachBytes)→∃ a:α,V a∧cs.length=P.cellsOf t∧∀ j,j < cs.length→(cs.getD j undef).oneCell' = true∧VR (cn ng w) ((A a).cells.getD j .undef) (cs.getD j undef)
section
variable {P:Program} [Laid P] {t:TypeId} {α β:Type} {A:α→AV} {V:α→Prop}
theorem Rd.map {B:β→AV} {W:β→Prop} (h:Rd P t A V) (f:α→β) (hA:∀ a,V a→A a=B (f a)) (hl:∀ b,(B b).cells.length=P.cellsOf t) (hV:∀ a,V a→W (f a)):Rd P t B W :=
 ⟨hl,fun {H enc w ng base fuel spare held cs x} h1 h2=>by
  obtain ⟨a,k1,k2,k3⟩:=h.rd (ng:=ng) h1 h2
  exact ⟨f a,hV a k1,k2,by rw [← hA a k1];exact k3⟩⟩
theorem s9 {a:AV} {v:Value} {g:Gh} (hc:a.cells=[a]) (hv:VR g a v) (h1:v.oneCell' = true):∀ j,j < [v].length→(([v]:List Value).getD j undef).oneCell' = true∧VR g (a.cells.getD j .undef) (([v]:List Value).getD j undef):=by
 intro j hj
 obtain rfl:j=0:=by simp at hj;exact hj
 rw [hc];exact ⟨h1,hv⟩
theorem rd_str (ht:P.underlying t=some .string) (hc:P.cellsOf t=1):Rd P t AV.str (fun s=>s.length≤reachBytes) :=
 ⟨fun _=>hc.symm,fun h hw=>by
  obtain ⟨s,rfl,rfl,_⟩:=DataW.trod_string ht h
  exact ⟨s.data.toList,hw _ (by simp [DataW.weights]),hc.symm,s9 rfl (.str _ _ rfl) rfl⟩⟩
theorem iq {H:Type} {e:TypeId} {n:Nat}:∀ {l:List (DataW H)} {d:DataW H},d ∈ l→n ∈ d.weights P e→n ∈ DataW.weightsAll P e l
 | [],_,h,_=>by cases h
 | x::l,d,h,hn=>by
  rw [DataW.weightsAll]
  rcases List.mem_cons.1 h with rfl|h
  ·exact List.mem_append_left _ hn
  ·exact List.mem_append_right _ (iq h hn)
theorem kZ {p:Nat→α→Prop}:∀ (n:Nat),(∀ i,i < n→∃ a,p i a)→∃ l:List α,l.length=n∧∀ i,i < n→∃ a,l[i]? = some a∧p i a
 | 0,_=>⟨[],rfl,fun i hi=>absurd hi (Nat.not_lt_zero _)⟩
 | n+1,h=>by
  obtain ⟨l,h1,h2⟩:=kZ n fun i hi=>h i (Nat.lt_succ_of_lt hi)
  obtain ⟨a,ha⟩:=h n (Nat.lt_succ_self _)
  refine ⟨l++[a],by simp [h1],fun i hi=>?_⟩
  by_cases e:i < n
  ·obtain ⟨b,hb,hp⟩:=h2 i e
   exact ⟨b,by rw [List.getElem?_append_left (by omega)];exact hb,hp⟩
  ·obtain rfl:i=n:=by omega
   exact ⟨a,by rw [List.getElem?_append_right (by omega),h1,Nat.sub_self];rfl,ha⟩
theorem mapM_at {β:Type} {f:Nat→Option β}:∀ {l:List Nat} {r:List β},l.mapM f=some r→r.length=l.length∧∀ i,i < l.length→f (l.getD i 0)=r[i]?
 | [],r,h=>by simp at h;subst h;exact ⟨rfl,fun i hi=>absurd hi (Nat.not_lt_zero _)⟩
 | x::l,r,h=>by
  simp only [List.mapM_cons,Option.bind_eq_bind,Option.bind_eq_some_iff] at h
  obtain ⟨y,hy,ys,hys,e⟩:=h
  cases e
  obtain ⟨h1,h2⟩:=mapM_at hys
  refine ⟨by simp [h1],fun i hi=>?_⟩
  cases i with
  | zero=>simpa using hy
  | succ i=>simpa using h2 i (by simpa using hi)
theorem vP {w:World} {base n:Nat} {a:Addr} {cs:List Value} (h:w.cells? base a n=some cs):cs.length=n∧∀ j,j < n→w.cell? (a.add j)=cs[j]? := by
 unfold World.cells? at h
 split at h
 ·obtain ⟨h1,h2⟩:=mapM_at h
  rw [List.length_range] at h1
  refine ⟨h1,fun j hj=>?_⟩
  have:=h2 j (by simpa using hj)
  rwa [List.getD_eq_getElem?_getD,List.getElem?_range hj] at this
 ·cases h
theorem vQ {w:World} {a:Addr} {v:Value} (h:w.cell? a=some v):a.spot=none:=by
 unfold World.cell? at h
 split at h
 ·split at h
  ·cases h
  ·rename_i e;simpa using e
 ·cases h
theorem oh {a:Addr} (h:a.spot=none) (n:Nat):a.add n=⟨a.block,a.off+n,none⟩:=by
 unfold Addr.add
 split
 ·rename_i e;subst e;cases a;simp_all
 ·rfl
theorem A1 {e:TypeId} (ht:P.underlying t=some (.slice e)) (hc:P.cellsOf t=1) (hp:0 < P.cellsOf e) (hE:Rd P e A V):Rd P t (fun l:List α=>.list (P.cellsOf e) (l.map A)) (fun l=>l.length * P.bytesOf e≤reachBytes∧∀ a ∈ l,V a) :=
 ⟨fun _=>hc.symm,fun {H enc w ng base fuel spare held cs x} h hw=>by
  rcases DataW.trod_slice ht h with ⟨rfl,rfl⟩|⟨a,len,cap,elems,rest,n,_,rfl,rfl,hb,hl,hm,hlen,hel,_,_⟩
  ·exact ⟨[],⟨by simp,fun _ h=>by cases h⟩,hc.symm,s9 rfl (.listNil _) rfl⟩
  simp only [DataW.weights,ht,List.mem_cons,List.mem_append] at hw
  have hwt:=hw _ (.inl rfl)
  simp only [List.length_map] at hwt
  have key:∀ i,i < len→∃ (y:α × (Nat→Value)),V y.1∧∀ j,j < P.cellsOf e→w.cell? ((a.add (i * P.cellsOf e)).add j)=some (y.2 j)∧(y.2 j).oneCell' = true∧VR (cn ng w) ((A y.1).cells.getD j .undef) (y.2 j):=by
   intro i hi
   have h1:=hel i hi
   rw [List.getElem?_eq_getElem (by omega)] at h1
   simp only [Option.bind_eq_some_iff] at h1
   obtain ⟨cs',h2,h3⟩:=h1
   obtain ⟨h4,h5⟩:=vP h2
   obtain ⟨y,k1,k2,k3⟩:=hE.rd (ng:=ng) h3 fun m hm=>hw m (.inr (.inl (iq (List.mem_map.2 ⟨_,List.getElem_mem (by omega:i < elems.length),rfl⟩) hm)))
   refine ⟨(y,fun j=>cs'.getD j undef),k1,fun j hj=>⟨?_,k3 j (by omega)⟩⟩
   show _=some (cs'.getD j undef)
   rw [h5 j hj,List.getD_eq_getElem?_getD,List.getElem?_eq_getElem (by omega)];rfl
  obtain ⟨l,hl1,hl2⟩:=kZ len key
  have hsp:0 < len→a.spot=none:=fun h0=>by
   obtain ⟨y,_,_,h2⟩:=hl2 0 h0
   have h3:=vQ (h2 0 hp).1
   simpa [Addr.add] using h3
  refine ⟨l.map (·.1),⟨?_,fun b hb=>?_⟩,hc.symm,s9 rfl ?_ rfl⟩
  ·rw [List.length_map,hl1]
   exact Nat.le_trans (Nat.mul_le_mul_right _ (by omega)) hwt
  ·obtain ⟨y,hy,rfl⟩:=List.mem_map.1 hb
   obtain ⟨i,hi,e1⟩:=List.getElem_of_mem hy
   obtain ⟨z,hz,h1,_⟩:=hl2 i (by omega)
   rw [List.getElem?_eq_getElem hi,e1] at hz
   cases hz;exact h1
  ·by_cases h0:len=0
   ·subst h0
    obtain rfl:=List.eq_nil_of_length_eq_zero hl1
    exact .listAny _ _ _
   have hs:=hsp (by omega)
   have e1:((l.map (·.1)).map A).length=len:=by simp [hl1]
   have hat:∀ i,i < len→∃ y:α × (Nat→Value),((l.map (·.1)).map A).getD i .undef=A y.1∧(l.getD i (y.1,fun _=>undef)).2=y.2∧(∀ j,j < P.cellsOf e→w.cell? ((a.add (i * P.cellsOf e)).add j)=some (y.2 j)∧(y.2 j).oneCell' = true∧VR (cn ng w) ((A y.1).cells.getD j .undef) (y.2 j)):=by
    intro i hi
    obtain ⟨y,hy,_,h2⟩:=hl2 i hi
    refine ⟨y,?_,?_,h2⟩
    ·simp [List.getD_eq_getElem?_getD,hy]
    ·simp [List.getD_eq_getElem?_getD,hy]
   have:=VR.list (g:=cn ng w) (P.cellsOf e) ((l.map (·.1)).map A) a.block a.off cap (fun i j=>(match l[i]? with|some y=>y.2|none=>fun _=>undef) j) (by omega)
    (fun i hi=>by
     obtain ⟨y,h1,_⟩:=hat i (by omega)
     rw [h1];exact hE.len _)
    (fun i j hi hj=>by
     obtain ⟨y,hy,_,h2⟩:=hl2 i (by omega)
     simp only [hy]
     obtain ⟨h3,h4,_⟩:=h2 j hj
     rw [oh hs,oh rfl] at h3
     exact iG h3 h4)
    (fun i j hi hj=>by
     obtain ⟨y,hy,_,h2⟩:=hl2 i (by omega)
     simp only [hy,List.getD_eq_getElem?_getD,List.getElem?_map,Option.map_some,Option.getD_some]
     have h5:=(h2 j hj).2.2
     rwa [List.getD_eq_getElem?_getD] at h5)
   rw [e1] at this
   have ea:a=⟨a.block,a.off,none⟩:=by cases a;simp_all
   rw [ea];exact this⟩
end
structure RdF (P:Program) (fs:List Field) (off tot:Nat) {β:Type} (B:β→List AV) (W:β→Prop):Prop where
 len:∀ b,(B b).length=tot
 rd:∀ {H:Type} {enc:TypeId × Value→H} {w:World} {ng base fuel:Nat} {spare:Nat→Bool} {held:Bool} {cs:List Value} {xs:List (DataW H × List MemPlace)},xs.length=fs.length →
  (∀ (i:Nat) (f:Field),fs[i]? = some f→DataW.trod enc P w base spare held fuel f.type ((cs.drop f.offset).take (P.cellsOf f.type))=xs[i]?)→(∀ n ∈ DataW.weightsEach P (fs.map (·.type)) (xs.map (·.1)),n≤reachBytes)→cs.length=off+tot →
  ∃ b:β,W b∧∀ j,j < tot→(cs.getD (off+j) undef).oneCell' = true∧VR (cn ng w) ((B b).getD j .undef) (cs.getD (off+j) undef)
section
variable {P:Program} [Laid P] {t:TypeId} {α β:Type} {A:α→AV} {V:α→Prop}
theorem Rd.uD (h:Rd P t A V) (hc:P.cellsOf t=1) {H:Type} {enc:TypeId × Value→H} {w:World} {ng base:Nat} {spare:Nat→Bool} {held:Bool} {v:Value} {d:DataW H} {ps:List MemPlace} (hone:v.oneCell' = true)
  (hA:∀ a,V a→(A a).cells=[A a]) (hd:DataW.Trod enc P w base spare held t v d ps) (hw:∀ n ∈ d.weights P t,n≤reachBytes):∃ a,V a∧VR (cn ng w) (A a) v:=by
 obtain ⟨fuel,hd⟩:=hd
 obtain ⟨a,k1,k2,k3⟩:=h.rd (ng:=ng) hd hw
 refine ⟨a,k1,?_⟩
 have e:v.cells.toList=[v]:=by cases v<;>first|rfl|(simp [Value.oneCell'] at hone)
 rw [e] at k3
 have:=(k3 0 (by simp)).2
 rwa [hA a k1] at this
theorem iZ {H:Type} {enc:TypeId × Value→H} {w w':World} {base:Nat} {spare':Nat→Bool} (hl:laidOutB P=true) (hz:∀ t e,t < P.types.size→P.underlying t=some (.slice e)→0 < P.cellsOf e) :
  ∀ {ts:List TypeId} {vs:List Value} {ds:List (DataW H)} {ps:List MemPlace},(∀ t ∈ ts,P.readableRec t=true∧t < P.types.size)→DataW.TrodAll enc P w base (fun _=>true) true ts vs ds ps→(∀ p ∈ ps,w.sameAt w' p)→(∀ p ∈ ps,spare' p.block=true) →
   DataW.TrodAll enc P w' base spare' true ts vs ds ps
 | [],[],[],_,_,h,_,_=>h
 | t::ts,v::vs,d::ds,ps,hr,⟨p,q,h1,h2,e⟩,hs,hsp=>by
  have ht:=hr t List.mem_cons_self
  refine ⟨p,q,?_,iZ hl hz (fun t ht=>hr t (List.mem_cons_of_mem _ ht)) h2 (fun x hx=>hs x (by rw [e];exact List.mem_append_right _ hx)) (fun x hx=>hsp x (by rw [e];exact List.mem_append_right _ hx)),e⟩
  have h3:DataW.Trod enc P w base spare' true t v d p:=h1.respare (kids_book hl ht.1) (fun u e' hu=>hz u e' hu.1) ⟨ht.2,book_self t⟩ fun x hx=>hsp x (by rw [e];exact List.mem_append_left _ hx)
  obtain ⟨n,hn⟩:=h3
  exact ⟨n,DataW.trod_carry n _ _ _ hn fun x hx=>hs x (by rw [e];exact List.mem_append_left _ hx)⟩
theorem A2 {H:Type} {enc:TypeId × Value→H} {f:FuncId} {fn:Func} {s:ChangeSpec} {tb:TypeId} (hl:laidOutB P=true) (hz:∀ t e,t < P.types.size→P.underlying t=some (.slice e)→0 < P.cellsOf e) (hr:∀ t ∈ fn.params.toList,P.readableRec t=true∧t < P.types.size)
  (hrt:fn.resultTypes=#[tb]) (htb:P.underlying tb=some .bool) (hv:s.vars=[]) {W:World} {args:Array Value} {ds gs:List (DataW H)} {before:List MemPlace} (hW:DataW.Whole enc P fn.params.toList s.vars false W args.toList ds gs before)
  (hfn:s.fn H ds={ results:=[.lit (.bool true)],args:=ds }) {avs:List AV} (ha:VRs (cn P.globals.size W) avs args) (hcall:aA P f avs (Oid.under (.root P.globals.size)) ⟨[],.bool true,[]⟩) (hLaid:Laid.facts P (cn P.globals.size W)) :
  Calls P f args W fun e W'=>∃ v,e = .returned v∧s.post enc P fn false true false false W args v W':=by
 refine (hcall.calls ⟨P.globals.size,cn P.globals.size W,W,fun _=>False,.root P.globals.size,none⟩ _ args W Mem.emp (s8 _ _) (fun q hq=>by cases hq) ha (fun i hi=>⟨?_,hi⟩) ⟨Nat.le_refl _,hLaid⟩).mono ?_
 ·cases i with
  | root k =>
   simp only [Oid.under,Oid.root.injEq] at hi
   subst hi
   simp [cn]
  | sub=>rfl
  | ty=>rfl
 rintro en W' ⟨g',v,rfl,hle,hloc,hvr,hm⟩
 obtain rfl:=hvr.bQ
 refine ⟨_,rfl,?_⟩
 have hW0:=hW
 obtain ⟨p,q,hA,hV,rfl,hfz,hnd⟩:=hW
 rw [hv] at hV
 obtain ⟨rfl,rfl⟩:=trodVars_none hV
 rw [List.append_nil] at hW0 hfz
 have hsame:∀ p' ∈ p,W.sameAt W' p':=fun p' hp'=>by
  have hlt:=hW0.lt p' hp'
  have hh:=hm.kept p'.block hlt (fun h=>h)
  cases p' with
  | cell b o=>simp only [World.sameAt,World.cell?];simp only [MemPlace.block] at hh;rw [hh]
  | map b=>exact hh
 have hargs:∀ sp:Nat→Bool,(∀ p' ∈ p,sp p'.block=true)→DataW.TrodAll enc P W' 0 sp true fn.params.toList args.toList ds p:=fun sp hsp=>iZ hl hz hr hA hsame hsp
 have hres:∀ (b:Nat) (sp:Nat→Bool) (hd:Bool),DataW.TrodAll enc P W' b sp hd fn.resultTypes.toList ((Value.bool true).resultList fn.resultTypes.size) [.lit (.bool true)] []:=by
  intro b sp hd
  rw [hrt]
  exact ⟨[],[],RowKit.shut_bool htb _,rfl,rfl⟩
 have hold:∀ p' ∈ p,(fun b=>decide (b < W.heap.size)) p'.block=true:=fun p' hp'=>by simpa using hW0.lt p' hp'
 refine ⟨ds,[],p,[],p,[],hW0,by rw [List.append_nil,hfn];exact hres _ _ _,by rw [List.append_nil,hfn];exact hargs _ hold,by rw [hv,List.append_nil,hfn];exact rfl,?_,fun h=>by cases h⟩
 exact World.keptBut_mono (fun p' hp'=>hp'.elim) (may:=fun _=>False) ⟨hm.os,hm.output.1,fun i hi=>by
  have hk:W'.heap[i]? = W.heap[i]? := hm.kept i hi (fun h=>h)
  rw [hk]
  exact (World.keptBut_refl W (fun _=>False)).2.2 i hi⟩
structure RdA (P:Program) (ts:List TypeId) {β:Type} (B:β→List AV) (W:β→Prop):Prop where
 rd:∀ {H:Type} {enc:TypeId × Value→H} {w:World} {ng base b0:Nat} {r:Reach} {vs:List Value} {ds:List (DataW H)} {ps:List MemPlace},(∀ (j:Nat) t v,ts[j]? = some t→vs[j]? = some v→Value.okWide P w r base t v) →
  DataW.TrodAll enc P w b0 (fun _=>true) true ts vs ds ps→(∀ n ∈ DataW.weightsEach P ts ds,n≤reachBytes)→∃ b,W b∧vs.length=(B b).length∧∀ j,j < vs.length→VR (cn ng w) ((B b).getD j .undef) (vs.getD j undef)
theorem okWide_slice {w:World} {r:Reach} {base:Nat} {e:TypeId} {v:Value} (ht:P.underlying t=some (.slice e)) (h:Value.okWide P w r base t v):v.oneCell' = true:=by
 simp only [Value.okWide,ht,Cell.okWide,Cell.ok] at h
 cases v<;>first|rfl|exact h.elim
theorem ta {w:World} {r:Reach} {base:Nat} {v:Value} (ht:P.underlying t=some .string) (h:Value.okWide P w r base t v):v.oneCell' = true:=by
 simp only [Value.okWide,ht,Cell.okWide,Cell.ok] at h
 cases v<;>first|rfl|exact h.elim
theorem rdA_nil:RdA P [] (fun _:Unit=>[]) (fun _=>True):=⟨fun {H enc w ng base b0 r vs ds ps} _ h _=>by
 obtain ⟨rfl,rfl,rfl⟩:=trodAll_nil h
 exact ⟨(),trivial,rfl,fun j hj=>absurd hj (Nat.not_lt_zero _)⟩⟩
theorem rz {ts:List TypeId} {B:β→List AV} {W:β→Prop} (k:∀ {H:Type} {enc:TypeId × Value→H} {w:World} {ng base b0:Nat} {r:Reach} {v:Value} {d:DataW H} {ps:List MemPlace},Value.okWide P w r base t v →
  DataW.Trod enc P w b0 (fun _=>true) true t v d ps→(∀ n ∈ d.weights P t,n≤reachBytes)→∃ a,V a∧VR (cn ng w) (A a) v) (hB:RdA P ts B W):RdA P (t::ts) (fun p:α × β=>A p.1::B p.2) (fun p=>V p.1∧W p.2) :=
 ⟨fun {H enc w ng base b0 r vs ds ps} hok h hw=>by
  obtain ⟨v,vs',d,ds',p,q,rfl,rfl,rfl,h1,h2⟩:=trodAll_cons h
  simp only [DataW.weightsEach,List.mem_append] at hw
  obtain ⟨a,k1,k2⟩:=k (ng:=ng) (hok 0 t v rfl rfl) h1 fun n hn=>hw n (.inl hn)
  obtain ⟨b,k3,k4,k5⟩:=hB.rd (ng:=ng) (fun j t v ht hv=>hok (j+1) t v ht hv) h2 fun n hn=>hw n (.inr hn)
  refine ⟨(a,b),⟨k1,k3⟩,by simp [k4],fun j hj=>?_⟩
  cases j with
  | zero=>exact k2
  | succ j=>simpa using k5 j (by simpa using hj)⟩
theorem rdA_slice {ts:List TypeId} {B:β→List AV} {W:β→Prop} {e:TypeId} (ht:P.underlying t=some (.slice e)) (hc:P.cellsOf t=1) (hA1:∀ a,(A a).cells=[A a]) (hA:Rd P t A V) (hB:RdA P ts B W):RdA P (t::ts) (fun p:α × β=>A p.1::B p.2) (fun p=>V p.1∧W p.2) :=
 rz (fun hok hd hw=>hA.uD hc (okWide_slice ht hok) (fun a _=>hA1 a) hd hw) hB
theorem rdA_str {ts:List TypeId} {B:β→List AV} {W:β→Prop} (ht:P.underlying t=some .string) (hc:P.cellsOf t=1) (hA1:∀ a,(A a).cells=[A a]) (hA:Rd P t A V) (hB:RdA P ts B W):RdA P (t::ts) (fun p:α × β=>A p.1::B p.2) (fun p=>V p.1∧W p.2) :=
 rz (fun hok hd hw=>hA.uD hc (ta ht hok) (fun a _=>hA1 a) hd hw) hB
theorem ir {H:Type} {enc:TypeId × Value→H} {w:World} {base:Nat} {sp:Nat→Bool} {held:Bool}:∀ {ts:List TypeId} {vs:List Value} {ds:List (DataW H)} {ps:List MemPlace},DataW.TrodAll enc P w base sp held ts vs ds ps→ds.length=ts.length
 | [],[],[],_,_=>rfl
 | _::_,_::_,_::_,_,⟨_,_,_,h,_⟩=>by simp [ir h]
end
end Go.Ab
namespace Go.Ab
attribute [go_sem] Nat.reduceEqDiff Nat.reduceAdd Nat.reduceMul Nat.reduceLT Nat.reduceLeDiff reduceCtorEq Nat.reduceBEq Int.reduceToNat Int.reduceNeg
attribute [go_sem ↓] reduceIte
theorem zb1 {p:Prop} [Decidable p]:(decide p=true)=p:=decide_eq_true_eq
theorem zb2 {p:Prop} [Decidable p]:(decide p=false)=¬ p:=propext decide_eq_false_iff_not
theorem zb3 (b:Bool):((!b)=true)=(b=false):=Bool.not_eq_true' b
theorem zb4 (b:Bool):((!b)=false)=(b=true):=Bool.not_eq_false' b
theorem zb5 (a b:Bool):((a && b)=true)=(a=true∧b=true):=Bool.and_eq_true a b
inductive Ps where
 | at (c:Code)
 | nrm
 | ex (i:Nat)
@[irreducible] def A3 (P:Prop):Prop:=P
theorem zl {p:Prop} (h:p):A3 p:=by unfold A3;exact h
theorem D2 {p:Prop} (h:A3 p):p:=by unfold A3 at h;exact h
inductive Stp (P:Program) (x:Ctx) (n:Nat) (Q:AX→AS→Prop):Bool→Bool→Ps→List Pc→AS→Prop
 | seq {u v} {a b:Code} {ks s}:Stp P x n Q u true (.at a) (.code b::ks) s→Stp P x n Q u v (.at (.seq a b)) ks s
 | skip {u v ks s}:Stp P x n Q u true .nrm ks s→Stp P x n Q u v (.at .skip) ks s
 | block {v i a ks s}:Stp P x n Q true true (.at a) (.bend i::ks) s→Stp P x n Q true v (.at (.block i a)) ks s
 | exit {u v i ks s}:Stp P x n Q u true (.ex i) ks s→Stp P x n Q u v (.at (.exit i)) ks s
 | next {u v a ks s}:Stp P x n Q u true (.at a) ks s→Stp P x n Q u v .nrm (.code a::ks) s
 | bend {u v i ks s}:Stp P x n Q u true .nrm ks s→Stp P x n Q u v .nrm (.bend i::ks) s
 | lend {u v ts I k ks fr m c ds}:A3 (∃ k' m',k' < k∧(∀ i o,m' i=some o→m i=some o)∧I k' ⟨bW ts fr,m',c,ds⟩)→Stp P x n Q u v .nrm (.lend ts I k::ks) ⟨fr,m,c,ds⟩
 | xcode {u v a i ks s}:Stp P x n Q u true (.ex i) ks s→Stp P x n Q u v (.ex i) (.code a::ks) s
 | xlend {u v ts I k i ks s}:Stp P x n Q u true (.ex i) ks s→Stp P x n Q u v (.ex i) (.lend ts I k::ks) s
 | xhere {u v i ks s}:Stp P x n Q u true .nrm ks s→Stp P x n Q u v (.ex i) (.bend i::ks) s
 | xon {u v i j ks s}:Nat.beq i j=false→Stp P x n Q u true (.ex i) ks s→Stp P x n Q u v (.ex i) (.bend j::ks) s
 | ofT {u c ks s}:T P x n c s (after P x n Q ks)→Stp P x n Q u true (.at c) ks s
 | ofN {u ks s}:after P x n Q ks .normal s→Stp P x n Q u true .nrm ks s
 | ofX {u i ks s}:after P x n Q ks (.exit i) s→Stp P x n Q u true (.ex i) ks s
def ag9 (P:Program) (x:Ctx) (n:Nat) (Q:AX→AS→Prop):Ps→List Pc→AS→Prop
 | .at c,ks,s=>T P x n c s (after P x n Q ks)
 | .nrm,ks,s=>after P x n Q ks .normal s
 | .ex i,ks,s=>after P x n Q ks (.exit i) s
theorem Stp.ok {P:Program} [Laid P] {x:Ctx} {n:Nat} {Q:AX→AS→Prop} {p:Ps} {ks:List Pc} {s:AS} {u v:Bool} (h:Stp P x n Q u v p ks s):ag9 P x n Q p ks s:=by
 induction h with
 | seq _ ih=>exact mh ih
 | skip _ ih=>exact Yj ih
 | block _ ih=>exact jV ih
 | exit _ ih=>exact Yk ih
 | next _ ih=>exact ih
 | bend _ ih=>exact ih
 | lend h=>exact D2 h
 | xcode _ ih=>exact ih
 | xlend _ ih=>exact ih
 | xhere _ ih=>exact Yi ih
 | xon hb _ ih=>exact ag7 hb ih
 | ofT h=>exact h
 | ofN h=>exact h
 | ofX h=>exact h
section
variable {P:Program} [Laid P] {x:Ctx} {n:Nat} {Q:AX→AS→Prop} {ks:List Pc} {s:AS}
theorem zk {c:Code} (h:Stp P x n Q true false (.at c) ks s):T P x n c s (after P x n Q ks):=h.ok
theorem zn (h:Stp P x n Q true false .nrm ks s):after P x n Q ks .normal s:=h.ok
theorem ze {i:Nat} (h:Stp P x n Q true false (.ex i) ks s):after P x n Q ks (.exit i) s:=h.ok
theorem zu {c:Code} (h:Stp P x n Q false false (.at c) ks s):T P x n c s (after P x n Q ks):=h.ok
theorem zv (h:Stp P x n Q false false .nrm ks s):after P x n Q ks .normal s:=h.ok
theorem zw {i:Nat} (h:Stp P x n Q false false (.ex i) ks s):after P x n Q ks (.exit i) s:=h.ok
end
end Go.Ab
namespace Go.Ab
structure kp (q:Prop):Prop where
 out:q
theorem ai {a b:Prop} (h:a) (k:b):a∧b:=⟨h,k⟩
structure CC (a b:Prop):Prop where
 a:a
 b:b
theorem cq {a b:Prop} (h:a) (k:b):CC a b:=⟨h,k⟩
structure HD (U gl:List (Nat × Nat)) (ts:List Nat):Prop where
theorem HD.o:HD [] [] []:=⟨⟩
theorem HD.d (U gl:List (Nat × Nat)) (ts:List Nat):HD U gl ts:=⟨⟩
theorem uu {p q:Oid} (h:¬ Oid.under p q):(∀ c i,(q=Oid.sub c i p)=False)∧∀ c i,(Oid.sub c i p=q)=False:=⟨Oid.aa h,Oid.ab h⟩
section
variable {P:Program} [Laid P] {x:Ctx} {n:Nat} {Q:AX→AS→Prop} {ks:List Pc} {s:AS} {fr:List (Nat × AV)} {m:Mem} {c:Nat} {ds:List AD} {id:Nat} {ops:Array Oper}
theorem A4 {U gl:List (Nat × Nat)} {ts:List Nat} (_:HD U gl ts) (hmx:P.follows .mixedOrders=true) (hng:Fit P x) (hok:(Ai n P.globals.size ops U && nA ops gl)=true):type_of% (bE (P:=P) (x:=x) (n:=n) (Q:=Q) (ks:=ks) (fr:=fr) (m:=m) (c:=c) (ds:=ds) (id:=id) (ops:=ops) nmd gl U hmx hng hok ts):=bE nmd gl U hmx hng hok ts
theorem XN {U gl:List (Nat × Nat)} {ts:List Nat} (_:HD U gl ts) (hng:Fit P x) (hok:(XJ n P.globals.size ops && nA ops gl)=true):type_of% (af (P:=P) (x:=x) (n:=n) (Q:=Q) (ks:=ks) (fr:=fr) (m:=m) (c:=c) (ds:=ds) (id:=id) (ops:=ops) nmd gl hng hok):=af nmd gl hng hok
end
theorem qs {p e:Prop} (e1:e) (h:e→p:=by intro e;simp (disch:=first|omega|assumption) only [go_sem,eq_self,decide_true,decide_false,ne_eq,not_true_eq_false,not_false_eq_true,e];first|done|fail):p:=h e1
theorem qs0 {p:Prop} (h:p:=by simp (disch:=first|omega|assumption) only [go_sem,eq_self,decide_true,decide_false,ne_eq,not_true_eq_false,not_false_eq_true];first|done|fail):p:=h
theorem qt {p q e:Prop} (e1:e) (k:q) (h:e→kp q→p:=by intro e k;simp (disch:=first|omega|assumption) only [go_sem,eq_self,decide_true,decide_false,ne_eq,not_true_eq_false,not_false_eq_true,e];exact k.out):p:=h e1 ⟨k⟩
theorem qt0 {p q:Prop} (k:q) (h:kp q→p:=by intro k;simp (disch:=first|omega|assumption) only [go_sem,eq_self,decide_true,decide_false,ne_eq,not_true_eq_false,not_false_eq_true];exact k.out):p:=h ⟨k⟩
theorem qv {p q:Prop} (k:q) (h:kp q→p:=by intro k;(first|refine zn ?_|refine ze ?_|refine zk ?_);with_reducible (constructor;repeat constructor);(try refine zl ?_);exact k.out):p:=h ⟨k⟩
theorem qn {p e:Prop} (e1:e) (h:e→p:=by intro e;first|(intro _ h;cases h;done)|exact qs e|exact nbu _|(refine nbA ?_ _;simp [hpN,hO.mem];done)|(simp only [List.mem_cons,forall_eq_or_imp];refine ⟨qs e,?_⟩;first|exact nbu _|(refine nbA ?_ _;simp [hpN,hO.mem];done))):p:=h e1
theorem qm {p c:Prop} (c1:c) (h:c→p:=by intro c;first|exact c|exact c (aH rfl hp)|exact c _ (aH rfl hp) (fun h=>hpp (Oid.ay h)) (hO.sub _ _)|exact c _ (aH rfl hp) (hO.sub _ _)):p:=h c1
theorem qr {p q e c:Prop} {U gl:List (Nat × Nat)} {ts:List Nat} (g:HD U gl ts) (e1:e) (c1:c) (k:q) (h:HD U gl ts→e→c→kp q→p:=by
  intro g e c k;(try refine qv ?_)
  refine XN g hng (by kernel_rfl) fun hf C S K hC1 hC hS hK=>?_;refine qt e ?_
  repeat (obtain ⟨c1,c⟩:CC _ _:=c;refine hC1 _ (qm c1) (qn e) ?_;refine qt e ?_)
  refine hK ?_;clear hK hS hC hC1 K S C hf;(try refine qv ?_)
  exact k.out):p:=h g e1 c1 ⟨k⟩
theorem qd {p q e c:Prop} {U gl:List (Nat × Nat)} {ts:List Nat} (g:HD U gl ts) (e1:e) (c1:c) (k:q) (h:HD U gl ts→e→c→kp q→p:=by
  intro g e c k;(try refine qv ?_)
  refine A4 g mixed hng (by kernel_rfl) fun hf C S K hC hS hK=>?_;refine qt e ?_
  repeat (obtain ⟨c1,c⟩:CC _ _:=c;refine hC _ (qm c1) (qn e) ?_;refine qt e ?_)
  (first|refine hK (aM rfl) ?_|refine hK (by simp (disch:=first|omega|assumption) only [go_sem,List.reverse_cons,List.reverse_nil,ne_eq,not_false_eq_true,implies_true]) ?_);clear hK hS hC K S C hf;(try refine qv ?_)
  exact k.out):p:=h g e1 c1 ⟨k⟩
theorem qw {p q e:Prop} (e1:e) (k:q) (h:e→kp q→p:=by
  intro e k
  repeat (first|refine ah rfl rfl ?_|refine aj rfl rfl ?_|(refine af nmd [] hng (by kernel_rfl) fun hf C S K hC1 hC hS hK=>?_;refine qt e ?_;refine hK ?_;clear hK hS hC hC1 K S C hf)|refine qv ?_)
  exact k.out):p:=h e1 ⟨k⟩
theorem qw0 {p q:Prop} (k:q) (h:kp q→p:=by
  intro k
  repeat (first|refine ah rfl rfl ?_|refine aj rfl rfl ?_|(refine af nmd [] hng (by kernel_rfl) fun hf C S K hC1 hC hS hK=>?_;refine qt0 ?_;refine hK ?_;clear hK hS hC hC1 K S C hf)|refine qv ?_)
  exact k.out):p:=h ⟨k⟩
theorem qr0 {p q:Prop} (k:q) (h:kp q→p:=by intro k;refine qr .o trivial trivial ?_;exact k.out):p:=h ⟨k⟩
theorem qr1 {p q c:Prop} (c1:c) (k:q) (h:c→kp q→p:=by intro c k;refine qr .o trivial (cq c trivial) ?_;exact k.out):p:=h c1 ⟨k⟩
end Go.Ab
namespace Go.Ab
open Go.RowKit
theorem cV {p q:Oid} (h:Oid.under p q) (hq:q.mono=false):p.mono=false:=by
 cases hp:p.mono with
 | false=>rfl
 | true=>rw [Oid.lM h hp] at hq;cases hq
theorem aD.below {x:Ctx} {g:Gh} {m:Mem} {w w':World} (h:aD x g m w) (hb:Below w.heap.size w w') (hp:x.p.mono=false):aD x g m w' where
 le:=h.le
 locs:=h.locs
 glob:=h.glob
 coms:=h.coms
 obj0 i o hi:=(h.obj0 i o hi).imp id fun ⟨b,h1,h2,h3,h4⟩=>⟨b,h1,h2,h3,cf.block (hb.block b h4.lt) h4⟩
 inj:=h.inj
 com b o v hv:=by
  have h1:=h.com b o v hv
  have hlt:b < w.heap.size:=by
   rcases Nat.lt_or_ge b w.heap.size with h2|h2
   ·exact h2
   ·simp [World.cell?,Array.getElem?_eq_none h2] at h1
  simp only [World.cell?] at h1 ⊢
  rw [hb.block b hlt];exact h1
 one:=h.one
 rows b r hr:=by
  obtain ⟨c,t,fz,h1,h2⟩:=h.rows b r hr
  exact ⟨c,t,fz,by rw [hb.block b (Array.getElem?_eq_some_iff.1 h1).1];exact h1,h2⟩
 os:=hb.os.trans h.os
 tape:=hb.tape.trans h.tape
 output:=⟨hb.output.trans h.output.1,fun hm=>by rw [hp] at hm;cases hm⟩
 size:=Nat.le_trans h.size hb.size
 kept b hlt hm:=(hb.block b (Nat.lt_of_lt_of_le hlt h.size)).trans (h.kept b hlt hm)
 typs t q b hl:=(h.typs t q b hl).imp fun c ⟨fz,h1⟩=>⟨fz,by rw [hb.block b (Array.getElem?_eq_some_iff.1 h1).1];exact h1⟩
structure mA (P:Program) [Laid P] (g:Gh) (w:World):Prop where
 com:∀ b o v,g.com b o=some v→w.cell? ⟨b,o,none⟩=some v
 rows:∀ b r,g.row b=some r→∃ c t fz,w.heap[b]? = some (.cells c t fz)∧c.size=r
 glob:∀ k,k < P.globals.size→g.loc (.root k)=some (some k)
 facts:Laid.facts P g
theorem aD.told {P:Program} [Laid P] {x:Ctx} {g:Gh} {m:Mem} {w:World} (h:aD x g m w) (hx:Fit P x):mA P g w :=
 ⟨h.com,h.rows,fun k hk=>h.glob k (Nat.lt_of_lt_of_le hk hx.1),Laid.mono h.le hx.2⟩
theorem gC {P:Program} [Laid P] {f:FuncId} {xs:List AV} {p:Oid} {val:AV} (he:cM P f=true) (hp:p.mono=false)
  (h:∀ (g:Gh) (args:Array Value) (w:World),VRs g xs args→mA P g w→Calls P f args w fun en w'=>∃ v,en = .returned v∧VR g val v∧Below w.heap.size w w'):aA P f xs (Oid.under p) ⟨[],val,[]⟩ :=
 ⟨he,fun x g args w m hm _ ha hs hx=>(h g args w ha (hm.told hx)).mono fun _ _ ⟨v,h1,h2,h3⟩=>⟨g,v,h1,Gh.le_refl g,fun _ _=>rfl,h2,hm.below h3 (cV (hs p (Oid.az p)).2 hp)⟩⟩
theorem fC {P:Program} [Laid P] {f:FuncId} {xs:List AV} {sp:Oid→Prop} {val:AV} (he:cM P f=true)
  (h:∀ (g:Gh) (args:Array Value) (w:World),VRs g xs args→mA P g w→Calls P f args w fun en w'=>∃ v,en = .returned v∧VR g val v∧w' = w):aA P f xs sp ⟨[],val,[]⟩ :=
 ⟨he,fun x g args w m hm _ ha hs hx=>(h g args w ha (hm.told hx)).mono fun _ _ ⟨v,h1,h2,h3⟩=>⟨g,v,h1,Gh.le_refl g,fun _ _=>rfl,h2,by rw [h3];exact hm⟩⟩
theorem VRs.one {g:Gh} {x:AV} {args:Array Value} (h:VRs g [x] args):∃ v,args=#[v]∧VR g x v:=by
 obtain ⟨h1,h2⟩:=h
 refine ⟨args.getD 0 undef,?_,h2 0 (by simp)⟩
 apply Array.ext
 ·rw [h1];rfl
 ·intro i hi hj
  obtain rfl:i=0:=by simp at h1;omega
  simp [Array.getD_eq_getD_getElem?,Array.getElem?_eq_getElem hi]
theorem VRs.two {g:Gh} {x y:AV} {args:Array Value} (h:VRs g [x,y] args):∃ v u,args=#[v,u]∧VR g x v∧VR g y u:=by
 obtain ⟨h1,h2⟩:=h
 refine ⟨args.getD 0 undef,args.getD 1 undef,?_,h2 0 (by simp),h2 1 (by simp)⟩
 apply Array.ext
 ·rw [h1];rfl
 ·intro i hi hj
  have:i < 2:=by simpa using hj
  rcases i with _|_|i
  ·simp [Array.getD_eq_getD_getElem?,Array.getElem?_eq_getElem hi]
  ·simp [Array.getD_eq_getD_getElem?,Array.getElem?_eq_getElem hi]
  ·omega
end Go.Ab
namespace Go.Proofs.YtlfeacmbhldjcaaGreatDoor
open Go Go.Ab
theorem afH:tyk Tryz.prog 0=some TyK.other:=by kernel_rfl
theorem afI:shp Tryz.prog 0=some (false,1):=by kernel_rfl
theorem afJ:zer Tryz.prog 0=some [(AV.tuple [])]:=by kernel_rfl
theorem afK:al Tryz.prog 0=false:=by kernel_rfl
theorem afL:tyk Tryz.prog 1=some TyK.func:=by kernel_rfl
theorem afM:shp Tryz.prog 1=some (false,1):=by kernel_rfl
theorem afN:zer Tryz.prog 1=some [AV.nilFn]:=by kernel_rfl
theorem afO:al Tryz.prog 1=false:=by kernel_rfl
theorem afP:tyk Tryz.prog 2=some (TyK.int .i64):=by kernel_rfl
theorem afQ:shp Tryz.prog 2=some (false,1):=by kernel_rfl
theorem afR:zer Tryz.prog 2=some [(AV.int .i64 0)]:=by kernel_rfl
theorem afS:al Tryz.prog 2=false:=by kernel_rfl
theorem afT:aW Tryz.prog 10 2=some [(TyS.si .i64)]:=by kernel_rfl
theorem afU:Tryz.prog.eqGuardType Tryz.prog.depth 2=false:=by kernel_rfl
theorem afV:tyk Tryz.prog 3=some (TyK.int .i64):=by kernel_rfl
theorem afW:shp Tryz.prog 3=some (false,1):=by kernel_rfl
theorem afX:zer Tryz.prog 3=some [(AV.int .i64 0)]:=by kernel_rfl
theorem afY:al Tryz.prog 3=false:=by kernel_rfl
theorem afZ:aW Tryz.prog 10 3=some [(TyS.si .i64)]:=by kernel_rfl
theorem af0:Tryz.prog.eqGuardType Tryz.prog.depth 3=false:=by kernel_rfl
theorem af1:tyk Tryz.prog 4=some TyK.bool:=by kernel_rfl
theorem af2:shp Tryz.prog 4=some (false,1):=by kernel_rfl
theorem af3:zer Tryz.prog 4=some [(AV.bool false)]:=by kernel_rfl
theorem af4:al Tryz.prog 4=false:=by kernel_rfl
theorem af5:aW Tryz.prog 10 4=some [TyS.sb]:=by kernel_rfl
theorem af6:Tryz.prog.eqGuardType Tryz.prog.depth 4=false:=by kernel_rfl
theorem af7:tyk Tryz.prog 5=some (TyK.int .u8):=by kernel_rfl
theorem af8:shp Tryz.prog 5=some (false,1):=by kernel_rfl
theorem af9:zer Tryz.prog 5=some [(AV.int .u8 0)]:=by kernel_rfl
theorem aga:al Tryz.prog 5=false:=by kernel_rfl
theorem agb:aW Tryz.prog 10 5=some [(TyS.si .u8)]:=by kernel_rfl
theorem agc:Tryz.prog.eqGuardType Tryz.prog.depth 5=false:=by kernel_rfl
theorem agd:tyk Tryz.prog 6=some (TyK.int .u8):=by kernel_rfl
theorem age:shp Tryz.prog 6=some (false,1):=by kernel_rfl
theorem agf:zer Tryz.prog 6=some [(AV.int .u8 0)]:=by kernel_rfl
theorem agh:al Tryz.prog 6=false:=by kernel_rfl
theorem agi:aW Tryz.prog 10 6=some [(TyS.si .u8)]:=by kernel_rfl
theorem agj:Tryz.prog.eqGuardType Tryz.prog.depth 6=false:=by kernel_rfl
theorem agk:tyk Tryz.prog 7=some (TyK.struct [(0,(false,1)),(1,(false,1)),(2,(false,1)),(3,(false,1))]):=by kernel_rfl
theorem agl:shp Tryz.prog 7=some (true,4):=by kernel_rfl
theorem agm:zer Tryz.prog 7=some [(AV.int .i64 0),(AV.int .i64 0),(AV.bool false),(AV.int .u8 0)]:=by kernel_rfl
theorem agn:al Tryz.prog 7=false:=by kernel_rfl
theorem ago:aW Tryz.prog 10 7=some [(TyS.si .i64),(TyS.si .i64),TyS.sb,(TyS.si .u8)]:=by kernel_rfl
theorem agp:Tryz.prog.eqGuardType Tryz.prog.depth 7=false:=by kernel_rfl
theorem D3:aB Tryz.prog 7 0=some (0,false,1):=by kernel_rfl
theorem D4:aB Tryz.prog 7 1=some (1,false,1):=by kernel_rfl
theorem D5:aB Tryz.prog 7 2=some (2,false,1):=by kernel_rfl
theorem D6:aB Tryz.prog 7 3=some (3,false,1):=by kernel_rfl
theorem agq:tyk Tryz.prog 8=some (TyK.struct [(0,(false,1)),(1,(false,1)),(2,(false,1)),(3,(false,1))]):=by kernel_rfl
theorem agr:shp Tryz.prog 8=some (true,4):=by kernel_rfl
theorem agt:zer Tryz.prog 8=some [(AV.int .i64 0),(AV.int .i64 0),(AV.bool false),(AV.int .u8 0)]:=by kernel_rfl
theorem agu:al Tryz.prog 8=false:=by kernel_rfl
theorem agv:aW Tryz.prog 10 8=some [(TyS.si .i64),(TyS.si .i64),TyS.sb,(TyS.si .u8)]:=by kernel_rfl
theorem agw:Tryz.prog.eqGuardType Tryz.prog.depth 8=false:=by kernel_rfl
theorem D7:aB Tryz.prog 8 0=some (0,false,1):=by kernel_rfl
theorem D8:aB Tryz.prog 8 1=some (1,false,1):=by kernel_rfl
theorem D9:aB Tryz.prog 8 2=some (2,false,1):=by kernel_rfl
theorem Ea:aB Tryz.prog 8 3=some (3,false,1):=by kernel_rfl
theorem agx:tyk Tryz.prog 9=some TyK.str:=by kernel_rfl
theorem agy:shp Tryz.prog 9=some (false,1):=by kernel_rfl
theorem agz:zer Tryz.prog 9=some [(AV.str [])]:=by kernel_rfl
theorem agA:al Tryz.prog 9=false:=by kernel_rfl
theorem agB:aW Tryz.prog 10 9=some [TyS.ss]:=by kernel_rfl
theorem agC:Tryz.prog.eqGuardType Tryz.prog.depth 9=false:=by kernel_rfl
theorem Yu:tyk Tryz.prog 10=some TyK.str:=by kernel_rfl
theorem Yv:shp Tryz.prog 10=some (false,1):=by kernel_rfl
theorem Yw:zer Tryz.prog 10=some [(AV.str [])]:=by kernel_rfl
theorem Yx:al Tryz.prog 10=false:=by kernel_rfl
theorem Yy:aW Tryz.prog 10 10=some [TyS.ss]:=by kernel_rfl
theorem Yz:Tryz.prog.eqGuardType Tryz.prog.depth 10=false:=by kernel_rfl
theorem YA:tyk Tryz.prog 11=some TyK.str:=by kernel_rfl
theorem YB:shp Tryz.prog 11=some (false,1):=by kernel_rfl
theorem YC:zer Tryz.prog 11=some [(AV.str [])]:=by kernel_rfl
theorem YD:al Tryz.prog 11=false:=by kernel_rfl
theorem YE:aW Tryz.prog 10 11=some [TyS.ss]:=by kernel_rfl
theorem YF:Tryz.prog.eqGuardType Tryz.prog.depth 11=false:=by kernel_rfl
theorem YG:tyk Tryz.prog 12=some (TyK.int .u64):=by kernel_rfl
theorem YH:shp Tryz.prog 12=some (false,1):=by kernel_rfl
theorem YI:zer Tryz.prog 12=some [(AV.int .u64 0)]:=by kernel_rfl
theorem YJ:al Tryz.prog 12=false:=by kernel_rfl
theorem YK:aW Tryz.prog 10 12=some [(TyS.si .u64)]:=by kernel_rfl
theorem YL:Tryz.prog.eqGuardType Tryz.prog.depth 12=false:=by kernel_rfl
theorem YM:tyk Tryz.prog 13=some (TyK.struct [(0,(false,1)),(1,(false,1))]):=by kernel_rfl
theorem YN:shp Tryz.prog 13=some (true,2):=by kernel_rfl
theorem YO:zer Tryz.prog 13=some [(AV.str []),(AV.int .u64 0)]:=by kernel_rfl
theorem YP:al Tryz.prog 13=false:=by kernel_rfl
theorem A5:aB Tryz.prog 13 0=some (0,false,1):=by kernel_rfl
theorem A6:aB Tryz.prog 13 1=some (1,false,1):=by kernel_rfl
theorem YQ:tyk Tryz.prog 14=some (TyK.struct [(0,(false,1)),(1,(false,1))]):=by kernel_rfl
theorem YR:shp Tryz.prog 14=some (true,2):=by kernel_rfl
theorem YS:zer Tryz.prog 14=some [(AV.str []),(AV.int .u64 0)]:=by kernel_rfl
theorem YT:al Tryz.prog 14=false:=by kernel_rfl
theorem A7:aB Tryz.prog 14 0=some (0,false,1):=by kernel_rfl
theorem A8:aB Tryz.prog 14 1=some (1,false,1):=by kernel_rfl
theorem YU:tyk Tryz.prog 15=some (TyK.ptr 330):=by kernel_rfl
theorem YV:shp Tryz.prog 15=some (false,1):=by kernel_rfl
theorem YW:zer Tryz.prog 15=some [AV.nilPtr]:=by kernel_rfl
theorem YX:al Tryz.prog 15=false:=by kernel_rfl
theorem YY:tyk Tryz.prog 16=some (TyK.ptr 333):=by kernel_rfl
theorem YZ:shp Tryz.prog 16=some (false,1):=by kernel_rfl
theorem Y0:zer Tryz.prog 16=some [AV.nilPtr]:=by kernel_rfl
theorem Za:al Tryz.prog 16=false:=by kernel_rfl
theorem Zb:tyk Tryz.prog 17=some (TyK.ptr 341):=by kernel_rfl
theorem Zc:shp Tryz.prog 17=some (false,1):=by kernel_rfl
theorem Zd:zer Tryz.prog 17=some [AV.nilPtr]:=by kernel_rfl
theorem Ze:al Tryz.prog 17=false:=by kernel_rfl
theorem Zf:tyk Tryz.prog 18=some (TyK.struct [(0,(false,1))]):=by kernel_rfl
theorem Zg:shp Tryz.prog 18=some (true,1):=by kernel_rfl
theorem Zh:zer Tryz.prog 18=some [AV.nilPtr]:=by kernel_rfl
theorem Zi:al Tryz.prog 18=false:=by kernel_rfl
theorem A9:aB Tryz.prog 18 0=some (0,false,1):=by kernel_rfl
theorem Zj:tyk Tryz.prog 19=some (TyK.struct [(0,(false,1))]):=by kernel_rfl
theorem Zk:shp Tryz.prog 19=some (true,1):=by kernel_rfl
theorem Zl:zer Tryz.prog 19=some [AV.nilPtr]:=by kernel_rfl
theorem Zm:al Tryz.prog 19=false:=by kernel_rfl
theorem Ba:aB Tryz.prog 19 0=some (0,false,1):=by kernel_rfl
theorem Zn:tyk Tryz.prog 20=some (TyK.iface 0):=by kernel_rfl
theorem Zo:shp Tryz.prog 20=some (false,1):=by kernel_rfl
theorem Zp:zer Tryz.prog 20=some [AV.nilIface]:=by kernel_rfl
theorem Zq:al Tryz.prog 20=false:=by kernel_rfl
theorem Zr:tyk Tryz.prog 21=some (TyK.int .i32):=by kernel_rfl
theorem Zs:shp Tryz.prog 21=some (false,1):=by kernel_rfl
theorem Zt:zer Tryz.prog 21=some [(AV.int .i32 0)]:=by kernel_rfl
theorem Zu:al Tryz.prog 21=false:=by kernel_rfl
theorem Zv:aW Tryz.prog 10 21=some [(TyS.si .i32)]:=by kernel_rfl
theorem Zw:Tryz.prog.eqGuardType Tryz.prog.depth 21=false:=by kernel_rfl
theorem Zx:tyk Tryz.prog 22=some (TyK.slice 61 true 5 24):=by kernel_rfl
theorem Zy:shp Tryz.prog 22=some (false,1):=by kernel_rfl
theorem Zz:zer Tryz.prog 22=some [AV.nilSl]:=by kernel_rfl
theorem ZA:al Tryz.prog 22=false:=by kernel_rfl
theorem ZB:tyk Tryz.prog 23=some TyK.func:=by kernel_rfl
theorem ZC:shp Tryz.prog 23=some (false,1):=by kernel_rfl
theorem ZD:zer Tryz.prog 23=some [AV.nilFn]:=by kernel_rfl
theorem ZE:al Tryz.prog 23=false:=by kernel_rfl
theorem ZF:tyk Tryz.prog 24=some (TyK.ptr 34):=by kernel_rfl
theorem ZG:shp Tryz.prog 24=some (false,1):=by kernel_rfl
theorem ZH:zer Tryz.prog 24=some [AV.nilPtr]:=by kernel_rfl
theorem ZI:al Tryz.prog 24=false:=by kernel_rfl
theorem ZJ:tyk Tryz.prog 25=some TyK.func:=by kernel_rfl
theorem ZK:shp Tryz.prog 25=some (false,1):=by kernel_rfl
theorem ZL:zer Tryz.prog 25=some [AV.nilFn]:=by kernel_rfl
theorem ZM:al Tryz.prog 25=false:=by kernel_rfl
theorem ZN:tyk Tryz.prog 26=some TyK.func:=by kernel_rfl
theorem ZO:shp Tryz.prog 26=some (false,1):=by kernel_rfl
theorem ZP:zer Tryz.prog 26=some [AV.nilFn]:=by kernel_rfl
theorem ZQ:al Tryz.prog 26=false:=by kernel_rfl
theorem ZR:tyk Tryz.prog 27=some (TyK.slice 9 false 1 16):=by kernel_rfl
theorem ZS:shp Tryz.prog 27=some (false,1):=by kernel_rfl
theorem ZT:zer Tryz.prog 27=some [AV.nilSl]:=by kernel_rfl
theorem ZU:al Tryz.prog 27=false:=by kernel_rfl
theorem ZV:tyk Tryz.prog 28=some TyK.func:=by kernel_rfl
theorem ZW:shp Tryz.prog 28=some (false,1):=by kernel_rfl
theorem ZX:zer Tryz.prog 28=some [AV.nilFn]:=by kernel_rfl
theorem ZY:al Tryz.prog 28=false:=by kernel_rfl
theorem ZZ:tyk Tryz.prog 29=some (TyK.ptr 125):=by kernel_rfl
theorem Z0:shp Tryz.prog 29=some (false,1):=by kernel_rfl
theorem Z9:zer Tryz.prog 29=some [AV.nilPtr]:=by kernel_rfl
theorem aaa:al Tryz.prog 29=false:=by kernel_rfl
theorem aab:tyk Tryz.prog 30=some (TyK.ptr 103):=by kernel_rfl
theorem aac:shp Tryz.prog 30=some (false,1):=by kernel_rfl
theorem aad:zer Tryz.prog 30=some [AV.nilPtr]:=by kernel_rfl
theorem aae:al Tryz.prog 30=false:=by kernel_rfl
theorem aaf:tyk Tryz.prog 31=some (TyK.ptr 129):=by kernel_rfl
theorem aag:shp Tryz.prog 31=some (false,1):=by kernel_rfl
theorem aah:zer Tryz.prog 31=some [AV.nilPtr]:=by kernel_rfl
theorem aai:al Tryz.prog 31=false:=by kernel_rfl
theorem aaj:tyk Tryz.prog 32=some (TyK.ptr 108):=by kernel_rfl
theorem aak:shp Tryz.prog 32=some (false,1):=by kernel_rfl
theorem aal:zer Tryz.prog 32=some [AV.nilPtr]:=by kernel_rfl
theorem aam:al Tryz.prog 32=false:=by kernel_rfl
theorem aan:tyk Tryz.prog 33=some (TyK.struct [(0,(false,1)),(1,(false,1)),(2,(false,1)),(3,(false,1))]):=by kernel_rfl
theorem aao:shp Tryz.prog 33=some (true,4):=by kernel_rfl
theorem aap:zer Tryz.prog 33=some [AV.nilPtr,AV.nilPtr,AV.nilPtr,AV.nilPtr]:=by kernel_rfl
theorem aaq:al Tryz.prog 33=false:=by kernel_rfl
theorem Bb:aB Tryz.prog 33 0=some (0,false,1):=by kernel_rfl
theorem Bc:aB Tryz.prog 33 1=some (1,false,1):=by kernel_rfl
theorem Be:aB Tryz.prog 33 2=some (2,false,1):=by kernel_rfl
theorem Bf:aB Tryz.prog 33 3=some (3,false,1):=by kernel_rfl
theorem aar:tyk Tryz.prog 34=some (TyK.struct [(0,(false,1)),(1,(false,1)),(2,(false,1)),(3,(false,1))]):=by kernel_rfl
theorem aas:shp Tryz.prog 34=some (true,4):=by kernel_rfl
theorem aat:zer Tryz.prog 34=some [AV.nilPtr,AV.nilPtr,AV.nilPtr,AV.nilPtr]:=by kernel_rfl
theorem aau:al Tryz.prog 34=false:=by kernel_rfl
theorem Bg:aB Tryz.prog 34 0=some (0,false,1):=by kernel_rfl
theorem Bh:aB Tryz.prog 34 1=some (1,false,1):=by kernel_rfl
theorem Bi:aB Tryz.prog 34 2=some (2,false,1):=by kernel_rfl
theorem Bj:aB Tryz.prog 34 3=some (3,false,1):=by kernel_rfl
theorem aav:tyk Tryz.prog 35=some TyK.func:=by kernel_rfl
theorem aaw:shp Tryz.prog 35=some (false,1):=by kernel_rfl
theorem aax:zer Tryz.prog 35=some [AV.nilFn]:=by kernel_rfl
theorem aay:al Tryz.prog 35=false:=by kernel_rfl
theorem aaz:tyk Tryz.prog 36=some TyK.func:=by kernel_rfl
theorem aaA:shp Tryz.prog 36=some (false,1):=by kernel_rfl
theorem aaB:zer Tryz.prog 36=some [AV.nilFn]:=by kernel_rfl
theorem aaC:al Tryz.prog 36=false:=by kernel_rfl
theorem aaD:tyk Tryz.prog 37=some TyK.func:=by kernel_rfl
theorem aaE:shp Tryz.prog 37=some (false,1):=by kernel_rfl
theorem aaF:zer Tryz.prog 37=some [AV.nilFn]:=by kernel_rfl
theorem aaG:al Tryz.prog 37=false:=by kernel_rfl
theorem aaH:tyk Tryz.prog 38=some (TyK.struct [(0,(false,1)),(1,(false,1)),(2,(false,1)),(3,(false,1))]):=by kernel_rfl
theorem aaI:shp Tryz.prog 38=some (true,4):=by kernel_rfl
theorem aaJ:zer Tryz.prog 38=some [(AV.str []),(AV.str []),(AV.bool false),(AV.bool false)]:=by kernel_rfl
theorem aaK:al Tryz.prog 38=false:=by kernel_rfl
theorem aaL:aW Tryz.prog 10 38=some [TyS.ss,TyS.ss,TyS.sb,TyS.sb]:=by kernel_rfl
theorem aaM:Tryz.prog.eqGuardType Tryz.prog.depth 38=false:=by kernel_rfl
theorem Bl:aB Tryz.prog 38 0=some (0,false,1):=by kernel_rfl
theorem Bm:aB Tryz.prog 38 1=some (1,false,1):=by kernel_rfl
theorem Bn:aB Tryz.prog 38 2=some (2,false,1):=by kernel_rfl
theorem Bo:aB Tryz.prog 38 3=some (3,false,1):=by kernel_rfl
theorem aaN:tyk Tryz.prog 39=some (TyK.struct [(0,(false,1)),(1,(false,1)),(2,(false,1)),(3,(false,1))]):=by kernel_rfl
theorem aaO:shp Tryz.prog 39=some (true,4):=by kernel_rfl
theorem aaP:zer Tryz.prog 39=some [(AV.str []),(AV.str []),(AV.bool false),(AV.bool false)]:=by kernel_rfl
theorem aaQ:al Tryz.prog 39=false:=by kernel_rfl
theorem aaR:aW Tryz.prog 10 39=some [TyS.ss,TyS.ss,TyS.sb,TyS.sb]:=by kernel_rfl
theorem aaS:Tryz.prog.eqGuardType Tryz.prog.depth 39=false:=by kernel_rfl
theorem Bp:aB Tryz.prog 39 0=some (0,false,1):=by kernel_rfl
theorem Bq:aB Tryz.prog 39 1=some (1,false,1):=by kernel_rfl
theorem Br:aB Tryz.prog 39 2=some (2,false,1):=by kernel_rfl
theorem Bt:aB Tryz.prog 39 3=some (3,false,1):=by kernel_rfl
theorem aaT:tyk Tryz.prog 40=some (TyK.slice 39 true 4 40):=by kernel_rfl
theorem aaU:shp Tryz.prog 40=some (false,1):=by kernel_rfl
theorem aaV:zer Tryz.prog 40=some [AV.nilSl]:=by kernel_rfl
theorem aaW:al Tryz.prog 40=false:=by kernel_rfl
theorem aaX:tyk Tryz.prog 41=some (TyK.struct [(0,(false,1)),(1,(false,1)),(2,(false,1))]):=by kernel_rfl
theorem aaY:shp Tryz.prog 41=some (true,3):=by kernel_rfl
theorem aaZ:zer Tryz.prog 41=some [AV.nilSl,AV.nilSl,(AV.int .i64 0)]:=by kernel_rfl
theorem aa0:al Tryz.prog 41=false:=by kernel_rfl
theorem Bu:aB Tryz.prog 41 0=some (0,false,1):=by kernel_rfl
theorem Bv:aB Tryz.prog 41 1=some (1,false,1):=by kernel_rfl
theorem Bw:aB Tryz.prog 41 2=some (2,false,1):=by kernel_rfl
theorem aa1:tyk Tryz.prog 42=some (TyK.struct [(0,(false,1)),(1,(false,1)),(2,(false,1))]):=by kernel_rfl
theorem aa2:shp Tryz.prog 42=some (true,3):=by kernel_rfl
theorem aa3:zer Tryz.prog 42=some [AV.nilSl,AV.nilSl,(AV.int .i64 0)]:=by kernel_rfl
theorem aa4:al Tryz.prog 42=false:=by kernel_rfl
theorem Bx:aB Tryz.prog 42 0=some (0,false,1):=by kernel_rfl
theorem By:aB Tryz.prog 42 1=some (1,false,1):=by kernel_rfl
theorem Bz:aB Tryz.prog 42 2=some (2,false,1):=by kernel_rfl
theorem aa5:tyk Tryz.prog 43=some (TyK.int .i64):=by kernel_rfl
theorem aa6:shp Tryz.prog 43=some (false,1):=by kernel_rfl
theorem aa7:zer Tryz.prog 43=some [(AV.int .i64 0)]:=by kernel_rfl
theorem aa8:al Tryz.prog 43=false:=by kernel_rfl
theorem aa9:aW Tryz.prog 10 43=some [(TyS.si .i64)]:=by kernel_rfl
theorem aba:Tryz.prog.eqGuardType Tryz.prog.depth 43=false:=by kernel_rfl
theorem abb:tyk Tryz.prog 44=some TyK.other:=by kernel_rfl
theorem abc:shp Tryz.prog 44=some (false,1):=by kernel_rfl
theorem abd:zer Tryz.prog 44=some [(AV.tuple [AV.nilSl,AV.undef,(AV.int .i64 0)])]:=by kernel_rfl
theorem abe:al Tryz.prog 44=false:=by kernel_rfl
theorem abf:tyk Tryz.prog 45=some TyK.func:=by kernel_rfl
theorem abg:shp Tryz.prog 45=some (false,1):=by kernel_rfl
theorem abh:zer Tryz.prog 45=some [AV.nilFn]:=by kernel_rfl
theorem abi:al Tryz.prog 45=false:=by kernel_rfl
theorem abj:tyk Tryz.prog 46=some (TyK.slice 48 true 6 88):=by kernel_rfl
theorem abk:shp Tryz.prog 46=some (false,1):=by kernel_rfl
theorem abl:zer Tryz.prog 46=some [AV.nilSl]:=by kernel_rfl
theorem abm:al Tryz.prog 46=false:=by kernel_rfl
theorem abn:tyk Tryz.prog 47=some (TyK.struct [(0,(false,1)),(1,(false,1)),(2,(false,1)),(3,(false,1)),(4,(false,1)),(5,(false,1))]):=by kernel_rfl
theorem abo:shp Tryz.prog 47=some (true,6):=by kernel_rfl
theorem abp:zer Tryz.prog 47=some [(AV.int .i64 0),(AV.bool false),(AV.str []),(AV.str []),(AV.str []),AV.nilSl]:=by kernel_rfl
theorem abq:al Tryz.prog 47=false:=by kernel_rfl
theorem BA:aB Tryz.prog 47 0=some (0,false,1):=by kernel_rfl
theorem BB:aB Tryz.prog 47 1=some (1,false,1):=by kernel_rfl
theorem BC:aB Tryz.prog 47 2=some (2,false,1):=by kernel_rfl
theorem BD:aB Tryz.prog 47 3=some (3,false,1):=by kernel_rfl
theorem BE:aB Tryz.prog 47 4=some (4,false,1):=by kernel_rfl
theorem BF:aB Tryz.prog 47 5=some (5,false,1):=by kernel_rfl
theorem abr:tyk Tryz.prog 48=some (TyK.struct [(0,(false,1)),(1,(false,1)),(2,(false,1)),(3,(false,1)),(4,(false,1)),(5,(false,1))]):=by kernel_rfl
theorem abt:shp Tryz.prog 48=some (true,6):=by kernel_rfl
theorem abu:zer Tryz.prog 48=some [(AV.int .i64 0),(AV.bool false),(AV.str []),(AV.str []),(AV.str []),AV.nilSl]:=by kernel_rfl
theorem abv:al Tryz.prog 48=false:=by kernel_rfl
theorem BG:aB Tryz.prog 48 0=some (0,false,1):=by kernel_rfl
theorem BH:aB Tryz.prog 48 1=some (1,false,1):=by kernel_rfl
theorem BI:aB Tryz.prog 48 2=some (2,false,1):=by kernel_rfl
theorem BJ:aB Tryz.prog 48 3=some (3,false,1):=by kernel_rfl
theorem BK:aB Tryz.prog 48 4=some (4,false,1):=by kernel_rfl
theorem BL:aB Tryz.prog 48 5=some (5,false,1):=by kernel_rfl
theorem abw:tyk Tryz.prog 49=some TyK.other:=by kernel_rfl
theorem abx:shp Tryz.prog 49=some (false,1):=by kernel_rfl
theorem aby:zer Tryz.prog 49=some [(AV.tuple [(AV.str []),AV.undef,(AV.int .i64 0)])]:=by kernel_rfl
theorem abz:al Tryz.prog 49=false:=by kernel_rfl
theorem abA:tyk Tryz.prog 50=some TyK.func:=by kernel_rfl
theorem abB:shp Tryz.prog 50=some (false,1):=by kernel_rfl
theorem abC:zer Tryz.prog 50=some [AV.nilFn]:=by kernel_rfl
theorem abD:al Tryz.prog 50=false:=by kernel_rfl
theorem abE:tyk Tryz.prog 51=some TyK.func:=by kernel_rfl
theorem abF:shp Tryz.prog 51=some (false,1):=by kernel_rfl
theorem abG:zer Tryz.prog 51=some [AV.nilFn]:=by kernel_rfl
theorem abH:al Tryz.prog 51=false:=by kernel_rfl
theorem abI:tyk Tryz.prog 52=some TyK.func:=by kernel_rfl
theorem abJ:shp Tryz.prog 52=some (false,1):=by kernel_rfl
theorem abK:zer Tryz.prog 52=some [AV.nilFn]:=by kernel_rfl
theorem abL:al Tryz.prog 52=false:=by kernel_rfl
theorem abM:tyk Tryz.prog 53=some (TyK.struct [(0,(false,1)),(1,(false,1)),(2,(false,1)),(3,(false,1)),(4,(false,1))]):=by kernel_rfl
theorem abN:shp Tryz.prog 53=some (true,5):=by kernel_rfl
theorem abO:zer Tryz.prog 53=some [(AV.int .u8 0),(AV.int .u8 0),(AV.int .u8 0),(AV.int .u8 0),(AV.int .u8 0)]:=by kernel_rfl
theorem abP:al Tryz.prog 53=false:=by kernel_rfl
theorem abQ:aW Tryz.prog 10 53=some [(TyS.si .u8),(TyS.si .u8),(TyS.si .u8),(TyS.si .u8),(TyS.si .u8)]:=by kernel_rfl
theorem abR:Tryz.prog.eqGuardType Tryz.prog.depth 53=false:=by kernel_rfl
theorem BM:aB Tryz.prog 53 0=some (0,false,1):=by kernel_rfl
theorem BN:aB Tryz.prog 53 1=some (1,false,1):=by kernel_rfl
theorem BO:aB Tryz.prog 53 2=some (2,false,1):=by kernel_rfl
theorem BP:aB Tryz.prog 53 3=some (3,false,1):=by kernel_rfl
theorem BQ:aB Tryz.prog 53 4=some (4,false,1):=by kernel_rfl
theorem abS:tyk Tryz.prog 54=some (TyK.struct [(0,(false,1)),(1,(false,1)),(2,(false,1)),(3,(false,1)),(4,(false,1))]):=by kernel_rfl
theorem abT:shp Tryz.prog 54=some (true,5):=by kernel_rfl
theorem abU:zer Tryz.prog 54=some [(AV.int .u8 0),(AV.int .u8 0),(AV.int .u8 0),(AV.int .u8 0),(AV.int .u8 0)]:=by kernel_rfl
theorem abV:al Tryz.prog 54=false:=by kernel_rfl
theorem abW:aW Tryz.prog 10 54=some [(TyS.si .u8),(TyS.si .u8),(TyS.si .u8),(TyS.si .u8),(TyS.si .u8)]:=by kernel_rfl
theorem abX:Tryz.prog.eqGuardType Tryz.prog.depth 54=false:=by kernel_rfl
theorem BS:aB Tryz.prog 54 0=some (0,false,1):=by kernel_rfl
theorem BT:aB Tryz.prog 54 1=some (1,false,1):=by kernel_rfl
theorem BU:aB Tryz.prog 54 2=some (2,false,1):=by kernel_rfl
theorem BV:aB Tryz.prog 54 3=some (3,false,1):=by kernel_rfl
theorem BW:aB Tryz.prog 54 4=some (4,false,1):=by kernel_rfl
theorem abY:tyk Tryz.prog 55=some TyK.other:=by kernel_rfl
theorem abZ:shp Tryz.prog 55=some (false,1):=by kernel_rfl
theorem ab0:zer Tryz.prog 55=some [(AV.tuple [AV.nilSl,(AV.int .i64 0)])]:=by kernel_rfl
theorem ab1:al Tryz.prog 55=false:=by kernel_rfl
theorem ab2:tyk Tryz.prog 56=some TyK.func:=by kernel_rfl
theorem ab3:shp Tryz.prog 56=some (false,1):=by kernel_rfl
theorem ab4:zer Tryz.prog 56=some [AV.nilFn]:=by kernel_rfl
theorem ab5:al Tryz.prog 56=false:=by kernel_rfl
theorem ab6:tyk Tryz.prog 57=some TyK.func:=by kernel_rfl
theorem ab7:shp Tryz.prog 57=some (false,1):=by kernel_rfl
theorem ab8:zer Tryz.prog 57=some [AV.nilFn]:=by kernel_rfl
theorem ab9:al Tryz.prog 57=false:=by kernel_rfl
theorem aca:tyk Tryz.prog 58=some TyK.func:=by kernel_rfl
theorem acb:shp Tryz.prog 58=some (false,1):=by kernel_rfl
theorem acd:zer Tryz.prog 58=some [AV.nilFn]:=by kernel_rfl
theorem ace:al Tryz.prog 58=false:=by kernel_rfl
theorem acf:tyk Tryz.prog 59=some TyK.func:=by kernel_rfl
theorem acg:shp Tryz.prog 59=some (false,1):=by kernel_rfl
theorem ach:zer Tryz.prog 59=some [AV.nilFn]:=by kernel_rfl
theorem aci:al Tryz.prog 59=false:=by kernel_rfl
theorem acj:tyk Tryz.prog 60=some (TyK.struct [(0,(false,1)),(1,(false,1)),(2,(false,1)),(3,(false,1)),(4,(false,1))]):=by kernel_rfl
theorem ack:shp Tryz.prog 60=some (true,5):=by kernel_rfl
theorem acm:zer Tryz.prog 60=some [(AV.int .u8 0),(AV.int .u8 0),(AV.int .u8 0),(AV.int .u8 0),(AV.str [])]:=by kernel_rfl
theorem acn:al Tryz.prog 60=false:=by kernel_rfl
theorem aco:aW Tryz.prog 10 60=some [(TyS.si .u8),(TyS.si .u8),(TyS.si .u8),(TyS.si .u8),TyS.ss]:=by kernel_rfl
theorem acp:Tryz.prog.eqGuardType Tryz.prog.depth 60=false:=by kernel_rfl
theorem BX:aB Tryz.prog 60 0=some (0,false,1):=by kernel_rfl
theorem BY:aB Tryz.prog 60 1=some (1,false,1):=by kernel_rfl
theorem BZ:aB Tryz.prog 60 2=some (2,false,1):=by kernel_rfl
theorem B1:aB Tryz.prog 60 3=some (3,false,1):=by kernel_rfl
theorem B2:aB Tryz.prog 60 4=some (4,false,1):=by kernel_rfl
theorem acq:tyk Tryz.prog 61=some (TyK.struct [(0,(false,1)),(1,(false,1)),(2,(false,1)),(3,(false,1)),(4,(false,1))]):=by kernel_rfl
theorem acr:shp Tryz.prog 61=some (true,5):=by kernel_rfl
theorem acs:zer Tryz.prog 61=some [(AV.int .u8 0),(AV.int .u8 0),(AV.int .u8 0),(AV.int .u8 0),(AV.str [])]:=by kernel_rfl
theorem acu:al Tryz.prog 61=false:=by kernel_rfl
theorem acv:aW Tryz.prog 10 61=some [(TyS.si .u8),(TyS.si .u8),(TyS.si .u8),(TyS.si .u8),TyS.ss]:=by kernel_rfl
theorem acw:Tryz.prog.eqGuardType Tryz.prog.depth 61=false:=by kernel_rfl
theorem B3:aB Tryz.prog 61 0=some (0,false,1):=by kernel_rfl
theorem B4:aB Tryz.prog 61 1=some (1,false,1):=by kernel_rfl
theorem B5:aB Tryz.prog 61 2=some (2,false,1):=by kernel_rfl
theorem B6:aB Tryz.prog 61 3=some (3,false,1):=by kernel_rfl
theorem B7:aB Tryz.prog 61 4=some (4,false,1):=by kernel_rfl
theorem acx:tyk Tryz.prog 62=some TyK.func:=by kernel_rfl
theorem acy:shp Tryz.prog 62=some (false,1):=by kernel_rfl
theorem acz:zer Tryz.prog 62=some [AV.nilFn]:=by kernel_rfl
theorem acA:al Tryz.prog 62=false:=by kernel_rfl
theorem acB:tyk Tryz.prog 63=some TyK.func:=by kernel_rfl
theorem acC:shp Tryz.prog 63=some (false,1):=by kernel_rfl
theorem acD:zer Tryz.prog 63=some [AV.nilFn]:=by kernel_rfl
theorem acE:al Tryz.prog 63=false:=by kernel_rfl
theorem acF:tyk Tryz.prog 64=some TyK.func:=by kernel_rfl
theorem acG:shp Tryz.prog 64=some (false,1):=by kernel_rfl
theorem acH:zer Tryz.prog 64=some [AV.nilFn]:=by kernel_rfl
theorem acI:al Tryz.prog 64=false:=by kernel_rfl
theorem acJ:tyk Tryz.prog 65=some TyK.func:=by kernel_rfl
theorem acK:shp Tryz.prog 65=some (false,1):=by kernel_rfl
theorem acL:zer Tryz.prog 65=some [AV.nilFn]:=by kernel_rfl
theorem acM:al Tryz.prog 65=false:=by kernel_rfl
theorem acN:tyk Tryz.prog 66=some TyK.func:=by kernel_rfl
theorem acO:shp Tryz.prog 66=some (false,1):=by kernel_rfl
theorem acP:zer Tryz.prog 66=some [AV.nilFn]:=by kernel_rfl
theorem acQ:al Tryz.prog 66=false:=by kernel_rfl
theorem acR:tyk Tryz.prog 67=some TyK.func:=by kernel_rfl
theorem acS:shp Tryz.prog 67=some (false,1):=by kernel_rfl
theorem acT:zer Tryz.prog 67=some [AV.nilFn]:=by kernel_rfl
theorem acU:al Tryz.prog 67=false:=by kernel_rfl
theorem acV:tyk Tryz.prog 68=some (TyK.struct [(0,(false,1))]):=by kernel_rfl
theorem acW:shp Tryz.prog 68=some (true,1):=by kernel_rfl
theorem acX:zer Tryz.prog 68=some [AV.nilPtr]:=by kernel_rfl
theorem acY:al Tryz.prog 68=false:=by kernel_rfl
theorem B8:aB Tryz.prog 68 0=some (0,false,1):=by kernel_rfl
theorem acZ:tyk Tryz.prog 69=some (TyK.struct [(0,(false,1))]):=by kernel_rfl
theorem ac0:shp Tryz.prog 69=some (true,1):=by kernel_rfl
theorem ac1:zer Tryz.prog 69=some [AV.nilPtr]:=by kernel_rfl
theorem ac2:al Tryz.prog 69=false:=by kernel_rfl
theorem B9:aB Tryz.prog 69 0=some (0,false,1):=by kernel_rfl
theorem ac3:tyk Tryz.prog 70=some TyK.func:=by kernel_rfl
theorem ac4:shp Tryz.prog 70=some (false,1):=by kernel_rfl
theorem ac5:zer Tryz.prog 70=some [AV.nilFn]:=by kernel_rfl
theorem ac6:al Tryz.prog 70=false:=by kernel_rfl
theorem ac7:tyk Tryz.prog 71=some TyK.func:=by kernel_rfl
theorem ac8:shp Tryz.prog 71=some (false,1):=by kernel_rfl
theorem ac9:zer Tryz.prog 71=some [AV.nilFn]:=by kernel_rfl
theorem ada:al Tryz.prog 71=false:=by kernel_rfl
theorem adb:tyk Tryz.prog 72=some TyK.func:=by kernel_rfl
theorem ade:shp Tryz.prog 72=some (false,1):=by kernel_rfl
theorem adf:zer Tryz.prog 72=some [AV.nilFn]:=by kernel_rfl
theorem adg:al Tryz.prog 72=false:=by kernel_rfl
theorem adh:tyk Tryz.prog 73=some TyK.func:=by kernel_rfl
theorem adi:shp Tryz.prog 73=some (false,1):=by kernel_rfl
theorem adj:zer Tryz.prog 73=some [AV.nilFn]:=by kernel_rfl
theorem adk:al Tryz.prog 73=false:=by kernel_rfl
theorem adl:tyk Tryz.prog 74=some TyK.func:=by kernel_rfl
theorem adm:shp Tryz.prog 74=some (false,1):=by kernel_rfl
theorem adn:zer Tryz.prog 74=some [AV.nilFn]:=by kernel_rfl
theorem ado:al Tryz.prog 74=false:=by kernel_rfl
theorem adp:tyk Tryz.prog 75=some TyK.func:=by kernel_rfl
theorem adq:shp Tryz.prog 75=some (false,1):=by kernel_rfl
theorem adr:zer Tryz.prog 75=some [AV.nilFn]:=by kernel_rfl
theorem ads:al Tryz.prog 75=false:=by kernel_rfl
theorem adt:tyk Tryz.prog 76=some (TyK.ptr 82):=by kernel_rfl
theorem adu:shp Tryz.prog 76=some (false,1):=by kernel_rfl
theorem adv:zer Tryz.prog 76=some [AV.nilPtr]:=by kernel_rfl
theorem adw:al Tryz.prog 76=false:=by kernel_rfl
theorem adx:tyk Tryz.prog 77=some TyK.other:=by kernel_rfl
theorem ady:shp Tryz.prog 77=some (false,1):=by kernel_rfl
theorem adz:zer Tryz.prog 77=some [(AV.tuple [AV.nilPtr,(AV.int .i64 0)])]:=by kernel_rfl
theorem adA:al Tryz.prog 77=false:=by kernel_rfl
theorem adB:tyk Tryz.prog 78=some TyK.func:=by kernel_rfl
theorem adC:shp Tryz.prog 78=some (false,1):=by kernel_rfl
theorem adD:zer Tryz.prog 78=some [AV.nilFn]:=by kernel_rfl
theorem adE:al Tryz.prog 78=false:=by kernel_rfl
theorem adF:tyk Tryz.prog 79=some TyK.func:=by kernel_rfl
theorem adG:shp Tryz.prog 79=some (false,1):=by kernel_rfl
theorem adH:zer Tryz.prog 79=some [AV.nilFn]:=by kernel_rfl
theorem adI:al Tryz.prog 79=false:=by kernel_rfl
theorem adJ:tyk Tryz.prog 80=some (TyK.slice 135 true 2 24):=by kernel_rfl
theorem adK:shp Tryz.prog 80=some (false,1):=by kernel_rfl
theorem adL:zer Tryz.prog 80=some [AV.nilSl]:=by kernel_rfl
theorem adM:al Tryz.prog 80=false:=by kernel_rfl
theorem adN:tyk Tryz.prog 81=some (TyK.struct [(0,(true,3)),(3,(false,1)),(4,(false,1))]):=by kernel_rfl
theorem adO:shp Tryz.prog 81=some (true,5):=by kernel_rfl
theorem adP:zer Tryz.prog 81=some [AV.nilSl,AV.nilSl,(AV.int .i64 0),AV.nilSl,AV.nilSl]:=by kernel_rfl
theorem adQ:al Tryz.prog 81=false:=by kernel_rfl
theorem Ca:aB Tryz.prog 81 0=some (0,true,3):=by kernel_rfl
theorem Cb:aB Tryz.prog 81 1=some (3,false,1):=by kernel_rfl
theorem Cc:aB Tryz.prog 81 2=some (4,false,1):=by kernel_rfl
theorem adR:tyk Tryz.prog 82=some (TyK.struct [(0,(true,3)),(3,(false,1)),(4,(false,1))]):=by kernel_rfl
theorem adS:shp Tryz.prog 82=some (true,5):=by kernel_rfl
theorem adT:zer Tryz.prog 82=some [AV.nilSl,AV.nilSl,(AV.int .i64 0),AV.nilSl,AV.nilSl]:=by kernel_rfl
theorem adU:al Tryz.prog 82=false:=by kernel_rfl
theorem Cd:aB Tryz.prog 82 0=some (0,true,3):=by kernel_rfl
theorem Ce:aB Tryz.prog 82 1=some (3,false,1):=by kernel_rfl
theorem Cf:aB Tryz.prog 82 2=some (4,false,1):=by kernel_rfl
theorem adV:tyk Tryz.prog 83=some TyK.func:=by kernel_rfl
theorem adW:shp Tryz.prog 83=some (false,1):=by kernel_rfl
theorem adX:zer Tryz.prog 83=some [AV.nilFn]:=by kernel_rfl
theorem adY:al Tryz.prog 83=false:=by kernel_rfl
theorem adZ:tyk Tryz.prog 84=some TyK.func:=by kernel_rfl
theorem ad0:shp Tryz.prog 84=some (false,1):=by kernel_rfl
theorem ad1:zer Tryz.prog 84=some [AV.nilFn]:=by kernel_rfl
theorem ad2:al Tryz.prog 84=false:=by kernel_rfl
theorem ad3:tyk Tryz.prog 85=some TyK.func:=by kernel_rfl
theorem ad4:shp Tryz.prog 85=some (false,1):=by kernel_rfl
theorem ad5:zer Tryz.prog 85=some [AV.nilFn]:=by kernel_rfl
theorem ad6:al Tryz.prog 85=false:=by kernel_rfl
theorem ad7:tyk Tryz.prog 86=some TyK.func:=by kernel_rfl
theorem ad8:shp Tryz.prog 86=some (false,1):=by kernel_rfl
theorem ad9:zer Tryz.prog 86=some [AV.nilFn]:=by kernel_rfl
theorem aea:al Tryz.prog 86=false:=by kernel_rfl
theorem aeb:tyk Tryz.prog 87=some TyK.func:=by kernel_rfl
theorem aec:shp Tryz.prog 87=some (false,1):=by kernel_rfl
theorem aed:zer Tryz.prog 87=some [AV.nilFn]:=by kernel_rfl
theorem aee:al Tryz.prog 87=false:=by kernel_rfl
theorem aef:tyk Tryz.prog 88=some TyK.func:=by kernel_rfl
theorem aeg:shp Tryz.prog 88=some (false,1):=by kernel_rfl
theorem aeh:zer Tryz.prog 88=some [AV.nilFn]:=by kernel_rfl
theorem aei:al Tryz.prog 88=false:=by kernel_rfl
theorem aej:tyk Tryz.prog 89=some TyK.func:=by kernel_rfl
theorem aek:shp Tryz.prog 89=some (false,1):=by kernel_rfl
theorem ael:zer Tryz.prog 89=some [AV.nilFn]:=by kernel_rfl
theorem aem:al Tryz.prog 89=false:=by kernel_rfl
theorem aen:tyk Tryz.prog 90=some TyK.func:=by kernel_rfl
theorem aeo:shp Tryz.prog 90=some (false,1):=by kernel_rfl
theorem aep:zer Tryz.prog 90=some [AV.nilFn]:=by kernel_rfl
theorem aeq:al Tryz.prog 90=false:=by kernel_rfl
theorem aer:tyk Tryz.prog 91=some TyK.func:=by kernel_rfl
theorem aes:shp Tryz.prog 91=some (false,1):=by kernel_rfl
theorem aet:zer Tryz.prog 91=some [AV.nilFn]:=by kernel_rfl
theorem aeu:al Tryz.prog 91=false:=by kernel_rfl
theorem aev:tyk Tryz.prog 92=some TyK.func:=by kernel_rfl
theorem aew:shp Tryz.prog 92=some (false,1):=by kernel_rfl
theorem aex:zer Tryz.prog 92=some [AV.nilFn]:=by kernel_rfl
theorem aey:al Tryz.prog 92=false:=by kernel_rfl
theorem aez:tyk Tryz.prog 93=some TyK.func:=by kernel_rfl
theorem aeA:shp Tryz.prog 93=some (false,1):=by kernel_rfl
theorem aeB:zer Tryz.prog 93=some [AV.nilFn]:=by kernel_rfl
theorem aeC:al Tryz.prog 93=false:=by kernel_rfl
theorem aeD:tyk Tryz.prog 94=some (TyK.ptr 43):=by kernel_rfl
theorem aeE:shp Tryz.prog 94=some (false,1):=by kernel_rfl
theorem aeF:zer Tryz.prog 94=some [AV.nilPtr]:=by kernel_rfl
theorem aeG:al Tryz.prog 94=false:=by kernel_rfl
theorem aeH:tyk Tryz.prog 95=some (TyK.struct [(0,(false,1)),(1,(false,1)),(2,(false,1))]):=by kernel_rfl
theorem aeI:shp Tryz.prog 95=some (true,3):=by kernel_rfl
theorem aeJ:zer Tryz.prog 95=some [(AV.int .i64 0),(AV.int .i64 0),(AV.str [])]:=by kernel_rfl
theorem aeK:al Tryz.prog 95=false:=by kernel_rfl
theorem aeL:aW Tryz.prog 10 95=some [(TyS.si .i64),(TyS.si .i64),TyS.ss]:=by kernel_rfl
theorem aeM:Tryz.prog.eqGuardType Tryz.prog.depth 95=false:=by kernel_rfl
theorem Cg:aB Tryz.prog 95 0=some (0,false,1):=by kernel_rfl
theorem Ch:aB Tryz.prog 95 1=some (1,false,1):=by kernel_rfl
theorem Ci:aB Tryz.prog 95 2=some (2,false,1):=by kernel_rfl
theorem aeN:tyk Tryz.prog 96=some (TyK.struct [(0,(false,1)),(1,(false,1)),(2,(false,1))]):=by kernel_rfl
theorem aeO:shp Tryz.prog 96=some (true,3):=by kernel_rfl
theorem aeP:zer Tryz.prog 96=some [(AV.int .i64 0),(AV.int .i64 0),(AV.str [])]:=by kernel_rfl
theorem aeQ:al Tryz.prog 96=false:=by kernel_rfl
theorem aeR:aW Tryz.prog 10 96=some [(TyS.si .i64),(TyS.si .i64),TyS.ss]:=by kernel_rfl
theorem aeS:Tryz.prog.eqGuardType Tryz.prog.depth 96=false:=by kernel_rfl
theorem Cj:aB Tryz.prog 96 0=some (0,false,1):=by kernel_rfl
theorem Ck:aB Tryz.prog 96 1=some (1,false,1):=by kernel_rfl
theorem Cl:aB Tryz.prog 96 2=some (2,false,1):=by kernel_rfl
theorem aeT:tyk Tryz.prog 97=some TyK.other:=by kernel_rfl
theorem aeU:shp Tryz.prog 97=some (false,1):=by kernel_rfl
theorem aeV:zer Tryz.prog 97=some [(AV.tuple [(AV.str []),AV.undef])]:=by kernel_rfl
theorem aeW:al Tryz.prog 97=false:=by kernel_rfl
theorem aeX:tyk Tryz.prog 98=some TyK.func:=by kernel_rfl
theorem aeY:shp Tryz.prog 98=some (false,1):=by kernel_rfl
theorem aeZ:zer Tryz.prog 98=some [AV.nilFn]:=by kernel_rfl
theorem ae0:al Tryz.prog 98=false:=by kernel_rfl
theorem ae1:tyk Tryz.prog 99=some TyK.func:=by kernel_rfl
theorem ae2:shp Tryz.prog 99=some (false,1):=by kernel_rfl
theorem ae3:zer Tryz.prog 99=some [AV.nilFn]:=by kernel_rfl
theorem ae4:al Tryz.prog 99=false:=by kernel_rfl
theorem Eb:tyk Tryz.prog 100=some TyK.func:=by kernel_rfl
theorem Ec:shp Tryz.prog 100=some (false,1):=by kernel_rfl
theorem Ed:zer Tryz.prog 100=some [AV.nilFn]:=by kernel_rfl
theorem Ee:al Tryz.prog 100=false:=by kernel_rfl
theorem Ef:tyk Tryz.prog 101=some TyK.func:=by kernel_rfl
theorem Eg:shp Tryz.prog 101=some (false,1):=by kernel_rfl
theorem Eh:zer Tryz.prog 101=some [AV.nilFn]:=by kernel_rfl
theorem Ei:al Tryz.prog 101=false:=by kernel_rfl
theorem Ej:tyk Tryz.prog 102=some (TyK.struct [(0,(false,1)),(1,(false,1)),(2,(false,1))]):=by kernel_rfl
theorem Ek:shp Tryz.prog 102=some (true,3):=by kernel_rfl
theorem El:zer Tryz.prog 102=some [AV.nilPtr,(AV.str []),(AV.int .i64 0)]:=by kernel_rfl
theorem Em:al Tryz.prog 102=false:=by kernel_rfl
theorem vR:aB Tryz.prog 102 0=some (0,false,1):=by kernel_rfl
theorem vS:aB Tryz.prog 102 1=some (1,false,1):=by kernel_rfl
theorem vT:aB Tryz.prog 102 2=some (2,false,1):=by kernel_rfl
theorem En:tyk Tryz.prog 103=some (TyK.struct [(0,(false,1)),(1,(false,1)),(2,(false,1))]):=by kernel_rfl
theorem Eo:shp Tryz.prog 103=some (true,3):=by kernel_rfl
theorem Ep:zer Tryz.prog 103=some [AV.nilPtr,(AV.str []),(AV.int .i64 0)]:=by kernel_rfl
theorem Er:al Tryz.prog 103=false:=by kernel_rfl
theorem vU:aB Tryz.prog 103 0=some (0,false,1):=by kernel_rfl
theorem vV:aB Tryz.prog 103 1=some (1,false,1):=by kernel_rfl
theorem vW:aB Tryz.prog 103 2=some (2,false,1):=by kernel_rfl
theorem Es:tyk Tryz.prog 104=some TyK.func:=by kernel_rfl
theorem Et:shp Tryz.prog 104=some (false,1):=by kernel_rfl
theorem Eu:zer Tryz.prog 104=some [AV.nilFn]:=by kernel_rfl
theorem Ev:al Tryz.prog 104=false:=by kernel_rfl
theorem Ew:tyk Tryz.prog 105=some TyK.other:=by kernel_rfl
theorem Ex:shp Tryz.prog 105=some (false,1):=by kernel_rfl
theorem Ey:zer Tryz.prog 105=some [(AV.tuple [(AV.str []),AV.undef,(AV.int .i64 0)])]:=by kernel_rfl
theorem Ez:al Tryz.prog 105=false:=by kernel_rfl
theorem EA:tyk Tryz.prog 106=some TyK.func:=by kernel_rfl
theorem EB:shp Tryz.prog 106=some (false,1):=by kernel_rfl
theorem EC:zer Tryz.prog 106=some [AV.nilFn]:=by kernel_rfl
theorem ED:al Tryz.prog 106=false:=by kernel_rfl
theorem EE:tyk Tryz.prog 107=some (TyK.struct [(0,(false,1)),(1,(false,1)),(2,(false,1))]):=by kernel_rfl
theorem EF:shp Tryz.prog 107=some (true,3):=by kernel_rfl
theorem EH:zer Tryz.prog 107=some [AV.nilPtr,(AV.str []),(AV.int .i64 0)]:=by kernel_rfl
theorem EI:al Tryz.prog 107=false:=by kernel_rfl
theorem vX:aB Tryz.prog 107 0=some (0,false,1):=by kernel_rfl
theorem vY:aB Tryz.prog 107 1=some (1,false,1):=by kernel_rfl
theorem vZ:aB Tryz.prog 107 2=some (2,false,1):=by kernel_rfl
theorem EJ:tyk Tryz.prog 108=some (TyK.struct [(0,(false,1)),(1,(false,1)),(2,(false,1))]):=by kernel_rfl
theorem EL:shp Tryz.prog 108=some (true,3):=by kernel_rfl
theorem EM:zer Tryz.prog 108=some [AV.nilPtr,(AV.str []),(AV.int .i64 0)]:=by kernel_rfl
theorem EN:al Tryz.prog 108=false:=by kernel_rfl
theorem v7:aB Tryz.prog 108 0=some (0,false,1):=by kernel_rfl
theorem v8:aB Tryz.prog 108 1=some (1,false,1):=by kernel_rfl
theorem wa:aB Tryz.prog 108 2=some (2,false,1):=by kernel_rfl
theorem EO:tyk Tryz.prog 109=some TyK.func:=by kernel_rfl
theorem EP:shp Tryz.prog 109=some (false,1):=by kernel_rfl
theorem ES:zer Tryz.prog 109=some [AV.nilFn]:=by kernel_rfl
theorem ET:al Tryz.prog 109=false:=by kernel_rfl
theorem EU:tyk Tryz.prog 110=some TyK.other:=by kernel_rfl
theorem EV:shp Tryz.prog 110=some (false,1):=by kernel_rfl
theorem EW:zer Tryz.prog 110=some [(AV.tuple [(AV.int .u8 0),(AV.str [])])]:=by kernel_rfl
theorem EX:al Tryz.prog 110=false:=by kernel_rfl
theorem EY:tyk Tryz.prog 111=some TyK.func:=by kernel_rfl
theorem EZ:shp Tryz.prog 111=some (false,1):=by kernel_rfl
theorem E0:zer Tryz.prog 111=some [AV.nilFn]:=by kernel_rfl
theorem E2:al Tryz.prog 111=false:=by kernel_rfl
theorem E3:tyk Tryz.prog 112=some TyK.func:=by kernel_rfl
theorem E4:shp Tryz.prog 112=some (false,1):=by kernel_rfl
theorem E5:zer Tryz.prog 112=some [AV.nilFn]:=by kernel_rfl
theorem E6:al Tryz.prog 112=false:=by kernel_rfl
theorem E7:tyk Tryz.prog 113=some TyK.func:=by kernel_rfl
theorem E8:shp Tryz.prog 113=some (false,1):=by kernel_rfl
theorem E9:zer Tryz.prog 113=some [AV.nilFn]:=by kernel_rfl
theorem Fa:al Tryz.prog 113=false:=by kernel_rfl
theorem Fb:tyk Tryz.prog 114=some (TyK.ptr 117):=by kernel_rfl
theorem Fe:shp Tryz.prog 114=some (false,1):=by kernel_rfl
theorem Ff:zer Tryz.prog 114=some [AV.nilPtr]:=by kernel_rfl
theorem Fg:al Tryz.prog 114=false:=by kernel_rfl
theorem Fh:tyk Tryz.prog 115=some (TyK.slice 5 false 1 1):=by kernel_rfl
theorem Fi:shp Tryz.prog 115=some (false,1):=by kernel_rfl
theorem Fj:zer Tryz.prog 115=some [AV.nilSl]:=by kernel_rfl
theorem Fk:al Tryz.prog 115=false:=by kernel_rfl
theorem Fl:tyk Tryz.prog 116=some (TyK.struct [(0,(false,1)),(1,(false,1))]):=by kernel_rfl
theorem Fm:shp Tryz.prog 116=some (true,2):=by kernel_rfl
theorem Fo:zer Tryz.prog 116=some [AV.nilPtr,AV.nilSl]:=by kernel_rfl
theorem Fp:al Tryz.prog 116=false:=by kernel_rfl
theorem wb:aB Tryz.prog 116 0=some (0,false,1):=by kernel_rfl
theorem wc:aB Tryz.prog 116 1=some (1,false,1):=by kernel_rfl
theorem Fq:tyk Tryz.prog 117=some (TyK.struct [(0,(false,1)),(1,(false,1))]):=by kernel_rfl
theorem Fs:shp Tryz.prog 117=some (true,2):=by kernel_rfl
theorem Ft:zer Tryz.prog 117=some [AV.nilPtr,AV.nilSl]:=by kernel_rfl
theorem Fu:al Tryz.prog 117=true:=by kernel_rfl
theorem wg:aB Tryz.prog 117 0=some (0,false,1):=by kernel_rfl
theorem wh:aB Tryz.prog 117 1=some (1,false,1):=by kernel_rfl
theorem Fv:tyk Tryz.prog 118=some (TyK.iface 1):=by kernel_rfl
theorem Fw:shp Tryz.prog 118=some (false,1):=by kernel_rfl
theorem Fx:zer Tryz.prog 118=some [AV.nilIface]:=by kernel_rfl
theorem Fy:al Tryz.prog 118=false:=by kernel_rfl
theorem Fz:tyk Tryz.prog 119=some (TyK.iface 1):=by kernel_rfl
theorem FA:shp Tryz.prog 119=some (false,1):=by kernel_rfl
theorem FB:zer Tryz.prog 119=some [AV.nilIface]:=by kernel_rfl
theorem FC:al Tryz.prog 119=false:=by kernel_rfl
theorem FD:tyk Tryz.prog 120=some TyK.func:=by kernel_rfl
theorem FE:shp Tryz.prog 120=some (false,1):=by kernel_rfl
theorem FF:zer Tryz.prog 120=some [AV.nilFn]:=by kernel_rfl
theorem FG:al Tryz.prog 120=false:=by kernel_rfl
theorem FH:tyk Tryz.prog 121=some (TyK.map 9 96):=by kernel_rfl
theorem FI:shp Tryz.prog 121=some (false,1):=by kernel_rfl
theorem FJ:zer Tryz.prog 121=some [AV.nilMap]:=by kernel_rfl
theorem FK:al Tryz.prog 121=false:=by kernel_rfl
theorem FL:l5 Tryz.prog 121=some ([TyS.ss],(false,(AV.agg [(AV.int .i64 0),(AV.int .i64 0),(AV.str [])]))):=by kernel_rfl
theorem FM:eY Tryz.prog 121=some ([TyS.ss],false):=by kernel_rfl
theorem FN:tyk Tryz.prog 122=some (TyK.map 9 96):=by kernel_rfl
theorem FO:shp Tryz.prog 122=some (false,1):=by kernel_rfl
theorem FP:zer Tryz.prog 122=some [AV.nilMap]:=by kernel_rfl
theorem FQ:al Tryz.prog 122=false:=by kernel_rfl
theorem FR:l5 Tryz.prog 122=some ([TyS.ss],(false,(AV.agg [(AV.int .i64 0),(AV.int .i64 0),(AV.str [])]))):=by kernel_rfl
theorem FT:eY Tryz.prog 122=some ([TyS.ss],false):=by kernel_rfl
theorem FU:tyk Tryz.prog 123=some (TyK.ptr 159):=by kernel_rfl
theorem FV:shp Tryz.prog 123=some (false,1):=by kernel_rfl
theorem FW:zer Tryz.prog 123=some [AV.nilPtr]:=by kernel_rfl
theorem FX:al Tryz.prog 123=false:=by kernel_rfl
theorem FY:tyk Tryz.prog 124=some (TyK.struct [(0,(false,1)),(1,(false,1))]):=by kernel_rfl
theorem FZ:shp Tryz.prog 124=some (true,2):=by kernel_rfl
theorem F3:zer Tryz.prog 124=some [AV.nilMap,AV.nilPtr]:=by kernel_rfl
theorem F4:al Tryz.prog 124=false:=by kernel_rfl
theorem wi:aB Tryz.prog 124 0=some (0,false,1):=by kernel_rfl
theorem wj:aB Tryz.prog 124 1=some (1,false,1):=by kernel_rfl
theorem F5:tyk Tryz.prog 125=some (TyK.struct [(0,(false,1)),(1,(false,1))]):=by kernel_rfl
theorem F6:shp Tryz.prog 125=some (true,2):=by kernel_rfl
theorem F7:zer Tryz.prog 125=some [AV.nilMap,AV.nilPtr]:=by kernel_rfl
theorem F8:al Tryz.prog 125=false:=by kernel_rfl
theorem wm:aB Tryz.prog 125 0=some (0,false,1):=by kernel_rfl
theorem wu:aB Tryz.prog 125 1=some (1,false,1):=by kernel_rfl
theorem F9:tyk Tryz.prog 126=some (TyK.slice 163 true 4 48):=by kernel_rfl
theorem Ga:shp Tryz.prog 126=some (false,1):=by kernel_rfl
theorem Gb:zer Tryz.prog 126=some [AV.nilSl]:=by kernel_rfl
theorem Gc:al Tryz.prog 126=false:=by kernel_rfl
theorem Gd:tyk Tryz.prog 127=some (TyK.slice 213 true 3 40):=by kernel_rfl
theorem Ge:shp Tryz.prog 127=some (false,1):=by kernel_rfl
theorem Gf:zer Tryz.prog 127=some [AV.nilSl]:=by kernel_rfl
theorem Gg:al Tryz.prog 127=false:=by kernel_rfl
theorem Gi:tyk Tryz.prog 128=some (TyK.struct [(0,(false,1)),(1,(false,1)),(2,(false,1)),(3,(false,1)),(4,(false,1))]):=by kernel_rfl
theorem Gj:shp Tryz.prog 128=some (true,5):=by kernel_rfl
theorem Gk:zer Tryz.prog 128=some [AV.nilSl,AV.nilSl,AV.nilSl,AV.nilSl,(AV.bool false)]:=by kernel_rfl
theorem Gl:al Tryz.prog 128=false:=by kernel_rfl
theorem wv:aB Tryz.prog 128 0=some (0,false,1):=by kernel_rfl
theorem wx:aB Tryz.prog 128 1=some (1,false,1):=by kernel_rfl
theorem wy:aB Tryz.prog 128 2=some (2,false,1):=by kernel_rfl
theorem wz:aB Tryz.prog 128 3=some (3,false,1):=by kernel_rfl
theorem wA:aB Tryz.prog 128 4=some (4,false,1):=by kernel_rfl
theorem Gm:tyk Tryz.prog 129=some (TyK.struct [(0,(false,1)),(1,(false,1)),(2,(false,1)),(3,(false,1)),(4,(false,1))]):=by kernel_rfl
theorem Gn:shp Tryz.prog 129=some (true,5):=by kernel_rfl
theorem Gp:zer Tryz.prog 129=some [AV.nilSl,AV.nilSl,AV.nilSl,AV.nilSl,(AV.bool false)]:=by kernel_rfl
theorem Gq:al Tryz.prog 129=false:=by kernel_rfl
theorem wB:aB Tryz.prog 129 0=some (0,false,1):=by kernel_rfl
theorem wC:aB Tryz.prog 129 1=some (1,false,1):=by kernel_rfl
theorem wD:aB Tryz.prog 129 2=some (2,false,1):=by kernel_rfl
theorem wE:aB Tryz.prog 129 3=some (3,false,1):=by kernel_rfl
theorem wF:aB Tryz.prog 129 4=some (4,false,1):=by kernel_rfl
theorem Gr:tyk Tryz.prog 130=some TyK.func:=by kernel_rfl
theorem Gs:shp Tryz.prog 130=some (false,1):=by kernel_rfl
theorem Gt:zer Tryz.prog 130=some [AV.nilFn]:=by kernel_rfl
theorem Gu:al Tryz.prog 130=false:=by kernel_rfl
theorem Gv:tyk Tryz.prog 131=some (TyK.ptr 133):=by kernel_rfl
theorem Gw:shp Tryz.prog 131=some (false,1):=by kernel_rfl
theorem Gx:zer Tryz.prog 131=some [AV.nilPtr]:=by kernel_rfl
theorem Gy:al Tryz.prog 131=false:=by kernel_rfl
theorem Gz:tyk Tryz.prog 132=some (TyK.struct [(0,(false,1)),(1,(false,1)),(2,(true,2)),(4,(false,1)),(5,(false,1))]):=by kernel_rfl
theorem GA:shp Tryz.prog 132=some (true,6):=by kernel_rfl
theorem GB:zer Tryz.prog 132=some [(AV.str []),AV.nilSl,AV.nilPtr,AV.nilSl,(AV.bool false),(AV.bool false)]:=by kernel_rfl
theorem GC:al Tryz.prog 132=false:=by kernel_rfl
theorem wG:aB Tryz.prog 132 0=some (0,false,1):=by kernel_rfl
theorem wH:aB Tryz.prog 132 1=some (1,false,1):=by kernel_rfl
theorem wI:aB Tryz.prog 132 2=some (2,true,2):=by kernel_rfl
theorem wJ:aB Tryz.prog 132 3=some (4,false,1):=by kernel_rfl
theorem wK:aB Tryz.prog 132 4=some (5,false,1):=by kernel_rfl
theorem GD:tyk Tryz.prog 133=some (TyK.struct [(0,(false,1)),(1,(false,1)),(2,(true,2)),(4,(false,1)),(5,(false,1))]):=by kernel_rfl
theorem GF:shp Tryz.prog 133=some (true,6):=by kernel_rfl
theorem GG:zer Tryz.prog 133=some [(AV.str []),AV.nilSl,AV.nilPtr,AV.nilSl,(AV.bool false),(AV.bool false)]:=by kernel_rfl
theorem GH:al Tryz.prog 133=true:=by kernel_rfl
theorem wL:aB Tryz.prog 133 0=some (0,false,1):=by kernel_rfl
theorem wM:aB Tryz.prog 133 1=some (1,false,1):=by kernel_rfl
theorem wN:aB Tryz.prog 133 2=some (2,true,2):=by kernel_rfl
theorem wO:aB Tryz.prog 133 3=some (4,false,1):=by kernel_rfl
theorem wP:aB Tryz.prog 133 4=some (5,false,1):=by kernel_rfl
theorem GI:tyk Tryz.prog 134=some (TyK.struct [(0,(false,1)),(1,(false,1))]):=by kernel_rfl
theorem GJ:shp Tryz.prog 134=some (true,2):=by kernel_rfl
theorem GK:zer Tryz.prog 134=some [(AV.int .i64 0),(AV.str [])]:=by kernel_rfl
theorem GL:al Tryz.prog 134=false:=by kernel_rfl
theorem GM:aW Tryz.prog 10 134=some [(TyS.si .i64),TyS.ss]:=by kernel_rfl
theorem GN:Tryz.prog.eqGuardType Tryz.prog.depth 134=false:=by kernel_rfl
theorem wQ:aB Tryz.prog 134 0=some (0,false,1):=by kernel_rfl
theorem wR:aB Tryz.prog 134 1=some (1,false,1):=by kernel_rfl
theorem GO:tyk Tryz.prog 135=some (TyK.struct [(0,(false,1)),(1,(false,1))]):=by kernel_rfl
theorem GP:shp Tryz.prog 135=some (true,2):=by kernel_rfl
theorem GQ:zer Tryz.prog 135=some [(AV.int .i64 0),(AV.str [])]:=by kernel_rfl
theorem GR:al Tryz.prog 135=false:=by kernel_rfl
theorem GS:aW Tryz.prog 10 135=some [(TyS.si .i64),TyS.ss]:=by kernel_rfl
theorem GU:Tryz.prog.eqGuardType Tryz.prog.depth 135=false:=by kernel_rfl
theorem wS:aB Tryz.prog 135 0=some (0,false,1):=by kernel_rfl
theorem wT:aB Tryz.prog 135 1=some (1,false,1):=by kernel_rfl
theorem GV:tyk Tryz.prog 136=some TyK.func:=by kernel_rfl
theorem GW:shp Tryz.prog 136=some (false,1):=by kernel_rfl
theorem GX:zer Tryz.prog 136=some [AV.nilFn]:=by kernel_rfl
theorem GY:al Tryz.prog 136=false:=by kernel_rfl
theorem GZ:tyk Tryz.prog 137=some TyK.other:=by kernel_rfl
theorem G0:shp Tryz.prog 137=some (false,1):=by kernel_rfl
theorem G3:zer Tryz.prog 137=some [(AV.tuple [AV.undef,(AV.bool false)])]:=by kernel_rfl
theorem G4:al Tryz.prog 137=false:=by kernel_rfl
theorem G5:tyk Tryz.prog 138=some TyK.func:=by kernel_rfl
theorem G6:shp Tryz.prog 138=some (false,1):=by kernel_rfl
theorem G7:zer Tryz.prog 138=some [AV.nilFn]:=by kernel_rfl
theorem G8:al Tryz.prog 138=false:=by kernel_rfl
theorem G9:tyk Tryz.prog 139=some (TyK.slice 27 false 1 24):=by kernel_rfl
theorem Ha:shp Tryz.prog 139=some (false,1):=by kernel_rfl
theorem Hb:zer Tryz.prog 139=some [AV.nilSl]:=by kernel_rfl
theorem Hc:al Tryz.prog 139=false:=by kernel_rfl
theorem Hd:tyk Tryz.prog 140=some TyK.func:=by kernel_rfl
theorem He:shp Tryz.prog 140=some (false,1):=by kernel_rfl
theorem Hf:zer Tryz.prog 140=some [AV.nilFn]:=by kernel_rfl
theorem Hh:al Tryz.prog 140=false:=by kernel_rfl
theorem Hi:tyk Tryz.prog 141=some TyK.other:=by kernel_rfl
theorem Hj:shp Tryz.prog 141=some (false,1):=by kernel_rfl
theorem Hk:zer Tryz.prog 141=some [(AV.tuple [(AV.int .i64 0),AV.nilIface])]:=by kernel_rfl
theorem Hl:al Tryz.prog 141=false:=by kernel_rfl
theorem Hm:tyk Tryz.prog 142=some TyK.func:=by kernel_rfl
theorem Hn:shp Tryz.prog 142=some (false,1):=by kernel_rfl
theorem Ho:zer Tryz.prog 142=some [AV.nilFn]:=by kernel_rfl
theorem Hp:al Tryz.prog 142=false:=by kernel_rfl
theorem Hq:tyk Tryz.prog 143=some TyK.func:=by kernel_rfl
theorem Hr:shp Tryz.prog 143=some (false,1):=by kernel_rfl
theorem Hs:zer Tryz.prog 143=some [AV.nilFn]:=by kernel_rfl
theorem Ht:al Tryz.prog 143=false:=by kernel_rfl
theorem Hu:tyk Tryz.prog 144=some TyK.other:=by kernel_rfl
theorem Hv:shp Tryz.prog 144=some (false,1):=by kernel_rfl
theorem Hw:zer Tryz.prog 144=some [(AV.tuple [AV.undef,(AV.int .i64 0),(AV.int .i64 0)])]:=by kernel_rfl
theorem Hx:al Tryz.prog 144=false:=by kernel_rfl
theorem Hy:tyk Tryz.prog 145=some TyK.func:=by kernel_rfl
theorem Hz:shp Tryz.prog 145=some (false,1):=by kernel_rfl
theorem HA:zer Tryz.prog 145=some [AV.nilFn]:=by kernel_rfl
theorem HB:al Tryz.prog 145=false:=by kernel_rfl
theorem HC:tyk Tryz.prog 146=some TyK.func:=by kernel_rfl
theorem HE:shp Tryz.prog 146=some (false,1):=by kernel_rfl
theorem HF:zer Tryz.prog 146=some [AV.nilFn]:=by kernel_rfl
theorem HG:al Tryz.prog 146=false:=by kernel_rfl
theorem HH:tyk Tryz.prog 147=some TyK.other:=by kernel_rfl
theorem HI:shp Tryz.prog 147=some (false,1):=by kernel_rfl
theorem HJ:zer Tryz.prog 147=some [(AV.tuple [(AV.str []),(AV.int .i64 0)])]:=by kernel_rfl
theorem HK:al Tryz.prog 147=false:=by kernel_rfl
theorem HL:tyk Tryz.prog 148=some TyK.func:=by kernel_rfl
theorem HM:shp Tryz.prog 148=some (false,1):=by kernel_rfl
theorem HN:zer Tryz.prog 148=some [AV.nilFn]:=by kernel_rfl
theorem HO:al Tryz.prog 148=false:=by kernel_rfl
theorem HP:tyk Tryz.prog 149=some TyK.other:=by kernel_rfl
theorem HQ:shp Tryz.prog 149=some (false,1):=by kernel_rfl
theorem HR:zer Tryz.prog 149=some [(AV.tuple [AV.nilSl,(AV.int .i64 0)])]:=by kernel_rfl
theorem HS:al Tryz.prog 149=false:=by kernel_rfl
theorem HT:tyk Tryz.prog 150=some TyK.func:=by kernel_rfl
theorem HU:shp Tryz.prog 150=some (false,1):=by kernel_rfl
theorem HV:zer Tryz.prog 150=some [AV.nilFn]:=by kernel_rfl
theorem HW:al Tryz.prog 150=false:=by kernel_rfl
theorem HX:tyk Tryz.prog 151=some TyK.func:=by kernel_rfl
theorem HY:shp Tryz.prog 151=some (false,1):=by kernel_rfl
theorem HZ:zer Tryz.prog 151=some [AV.nilFn]:=by kernel_rfl
theorem H0:al Tryz.prog 151=false:=by kernel_rfl
theorem H2:tyk Tryz.prog 152=some (TyK.ptr 154):=by kernel_rfl
theorem H3:shp Tryz.prog 152=some (false,1):=by kernel_rfl
theorem H4:zer Tryz.prog 152=some [AV.nilPtr]:=by kernel_rfl
theorem H5:al Tryz.prog 152=false:=by kernel_rfl
theorem H6:tyk Tryz.prog 153=some (TyK.struct [(0,(false,1)),(1,(false,1)),(2,(false,1)),(3,(false,1)),(4,(false,1)),(5,(false,1))]):=by kernel_rfl
theorem H7:shp Tryz.prog 153=some (true,6):=by kernel_rfl
theorem H8:zer Tryz.prog 153=some [AV.nilPtr,(AV.str []),AV.nilSl,(AV.int .i64 0),(AV.bool false),(AV.bool false)]:=by kernel_rfl
theorem H9:al Tryz.prog 153=false:=by kernel_rfl
theorem wU:aB Tryz.prog 153 0=some (0,false,1):=by kernel_rfl
theorem wV:aB Tryz.prog 153 1=some (1,false,1):=by kernel_rfl
theorem wW:aB Tryz.prog 153 2=some (2,false,1):=by kernel_rfl
theorem wX:aB Tryz.prog 153 3=some (3,false,1):=by kernel_rfl
theorem wY:aB Tryz.prog 153 4=some (4,false,1):=by kernel_rfl
theorem wZ:aB Tryz.prog 153 5=some (5,false,1):=by kernel_rfl
theorem Ia:tyk Tryz.prog 154=some (TyK.struct [(0,(false,1)),(1,(false,1)),(2,(false,1)),(3,(false,1)),(4,(false,1)),(5,(false,1))]):=by kernel_rfl
theorem Ib:shp Tryz.prog 154=some (true,6):=by kernel_rfl
theorem Ic:zer Tryz.prog 154=some [AV.nilPtr,(AV.str []),AV.nilSl,(AV.int .i64 0),(AV.bool false),(AV.bool false)]:=by kernel_rfl
theorem Ie:al Tryz.prog 154=false:=by kernel_rfl
theorem w5:aB Tryz.prog 154 0=some (0,false,1):=by kernel_rfl
theorem w6:aB Tryz.prog 154 1=some (1,false,1):=by kernel_rfl
theorem w7:aB Tryz.prog 154 2=some (2,false,1):=by kernel_rfl
theorem w9:aB Tryz.prog 154 3=some (3,false,1):=by kernel_rfl
theorem xa:aB Tryz.prog 154 4=some (4,false,1):=by kernel_rfl
theorem xb:aB Tryz.prog 154 5=some (5,false,1):=by kernel_rfl
theorem Ig:tyk Tryz.prog 155=some TyK.func:=by kernel_rfl
theorem Ih:shp Tryz.prog 155=some (false,1):=by kernel_rfl
theorem Ii:zer Tryz.prog 155=some [AV.nilFn]:=by kernel_rfl
theorem Ij:al Tryz.prog 155=false:=by kernel_rfl
theorem Ik:tyk Tryz.prog 156=some (TyK.map 179 9):=by kernel_rfl
theorem Il:shp Tryz.prog 156=some (false,1):=by kernel_rfl
theorem Im:zer Tryz.prog 156=some [AV.nilMap]:=by kernel_rfl
theorem Io:al Tryz.prog 156=false:=by kernel_rfl
theorem Ip:l5 Tryz.prog 156=some ([TyS.ss,TyS.sb],(true,(AV.str []))):=by kernel_rfl
theorem Iq:eY Tryz.prog 156=some ([TyS.ss,TyS.sb],true):=by kernel_rfl
theorem Ir:tyk Tryz.prog 157=some (TyK.map 9 4):=by kernel_rfl
theorem Iu:shp Tryz.prog 157=some (false,1):=by kernel_rfl
theorem Iv:zer Tryz.prog 157=some [AV.nilMap]:=by kernel_rfl
theorem Iw:al Tryz.prog 157=false:=by kernel_rfl
theorem Ix:l5 Tryz.prog 157=some ([TyS.ss],(false,(AV.bool false))):=by kernel_rfl
theorem Iy:eY Tryz.prog 157=some ([TyS.ss],false):=by kernel_rfl
theorem Iz:tyk Tryz.prog 158=some (TyK.struct [(0,(false,1)),(1,(false,1)),(2,(false,1))]):=by kernel_rfl
theorem IA:shp Tryz.prog 158=some (true,3):=by kernel_rfl
theorem IB:zer Tryz.prog 158=some [AV.nilMap,AV.nilMap,AV.nilMap]:=by kernel_rfl
theorem IC:al Tryz.prog 158=false:=by kernel_rfl
theorem xc:aB Tryz.prog 158 0=some (0,false,1):=by kernel_rfl
theorem xd:aB Tryz.prog 158 1=some (1,false,1):=by kernel_rfl
theorem xe:aB Tryz.prog 158 2=some (2,false,1):=by kernel_rfl
theorem ID:tyk Tryz.prog 159=some (TyK.struct [(0,(false,1)),(1,(false,1)),(2,(false,1))]):=by kernel_rfl
theorem IE:shp Tryz.prog 159=some (true,3):=by kernel_rfl
theorem IF:zer Tryz.prog 159=some [AV.nilMap,AV.nilMap,AV.nilMap]:=by kernel_rfl
theorem IG:al Tryz.prog 159=false:=by kernel_rfl
theorem xf:aB Tryz.prog 159 0=some (0,false,1):=by kernel_rfl
theorem xg:aB Tryz.prog 159 1=some (1,false,1):=by kernel_rfl
theorem xh:aB Tryz.prog 159 2=some (2,false,1):=by kernel_rfl
theorem IH:tyk Tryz.prog 160=some TyK.other:=by kernel_rfl
theorem II:shp Tryz.prog 160=some (false,1):=by kernel_rfl
theorem IJ:zer Tryz.prog 160=some [(AV.tuple [AV.nilSl,(AV.bool false)])]:=by kernel_rfl
theorem IK:al Tryz.prog 160=false:=by kernel_rfl
theorem IL:tyk Tryz.prog 161=some TyK.func:=by kernel_rfl
theorem IM:shp Tryz.prog 161=some (false,1):=by kernel_rfl
theorem IN:zer Tryz.prog 161=some [AV.nilFn]:=by kernel_rfl
theorem IP:al Tryz.prog 161=false:=by kernel_rfl
theorem IQ:tyk Tryz.prog 162=some (TyK.struct [(0,(false,1)),(1,(true,3))]):=by kernel_rfl
theorem IS:shp Tryz.prog 162=some (true,4):=by kernel_rfl
theorem IT:zer Tryz.prog 162=some [(AV.str []),(AV.int .i64 0),(AV.int .i64 0),(AV.str [])]:=by kernel_rfl
theorem IU:al Tryz.prog 162=false:=by kernel_rfl
theorem IV:aW Tryz.prog 10 162=some [TyS.ss,(TyS.si .i64),(TyS.si .i64),TyS.ss]:=by kernel_rfl
theorem IW:Tryz.prog.eqGuardType Tryz.prog.depth 162=false:=by kernel_rfl
theorem xi:aB Tryz.prog 162 0=some (0,false,1):=by kernel_rfl
theorem xj:aB Tryz.prog 162 1=some (1,true,3):=by kernel_rfl
theorem IX:tyk Tryz.prog 163=some (TyK.struct [(0,(false,1)),(1,(true,3))]):=by kernel_rfl
theorem IY:shp Tryz.prog 163=some (true,4):=by kernel_rfl
theorem IZ:zer Tryz.prog 163=some [(AV.str []),(AV.int .i64 0),(AV.int .i64 0),(AV.str [])]:=by kernel_rfl
theorem I0:al Tryz.prog 163=false:=by kernel_rfl
theorem I1:aW Tryz.prog 10 163=some [TyS.ss,(TyS.si .i64),(TyS.si .i64),TyS.ss]:=by kernel_rfl
theorem I2:Tryz.prog.eqGuardType Tryz.prog.depth 163=false:=by kernel_rfl
theorem xk:aB Tryz.prog 163 0=some (0,false,1):=by kernel_rfl
theorem xl:aB Tryz.prog 163 1=some (1,true,3):=by kernel_rfl
theorem I3:tyk Tryz.prog 164=some TyK.func:=by kernel_rfl
theorem I4:shp Tryz.prog 164=some (false,1):=by kernel_rfl
theorem I5:zer Tryz.prog 164=some [AV.nilFn]:=by kernel_rfl
theorem I6:al Tryz.prog 164=false:=by kernel_rfl
theorem I7:tyk Tryz.prog 165=some (TyK.ptr 5):=by kernel_rfl
theorem I8:shp Tryz.prog 165=some (false,1):=by kernel_rfl
theorem I9:zer Tryz.prog 165=some [AV.nilPtr]:=by kernel_rfl
theorem Ja:al Tryz.prog 165=false:=by kernel_rfl
theorem Jb:tyk Tryz.prog 166=some TyK.func:=by kernel_rfl
theorem Jc:shp Tryz.prog 166=some (false,1):=by kernel_rfl
theorem Jd:zer Tryz.prog 166=some [AV.nilFn]:=by kernel_rfl
theorem Je:al Tryz.prog 166=false:=by kernel_rfl
theorem Jf:tyk Tryz.prog 167=some TyK.func:=by kernel_rfl
theorem Jg:shp Tryz.prog 167=some (false,1):=by kernel_rfl
theorem Jh:zer Tryz.prog 167=some [AV.nilFn]:=by kernel_rfl
theorem Ji:al Tryz.prog 167=false:=by kernel_rfl
theorem Jj:tyk Tryz.prog 168=some TyK.other:=by kernel_rfl
theorem Jk:shp Tryz.prog 168=some (false,1):=by kernel_rfl
theorem Jl:zer Tryz.prog 168=some [(AV.tuple [(AV.int .i64 0),(AV.bool false)])]:=by kernel_rfl
theorem Jm:al Tryz.prog 168=false:=by kernel_rfl
theorem Jn:tyk Tryz.prog 169=some TyK.func:=by kernel_rfl
theorem Jo:shp Tryz.prog 169=some (false,1):=by kernel_rfl
theorem Jp:zer Tryz.prog 169=some [AV.nilFn]:=by kernel_rfl
theorem Jq:al Tryz.prog 169=false:=by kernel_rfl
theorem Jr:tyk Tryz.prog 170=some TyK.func:=by kernel_rfl
theorem Js:shp Tryz.prog 170=some (false,1):=by kernel_rfl
theorem Jt:zer Tryz.prog 170=some [AV.nilFn]:=by kernel_rfl
theorem Ju:al Tryz.prog 170=false:=by kernel_rfl
theorem Jv:tyk Tryz.prog 171=some TyK.func:=by kernel_rfl
theorem Jw:shp Tryz.prog 171=some (false,1):=by kernel_rfl
theorem Jx:zer Tryz.prog 171=some [AV.nilFn]:=by kernel_rfl
theorem Jy:al Tryz.prog 171=false:=by kernel_rfl
theorem Jz:tyk Tryz.prog 172=some TyK.func:=by kernel_rfl
theorem JA:shp Tryz.prog 172=some (false,1):=by kernel_rfl
theorem JB:zer Tryz.prog 172=some [AV.nilFn]:=by kernel_rfl
theorem JC:al Tryz.prog 172=false:=by kernel_rfl
theorem JD:tyk Tryz.prog 173=some TyK.other:=by kernel_rfl
theorem JE:shp Tryz.prog 173=some (false,1):=by kernel_rfl
theorem JF:zer Tryz.prog 173=some [(AV.tuple [AV.undef,(AV.int .i64 0)])]:=by kernel_rfl
theorem JG:al Tryz.prog 173=false:=by kernel_rfl
theorem JH:tyk Tryz.prog 174=some TyK.func:=by kernel_rfl
theorem JI:shp Tryz.prog 174=some (false,1):=by kernel_rfl
theorem JJ:zer Tryz.prog 174=some [AV.nilFn]:=by kernel_rfl
theorem JK:al Tryz.prog 174=false:=by kernel_rfl
theorem JL:tyk Tryz.prog 175=some TyK.func:=by kernel_rfl
theorem JM:shp Tryz.prog 175=some (false,1):=by kernel_rfl
theorem JN:zer Tryz.prog 175=some [AV.nilFn]:=by kernel_rfl
theorem JO:al Tryz.prog 175=false:=by kernel_rfl
theorem JP:tyk Tryz.prog 176=some TyK.func:=by kernel_rfl
theorem JQ:shp Tryz.prog 176=some (false,1):=by kernel_rfl
theorem JR:zer Tryz.prog 176=some [AV.nilFn]:=by kernel_rfl
theorem JS:al Tryz.prog 176=false:=by kernel_rfl
theorem JT:tyk Tryz.prog 177=some TyK.func:=by kernel_rfl
theorem JU:shp Tryz.prog 177=some (false,1):=by kernel_rfl
theorem JV:zer Tryz.prog 177=some [AV.nilFn]:=by kernel_rfl
theorem JW:al Tryz.prog 177=false:=by kernel_rfl
theorem JX:tyk Tryz.prog 178=some (TyK.struct [(0,(false,1)),(1,(false,1))]):=by kernel_rfl
theorem JY:shp Tryz.prog 178=some (true,2):=by kernel_rfl
theorem JZ:zer Tryz.prog 178=some [(AV.str []),(AV.bool false)]:=by kernel_rfl
theorem J0:al Tryz.prog 178=false:=by kernel_rfl
theorem J1:aW Tryz.prog 10 178=some [TyS.ss,TyS.sb]:=by kernel_rfl
theorem J2:Tryz.prog.eqGuardType Tryz.prog.depth 178=false:=by kernel_rfl
theorem xm:aB Tryz.prog 178 0=some (0,false,1):=by kernel_rfl
theorem xn:aB Tryz.prog 178 1=some (1,false,1):=by kernel_rfl
theorem J3:tyk Tryz.prog 179=some (TyK.struct [(0,(false,1)),(1,(false,1))]):=by kernel_rfl
theorem J4:shp Tryz.prog 179=some (true,2):=by kernel_rfl
theorem J5:zer Tryz.prog 179=some [(AV.str []),(AV.bool false)]:=by kernel_rfl
theorem J6:al Tryz.prog 179=false:=by kernel_rfl
theorem J7:aW Tryz.prog 10 179=some [TyS.ss,TyS.sb]:=by kernel_rfl
theorem J8:Tryz.prog.eqGuardType Tryz.prog.depth 179=false:=by kernel_rfl
theorem xo:aB Tryz.prog 179 0=some (0,false,1):=by kernel_rfl
theorem xp:aB Tryz.prog 179 1=some (1,false,1):=by kernel_rfl
theorem J9:tyk Tryz.prog 180=some TyK.func:=by kernel_rfl
theorem Ka:shp Tryz.prog 180=some (false,1):=by kernel_rfl
theorem Kb:zer Tryz.prog 180=some [AV.nilFn]:=by kernel_rfl
theorem Kc:al Tryz.prog 180=false:=by kernel_rfl
theorem Ke:tyk Tryz.prog 181=some TyK.func:=by kernel_rfl
theorem Kf:shp Tryz.prog 181=some (false,1):=by kernel_rfl
theorem Kg:zer Tryz.prog 181=some [AV.nilFn]:=by kernel_rfl
theorem Kh:al Tryz.prog 181=false:=by kernel_rfl
theorem Ki:tyk Tryz.prog 182=some TyK.func:=by kernel_rfl
theorem Kj:shp Tryz.prog 182=some (false,1):=by kernel_rfl
theorem Kk:zer Tryz.prog 182=some [AV.nilFn]:=by kernel_rfl
theorem Kl:al Tryz.prog 182=false:=by kernel_rfl
theorem Km:tyk Tryz.prog 183=some TyK.func:=by kernel_rfl
theorem Kn:shp Tryz.prog 183=some (false,1):=by kernel_rfl
theorem Ko:zer Tryz.prog 183=some [AV.nilFn]:=by kernel_rfl
theorem Kq:al Tryz.prog 183=false:=by kernel_rfl
theorem Kr:tyk Tryz.prog 184=some (TyK.slice 189 true 257 257):=by kernel_rfl
theorem Ks:shp Tryz.prog 184=some (false,1):=by kernel_rfl
theorem Kt:zer Tryz.prog 184=some [AV.nilSl]:=by kernel_rfl
theorem Ku:al Tryz.prog 184=false:=by kernel_rfl
theorem Kv:tyk Tryz.prog 185=some TyK.func:=by kernel_rfl
theorem Kw:shp Tryz.prog 185=some (false,1):=by kernel_rfl
theorem Kx:zer Tryz.prog 185=some [AV.nilFn]:=by kernel_rfl
theorem Ky:al Tryz.prog 185=false:=by kernel_rfl
theorem Kz:tyk Tryz.prog 186=some (TyK.arr 256 4 false 1):=by kernel_rfl
theorem KQ:shp Tryz.prog 186=some (true,256):=by kernel_rfl
theorem KU:al Tryz.prog 186=false:=by kernel_rfl
theorem KW:tyk Tryz.prog 187=some (TyK.arr 256 4 false 1):=by kernel_rfl
theorem KX:shp Tryz.prog 187=some (true,256):=by kernel_rfl
theorem KY:al Tryz.prog 187=false:=by kernel_rfl
theorem KZ:tyk Tryz.prog 188=some (TyK.struct [(0,(false,1)),(1,(true,256))]):=by kernel_rfl
theorem La:shp Tryz.prog 188=some (true,257):=by kernel_rfl
theorem Lb:al Tryz.prog 188=false:=by kernel_rfl
theorem xq:aB Tryz.prog 188 0=some (0,false,1):=by kernel_rfl
theorem xr:aB Tryz.prog 188 1=some (1,true,256):=by kernel_rfl
theorem Lc:tyk Tryz.prog 189=some (TyK.struct [(0,(false,1)),(1,(true,256))]):=by kernel_rfl
theorem Ld:shp Tryz.prog 189=some (true,257):=by kernel_rfl
theorem Le:al Tryz.prog 189=false:=by kernel_rfl
theorem xt:aB Tryz.prog 189 0=some (0,false,1):=by kernel_rfl
theorem xu:aB Tryz.prog 189 1=some (1,true,256):=by kernel_rfl
theorem Lf:tyk Tryz.prog 190=some TyK.other:=by kernel_rfl
theorem Lg:shp Tryz.prog 190=some (false,1):=by kernel_rfl
theorem Lh:zer Tryz.prog 190=some [AV.nilPtr]:=by kernel_rfl
theorem Li:al Tryz.prog 190=false:=by kernel_rfl
theorem Lj:tyk Tryz.prog 191=some TyK.func:=by kernel_rfl
theorem Lk:shp Tryz.prog 191=some (false,1):=by kernel_rfl
theorem Ll:zer Tryz.prog 191=some [AV.nilFn]:=by kernel_rfl
theorem Lm:al Tryz.prog 191=false:=by kernel_rfl
theorem Ln:tyk Tryz.prog 192=some TyK.func:=by kernel_rfl
theorem Lo:shp Tryz.prog 192=some (false,1):=by kernel_rfl
theorem Lp:zer Tryz.prog 192=some [AV.nilFn]:=by kernel_rfl
theorem Lq:al Tryz.prog 192=false:=by kernel_rfl
theorem Lr:tyk Tryz.prog 193=some TyK.func:=by kernel_rfl
theorem Ls:shp Tryz.prog 193=some (false,1):=by kernel_rfl
theorem Lt:zer Tryz.prog 193=some [AV.nilFn]:=by kernel_rfl
theorem Lu:al Tryz.prog 193=false:=by kernel_rfl
theorem Lv:tyk Tryz.prog 194=some (TyK.map 9 192):=by kernel_rfl
theorem Lw:shp Tryz.prog 194=some (false,1):=by kernel_rfl
theorem Lx:zer Tryz.prog 194=some [AV.nilMap]:=by kernel_rfl
theorem Ly:al Tryz.prog 194=false:=by kernel_rfl
theorem Lz:l5 Tryz.prog 194=some ([TyS.ss],(false,AV.nilFn)):=by kernel_rfl
theorem LA:eY Tryz.prog 194=some ([TyS.ss],false):=by kernel_rfl
theorem LB:tyk Tryz.prog 195=some TyK.other:=by kernel_rfl
theorem LC:shp Tryz.prog 195=some (false,1):=by kernel_rfl
theorem LD:zer Tryz.prog 195=some [(AV.tuple [(AV.str []),(AV.bool false)])]:=by kernel_rfl
theorem LF:al Tryz.prog 195=false:=by kernel_rfl
theorem LG:tyk Tryz.prog 196=some TyK.func:=by kernel_rfl
theorem LH:shp Tryz.prog 196=some (false,1):=by kernel_rfl
theorem LI:zer Tryz.prog 196=some [AV.nilFn]:=by kernel_rfl
theorem LJ:al Tryz.prog 196=false:=by kernel_rfl
theorem LM:tyk Tryz.prog 197=some TyK.func:=by kernel_rfl
theorem LN:shp Tryz.prog 197=some (false,1):=by kernel_rfl
theorem LO:zer Tryz.prog 197=some [AV.nilFn]:=by kernel_rfl
theorem LP:al Tryz.prog 197=false:=by kernel_rfl
theorem LQ:tyk Tryz.prog 198=some TyK.other:=by kernel_rfl
theorem LR:shp Tryz.prog 198=some (false,1):=by kernel_rfl
theorem LS:zer Tryz.prog 198=some [(AV.tuple [AV.nilFn,(AV.bool false)])]:=by kernel_rfl
theorem LU:al Tryz.prog 198=false:=by kernel_rfl
theorem LV:tyk Tryz.prog 199=some TyK.func:=by kernel_rfl
theorem LW:shp Tryz.prog 199=some (false,1):=by kernel_rfl
theorem LX:zer Tryz.prog 199=some [AV.nilFn]:=by kernel_rfl
theorem LY:al Tryz.prog 199=false:=by kernel_rfl
theorem LZ:tyk Tryz.prog 200=some TyK.other:=by kernel_rfl
theorem L3:shp Tryz.prog 200=some (false,1):=by kernel_rfl
theorem L4:zer Tryz.prog 200=some [(AV.tuple [(AV.int .i64 0),AV.nilSl,(AV.int .i64 0)])]:=by kernel_rfl
theorem L5:al Tryz.prog 200=false:=by kernel_rfl
theorem L6:tyk Tryz.prog 201=some TyK.func:=by kernel_rfl
theorem L7:shp Tryz.prog 201=some (false,1):=by kernel_rfl
theorem L8:zer Tryz.prog 201=some [AV.nilFn]:=by kernel_rfl
theorem L9:al Tryz.prog 201=false:=by kernel_rfl
theorem Ma:tyk Tryz.prog 202=some TyK.func:=by kernel_rfl
theorem Mb:shp Tryz.prog 202=some (false,1):=by kernel_rfl
theorem Mc:zer Tryz.prog 202=some [AV.nilFn]:=by kernel_rfl
theorem Md:al Tryz.prog 202=false:=by kernel_rfl
theorem Me:tyk Tryz.prog 203=some TyK.func:=by kernel_rfl
theorem Mf:shp Tryz.prog 203=some (false,1):=by kernel_rfl
theorem Mg:zer Tryz.prog 203=some [AV.nilFn]:=by kernel_rfl
theorem Mh:al Tryz.prog 203=false:=by kernel_rfl
theorem Mi:tyk Tryz.prog 204=some TyK.func:=by kernel_rfl
theorem Mj:shp Tryz.prog 204=some (false,1):=by kernel_rfl
theorem Mk:zer Tryz.prog 204=some [AV.nilFn]:=by kernel_rfl
theorem Ml:al Tryz.prog 204=false:=by kernel_rfl
theorem Mm:tyk Tryz.prog 205=some TyK.func:=by kernel_rfl
theorem Mn:shp Tryz.prog 205=some (false,1):=by kernel_rfl
theorem Mo:zer Tryz.prog 205=some [AV.nilFn]:=by kernel_rfl
theorem Mp:al Tryz.prog 205=false:=by kernel_rfl
theorem Mq:tyk Tryz.prog 206=some TyK.func:=by kernel_rfl
theorem Mr:shp Tryz.prog 206=some (false,1):=by kernel_rfl
theorem Ms:zer Tryz.prog 206=some [AV.nilFn]:=by kernel_rfl
theorem Mt:al Tryz.prog 206=false:=by kernel_rfl
theorem Mu:tyk Tryz.prog 207=some TyK.func:=by kernel_rfl
theorem Mv:shp Tryz.prog 207=some (false,1):=by kernel_rfl
theorem Mw:zer Tryz.prog 207=some [AV.nilFn]:=by kernel_rfl
theorem Mx:al Tryz.prog 207=false:=by kernel_rfl
theorem My:tyk Tryz.prog 208=some TyK.func:=by kernel_rfl
theorem Mz:shp Tryz.prog 208=some (false,1):=by kernel_rfl
theorem MA:zer Tryz.prog 208=some [AV.nilFn]:=by kernel_rfl
theorem MB:al Tryz.prog 208=false:=by kernel_rfl
theorem MC:tyk Tryz.prog 209=some TyK.func:=by kernel_rfl
theorem MD:shp Tryz.prog 209=some (false,1):=by kernel_rfl
theorem MF:zer Tryz.prog 209=some [AV.nilFn]:=by kernel_rfl
theorem MG:al Tryz.prog 209=false:=by kernel_rfl
theorem MH:tyk Tryz.prog 210=some TyK.func:=by kernel_rfl
theorem MI:shp Tryz.prog 210=some (false,1):=by kernel_rfl
theorem MJ:zer Tryz.prog 210=some [AV.nilFn]:=by kernel_rfl
theorem MK:al Tryz.prog 210=false:=by kernel_rfl
theorem ML:tyk Tryz.prog 211=some TyK.func:=by kernel_rfl
theorem MM:shp Tryz.prog 211=some (false,1):=by kernel_rfl
theorem MN:zer Tryz.prog 211=some [AV.nilFn]:=by kernel_rfl
theorem MO:al Tryz.prog 211=false:=by kernel_rfl
theorem MP:tyk Tryz.prog 212=some (TyK.struct [(0,(false,1)),(1,(false,1)),(2,(false,1))]):=by kernel_rfl
theorem MQ:shp Tryz.prog 212=some (true,3):=by kernel_rfl
theorem MR:zer Tryz.prog 212=some [(AV.str []),(AV.bool false),(AV.str [])]:=by kernel_rfl
theorem MS:al Tryz.prog 212=false:=by kernel_rfl
theorem MT:aW Tryz.prog 10 212=some [TyS.ss,TyS.sb,TyS.ss]:=by kernel_rfl
theorem MU:Tryz.prog.eqGuardType Tryz.prog.depth 212=false:=by kernel_rfl
theorem xv:aB Tryz.prog 212 0=some (0,false,1):=by kernel_rfl
theorem xw:aB Tryz.prog 212 1=some (1,false,1):=by kernel_rfl
theorem xx:aB Tryz.prog 212 2=some (2,false,1):=by kernel_rfl
theorem MV:tyk Tryz.prog 213=some (TyK.struct [(0,(false,1)),(1,(false,1)),(2,(false,1))]):=by kernel_rfl
theorem MW:shp Tryz.prog 213=some (true,3):=by kernel_rfl
theorem MX:zer Tryz.prog 213=some [(AV.str []),(AV.bool false),(AV.str [])]:=by kernel_rfl
theorem MY:al Tryz.prog 213=false:=by kernel_rfl
theorem MZ:aW Tryz.prog 10 213=some [TyS.ss,TyS.sb,TyS.ss]:=by kernel_rfl
theorem M0:Tryz.prog.eqGuardType Tryz.prog.depth 213=false:=by kernel_rfl
theorem xy:aB Tryz.prog 213 0=some (0,false,1):=by kernel_rfl
theorem xz:aB Tryz.prog 213 1=some (1,false,1):=by kernel_rfl
theorem xA:aB Tryz.prog 213 2=some (2,false,1):=by kernel_rfl
theorem M3:tyk Tryz.prog 214=some TyK.func:=by kernel_rfl
theorem M4:shp Tryz.prog 214=some (false,1):=by kernel_rfl
theorem M5:zer Tryz.prog 214=some [AV.nilFn]:=by kernel_rfl
theorem M6:al Tryz.prog 214=false:=by kernel_rfl
theorem M7:tyk Tryz.prog 215=some TyK.func:=by kernel_rfl
theorem M8:shp Tryz.prog 215=some (false,1):=by kernel_rfl
theorem M9:zer Tryz.prog 215=some [AV.nilFn]:=by kernel_rfl
theorem Na:al Tryz.prog 215=false:=by kernel_rfl
theorem Nb:tyk Tryz.prog 216=some TyK.func:=by kernel_rfl
theorem Nc:shp Tryz.prog 216=some (false,1):=by kernel_rfl
theorem Nd:zer Tryz.prog 216=some [AV.nilFn]:=by kernel_rfl
theorem Nf:al Tryz.prog 216=false:=by kernel_rfl
theorem Ng:tyk Tryz.prog 217=some TyK.other:=by kernel_rfl
theorem Nh:shp Tryz.prog 217=some (false,1):=by kernel_rfl
theorem Ni:zer Tryz.prog 217=some [(AV.tuple [AV.undef,(AV.str []),(AV.bool false)])]:=by kernel_rfl
theorem Nj:al Tryz.prog 217=false:=by kernel_rfl
theorem Nk:tyk Tryz.prog 218=some TyK.func:=by kernel_rfl
theorem Nl:shp Tryz.prog 218=some (false,1):=by kernel_rfl
theorem Nn:zer Tryz.prog 218=some [AV.nilFn]:=by kernel_rfl
theorem Np:al Tryz.prog 218=false:=by kernel_rfl
theorem Nq:tyk Tryz.prog 219=some TyK.func:=by kernel_rfl
theorem Nr:shp Tryz.prog 219=some (false,1):=by kernel_rfl
theorem Ns:zer Tryz.prog 219=some [AV.nilFn]:=by kernel_rfl
theorem Nt:al Tryz.prog 219=false:=by kernel_rfl
theorem Nu:tyk Tryz.prog 220=some TyK.func:=by kernel_rfl
theorem Nv:shp Tryz.prog 220=some (false,1):=by kernel_rfl
theorem Nw:zer Tryz.prog 220=some [AV.nilFn]:=by kernel_rfl
theorem Nx:al Tryz.prog 220=false:=by kernel_rfl
theorem Ny:tyk Tryz.prog 221=some TyK.other:=by kernel_rfl
theorem Nz:shp Tryz.prog 221=some (false,1):=by kernel_rfl
theorem NA:zer Tryz.prog 221=some [(AV.tuple [AV.nilSl,(AV.int .i64 0)])]:=by kernel_rfl
theorem NB:al Tryz.prog 221=false:=by kernel_rfl
theorem NC:tyk Tryz.prog 222=some TyK.func:=by kernel_rfl
theorem ND:shp Tryz.prog 222=some (false,1):=by kernel_rfl
theorem NF:zer Tryz.prog 222=some [AV.nilFn]:=by kernel_rfl
theorem NG:al Tryz.prog 222=false:=by kernel_rfl
theorem NH:tyk Tryz.prog 223=some TyK.func:=by kernel_rfl
theorem NI:shp Tryz.prog 223=some (false,1):=by kernel_rfl
theorem NJ:zer Tryz.prog 223=some [AV.nilFn]:=by kernel_rfl
theorem NK:al Tryz.prog 223=false:=by kernel_rfl
theorem NL:tyk Tryz.prog 224=some TyK.func:=by kernel_rfl
theorem NM:shp Tryz.prog 224=some (false,1):=by kernel_rfl
theorem NN:zer Tryz.prog 224=some [AV.nilFn]:=by kernel_rfl
theorem NO:al Tryz.prog 224=false:=by kernel_rfl
theorem NP:tyk Tryz.prog 225=some (TyK.arr 256 4 false 1):=by kernel_rfl
theorem NQ:shp Tryz.prog 225=some (true,256):=by kernel_rfl
theorem NR:al Tryz.prog 225=false:=by kernel_rfl
theorem NS:tyk Tryz.prog 226=some TyK.other:=by kernel_rfl
theorem NU:shp Tryz.prog 226=some (false,1):=by kernel_rfl
theorem NV:zer Tryz.prog 226=some [(AV.tuple [AV.undef,(AV.bool false)])]:=by kernel_rfl
theorem NW:al Tryz.prog 226=false:=by kernel_rfl
theorem NX:tyk Tryz.prog 227=some TyK.func:=by kernel_rfl
theorem NY:shp Tryz.prog 227=some (false,1):=by kernel_rfl
theorem NZ:zer Tryz.prog 227=some [AV.nilFn]:=by kernel_rfl
theorem N0:al Tryz.prog 227=false:=by kernel_rfl
theorem N1:tyk Tryz.prog 228=some TyK.func:=by kernel_rfl
theorem N2:shp Tryz.prog 228=some (false,1):=by kernel_rfl
theorem N3:zer Tryz.prog 228=some [AV.nilFn]:=by kernel_rfl
theorem N4:al Tryz.prog 228=false:=by kernel_rfl
theorem N5:tyk Tryz.prog 229=some (TyK.ptr 225):=by kernel_rfl
theorem N6:shp Tryz.prog 229=some (false,1):=by kernel_rfl
theorem N7:zer Tryz.prog 229=some [AV.nilPtr]:=by kernel_rfl
theorem N8:al Tryz.prog 229=false:=by kernel_rfl
theorem N9:tyk Tryz.prog 230=some (TyK.ptr 232):=by kernel_rfl
theorem Oa:shp Tryz.prog 230=some (false,1):=by kernel_rfl
theorem Ob:zer Tryz.prog 230=some [AV.nilPtr]:=by kernel_rfl
theorem Oc:al Tryz.prog 230=false:=by kernel_rfl
theorem Od:tyk Tryz.prog 231=some (TyK.struct [(0,(false,1))]):=by kernel_rfl
theorem Oe:shp Tryz.prog 231=some (true,1):=by kernel_rfl
theorem Of:zer Tryz.prog 231=some [(AV.str [])]:=by kernel_rfl
theorem Og:al Tryz.prog 231=false:=by kernel_rfl
theorem Oh:aW Tryz.prog 10 231=some [TyS.ss]:=by kernel_rfl
theorem Oi:Tryz.prog.eqGuardType Tryz.prog.depth 231=false:=by kernel_rfl
theorem xB:aB Tryz.prog 231 0=some (0,false,1):=by kernel_rfl
theorem Oj:tyk Tryz.prog 232=some (TyK.struct [(0,(false,1))]):=by kernel_rfl
theorem Ol:shp Tryz.prog 232=some (true,1):=by kernel_rfl
theorem Om:zer Tryz.prog 232=some [(AV.str [])]:=by kernel_rfl
theorem Oo:al Tryz.prog 232=false:=by kernel_rfl
theorem Oq:aW Tryz.prog 10 232=some [TyS.ss]:=by kernel_rfl
theorem Ot:Tryz.prog.eqGuardType Tryz.prog.depth 232=false:=by kernel_rfl
theorem xC:aB Tryz.prog 232 0=some (0,false,1):=by kernel_rfl
theorem Ou:tyk Tryz.prog 233=some (TyK.ptr 258):=by kernel_rfl
theorem Ov:shp Tryz.prog 233=some (false,1):=by kernel_rfl
theorem Ow:zer Tryz.prog 233=some [AV.nilPtr]:=by kernel_rfl
theorem Ox:al Tryz.prog 233=false:=by kernel_rfl
theorem Oy:tyk Tryz.prog 234=some TyK.func:=by kernel_rfl
theorem Oz:shp Tryz.prog 234=some (false,1):=by kernel_rfl
theorem OA:zer Tryz.prog 234=some [AV.nilFn]:=by kernel_rfl
theorem OB:al Tryz.prog 234=false:=by kernel_rfl
theorem OC:tyk Tryz.prog 235=some (TyK.ptr 237):=by kernel_rfl
theorem OD:shp Tryz.prog 235=some (false,1):=by kernel_rfl
theorem OE:zer Tryz.prog 235=some [AV.nilPtr]:=by kernel_rfl
theorem OF:al Tryz.prog 235=false:=by kernel_rfl
theorem OG:tyk Tryz.prog 236=some (TyK.struct [(0,(false,1))]):=by kernel_rfl
theorem OH:shp Tryz.prog 236=some (true,1):=by kernel_rfl
theorem OI:zer Tryz.prog 236=some [AV.nilSl]:=by kernel_rfl
theorem OJ:al Tryz.prog 236=false:=by kernel_rfl
theorem xD:aB Tryz.prog 236 0=some (0,false,1):=by kernel_rfl
theorem OK:tyk Tryz.prog 237=some (TyK.struct [(0,(false,1))]):=by kernel_rfl
theorem OL:shp Tryz.prog 237=some (true,1):=by kernel_rfl
theorem OM:zer Tryz.prog 237=some [AV.nilSl]:=by kernel_rfl
theorem ON:al Tryz.prog 237=false:=by kernel_rfl
theorem xE:aB Tryz.prog 237 0=some (0,false,1):=by kernel_rfl
theorem OP:tyk Tryz.prog 238=some TyK.func:=by kernel_rfl
theorem OQ:shp Tryz.prog 238=some (false,1):=by kernel_rfl
theorem OR:zer Tryz.prog 238=some [AV.nilFn]:=by kernel_rfl
theorem OS:al Tryz.prog 238=false:=by kernel_rfl
theorem OT:tyk Tryz.prog 239=some (TyK.int .u64):=by kernel_rfl
theorem OU:shp Tryz.prog 239=some (false,1):=by kernel_rfl
theorem OV:zer Tryz.prog 239=some [(AV.int .u64 0)]:=by kernel_rfl
theorem OW:al Tryz.prog 239=false:=by kernel_rfl
theorem OX:aW Tryz.prog 10 239=some [(TyS.si .u64)]:=by kernel_rfl
theorem OY:Tryz.prog.eqGuardType Tryz.prog.depth 239=false:=by kernel_rfl
theorem OZ:tyk Tryz.prog 240=some TyK.func:=by kernel_rfl
theorem O0:shp Tryz.prog 240=some (false,1):=by kernel_rfl
theorem O2:zer Tryz.prog 240=some [AV.nilFn]:=by kernel_rfl
theorem O3:al Tryz.prog 240=false:=by kernel_rfl
theorem O4:tyk Tryz.prog 241=some TyK.other:=by kernel_rfl
theorem O5:shp Tryz.prog 241=some (false,1):=by kernel_rfl
theorem O6:zer Tryz.prog 241=some [(AV.tuple [(AV.int .i32 0),(AV.int .i64 0)])]:=by kernel_rfl
theorem O7:al Tryz.prog 241=false:=by kernel_rfl
theorem O8:tyk Tryz.prog 242=some TyK.func:=by kernel_rfl
theorem O9:shp Tryz.prog 242=some (false,1):=by kernel_rfl
theorem Pa:zer Tryz.prog 242=some [AV.nilFn]:=by kernel_rfl
theorem Pb:al Tryz.prog 242=false:=by kernel_rfl
theorem Pd:tyk Tryz.prog 243=some TyK.func:=by kernel_rfl
theorem Pe:shp Tryz.prog 243=some (false,1):=by kernel_rfl
theorem Pf:zer Tryz.prog 243=some [AV.nilFn]:=by kernel_rfl
theorem Pg:al Tryz.prog 243=false:=by kernel_rfl
theorem Ph:tyk Tryz.prog 244=some TyK.func:=by kernel_rfl
theorem Pj:shp Tryz.prog 244=some (false,1):=by kernel_rfl
theorem Pk:zer Tryz.prog 244=some [AV.nilFn]:=by kernel_rfl
theorem Pl:al Tryz.prog 244=false:=by kernel_rfl
theorem Pm:tyk Tryz.prog 245=some (TyK.ptr 187):=by kernel_rfl
theorem Pn:shp Tryz.prog 245=some (false,1):=by kernel_rfl
theorem Po:zer Tryz.prog 245=some [AV.nilPtr]:=by kernel_rfl
theorem Pp:al Tryz.prog 245=false:=by kernel_rfl
theorem Pq:tyk Tryz.prog 246=some TyK.func:=by kernel_rfl
theorem Pr:shp Tryz.prog 246=some (false,1):=by kernel_rfl
theorem Pu:zer Tryz.prog 246=some [AV.nilFn]:=by kernel_rfl
theorem Pv:al Tryz.prog 246=false:=by kernel_rfl
theorem Pw:tyk Tryz.prog 247=some TyK.func:=by kernel_rfl
theorem Px:shp Tryz.prog 247=some (false,1):=by kernel_rfl
theorem Py:zer Tryz.prog 247=some [AV.nilFn]:=by kernel_rfl
theorem Pz:al Tryz.prog 247=false:=by kernel_rfl
theorem PA:tyk Tryz.prog 248=some (TyK.ptr 39):=by kernel_rfl
theorem PB:shp Tryz.prog 248=some (false,1):=by kernel_rfl
theorem PC:zer Tryz.prog 248=some [AV.nilPtr]:=by kernel_rfl
theorem PD:al Tryz.prog 248=false:=by kernel_rfl
theorem PE:tyk Tryz.prog 249=some TyK.func:=by kernel_rfl
theorem PF:shp Tryz.prog 249=some (false,1):=by kernel_rfl
theorem PH:zer Tryz.prog 249=some [AV.nilFn]:=by kernel_rfl
theorem PI:al Tryz.prog 249=false:=by kernel_rfl
theorem PJ:tyk Tryz.prog 250=some TyK.func:=by kernel_rfl
theorem PK:shp Tryz.prog 250=some (false,1):=by kernel_rfl
theorem PM:zer Tryz.prog 250=some [AV.nilFn]:=by kernel_rfl
theorem PN:al Tryz.prog 250=false:=by kernel_rfl
theorem PO:tyk Tryz.prog 251=some TyK.func:=by kernel_rfl
theorem PQ:shp Tryz.prog 251=some (false,1):=by kernel_rfl
theorem PS:zer Tryz.prog 251=some [AV.nilFn]:=by kernel_rfl
theorem PT:al Tryz.prog 251=false:=by kernel_rfl
theorem PU:tyk Tryz.prog 252=some TyK.func:=by kernel_rfl
theorem PW:shp Tryz.prog 252=some (false,1):=by kernel_rfl
theorem PX:zer Tryz.prog 252=some [AV.nilFn]:=by kernel_rfl
theorem PY:al Tryz.prog 252=false:=by kernel_rfl
theorem PZ:tyk Tryz.prog 253=some TyK.func:=by kernel_rfl
theorem P0:shp Tryz.prog 253=some (false,1):=by kernel_rfl
theorem P1:zer Tryz.prog 253=some [AV.nilFn]:=by kernel_rfl
theorem P2:al Tryz.prog 253=false:=by kernel_rfl
theorem P3:tyk Tryz.prog 254=some TyK.other:=by kernel_rfl
theorem P4:shp Tryz.prog 254=some (false,1):=by kernel_rfl
theorem P5:zer Tryz.prog 254=some [(AV.tuple [(AV.str []),(AV.str []),(AV.bool false)])]:=by kernel_rfl
theorem P6:al Tryz.prog 254=false:=by kernel_rfl
theorem P7:tyk Tryz.prog 255=some TyK.func:=by kernel_rfl
theorem P8:shp Tryz.prog 255=some (false,1):=by kernel_rfl
theorem P9:zer Tryz.prog 255=some [AV.nilFn]:=by kernel_rfl
theorem Qa:al Tryz.prog 255=false:=by kernel_rfl
theorem Qb:tyk Tryz.prog 256=some (TyK.slice 233 false 1 8):=by kernel_rfl
theorem Qc:shp Tryz.prog 256=some (false,1):=by kernel_rfl
theorem Qd:zer Tryz.prog 256=some [AV.nilSl]:=by kernel_rfl
theorem Qe:al Tryz.prog 256=false:=by kernel_rfl
theorem Qf:tyk Tryz.prog 257=some (TyK.struct [(0,(false,1)),(1,(false,1)),(2,(false,1)),(3,(false,1)),(4,(false,1))]):=by kernel_rfl
theorem Qg:shp Tryz.prog 257=some (true,5):=by kernel_rfl
theorem Qh:zer Tryz.prog 257=some [(AV.int .i64 0),(AV.int .i64 0),(AV.str []),(AV.str []),AV.nilSl]:=by kernel_rfl
theorem Qi:al Tryz.prog 257=false:=by kernel_rfl
theorem xF:aB Tryz.prog 257 0=some (0,false,1):=by kernel_rfl
theorem xG:aB Tryz.prog 257 1=some (1,false,1):=by kernel_rfl
theorem xH:aB Tryz.prog 257 2=some (2,false,1):=by kernel_rfl
theorem xI:aB Tryz.prog 257 3=some (3,false,1):=by kernel_rfl
theorem xJ:aB Tryz.prog 257 4=some (4,false,1):=by kernel_rfl
theorem Qj:tyk Tryz.prog 258=some (TyK.struct [(0,(false,1)),(1,(false,1)),(2,(false,1)),(3,(false,1)),(4,(false,1))]):=by kernel_rfl
theorem Qk:shp Tryz.prog 258=some (true,5):=by kernel_rfl
theorem Ql:zer Tryz.prog 258=some [(AV.int .i64 0),(AV.int .i64 0),(AV.str []),(AV.str []),AV.nilSl]:=by kernel_rfl
theorem Qm:al Tryz.prog 258=false:=by kernel_rfl
theorem xK:aB Tryz.prog 258 0=some (0,false,1):=by kernel_rfl
theorem xL:aB Tryz.prog 258 1=some (1,false,1):=by kernel_rfl
theorem xM:aB Tryz.prog 258 2=some (2,false,1):=by kernel_rfl
theorem xN:aB Tryz.prog 258 3=some (3,false,1):=by kernel_rfl
theorem xO:aB Tryz.prog 258 4=some (4,false,1):=by kernel_rfl
theorem Qn:tyk Tryz.prog 259=some TyK.func:=by kernel_rfl
theorem Qo:shp Tryz.prog 259=some (false,1):=by kernel_rfl
theorem Qp:zer Tryz.prog 259=some [AV.nilFn]:=by kernel_rfl
theorem Qq:al Tryz.prog 259=false:=by kernel_rfl
theorem Qr:tyk Tryz.prog 260=some TyK.func:=by kernel_rfl
theorem Qs:shp Tryz.prog 260=some (false,1):=by kernel_rfl
theorem Qt:zer Tryz.prog 260=some [AV.nilFn]:=by kernel_rfl
theorem Qu:al Tryz.prog 260=false:=by kernel_rfl
theorem Qv:tyk Tryz.prog 261=some TyK.func:=by kernel_rfl
theorem Qw:shp Tryz.prog 261=some (false,1):=by kernel_rfl
theorem Qx:zer Tryz.prog 261=some [AV.nilFn]:=by kernel_rfl
theorem Qy:al Tryz.prog 261=false:=by kernel_rfl
theorem Qz:tyk Tryz.prog 262=some TyK.func:=by kernel_rfl
theorem QA:shp Tryz.prog 262=some (false,1):=by kernel_rfl
theorem QB:zer Tryz.prog 262=some [AV.nilFn]:=by kernel_rfl
theorem QC:al Tryz.prog 262=false:=by kernel_rfl
theorem QD:tyk Tryz.prog 263=some TyK.func:=by kernel_rfl
theorem QE:shp Tryz.prog 263=some (false,1):=by kernel_rfl
theorem QF:zer Tryz.prog 263=some [AV.nilFn]:=by kernel_rfl
theorem QH:al Tryz.prog 263=false:=by kernel_rfl
theorem QI:tyk Tryz.prog 264=some TyK.func:=by kernel_rfl
theorem QJ:shp Tryz.prog 264=some (false,1):=by kernel_rfl
theorem QK:zer Tryz.prog 264=some [AV.nilFn]:=by kernel_rfl
theorem QL:al Tryz.prog 264=false:=by kernel_rfl
theorem QM:tyk Tryz.prog 265=some TyK.func:=by kernel_rfl
theorem QN:shp Tryz.prog 265=some (false,1):=by kernel_rfl
theorem QO:zer Tryz.prog 265=some [AV.nilFn]:=by kernel_rfl
theorem QP:al Tryz.prog 265=false:=by kernel_rfl
theorem QQ:tyk Tryz.prog 266=some TyK.func:=by kernel_rfl
theorem QR:shp Tryz.prog 266=some (false,1):=by kernel_rfl
theorem QS:zer Tryz.prog 266=some [AV.nilFn]:=by kernel_rfl
theorem QT:al Tryz.prog 266=false:=by kernel_rfl
theorem QU:tyk Tryz.prog 267=some TyK.func:=by kernel_rfl
theorem QV:shp Tryz.prog 267=some (false,1):=by kernel_rfl
theorem QW:zer Tryz.prog 267=some [AV.nilFn]:=by kernel_rfl
theorem QX:al Tryz.prog 267=false:=by kernel_rfl
theorem QY:tyk Tryz.prog 268=some (TyK.int .i64):=by kernel_rfl
theorem QZ:shp Tryz.prog 268=some (false,1):=by kernel_rfl
theorem Q0:zer Tryz.prog 268=some [(AV.int .i64 0)]:=by kernel_rfl
theorem Q1:al Tryz.prog 268=false:=by kernel_rfl
theorem Q2:aW Tryz.prog 10 268=some [(TyS.si .i64)]:=by kernel_rfl
theorem Q3:Tryz.prog.eqGuardType Tryz.prog.depth 268=false:=by kernel_rfl
theorem Q4:tyk Tryz.prog 269=some TyK.other:=by kernel_rfl
theorem Q5:shp Tryz.prog 269=some (false,1):=by kernel_rfl
theorem Q6:zer Tryz.prog 269=some [(AV.tuple [(AV.int .i64 0),AV.nilIface])]:=by kernel_rfl
theorem Q7:al Tryz.prog 269=false:=by kernel_rfl
theorem Q8:tyk Tryz.prog 270=some TyK.func:=by kernel_rfl
theorem Q9:shp Tryz.prog 270=some (false,1):=by kernel_rfl
theorem Ra:zer Tryz.prog 270=some [AV.nilFn]:=by kernel_rfl
theorem Rb:al Tryz.prog 270=false:=by kernel_rfl
theorem Rc:tyk Tryz.prog 271=some (TyK.ptr 304):=by kernel_rfl
theorem Re:shp Tryz.prog 271=some (false,1):=by kernel_rfl
theorem Rf:zer Tryz.prog 271=some [AV.nilPtr]:=by kernel_rfl
theorem Rg:al Tryz.prog 271=false:=by kernel_rfl
theorem Rh:tyk Tryz.prog 272=some TyK.func:=by kernel_rfl
theorem Ri:shp Tryz.prog 272=some (false,1):=by kernel_rfl
theorem Rj:zer Tryz.prog 272=some [AV.nilFn]:=by kernel_rfl
theorem Rk:al Tryz.prog 272=false:=by kernel_rfl
theorem Rl:tyk Tryz.prog 273=some TyK.func:=by kernel_rfl
theorem Rm:shp Tryz.prog 273=some (false,1):=by kernel_rfl
theorem Rn:zer Tryz.prog 273=some [AV.nilFn]:=by kernel_rfl
theorem Ro:al Tryz.prog 273=false:=by kernel_rfl
theorem Rq:tyk Tryz.prog 274=some TyK.func:=by kernel_rfl
theorem Rr:shp Tryz.prog 274=some (false,1):=by kernel_rfl
theorem Rt:zer Tryz.prog 274=some [AV.nilFn]:=by kernel_rfl
theorem Ru:al Tryz.prog 274=false:=by kernel_rfl
theorem Rv:tyk Tryz.prog 275=some TyK.func:=by kernel_rfl
theorem Rw:shp Tryz.prog 275=some (false,1):=by kernel_rfl
theorem Rx:zer Tryz.prog 275=some [AV.nilFn]:=by kernel_rfl
theorem Ry:al Tryz.prog 275=false:=by kernel_rfl
theorem Rz:tyk Tryz.prog 276=some TyK.func:=by kernel_rfl
theorem RA:shp Tryz.prog 276=some (false,1):=by kernel_rfl
theorem RB:zer Tryz.prog 276=some [AV.nilFn]:=by kernel_rfl
theorem RC:al Tryz.prog 276=false:=by kernel_rfl
theorem RE:tyk Tryz.prog 277=some TyK.func:=by kernel_rfl
theorem RF:shp Tryz.prog 277=some (false,1):=by kernel_rfl
theorem RG:zer Tryz.prog 277=some [AV.nilFn]:=by kernel_rfl
theorem RH:al Tryz.prog 277=false:=by kernel_rfl
theorem RI:tyk Tryz.prog 278=some (TyK.arr 24 5 false 1):=by kernel_rfl
theorem RJ:shp Tryz.prog 278=some (true,24):=by kernel_rfl
theorem RM:zer Tryz.prog 278=some [(AV.int .u8 0),(AV.int .u8 0),(AV.int .u8 0),(AV.int .u8 0),(AV.int .u8 0),(AV.int .u8 0),(AV.int .u8 0),(AV.int .u8 0),(AV.int .u8 0),(AV.int .u8 0),(AV.int .u8 0),(AV.int .u8 0),(AV.int .u8 0),(AV.int .u8 0),(AV.int .u8 0),(AV.int .u8 0),(AV.int .u8 0),(AV.int .u8 0),(AV.int .u8 0),(AV.int .u8 0),(AV.int .u8 0),(AV.int .u8 0),(AV.int .u8 0),(AV.int .u8 0)]:=by kernel_rfl
theorem RN:al Tryz.prog 278=false:=by kernel_rfl
theorem RO:tyk Tryz.prog 279=some (TyK.int .u64):=by kernel_rfl
theorem RQ:shp Tryz.prog 279=some (false,1):=by kernel_rfl
theorem RS:zer Tryz.prog 279=some [(AV.int .u64 0)]:=by kernel_rfl
theorem RT:al Tryz.prog 279=false:=by kernel_rfl
theorem RU:aW Tryz.prog 10 279=some [(TyS.si .u64)]:=by kernel_rfl
theorem RV:Tryz.prog.eqGuardType Tryz.prog.depth 279=false:=by kernel_rfl
theorem RW:tyk Tryz.prog 280=some TyK.func:=by kernel_rfl
theorem RX:shp Tryz.prog 280=some (false,1):=by kernel_rfl
theorem RY:zer Tryz.prog 280=some [AV.nilFn]:=by kernel_rfl
theorem RZ:al Tryz.prog 280=false:=by kernel_rfl
theorem R0:tyk Tryz.prog 281=some TyK.func:=by kernel_rfl
theorem R1:shp Tryz.prog 281=some (false,1):=by kernel_rfl
theorem R2:zer Tryz.prog 281=some [AV.nilFn]:=by kernel_rfl
theorem R3:al Tryz.prog 281=false:=by kernel_rfl
theorem R4:tyk Tryz.prog 282=some TyK.other:=by kernel_rfl
theorem R5:shp Tryz.prog 282=some (false,1):=by kernel_rfl
theorem R6:zer Tryz.prog 282=some [(AV.tuple [AV.nilSl,(AV.str [])])]:=by kernel_rfl
theorem R7:al Tryz.prog 282=false:=by kernel_rfl
theorem R8:tyk Tryz.prog 283=some TyK.func:=by kernel_rfl
theorem R9:shp Tryz.prog 283=some (false,1):=by kernel_rfl
theorem Sa:zer Tryz.prog 283=some [AV.nilFn]:=by kernel_rfl
theorem Sb:al Tryz.prog 283=false:=by kernel_rfl
theorem Sc:tyk Tryz.prog 284=some TyK.func:=by kernel_rfl
theorem Sd:shp Tryz.prog 284=some (false,1):=by kernel_rfl
theorem Se:zer Tryz.prog 284=some [AV.nilFn]:=by kernel_rfl
theorem Sf:al Tryz.prog 284=false:=by kernel_rfl
theorem Sg:tyk Tryz.prog 285=some TyK.func:=by kernel_rfl
theorem Sh:shp Tryz.prog 285=some (false,1):=by kernel_rfl
theorem Si:zer Tryz.prog 285=some [AV.nilFn]:=by kernel_rfl
theorem Sj:al Tryz.prog 285=false:=by kernel_rfl
theorem Sk:tyk Tryz.prog 286=some (TyK.arr 256 5 false 1):=by kernel_rfl
theorem Sl:shp Tryz.prog 286=some (true,256):=by kernel_rfl
theorem Sm:al Tryz.prog 286=false:=by kernel_rfl
theorem Sn:tyk Tryz.prog 287=some (TyK.struct [(0,(false,1)),(1,(false,1))]):=by kernel_rfl
theorem Sp:shp Tryz.prog 287=some (true,2):=by kernel_rfl
theorem Sr:zer Tryz.prog 287=some [(AV.int .u8 0),(AV.int .u8 0)]:=by kernel_rfl
theorem Ss:al Tryz.prog 287=false:=by kernel_rfl
theorem Su:aW Tryz.prog 10 287=some [(TyS.si .u8),(TyS.si .u8)]:=by kernel_rfl
theorem Sv:Tryz.prog.eqGuardType Tryz.prog.depth 287=false:=by kernel_rfl
theorem xP:aB Tryz.prog 287 0=some (0,false,1):=by kernel_rfl
theorem xQ:aB Tryz.prog 287 1=some (1,false,1):=by kernel_rfl
theorem Sw:tyk Tryz.prog 288=some (TyK.struct [(0,(false,1)),(1,(false,1))]):=by kernel_rfl
theorem Sx:shp Tryz.prog 288=some (true,2):=by kernel_rfl
theorem Sy:zer Tryz.prog 288=some [(AV.int .u8 0),(AV.int .u8 0)]:=by kernel_rfl
theorem Sz:al Tryz.prog 288=false:=by kernel_rfl
theorem SA:aW Tryz.prog 10 288=some [(TyS.si .u8),(TyS.si .u8)]:=by kernel_rfl
theorem SB:Tryz.prog.eqGuardType Tryz.prog.depth 288=false:=by kernel_rfl
theorem xR:aB Tryz.prog 288 0=some (0,false,1):=by kernel_rfl
theorem xS:aB Tryz.prog 288 1=some (1,false,1):=by kernel_rfl
theorem SC:tyk Tryz.prog 289=some (TyK.arr 16 288 true 2):=by kernel_rfl
theorem SD:shp Tryz.prog 289=some (true,32):=by kernel_rfl
theorem SE:zer Tryz.prog 289=some [(AV.int .u8 0),(AV.int .u8 0),(AV.int .u8 0),(AV.int .u8 0),(AV.int .u8 0),(AV.int .u8 0),(AV.int .u8 0),(AV.int .u8 0),(AV.int .u8 0),(AV.int .u8 0),(AV.int .u8 0),(AV.int .u8 0),(AV.int .u8 0),(AV.int .u8 0),(AV.int .u8 0),(AV.int .u8 0),(AV.int .u8 0),(AV.int .u8 0),(AV.int .u8 0),(AV.int .u8 0),(AV.int .u8 0),(AV.int .u8 0),(AV.int .u8 0),(AV.int .u8 0),(AV.int .u8 0),(AV.int .u8 0),(AV.int .u8 0),(AV.int .u8 0),(AV.int .u8 0),(AV.int .u8 0),(AV.int .u8 0),(AV.int .u8 0)]:=by kernel_rfl
theorem SF:al Tryz.prog 289=false:=by kernel_rfl
theorem SH:tyk Tryz.prog 290=some TyK.func:=by kernel_rfl
theorem SI:shp Tryz.prog 290=some (false,1):=by kernel_rfl
theorem SJ:zer Tryz.prog 290=some [AV.nilFn]:=by kernel_rfl
theorem SK:al Tryz.prog 290=false:=by kernel_rfl
theorem SL:tyk Tryz.prog 291=some (TyK.int .i64):=by kernel_rfl
theorem SM:shp Tryz.prog 291=some (false,1):=by kernel_rfl
theorem SN:zer Tryz.prog 291=some [(AV.int .i64 0)]:=by kernel_rfl
theorem SO:al Tryz.prog 291=false:=by kernel_rfl
theorem SP:aW Tryz.prog 10 291=some [(TyS.si .i64)]:=by kernel_rfl
theorem SQ:Tryz.prog.eqGuardType Tryz.prog.depth 291=false:=by kernel_rfl
theorem SR:tyk Tryz.prog 292=some TyK.other:=by kernel_rfl
theorem SS:shp Tryz.prog 292=some (false,1):=by kernel_rfl
theorem SU:zer Tryz.prog 292=some [(AV.tuple [(AV.int .i64 0),(AV.int .i64 0)])]:=by kernel_rfl
theorem SV:al Tryz.prog 292=false:=by kernel_rfl
theorem SX:tyk Tryz.prog 293=some TyK.func:=by kernel_rfl
theorem SY:shp Tryz.prog 293=some (false,1):=by kernel_rfl
theorem SZ:zer Tryz.prog 293=some [AV.nilFn]:=by kernel_rfl
theorem Ta:al Tryz.prog 293=false:=by kernel_rfl
theorem Tb:tyk Tryz.prog 294=some TyK.func:=by kernel_rfl
theorem Tc:shp Tryz.prog 294=some (false,1):=by kernel_rfl
theorem Td:zer Tryz.prog 294=some [AV.nilFn]:=by kernel_rfl
theorem Te:al Tryz.prog 294=false:=by kernel_rfl
theorem Tf:tyk Tryz.prog 295=some TyK.func:=by kernel_rfl
theorem Tg:shp Tryz.prog 295=some (false,1):=by kernel_rfl
theorem Th:zer Tryz.prog 295=some [AV.nilFn]:=by kernel_rfl
theorem Ti:al Tryz.prog 295=false:=by kernel_rfl
theorem Tj:tyk Tryz.prog 296=some TyK.func:=by kernel_rfl
theorem Tk:shp Tryz.prog 296=some (false,1):=by kernel_rfl
theorem Tl:zer Tryz.prog 296=some [AV.nilFn]:=by kernel_rfl
theorem Tm:al Tryz.prog 296=false:=by kernel_rfl
theorem Tn:tyk Tryz.prog 297=some TyK.func:=by kernel_rfl
theorem To:shp Tryz.prog 297=some (false,1):=by kernel_rfl
theorem Tp:zer Tryz.prog 297=some [AV.nilFn]:=by kernel_rfl
theorem Tq:al Tryz.prog 297=false:=by kernel_rfl
theorem Ts:tyk Tryz.prog 298=some (TyK.int .u32):=by kernel_rfl
theorem Tt:shp Tryz.prog 298=some (false,1):=by kernel_rfl
theorem Tu:zer Tryz.prog 298=some [(AV.int .u32 0)]:=by kernel_rfl
theorem Tv:al Tryz.prog 298=false:=by kernel_rfl
theorem Tw:aW Tryz.prog 10 298=some [(TyS.si .u32)]:=by kernel_rfl
theorem Tx:Tryz.prog.eqGuardType Tryz.prog.depth 298=false:=by kernel_rfl
theorem Tz:tyk Tryz.prog 299=some (TyK.slice 40 false 1 24):=by kernel_rfl
theorem TA:shp Tryz.prog 299=some (false,1):=by kernel_rfl
theorem TB:zer Tryz.prog 299=some [AV.nilSl]:=by kernel_rfl
theorem TC:al Tryz.prog 299=false:=by kernel_rfl
theorem TD:tyk Tryz.prog 300=some TyK.func:=by kernel_rfl
theorem TE:shp Tryz.prog 300=some (false,1):=by kernel_rfl
theorem TF:zer Tryz.prog 300=some [AV.nilFn]:=by kernel_rfl
theorem TH:al Tryz.prog 300=false:=by kernel_rfl
theorem TI:tyk Tryz.prog 301=some TyK.other:=by kernel_rfl
theorem TJ:shp Tryz.prog 301=some (false,1):=by kernel_rfl
theorem TK:zer Tryz.prog 301=some [(AV.tuple [(AV.int .u64 0),AV.nilIface])]:=by kernel_rfl
theorem TL:al Tryz.prog 301=false:=by kernel_rfl
theorem TM:tyk Tryz.prog 302=some TyK.func:=by kernel_rfl
theorem TN:shp Tryz.prog 302=some (false,1):=by kernel_rfl
theorem TO:zer Tryz.prog 302=some [AV.nilFn]:=by kernel_rfl
theorem TP:al Tryz.prog 302=false:=by kernel_rfl
theorem TQ:tyk Tryz.prog 303=some (TyK.struct [(0,(false,1)),(1,(false,1)),(2,(false,1))]):=by kernel_rfl
theorem TR:shp Tryz.prog 303=some (true,3):=by kernel_rfl
theorem TS:zer Tryz.prog 303=some [(AV.str []),(AV.str []),AV.nilIface]:=by kernel_rfl
theorem TT:al Tryz.prog 303=false:=by kernel_rfl
theorem xT:aB Tryz.prog 303 0=some (0,false,1):=by kernel_rfl
theorem xU:aB Tryz.prog 303 1=some (1,false,1):=by kernel_rfl
theorem xV:aB Tryz.prog 303 2=some (2,false,1):=by kernel_rfl
theorem TU:tyk Tryz.prog 304=some (TyK.struct [(0,(false,1)),(1,(false,1)),(2,(false,1))]):=by kernel_rfl
theorem TW:shp Tryz.prog 304=some (true,3):=by kernel_rfl
theorem TX:zer Tryz.prog 304=some [(AV.str []),(AV.str []),AV.nilIface]:=by kernel_rfl
theorem TY:al Tryz.prog 304=false:=by kernel_rfl
theorem xW:aB Tryz.prog 304 0=some (0,false,1):=by kernel_rfl
theorem xX:aB Tryz.prog 304 1=some (1,false,1):=by kernel_rfl
theorem xY:aB Tryz.prog 304 2=some (2,false,1):=by kernel_rfl
theorem TZ:tyk Tryz.prog 305=some TyK.func:=by kernel_rfl
theorem T1:shp Tryz.prog 305=some (false,1):=by kernel_rfl
theorem T2:zer Tryz.prog 305=some [AV.nilFn]:=by kernel_rfl
theorem T3:al Tryz.prog 305=false:=by kernel_rfl
theorem T4:tyk Tryz.prog 306=some TyK.func:=by kernel_rfl
theorem T5:shp Tryz.prog 306=some (false,1):=by kernel_rfl
theorem T6:zer Tryz.prog 306=some [AV.nilFn]:=by kernel_rfl
theorem T7:al Tryz.prog 306=false:=by kernel_rfl
theorem T8:tyk Tryz.prog 307=some TyK.func:=by kernel_rfl
theorem T9:shp Tryz.prog 307=some (false,1):=by kernel_rfl
theorem Ua:zer Tryz.prog 307=some [AV.nilFn]:=by kernel_rfl
theorem Ub:al Tryz.prog 307=false:=by kernel_rfl
theorem Uc:tyk Tryz.prog 308=some (TyK.arr 20 279 false 1):=by kernel_rfl
theorem Ud:shp Tryz.prog 308=some (true,20):=by kernel_rfl
theorem Ue:zer Tryz.prog 308=some [(AV.int .u64 0),(AV.int .u64 0),(AV.int .u64 0),(AV.int .u64 0),(AV.int .u64 0),(AV.int .u64 0),(AV.int .u64 0),(AV.int .u64 0),(AV.int .u64 0),(AV.int .u64 0),(AV.int .u64 0),(AV.int .u64 0),(AV.int .u64 0),(AV.int .u64 0),(AV.int .u64 0),(AV.int .u64 0),(AV.int .u64 0),(AV.int .u64 0),(AV.int .u64 0),(AV.int .u64 0)]:=by kernel_rfl
theorem Uf:al Tryz.prog 308=false:=by kernel_rfl
theorem Ug:tyk Tryz.prog 309=some (TyK.arr 65 5 false 1):=by kernel_rfl
theorem Uh:shp Tryz.prog 309=some (true,65):=by kernel_rfl
theorem Ui:al Tryz.prog 309=false:=by kernel_rfl
theorem Uj:tyk Tryz.prog 310=some TyK.func:=by kernel_rfl
theorem Uk:shp Tryz.prog 310=some (false,1):=by kernel_rfl
theorem Ul:zer Tryz.prog 310=some [AV.nilFn]:=by kernel_rfl
theorem Um:al Tryz.prog 310=false:=by kernel_rfl
theorem Un:tyk Tryz.prog 311=some TyK.other:=by kernel_rfl
theorem Uo:shp Tryz.prog 311=some (false,1):=by kernel_rfl
theorem Up:zer Tryz.prog 311=some [(AV.tuple [(AV.int .u32 0),(AV.int .u32 0)])]:=by kernel_rfl
theorem Uq:al Tryz.prog 311=false:=by kernel_rfl
theorem Ur:tyk Tryz.prog 312=some TyK.func:=by kernel_rfl
theorem Us:shp Tryz.prog 312=some (false,1):=by kernel_rfl
theorem Ut:zer Tryz.prog 312=some [AV.nilFn]:=by kernel_rfl
theorem Uu:al Tryz.prog 312=false:=by kernel_rfl
theorem Uv:tyk Tryz.prog 313=some (TyK.int .u64):=by kernel_rfl
theorem Uw:shp Tryz.prog 313=some (false,1):=by kernel_rfl
theorem Ux:zer Tryz.prog 313=some [(AV.int .u64 0)]:=by kernel_rfl
theorem Uy:al Tryz.prog 313=false:=by kernel_rfl
theorem Uz:aW Tryz.prog 10 313=some [(TyS.si .u64)]:=by kernel_rfl
theorem UA:Tryz.prog.eqGuardType Tryz.prog.depth 313=false:=by kernel_rfl
theorem UB:tyk Tryz.prog 314=some TyK.func:=by kernel_rfl
theorem UC:shp Tryz.prog 314=some (false,1):=by kernel_rfl
theorem UD:zer Tryz.prog 314=some [AV.nilFn]:=by kernel_rfl
theorem UE:al Tryz.prog 314=false:=by kernel_rfl
theorem UF:tyk Tryz.prog 315=some TyK.func:=by kernel_rfl
theorem UG:shp Tryz.prog 315=some (false,1):=by kernel_rfl
theorem UH:zer Tryz.prog 315=some [AV.nilFn]:=by kernel_rfl
theorem UI:al Tryz.prog 315=false:=by kernel_rfl
theorem UJ:tyk Tryz.prog 316=some TyK.func:=by kernel_rfl
theorem UK:shp Tryz.prog 316=some (false,1):=by kernel_rfl
theorem UL:zer Tryz.prog 316=some [AV.nilFn]:=by kernel_rfl
theorem UM:al Tryz.prog 316=false:=by kernel_rfl
theorem UN:tyk Tryz.prog 317=some (TyK.ptr 3):=by kernel_rfl
theorem UO:shp Tryz.prog 317=some (false,1):=by kernel_rfl
theorem UP:zer Tryz.prog 317=some [AV.nilPtr]:=by kernel_rfl
theorem UQ:al Tryz.prog 317=false:=by kernel_rfl
theorem UR:tyk Tryz.prog 318=some TyK.func:=by kernel_rfl
theorem US:shp Tryz.prog 318=some (false,1):=by kernel_rfl
theorem UT:zer Tryz.prog 318=some [AV.nilFn]:=by kernel_rfl
theorem UU:al Tryz.prog 318=false:=by kernel_rfl
theorem UW:tyk Tryz.prog 319=some TyK.func:=by kernel_rfl
theorem UX:shp Tryz.prog 319=some (false,1):=by kernel_rfl
theorem UY:zer Tryz.prog 319=some [AV.nilFn]:=by kernel_rfl
theorem UZ:al Tryz.prog 319=false:=by kernel_rfl
theorem U0:tyk Tryz.prog 320=some (TyK.ptr 322):=by kernel_rfl
theorem U1:shp Tryz.prog 320=some (false,1):=by kernel_rfl
theorem U2:zer Tryz.prog 320=some [AV.nilPtr]:=by kernel_rfl
theorem U3:al Tryz.prog 320=false:=by kernel_rfl
theorem U4:tyk Tryz.prog 321=some (TyK.struct [(0,(false,1))]):=by kernel_rfl
theorem U5:shp Tryz.prog 321=some (true,1):=by kernel_rfl
theorem U6:zer Tryz.prog 321=some [(AV.str [])]:=by kernel_rfl
theorem U7:al Tryz.prog 321=false:=by kernel_rfl
theorem U8:aW Tryz.prog 10 321=some [TyS.ss]:=by kernel_rfl
theorem U9:Tryz.prog.eqGuardType Tryz.prog.depth 321=false:=by kernel_rfl
theorem xZ:aB Tryz.prog 321 0=some (0,false,1):=by kernel_rfl
theorem Va:tyk Tryz.prog 322=some (TyK.struct [(0,(false,1))]):=by kernel_rfl
theorem Vb:shp Tryz.prog 322=some (true,1):=by kernel_rfl
theorem Vc:zer Tryz.prog 322=some [(AV.str [])]:=by kernel_rfl
theorem Vd:al Tryz.prog 322=false:=by kernel_rfl
theorem Ve:aW Tryz.prog 10 322=some [TyS.ss]:=by kernel_rfl
theorem Vf:Tryz.prog.eqGuardType Tryz.prog.depth 322=false:=by kernel_rfl
theorem x0:aB Tryz.prog 322 0=some (0,false,1):=by kernel_rfl
theorem Vg:tyk Tryz.prog 323=some TyK.func:=by kernel_rfl
theorem Vh:shp Tryz.prog 323=some (false,1):=by kernel_rfl
theorem Vi:zer Tryz.prog 323=some [AV.nilFn]:=by kernel_rfl
theorem Vj:al Tryz.prog 323=false:=by kernel_rfl
theorem Vk:tyk Tryz.prog 324=some (TyK.ptr 313):=by kernel_rfl
theorem Vl:shp Tryz.prog 324=some (false,1):=by kernel_rfl
theorem Vm:zer Tryz.prog 324=some [AV.nilPtr]:=by kernel_rfl
theorem Vn:al Tryz.prog 324=false:=by kernel_rfl
theorem Vo:tyk Tryz.prog 325=some TyK.other:=by kernel_rfl
theorem Vp:shp Tryz.prog 325=some (false,1):=by kernel_rfl
theorem Vq:zer Tryz.prog 325=some [(AV.tuple [(AV.int .i64 0),(AV.int .i64 0)])]:=by kernel_rfl
theorem Vs:al Tryz.prog 325=false:=by kernel_rfl
theorem Vt:tyk Tryz.prog 326=some TyK.func:=by kernel_rfl
theorem Vu:shp Tryz.prog 326=some (false,1):=by kernel_rfl
theorem Vv:zer Tryz.prog 326=some [AV.nilFn]:=by kernel_rfl
theorem Vw:al Tryz.prog 326=false:=by kernel_rfl
theorem Vx:tyk Tryz.prog 327=some (TyK.arr 32 5 false 1):=by kernel_rfl
theorem Vy:shp Tryz.prog 327=some (true,32):=by kernel_rfl
theorem Vz:zer Tryz.prog 327=some [(AV.int .u8 0),(AV.int .u8 0),(AV.int .u8 0),(AV.int .u8 0),(AV.int .u8 0),(AV.int .u8 0),(AV.int .u8 0),(AV.int .u8 0),(AV.int .u8 0),(AV.int .u8 0),(AV.int .u8 0),(AV.int .u8 0),(AV.int .u8 0),(AV.int .u8 0),(AV.int .u8 0),(AV.int .u8 0),(AV.int .u8 0),(AV.int .u8 0),(AV.int .u8 0),(AV.int .u8 0),(AV.int .u8 0),(AV.int .u8 0),(AV.int .u8 0),(AV.int .u8 0),(AV.int .u8 0),(AV.int .u8 0),(AV.int .u8 0),(AV.int .u8 0),(AV.int .u8 0),(AV.int .u8 0),(AV.int .u8 0),(AV.int .u8 0)]:=by kernel_rfl
theorem VA:al Tryz.prog 327=false:=by kernel_rfl
theorem VB:tyk Tryz.prog 328=some (TyK.arr 64 5 false 1):=by kernel_rfl
theorem VC:shp Tryz.prog 328=some (true,64):=by kernel_rfl
theorem VD:al Tryz.prog 328=false:=by kernel_rfl
theorem VF:tyk Tryz.prog 329=some (TyK.struct [(0,(false,1)),(1,(false,1)),(2,(false,1)),(3,(false,1))]):=by kernel_rfl
theorem VG:shp Tryz.prog 329=some (true,4):=by kernel_rfl
theorem VH:zer Tryz.prog 329=some [AV.nilPtr,AV.nilPtr,AV.nilPtr,(AV.str [])]:=by kernel_rfl
theorem VI:al Tryz.prog 329=false:=by kernel_rfl
theorem x7:aB Tryz.prog 329 0=some (0,false,1):=by kernel_rfl
theorem x8:aB Tryz.prog 329 1=some (1,false,1):=by kernel_rfl
theorem x9:aB Tryz.prog 329 2=some (2,false,1):=by kernel_rfl
theorem ya:aB Tryz.prog 329 3=some (3,false,1):=by kernel_rfl
theorem VJ:tyk Tryz.prog 330=some (TyK.struct [(0,(false,1)),(1,(false,1)),(2,(false,1)),(3,(false,1))]):=by kernel_rfl
theorem VL:shp Tryz.prog 330=some (true,4):=by kernel_rfl
theorem VM:zer Tryz.prog 330=some [AV.nilPtr,AV.nilPtr,AV.nilPtr,(AV.str [])]:=by kernel_rfl
theorem VN:al Tryz.prog 330=false:=by kernel_rfl
theorem yb:aB Tryz.prog 330 0=some (0,false,1):=by kernel_rfl
theorem yc:aB Tryz.prog 330 1=some (1,false,1):=by kernel_rfl
theorem yd:aB Tryz.prog 330 2=some (2,false,1):=by kernel_rfl
theorem ye:aB Tryz.prog 330 3=some (3,false,1):=by kernel_rfl
theorem VO:tyk Tryz.prog 331=some (TyK.arr 0 16 false 1):=by kernel_rfl
theorem VP:shp Tryz.prog 331=some (true,0):=by kernel_rfl
theorem VQ:zer Tryz.prog 331=some []:=by kernel_rfl
theorem VS:al Tryz.prog 331=false:=by kernel_rfl
theorem VT:tyk Tryz.prog 332=some (TyK.struct [(0,(true,0))]):=by kernel_rfl
theorem VU:shp Tryz.prog 332=some (true,0):=by kernel_rfl
theorem VV:zer Tryz.prog 332=some []:=by kernel_rfl
theorem VW:al Tryz.prog 332=false:=by kernel_rfl
theorem yf:aB Tryz.prog 332 0=some (0,true,0):=by kernel_rfl
theorem VX:tyk Tryz.prog 333=some (TyK.struct [(0,(true,0))]):=by kernel_rfl
theorem VY:shp Tryz.prog 333=some (true,0):=by kernel_rfl
theorem VZ:zer Tryz.prog 333=some []:=by kernel_rfl
theorem V0:al Tryz.prog 333=false:=by kernel_rfl
theorem yg:aB Tryz.prog 333 0=some (0,true,0):=by kernel_rfl
theorem V1:tyk Tryz.prog 334=some TyK.func:=by kernel_rfl
theorem V2:shp Tryz.prog 334=some (false,1):=by kernel_rfl
theorem V3:zer Tryz.prog 334=some [AV.nilFn]:=by kernel_rfl
theorem V4:al Tryz.prog 334=false:=by kernel_rfl
theorem V5:tyk Tryz.prog 335=some (TyK.int .u8):=by kernel_rfl
theorem V6:shp Tryz.prog 335=some (false,1):=by kernel_rfl
theorem V7:zer Tryz.prog 335=some [(AV.int .u8 0)]:=by kernel_rfl
theorem V8:al Tryz.prog 335=false:=by kernel_rfl
theorem V9:aW Tryz.prog 10 335=some [(TyS.si .u8)]:=by kernel_rfl
theorem Wa:Tryz.prog.eqGuardType Tryz.prog.depth 335=false:=by kernel_rfl
theorem Wb:tyk Tryz.prog 336=some (TyK.int .u8):=by kernel_rfl
theorem Wc:shp Tryz.prog 336=some (false,1):=by kernel_rfl
theorem Wd:zer Tryz.prog 336=some [(AV.int .u8 0)]:=by kernel_rfl
theorem We:al Tryz.prog 336=false:=by kernel_rfl
theorem Wf:aW Tryz.prog 10 336=some [(TyS.si .u8)]:=by kernel_rfl
theorem Wg:Tryz.prog.eqGuardType Tryz.prog.depth 336=false:=by kernel_rfl
theorem Wh:tyk Tryz.prog 337=some TyK.func:=by kernel_rfl
theorem Wi:shp Tryz.prog 337=some (false,1):=by kernel_rfl
theorem Wj:zer Tryz.prog 337=some [AV.nilFn]:=by kernel_rfl
theorem Wl:al Tryz.prog 337=false:=by kernel_rfl
theorem Wm:tyk Tryz.prog 338=some (TyK.int .i32):=by kernel_rfl
theorem Wn:shp Tryz.prog 338=some (false,1):=by kernel_rfl
theorem Wo:zer Tryz.prog 338=some [(AV.int .i32 0)]:=by kernel_rfl
theorem Wp:al Tryz.prog 338=false:=by kernel_rfl
theorem Wq:aW Tryz.prog 10 338=some [(TyS.si .i32)]:=by kernel_rfl
theorem Wr:Tryz.prog.eqGuardType Tryz.prog.depth 338=false:=by kernel_rfl
theorem Ws:tyk Tryz.prog 339=some (TyK.int .i32):=by kernel_rfl
theorem Wt:shp Tryz.prog 339=some (false,1):=by kernel_rfl
theorem Wu:zer Tryz.prog 339=some [(AV.int .i32 0)]:=by kernel_rfl
theorem Wv:al Tryz.prog 339=false:=by kernel_rfl
theorem Ww:aW Tryz.prog 10 339=some [(TyS.si .i32)]:=by kernel_rfl
theorem Wx:Tryz.prog.eqGuardType Tryz.prog.depth 339=false:=by kernel_rfl
theorem Wy:tyk Tryz.prog 340=some (TyK.struct [(0,(false,1)),(1,(false,1)),(2,(false,1)),(3,(false,1)),(4,(false,1)),(5,(false,1)),(6,(false,1)),(7,(false,1)),(8,(false,1)),(9,(false,1)),(10,(false,1))]):=by kernel_rfl
theorem Wz:shp Tryz.prog 340=some (true,11):=by kernel_rfl
theorem WA:zer Tryz.prog 340=some [(AV.int .u64 0),(AV.int .u64 0),(AV.int .u32 0),(AV.int .u8 0),(AV.int .u8 0),(AV.int .u8 0),(AV.int .u8 0),AV.nilFn,AV.nilPtr,(AV.int .i32 0),(AV.int .i32 0)]:=by kernel_rfl
theorem WB:al Tryz.prog 340=false:=by kernel_rfl
theorem yh:aB Tryz.prog 340 0=some (0,false,1):=by kernel_rfl
theorem yi:aB Tryz.prog 340 1=some (1,false,1):=by kernel_rfl
theorem yj:aB Tryz.prog 340 2=some (2,false,1):=by kernel_rfl
theorem yk:aB Tryz.prog 340 3=some (3,false,1):=by kernel_rfl
theorem yl:aB Tryz.prog 340 4=some (4,false,1):=by kernel_rfl
theorem ym:aB Tryz.prog 340 5=some (5,false,1):=by kernel_rfl
theorem yn:aB Tryz.prog 340 6=some (6,false,1):=by kernel_rfl
theorem yo:aB Tryz.prog 340 7=some (7,false,1):=by kernel_rfl
theorem yr:aB Tryz.prog 340 8=some (8,false,1):=by kernel_rfl
theorem yt:aB Tryz.prog 340 9=some (9,false,1):=by kernel_rfl
theorem tc:aB Tryz.prog 340 10=some (10,false,1):=by kernel_rfl
theorem WC:tyk Tryz.prog 341=some (TyK.struct [(0,(false,1)),(1,(false,1)),(2,(false,1)),(3,(false,1)),(4,(false,1)),(5,(false,1)),(6,(false,1)),(7,(false,1)),(8,(false,1)),(9,(false,1)),(10,(false,1))]):=by kernel_rfl
theorem WD:shp Tryz.prog 341=some (true,11):=by kernel_rfl
theorem WE:zer Tryz.prog 341=some [(AV.int .u64 0),(AV.int .u64 0),(AV.int .u32 0),(AV.int .u8 0),(AV.int .u8 0),(AV.int .u8 0),(AV.int .u8 0),AV.nilFn,AV.nilPtr,(AV.int .i32 0),(AV.int .i32 0)]:=by kernel_rfl
theorem WG:al Tryz.prog 341=false:=by kernel_rfl
theorem yu:aB Tryz.prog 341 0=some (0,false,1):=by kernel_rfl
theorem yv:aB Tryz.prog 341 1=some (1,false,1):=by kernel_rfl
theorem yw:aB Tryz.prog 341 2=some (2,false,1):=by kernel_rfl
theorem yx:aB Tryz.prog 341 3=some (3,false,1):=by kernel_rfl
theorem yy:aB Tryz.prog 341 4=some (4,false,1):=by kernel_rfl
theorem yz:aB Tryz.prog 341 5=some (5,false,1):=by kernel_rfl
theorem yA:aB Tryz.prog 341 6=some (6,false,1):=by kernel_rfl
theorem yB:aB Tryz.prog 341 7=some (7,false,1):=by kernel_rfl
theorem yC:aB Tryz.prog 341 8=some (8,false,1):=by kernel_rfl
theorem yD:aB Tryz.prog 341 9=some (9,false,1):=by kernel_rfl
theorem td:aB Tryz.prog 341 10=some (10,false,1):=by kernel_rfl
attribute [go_sem] afH afI afJ afK afL afM afN afO afP afQ afR afS afT afU afV afW afX afY afZ af0 af1 af2 af3 af4 af5 af6 af7 af8 af9 aga agb agc agd age agf agh agi agj agk agl
attribute [go_sem] agm agn ago agp D3 D4 D5 D6 agq agr agt agu agv agw D7 D8 D9 Ea agx agy agz agA agB agC Yu Yv Yw Yx Yy Yz YA YB YC YD YE YF YG YH YI YJ
attribute [go_sem] YK YL YM YN YO YP A5 A6 YQ YR YS YT A7 A8 YU YV YW YX YY YZ Y0 Za Zb Zc Zd Ze Zf Zg Zh Zi A9 Zj Zk Zl Zm Ba Zn Zo Zp Zq
attribute [go_sem] Zr Zs Zt Zu Zv Zw Zx Zy Zz ZA ZB ZC ZD ZE ZF ZG ZH ZI ZJ ZK ZL ZM ZN ZO ZP ZQ ZR ZS ZT ZU ZV ZW ZX ZY ZZ Z0 Z9 aaa aab aac
attribute [go_sem] aad aae aaf aag aah aai aaj aak aal aam aan aao aap aaq Bb Bc Be Bf aar aas aat aau Bg Bh Bi Bj aav aaw aax aay aaz aaA aaB aaC aaD aaE aaF aaG aaH aaI
attribute [go_sem] aaJ aaK aaL aaM Bl Bm Bn Bo aaN aaO aaP aaQ aaR aaS Bp Bq Br Bt aaT aaU aaV aaW aaX aaY aaZ aa0 Bu Bv Bw aa1 aa2 aa3 aa4 Bx By Bz aa5 aa6 aa7 aa8
attribute [go_sem] aa9 aba abb abc abd abe abf abg abh abi abj abk abl abm abn abo abp abq BA BB BC BD BE BF abr abt abu abv BG BH BI BJ BK BL abw abx aby abz abA abB
attribute [go_sem] abC abD abE abF abG abH abI abJ abK abL abM abN abO abP abQ abR BM BN BO BP BQ abS abT abU abV abW abX BS BT BU BV BW abY abZ ab0 ab1 ab2 ab3 ab4 ab5
attribute [go_sem] ab6 ab7 ab8 ab9 aca acb acd ace acf acg ach aci acj ack acm acn aco acp BX BY BZ B1 B2 acq acr acs acu acv acw B3 B4 B5 B6 B7 acx acy acz acA acB acC
attribute [go_sem] acD acE acF acG acH acI acJ acK acL acM acN acO acP acQ acR acS acT acU acV acW acX acY B8 acZ ac0 ac1 ac2 B9 ac3 ac4 ac5 ac6 ac7 ac8 ac9 ada adb ade adf adg
attribute [go_sem] adh adi adj adk adl adm adn ado adp adq adr ads adt adu adv adw adx ady adz adA adB adC adD adE adF adG adH adI adJ adK adL adM adN adO adP adQ Ca Cb Cc adR
attribute [go_sem] adS adT adU Cd Ce Cf adV adW adX adY adZ ad0 ad1 ad2 ad3 ad4 ad5 ad6 ad7 ad8 ad9 aea aeb aec aed aee aef aeg aeh aei aej aek ael aem aen aeo aep aeq aer aes
attribute [go_sem] aet aeu aev aew aex aey aez aeA aeB aeC aeD aeE aeF aeG aeH aeI aeJ aeK aeL aeM Cg Ch Ci aeN aeO aeP aeQ aeR aeS Cj Ck Cl aeT aeU aeV aeW aeX aeY aeZ ae0
attribute [go_sem] ae1 ae2 ae3 ae4 Eb Ec Ed Ee Ef Eg Eh Ei Ej Ek El Em vR vS vT En Eo Ep Er vU vV vW Es Et Eu Ev Ew Ex Ey Ez EA EB EC ED EE EF
attribute [go_sem] EH EI vX vY vZ EJ EL EM EN v7 v8 wa EO EP ES ET EU EV EW EX EY EZ E0 E2 E3 E4 E5 E6 E7 E8 E9 Fa Fb Fe Ff Fg Fh Fi Fj Fk
attribute [go_sem] Fl Fm Fo Fp wb wc Fq Fs Ft Fu wg wh Fv Fw Fx Fy Fz FA FB FC FD FE FF FG FH FI FJ FK FL FM FN FO FP FQ FR FT FU FV FW FX
attribute [go_sem] FY FZ F3 F4 wi wj F5 F6 F7 F8 wm wu F9 Ga Gb Gc Gd Ge Gf Gg Gi Gj Gk Gl wv wx wy wz wA Gm Gn Gp Gq wB wC wD wE wF Gr Gs
attribute [go_sem] Gt Gu Gv Gw Gx Gy Gz GA GB GC wG wH wI wJ wK GD GF GG GH wL wM wN wO wP GI GJ GK GL GM GN wQ wR GO GP GQ GR GS GU wS wT
attribute [go_sem] GV GW GX GY GZ G0 G3 G4 G5 G6 G7 G8 G9 Ha Hb Hc Hd He Hf Hh Hi Hj Hk Hl Hm Hn Ho Hp Hq Hr Hs Ht Hu Hv Hw Hx Hy Hz HA HB
attribute [go_sem] HC HE HF HG HH HI HJ HK HL HM HN HO HP HQ HR HS HT HU HV HW HX HY HZ H0 H2 H3 H4 H5 H6 H7 H8 H9 wU wV wW wX wY wZ Ia Ib
attribute [go_sem] Ic Ie w5 w6 w7 w9 xa xb Ig Ih Ii Ij Ik Il Im Io Ip Iq Ir Iu Iv Iw Ix Iy Iz IA IB IC xc xd xe ID IE IF IG xf xg xh IH II
attribute [go_sem] IJ IK IL IM IN IP IQ IS IT IU IV IW xi xj IX IY IZ I0 I1 I2 xk xl I3 I4 I5 I6 I7 I8 I9 Ja Jb Jc Jd Je Jf Jg Jh Ji Jj Jk
attribute [go_sem] Jl Jm Jn Jo Jp Jq Jr Js Jt Ju Jv Jw Jx Jy Jz JA JB JC JD JE JF JG JH JI JJ JK JL JM JN JO JP JQ JR JS JT JU JV JW JX JY
attribute [go_sem] JZ J0 J1 J2 xm xn J3 J4 J5 J6 J7 J8 xo xp J9 Ka Kb Kc Ke Kf Kg Kh Ki Kj Kk Kl Km Kn Ko Kq Kr Ks Kt Ku Kv Kw Kx Ky Kz KQ
attribute [go_sem] KU KW KX KY KZ La Lb xq xr Lc Ld Le xt xu Lf Lg Lh Li Lj Lk Ll Lm Ln Lo Lp Lq Lr Ls Lt Lu Lv Lw Lx Ly Lz LA LB LC LD LF
attribute [go_sem] LG LH LI LJ LM LN LO LP LQ LR LS LU LV LW LX LY LZ L3 L4 L5 L6 L7 L8 L9 Ma Mb Mc Md Me Mf Mg Mh Mi Mj Mk Ml Mm Mn Mo Mp
attribute [go_sem] Mq Mr Ms Mt Mu Mv Mw Mx My Mz MA MB MC MD MF MG MH MI MJ MK ML MM MN MO MP MQ MR MS MT MU xv xw xx MV MW MX MY MZ M0 xy
attribute [go_sem] xz xA M3 M4 M5 M6 M7 M8 M9 Na Nb Nc Nd Nf Ng Nh Ni Nj Nk Nl Nn Np Nq Nr Ns Nt Nu Nv Nw Nx Ny Nz NA NB NC ND NF NG NH NI
attribute [go_sem] NJ NK NL NM NN NO NP NQ NR NS NU NV NW NX NY NZ N0 N1 N2 N3 N4 N5 N6 N7 N8 N9 Oa Ob Oc Od Oe Of Og Oh Oi xB Oj Ol Om Oo
attribute [go_sem] Oq Ot xC Ou Ov Ow Ox Oy Oz OA OB OC OD OE OF OG OH OI OJ xD OK OL OM ON xE OP OQ OR OS OT OU OV OW OX OY OZ O0 O2 O3 O4
attribute [go_sem] O5 O6 O7 O8 O9 Pa Pb Pd Pe Pf Pg Ph Pj Pk Pl Pm Pn Po Pp Pq Pr Pu Pv Pw Px Py Pz PA PB PC PD PE PF PH PI PJ PK PM PN PO
attribute [go_sem] PQ PS PT PU PW PX PY PZ P0 P1 P2 P3 P4 P5 P6 P7 P8 P9 Qa Qb Qc Qd Qe Qf Qg Qh Qi xF xG xH xI xJ Qj Qk Ql Qm xK xL xM xN
attribute [go_sem] xO Qn Qo Qp Qq Qr Qs Qt Qu Qv Qw Qx Qy Qz QA QB QC QD QE QF QH QI QJ QK QL QM QN QO QP QQ QR QS QT QU QV QW QX QY QZ Q0
attribute [go_sem] Q1 Q2 Q3 Q4 Q5 Q6 Q7 Q8 Q9 Ra Rb Rc Re Rf Rg Rh Ri Rj Rk Rl Rm Rn Ro Rq Rr Rt Ru Rv Rw Rx Ry Rz RA RB RC RE RF RG RH RI
attribute [go_sem] RJ RM RN RO RQ RS RT RU RV RW RX RY RZ R0 R1 R2 R3 R4 R5 R6 R7 R8 R9 Sa Sb Sc Sd Se Sf Sg Sh Si Sj Sk Sl Sm Sn Sp Sr Ss
attribute [go_sem] Su Sv xP xQ Sw Sx Sy Sz SA SB xR xS SC SD SE SF SH SI SJ SK SL SM SN SO SP SQ SR SS SU SV SX SY SZ Ta Tb Tc Td Te Tf Tg
attribute [go_sem] Th Ti Tj Tk Tl Tm Tn To Tp Tq Ts Tt Tu Tv Tw Tx Tz TA TB TC TD TE TF TH TI TJ TK TL TM TN TO TP TQ TR TS TT xT xU xV TU
attribute [go_sem] TW TX TY xW xX xY TZ T1 T2 T3 T4 T5 T6 T7 T8 T9 Ua Ub Uc Ud Ue Uf Ug Uh Ui Uj Uk Ul Um Un Uo Up Uq Ur Us Ut Uu Uv Uw Ux
attribute [go_sem] Uy Uz UA UB UC UD UE UF UG UH UI UJ UK UL UM UN UO UP UQ UR US UT UU UW UX UY UZ U0 U1 U2 U3 U4 U5 U6 U7 U8 U9 xZ Va Vb
attribute [go_sem] Vc Vd Ve Vf x0 Vg Vh Vi Vj Vk Vl Vm Vn Vo Vp Vq Vs Vt Vu Vv Vw Vx Vy Vz VA VB VC VD VF VG VH VI x7 x8 x9 ya VJ VL VM VN
attribute [go_sem] yb yc yd ye VO VP VQ VS VT VU VV VW yf VX VY VZ V0 yg V1 V2 V3 V4 V5 V6 V7 V8 V9 Wa Wb Wc Wd We Wf Wg Wh Wi Wj Wl Wm Wn
attribute [go_sem] Wo Wp Wq Wr Ws Wt Wu Wv Ww Wx Wy Wz WA WB yh yi yj yk yl ym yn yo yr yt tc WC WD WE WG yu yv yw yx yy yz yA yB yC yD td
theorem mixed:Tryz.prog.follows .mixedOrders=true:=by kernel_rfl
end Go.Proofs.YtlfeacmbhldjcaaGreatDoor
namespace Go.Proofs.YtlfeacmbhldjcaaGreatDoor
open Go
set_option maxRecDepth 100000
set_option maxHeartbeats 1000000
theorem lD:((Tryz.prog.info? 117).map (·.size))=some 2:=by kernel_rfl
theorem WH:liesAt Tryz.prog Tryz.prog.depth 117 (2 / Tryz.prog.cellsOf 117) 0 117 1=true:=by kernel_rfl
theorem mB (b:Nat) (w:World) (h0:w.cell? ⟨b,0,none⟩=some (.pointer (some ⟨b,0,none⟩))) :
  Calls Tryz.prog 115 #[.pointer (some ⟨b,0,none⟩)] w fun e w'=>e = .returned (.tuple #[])∧w' = w:=by
 obtain ⟨j,hj,_⟩:=Option.map_eq_some_iff.1 lD
 go_enter Tryz.func115,Tryz.ntmps115
 go_wp2
 rw [Lib.run_neq_ptr_same w _ Tryz.underlying114 hj]
 go_wp2
 go_end0
 exact ⟨rfl,rfl⟩
theorem lu (b:Nat) (w:World) (h0:w.cell? ⟨b,0,none⟩=some (.pointer none)) (hsh:w.shape? b=some (117,2)) (hfz:w.frozen? ⟨b,0,none⟩=false) :
  Calls Tryz.prog 115 #[.pointer (some ⟨b,0,none⟩)] w fun e w'=>e = .returned (.tuple #[])∧w' = w.setCell ⟨b,0,none⟩ (.pointer (some ⟨b,0,none⟩)):=by
 obtain ⟨j,hj,hjs⟩:=Option.map_eq_some_iff.1 lD
 go_enter Tryz.func115,Tryz.ntmps115
 go_wp2
 rw [Lib.run_to_unsafe w ⟨b,0,none⟩ Tryz.underlying114 Tryz.underlying190 hj (by rw [hjs];decide) hsh (Nat.zero_lt_succ 1)]
 simp only [Result.andThen]
 rw [Oper.upon_value]
 go_wp2
 rw [run_callFunc_extern Tryz.func146 (by kernel_rfl) (by kernel_rfl) (by kernel_rfl) (e:=Extern.AbiNoEscape.same) (by kernel_rfl)]
 rw [Lib.run_noEscape]
 simp only [Result.andThen]
 rw [Oper.upon_value]
 go_wp2
 rw [Lib.run_from_unsafe w ⟨b,0,none⟩ Tryz.underlying190 Tryz.underlying114 hj hsh WH]
 simp only [Result.andThen]
 rw [Oper.upon_value]
 go_wp2
 go_end0
 exact ⟨rfl,rfl⟩
end Go.Proofs.YtlfeacmbhldjcaaGreatDoor
