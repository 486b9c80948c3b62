/- A part of the proof: the texts FwD, FwE, Ty, S0, one behind the other. -/
import Derived.Test.YtlfeacmbhldjcaaGreatDoorPFb
import Derived.ProofKit
import Derived.SizedLaws
import Derived.ReadAgain
import Derived.Below
import Derived.Deep.Draws
import Derived.Test.YtlfeacmbhldjcaaGreatDoorProg
import Derived.KernelRfl
import Derived.Lib.Builder
import Derived.WalkKit
import Derived.Laws.Externs
import Derived.Laws.BitsLemmas
set_option linter.unusedVariables false
set_option linter.unusedSimpArgs false
set_option linter.unusedSectionVars false
namespace Go.Ab
universe u
def both (b:Bool) (A B:Prop):Prop:=(b=true→A)∧(b=false→B)
theorem nX (A B:Prop):both true A B=A:=by simp [both]
theorem sP (A B:Prop):both false A B=B:=by simp [both]
structure LOp where
 dst:Option Nat
 op:Op
 guard:Option (Nat × Bool)
def l5 (o:Oper):LOp:=⟨o.dst,o.op,o.guard⟩
def cS:List Oper→List LOp
 | []=>[]
 | o::l=>l5 o::cS l
def prs (ρ:Operand→AV):List (Nat × Operand)→List (Nat × AV)
 | []=>[]
 | q::l=>(q.1,ρ q.2)::prs ρ l
theorem DY (ρ:Operand→AV) (l:List (Nat × Operand)):l.map (fun q=>(q.1,ρ q.2))=prs ρ l:=by
 induction l with
 | nil=>rfl
 | cons q l ih=>simp only [List.map_cons,prs,ih]
def opL (P:Program) (m:Mem) (nid:Oid) (md:Nat→Bool) (ρ:Operand→AV) (dst:Option Nat) (op:Op):OpR :=
 match op with
 | .move x=>bJ (ρ x)
 | .assign x=>bJ (ρ x)
 | .pick c a b=>match ρ c with
  | .bool v=>bJ (if v then ρ a else ρ b)
  | _=>.no
 | .alloc t=>match zer P t with
  | some z=>.eff ⟨[],.ptr (eV P t nid) 0,[(eV P t nid,some (.cells z))]⟩
  | none=>.no
 | .box t x=>if (ρ x).known=true then .eff ⟨[],.ptr (eV P t nid) 0,[(eV P t nid,some (.cells (ρ x).cells))]⟩ else .no
 | .build t ps=>dA (lR P t (prs ρ ps.toList))
 | .buildSlice t n ps=>match lS P (tyk P t) n (prs ρ ps.toList) with
  | some (sz,vs)=>if (match dst with|some d=>md d|none=>false)=true then .eff ⟨[],.sl nid sz n,[(nid,some (.arr sz vs))]⟩ else bJ (.list sz vs)
  | none=>.no
 | .load t a=>gN (shp P t) m (ρ a)
 | .store t a v=>ja (shp P t) m (ρ a) (ρ v)
 | .nilCheck x=>if lM (ρ x)=true then bJ (ρ x) else .no
 | .binOp op t x y _=>dA (DU P op t (isC y) (ρ x) (ρ y))
 | .unOp op _ x=>dA (unA op (ρ x))
 | .convert s d x=>dA (uq P s d (ρ x))
 | .fieldAddr t x k=>dA (eR (aB P t k) (ρ x))
 | .field t x k=>dA (lO (aB P t k) (ρ x))
 | .indexAddr t x i=>dA (dy (tyk P t) (ρ x) (ρ i))
 | .index t x i=>dA (ka (tyk P t) (ρ x) (ρ i))
 | .extract x i=>dA (ia (ρ x) i)
 | .makeFunc f xs ys=>bJ (.fn f (xs.toList.map ρ) (ys.toList.map ρ))
 | .makeInterface t x=>dA (kb (tyk P t) t (ρ x))
 | .slice t x lo hi none=>dA (bB (tyk P t) (ρ x) (lo.map ρ) (hi.map ρ))
 | .makeMap t none=>match eS P t with
  | some (ks,ag)=>.eff ⟨[],.map nid,[(nid,some (.map ks ag [] 0))]⟩
  | none=>.no
 | .lookup t x k ok=>eI P m t (ρ x) (ρ k) ok
 | .mapUpdate t x k v=>bS P m t (ρ x) (ρ k) (ρ v)
 | .insert t x k v=>bS P m t (ρ x) (ρ k) (ρ v)
 | .mapEntry t x k=>dU P m t (ρ x) (ρ k)
 | .entryStore _ x k v=>cR m (ρ x) (ρ k) (ρ v)
 | .range t x=>jf (tyk P t) m nid (ρ x)
 | .entry x=>jg m (ρ x)
 | .call c=>jK P m nid ρ c
 | _=>.no
theorem sQ (P:Program) (m:Mem) (nid:Oid) (md:Nat→Bool) (ρ:Operand→AV) (o:Oper):opF P m nid md ρ o=opL P m nid md ρ o.dst o.op:=by
 unfold opF opL;simp only [DY];rfl
def nY:List (Nat × Nat)→Nat→Option Nat
 | [],_=>none
 | q::l,j=>if j=q.1 then some q.2 else nY l j
def kR (gl:List (Nat × Nat)) (g:Option (Nat × Bool)) (f:Nat→AV):Option Bool :=
 match g with
 | none=>some true
 | some (j,want)=>match nY gl j with
  | none=>none
  | some d=>match f d with
   | .bool b=>some (b == want)
   | .tuple []=>some false
   | _=>none
def ns (ops:Array Oper) (gl:List (Nat × Nat)):Bool:=gl.all fun q=>match ops[q.1]? with
 | some o=>o.dst == some q.2
 | none=>false
theorem qR {ops:Array Oper}:∀ {gl:List (Nat × Nat)},ns ops gl=true→∀ {j d:Nat},nY gl j=some d→(ops[j]?).bind (·.dst)=some d
 | [],_,_,_,h=>by cases h
 | q::l,hg,j,d,h=>by
  simp only [ns,List.all_cons,Bool.and_eq_true] at hg
  simp only [nY] at h
  split at h
  ·rename_i e
   simp only [Option.some.injEq] at h;subst h;subst e
   have:=hg.1
   split at this
   ·rename_i o ho;rw [ho];simpa using this
   ·cases this
  ·exact qR (by simpa [ns] using hg.2) h
theorem qS {ops:Array Oper} {gl:List (Nat × Nat)} (hg:ns ops gl=true) {o:Oper} {f:Nat→AV} {b:Bool} (h:kR gl o.guard f=some b):fQ ops o f=some b:=by
 unfold kR at h
 unfold fQ
 split at h
 ·rename_i e;rw [e];exact h
 ·rename_i j want e
  rw [e];simp only
  cases hl:nY gl j with
  | none=>rw [hl] at h;cases h
  | some d =>
   rw [hl] at h
   rw [qR hg hl]
   exact h
structure LE where
 need:List Oid
 upd:List Oid
def LE.none:LE:=⟨[],[]⟩
def jh {α β:Type}:List (α × β)→List α
 | []=>[]
 | q::l=>q.1::jh l
theorem fW {α β:Type} {l:List (α × β)} {q:α × β} (h:q ∈ l):q.1 ∈ jh l:=by
 induction l with
 | nil=>cases h
 | cons a l ih =>
  rcases List.mem_cons.1 h with rfl|h
  ·exact List.mem_cons_self
  ·exact List.mem_cons_of_mem _ (ih h)
def ji (e:Eff):LE:=⟨jh e.need,jh e.upd⟩
def qT (lg:Bool) (e:LE) (log:List LE):List LE:=if lg then e::log else log
def ev (P:Program) (md:Nat→Bool) (gl:List (Nat × Nat)) (p:Oid) (c:Nat) (lg:Bool) (C:Nat→List LOp→FuncId→List AV→List (Nat × AV)→Mem→List LE→Prop) (S:Nat→List LOp→List (Nat × AV)→Mem→List LE→Prop)
    (K:List (Nat × AV)→Mem→List LE→Prop):Nat→List LOp→List (Nat × AV)→Mem→List LE→Prop
 | _,[],fr,m,log=>K fr m log
 | i,o::rest,fr,m,log =>
  match kR gl o.guard (F fr) with
  | some b=>both b
    (match opL P m (.sub c i p) md (evA fr) o.dst o.op with
     | .eff e=>ev P md gl p c lg C S K (i+1) rest (put o.dst e.val fr) (m.aF e.upd) (qT lg (ji e) log)
     | .call f xs=>C i (o::rest) f xs fr m log
     | .no=>S i (o::rest) fr m log)
    (ev P md gl p c lg C S K (i+1) rest (put o.dst (.tuple []) fr) m (qT lg LE.none log))
  | none=>False
section
variable (P:Program) (md:Nat→Bool) (gl:List (Nat × Nat)) (p:Oid) (c:Nat) (lg:Bool) (C:Nat→List LOp→FuncId→List AV→List (Nat × AV)→Mem→List LE→Prop) (S:Nat→List LOp→List (Nat × AV)→Mem→List LE→Prop)
  (K:List (Nat × AV)→Mem→List LE→Prop) (i:Nat) (o:LOp) (rest:List LOp) (fr:List (Nat × AV)) (m:Mem) (log:List LE)
def evR (r:OpR):Prop:=match r with
 | .eff e=>ev P md gl p c lg C S K (i+1) rest (put o.dst e.val fr) (m.aF e.upd) (qT lg (ji e) log)
 | .call f xs=>C i (o::rest) f xs fr m log
 | .no=>S i (o::rest) fr m log
def evG (b:Option Bool):Prop:=match b with
 | some b=>both b (evR P md gl p c lg C S K i o rest fr m log (opL P m (.sub c i p) md (evA fr) o.dst o.op)) (ev P md gl p c lg C S K (i+1) rest (put o.dst (.tuple []) fr) m (qT lg LE.none log))
 | none=>False
theorem nr {α:Sort u} {a b:α} (h:a=b):a=b:=h
theorem Yp:ev P md gl p c lg C S K i [] fr m log=K fr m log:=nr (by rw [ev])
theorem Yq (dst:Option Nat) (op:Op):ev P md gl p c lg C S K i (⟨dst,op,none⟩::rest) fr m log=evR P md gl p c lg C S K i ⟨dst,op,none⟩ rest fr m log (opL P m (.sub c i p) md (evA fr) dst op):=nr (by
 rw [ev];simp only [kR,nX];rfl)
theorem Ap (dst:Option Nat) (op:Op) (j:Nat) (w:Bool):ev P md gl p c lg C S K i (⟨dst,op,some (j,w)⟩::rest) fr m log=evG P md gl p c lg C S K i ⟨dst,op,some (j,w)⟩ rest fr m log (kR gl (some (j,w)) (F fr)):=nr (by
 rw [ev];rfl)
theorem DZ (e:Eff):evR P md gl p c lg C S K i o rest fr m log (.eff e)=ev P md gl p c lg C S K (i+1) rest (put o.dst e.val fr) (m.aF e.upd) (qT lg (ji e) log):=nr (by rw [evR])
theorem Aq (f:FuncId) (xs:List AV):evR P md gl p c lg C S K i o rest fr m log (.call f xs)=C i (o::rest) f xs fr m log:=nr (by rw [evR])
theorem Yr:evR P md gl p c lg C S K i o rest fr m log .no=S i (o::rest) fr m log:=nr (by rw [evR])
theorem Ar:evG P md gl p c lg C S K i o rest fr m log (some true)=evR P md gl p c lg C S K i o rest fr m log (opL P m (.sub c i p) md (evA fr) o.dst o.op):=nr (by rw [evG];simp only [nX])
theorem vJ:evG P md gl p c lg C S K i o rest fr m log (some false)=ev P md gl p c lg C S K (i+1) rest (put o.dst (.tuple []) fr) m (qT lg LE.none log):=nr (by rw [evG];simp only [sP])
variable {P md gl p c lg C S K i o rest fr m log}
theorem bm {b:Bool} (h1:b=true→evR P md gl p c lg C S K i o rest fr m log (opL P m (.sub c i p) md (evA fr) o.dst o.op)) (h2:b=false→ev P md gl p c lg C S K (i+1) rest (put o.dst (.tuple []) fr) m (qT lg LE.none log)) :
  evG P md gl p c lg C S K i o rest fr m log (some b):=⟨h1,h2⟩
end
section
variable {P:Program} [Laid P] {md:Nat→Bool} {ops:Array Oper} {p:Oid} {c:Nat} {gl:List (Nat × Nat)}
theorem fX {i:Nat} {o:Oper} {rest:List Oper} (h:ops.toList.drop i=o::rest):ops.toList.drop (i+1)=rest:=by
 have:(ops.toList.drop i).drop 1=rest:=by rw [h];rfl
 rwa [List.drop_drop] at this
def D1 (P:Program) [Laid P] (md:Nat→Bool) (ops:Array Oper) (p:Oid) (c:Nat) (K:List (Nat × AV)→Mem→Prop) (Kp:AV→List (Nat × AV)→Mem→Prop):Nat→List LOp→FuncId→List AV→List (Nat × AV)→Mem→List LE→Prop :=
 fun i L f xs fr m _=>∀ o rest,ops.toList.drop i=o::rest→cS (o::rest)=L→∃ need R Rp,aX P f xs (Oid.under (.sub c i p)) need R Rp∧(∀ q,q ∈ need→m q.1=some q.2)∧(∀ val upd,R val upd→eX P md ops p c (i+1) rest (put o.dst val fr) (m.aF upd) K Kp)∧∀ pv upd,Rp pv upd→Kp pv fr (m.aF upd)
def ahj (P:Program) [Laid P] (dst:Option Nat) (op:Op) (ρ:Operand→AV) (sp:Oid→Prop) (need:List (Oid × ar)) (R Rp:AV→List (Oid × Option ar)→Prop):Prop :=
 ∀ o:Oper,o.dst=dst→o.op=op→kQ P o ρ sp need R Rp
def ahk (P:Program) [Laid P] (dst:Option Nat) (op:Op) (ρ:Operand→AV) (sp:Oid→Prop) (e:Eff):Prop:=∀ o:Oper,o.dst=dst→o.op=op→aG P o ρ sp e
def afR (P:Program) [Laid P] (md:Nat→Bool) (ops:Array Oper) (p:Oid) (c:Nat) (K:List (Nat × AV)→Mem→Prop) (Kp:AV→List (Nat × AV)→Mem→Prop):Nat→List LOp→List (Nat × AV)→Mem→List LE→Prop :=
 fun i L fr m _=>∀ o rest,ops.toList.drop i=o::rest→cS (o::rest)=L→∃ need R Rp,kQ P o (evA fr) (Oid.under (.sub c i p)) need R Rp∧(∀ q,q ∈ need→m q.1=some q.2)∧(∀ val upd,R val upd→eX P md ops p c (i+1) rest (put o.dst val fr) (m.aF upd) K Kp)∧∀ pv upd,Rp pv upd→Kp pv fr (m.aF upd)
theorem fY {K:List (Nat × AV)→Mem→Prop} {Kp:AV→List (Nat × AV)→Mem→Prop} {lg:Bool} (hg:ns ops gl=true):∀ (rest:List Oper) (i:Nat) (fr:List (Nat × AV)) (m:Mem) (log:List LE),ops.toList.drop i=rest →
  ev P md gl p c lg (D1 P md ops p c K Kp) (afR P md ops p c K Kp) (fun fr m _=>K fr m) i (cS rest) fr m log→eX P md ops p c i rest fr m K Kp
 | [],_,_,_,_,_,h=>h
 | o::rest,i,fr,m,log,hd,h=>by
  simp only [cS,ev] at h
  simp only [eX]
  cases hw:kR gl (l5 o).guard (F fr) with
  | none=>simp only [hw] at h
  | some b =>
   simp only [hw] at h
   rw [qS (o:=o) hg hw]
   cases b with
   | true =>
    have h:=h.1 rfl
    rw [sQ]
    simp only [l5] at h
    simp only
    cases ho:opL P m (.sub c i p) md (evA fr) o.dst o.op with
    | eff e=>simp only [ho] at h;exact fY hg rest _ _ _ _ (fX hd) h
    | call f xs=>simp only [ho] at h;exact .inr (h o rest hd rfl)
    | no=>simp only [ho] at h;exact h o rest hd rfl
   | false=>exact fY hg rest _ _ _ _ (fX hd) (h.2 rfl)
def kS (ops:Array Oper) (i:Nat) (rest:List Oper) (log:List Eff):Prop:=(∀ j,rest[j]? = ops[i+j]?)∧log.length=i∧∀ (k:Nat) o e,ops[k]? = some o→log.reverse[k]? = some e→vF o e
def KT (ops:Array Oper) (K:List (Nat × AV)→Mem→List Eff→Prop) (fr:List (Nat × AV)) (m:Mem) (log:List Eff):Prop:=K fr m log∧∀ (k:Nat) o e,ops[k]? = some o→log.reverse[k]? = some e→vF o e
theorem kS.step {i:Nat} {o:Oper} {rest:List Oper} {log:List Eff} (h:kS ops i (o::rest) log) {e:Eff} (he:vF o e):kS ops (i+1) rest (e::log):=by
 obtain ⟨hl,hn,ht⟩:=h
 have h0:ops[i]? = some o:=by simpa using (hl 0).symm
 refine ⟨fun j=>by have:=hl (j+1);simpa [Nat.add_assoc,Nat.add_comm 1 j] using this,by simp [hn],?_⟩
 intro k o' e' ho' he'
 rw [List.reverse_cons] at he'
 by_cases hk:k < log.reverse.length
 ·rw [List.getElem?_append_left hk] at he';exact ht k o' e' ho' he'
 ·rw [List.getElem?_append_right (by omega)] at he'
  have hk0:k - log.reverse.length=0:=by
   cases hz:k - log.reverse.length with
   | zero=>rfl
   | succ z=>rw [hz] at he';simp at he'
  have hki:k=i:=by rw [List.length_reverse,hn] at hk0 hk;omega
  subst hki
  rw [hk0] at he'
  simp only [List.getElem?_cons_zero,Option.some.injEq] at he'
  rw [h0] at ho';simp only [Option.some.injEq] at ho'
  subst ho';subst he';exact he
theorem kS.drop {i:Nat} {rest:List Oper} {log:List Eff} (h:kS ops i rest log):ops.toList.drop i=rest:=by
 apply List.ext_getElem?
 intro j
 rw [List.getElem?_drop,h.1 j];simp
def ur (P:Program) [Laid P] (ops:Array Oper) (p:Oid) (c:Nat) (K:List (Nat × AV)→Mem→List LE→Prop):Nat→List LOp→FuncId→List AV→List (Nat × AV)→Mem→List LE→Prop :=
 fun i L f xs fr m lg=>∀ o rest log,kS ops i (o::rest) log→log.map ji=lg→cS (o::rest)=L→(eA o.op=false∧eW o.op=false)→∃ e,aA P f xs (Oid.under (.sub c i p)) e∧(∀ q,q ∈ e.need→m q.1=some q.2) ∧
     cV P ops p c (i+1) rest (put o.dst e.val fr) (m.aF e.upd) (e::log) (KT ops fun fr m log=>K fr m (log.map ji))
def XV (P:Program) [Laid P] (ops:Array Oper) (p:Oid) (c:Nat) (K:List (Nat × AV)→Mem→List LE→Prop):Nat→List LOp→List (Nat × AV)→Mem→List LE→Prop :=
 fun i L fr m lg=>∀ o rest log,kS ops i (o::rest) log→log.map ji=lg→cS (o::rest)=L→∃ e,aG P o (evA fr) (Oid.under (.sub c i p)) e∧(∀ q,q ∈ e.need→m q.1=some q.2) ∧
     cV P ops p c (i+1) rest (put o.dst e.val fr) (m.aF e.upd) (e::log) (KT ops fun fr m log=>K fr m (log.map ji))
theorem e6 {K:List (Nat × AV)→Mem→List LE→Prop} (hg:ns ops gl=true):∀ (rest:List Oper) (i:Nat) (fr:List (Nat × AV)) (m:Mem) (log:List Eff),kS ops i rest log →
  ev P md gl p c true (ur P ops p c K) (XV P ops p c K) K i (cS rest) fr m (log.map ji)→cV P ops p c i rest fr m log (KT ops fun fr m log=>K fr m (log.map ji))
 | [],_,_,_,_,hL,h=>⟨h,hL.2.2⟩
 | o::rest,i,fr,m,log,hL,h=>by
  simp only [cS,ev] at h
  simp only [cV]
  cases hw:kR gl (l5 o).guard (F fr) with
  | none=>simp only [hw] at h
  | some b =>
   simp only [hw] at h
   rw [qS (o:=o) hg hw]
   cases b with
   | true =>
    have h:=h.1 rfl
    simp only [l5] at h
    simp only
    cases ho:opL P m (.sub c i p) md (evA fr) o.dst o.op with
    | eff e =>
     simp only [ho] at h
     rw [← sQ] at ho
     obtain ⟨h1,h2⟩:=Ae (sp:=Oid.under (.sub c i p)) (Oid.az _) (fun t=>Oid.fM t _) rfl ho
     exact ⟨e,h1,h2,e6 hg rest _ _ _ (e::log) (hL.step ⟨fun hi=>Ag hi ho,fun hi=>Ah hi ho⟩) h⟩
    | call f xs =>
     simp only [ho] at h
     rw [← sQ] at ho
     have i1:eA o.op=false:=by
      cases hi:eA o.op with
      | false=>rfl
      | true=>exact (nj hi ho).elim
     have i2:eW o.op=false:=by
      cases hi:eW o.op with
      | false=>rfl
      | true=>exact (nk hi ho).elim
     obtain ⟨e,h1,h2,h3⟩:=h o rest log hL rfl rfl ⟨i1,i2⟩
     exact ⟨e,qI ho h1,h2,h3⟩
    | no =>
     simp only [ho] at h
     exact h o rest log hL rfl rfl
   | false=>exact e6 hg rest _ _ _ (Eff.none::log) (hL.step ⟨fun _=>⟨rfl,rfl⟩,fun _=>rfl⟩) (h.2 rfl)
def uv (a b:LE):Prop:=(∀ i,i ∈ a.upd→∀ j,j ∈ b.need→i≠j)∧(∀ i,i ∈ a.upd→∀ j,j ∈ b.upd→i≠j)∧(∀ i,i ∈ a.need→∀ j,j ∈ b.upd→i≠j)
def qU (E:List LE):List (Nat × Nat)→Prop
 | []=>True
 | (i,j)::r=>uv (E.getD i LE.none) (E.getD j LE.none)∧qU E r
theorem qV {a b:LE} (ha:a.upd=[]) (hb:b.upd=[]):uv a b:=by
 unfold uv;rw [ha,hb]
 refine ⟨?_,?_,?_⟩<;>intro i h j k<;>first|(cases h;done)|(cases k;done)
theorem aK {E:List LE} (h:(E.all fun e=>e.upd.isEmpty)=true):∀ {U:List (Nat × Nat)},qU E U
 | []=>trivial
 | (i,j)::r=>by
  have hget:∀ k,(E.getD k LE.none).upd=[]:=fun k=>by
   rw [List.getD_eq_getElem?_getD]
   cases hk:E[k]? with
   | none=>rfl
   | some e =>
    rw [List.all_eq_true] at h
    exact List.isEmpty_iff.1 (h e (List.mem_of_getElem? hk))
  exact ⟨qV (hget i) (hget j),aK h⟩
theorem nZ {E:List Eff}:∀ {U:List (Nat × Nat)},qU (E.map ji) U→Ai E U
 | [],_=>trivial
 | (i,j)::r,h=>by
  have hget:∀ k,(E.map ji).getD k LE.none=ji (E.getD k Eff.none):=fun k=>by
   simp only [List.getD_eq_getElem?_getD,List.getElem?_map]
   cases E[k]? <;> rfl
  simp only [qU,hget] at h
  obtain ⟨⟨h1,h2,h3⟩,h4⟩:=h
  exact ⟨⟨fun q hq q' hq'=>h1 _ (fW hq) _ (fW hq'),fun q hq q' hq'=>h2 _ (fW hq) _ (fW hq'),fun q hq q' hq'=>h3 _ (fW hq) _ (fW hq')⟩,nZ h4⟩
end
end Go.Ab
namespace Go.Ab
inductive Pc where
 | code (c:Code)
 | bend (id:Nat)
 | lend (ts:List Nat) (I:Nat→AS→Prop) (k:Nat)
def after (P:Program) (x:Ctx) (n:Nat) (Q:AX→AS→Prop):List Pc→AX→AS→Prop
 | [],e,s=>Q e s
 | k::ks,e,s=>match k,e with
  | .code c,.normal=>T P x n c s (after P x n Q ks)
  | .lend ts I k,.normal=>∃ k' m',k' < k∧(∀ i o,m' i=some o→s.mem i=some o)∧I k' ⟨bT ts s.fr,m',s.c,s.ds⟩
  | .bend j,.exit i=>if i=j then after P x n Q ks .normal s else after P x n Q ks (.exit i) s
  | _,e=>after P x n Q ks e s
section
variable {P:Program} [Laid P] {x:Ctx} {n:Nat} {Q:AX→AS→Prop} {ks:List Pc} {s:AS} {fr:List (Nat × AV)} {m:Mem} {c:Nat} {ds:List AD}
theorem l6 {a:Code} (h:T P x n a s (after P x n Q ks)):after P x n Q (.code a::ks) .normal s:=h
theorem e7 {j:Nat} (h:after P x n Q ks .normal s):after P x n Q (.bend j::ks) .normal s:=h
theorem br {e:AX} (h:Q e s):after P x n Q [] e s:=h
theorem Ys {i:Nat} (h:after P x n Q ks .normal s):after P x n Q (.bend i::ks) (.exit i) s:=by simp only [after,if_true];exact h
theorem ahl {i j:Nat} (hj:(Nat.beq i j)=false) (h:after P x n Q ks (.exit i) s):after P x n Q (.bend j::ks) (.exit i) s:=by
 have:¬ i=j:=fun e=>by subst e;simp at hj
 simp only [after,if_neg this];exact h
theorem iB:∀ {ks:List Pc},Q .ret s→after P x n Q ks .ret s
 | [],h=>h
 | .code _::ks,h=>iB (ks:=ks) h
 | .bend _::ks,h=>iB (ks:=ks) h
 | .lend .. :: ks,h=>iB (ks:=ks) h
theorem ef {v:AV}:∀ {ks:List Pc},Q (.panic v) s→after P x n Q ks (.panic v) s
 | [],h=>h
 | .code _::ks,h=>ef (ks:=ks) h
 | .bend _::ks,h=>ef (ks:=ks) h
 | .lend .. :: ks,h=>ef (ks:=ks) h
theorem l7 {a b:Code} (h:T P x n a s (after P x n Q (.code b::ks))):T P x n (.seq a b) s (after P x n Q ks) :=
 afN (gT h fun e s h=>by cases e<;>exact h)
theorem Yt (h:after P x n Q ks .normal s):T P x n .skip s (after P x n Q ks):=Yg h
theorem aC (h:Q .ret s):T P x n .ret s (after P x n Q ks):=afL (iB h)
theorem Yu {i:Nat} (h:after P x n Q ks (.exit i) s):T P x n (.exit i) s (after P x n Q ks):=Yh h
theorem jO {id:Nat} {a:Code} (h:T P x n a s (after P x n Q (.bend id::ks))):T P x n (.block id a) s (after P x n Q ks) :=
 DB (gT h fun e s h=>by cases e<;>first|exact h|(simp only [after] at h;simp only [AX.inBlock];split<;>simp_all))
theorem a6 (ts:List Nat) {a:Code} (I:Nat→AS→Prop) (k:Nat) (h0:I k ⟨bT ts fr,m,c,ds⟩)
  (round:∀ k s,I k s→T P x n a s (after P x n Q (.lend ts I k::ks))):T P x n (.loop a) ⟨fr,m,c,ds⟩ (after P x n Q ks):=by
 refine Yj (fun k s=>∃ m',(∀ i o,m' i=some o→s.mem i=some o)∧I k ⟨bT ts s.fr,m',s.c,s.ds⟩) k ⟨m,fun _ _ h=>h,h0⟩ ?_
 rintro k ⟨fr',m1,c',ds'⟩ ⟨m',hm,hi⟩
 refine gU (s:=⟨fr',m1,c',ds'⟩) (bT ts fr') (fun t _=>jM ts fr' t) ?_
 refine lG (s:=⟨bT ts fr',m1,c',ds'⟩) m' hm ?_
 refine gT (round k _ hi) fun e s h=>?_
 cases e with
 | normal=>obtain ⟨k',m',h1,h2,h3⟩:=h;exact ⟨k',h1,m',h2,h3⟩
 | _=>exact h
theorem l8 {t:Nat} {a b:Code} {v:Bool} (ht:(decide (t < n))=true) (hv:F fr t = .bool v) (h1:v=true→T P x n a ⟨fr,m,c,ds⟩ (after P x n Q ks)) (h2:v=false→T P x n b ⟨fr,m,c,ds⟩ (after P x n Q ks)) :
  T P x n (.cond (.tmp t) a b) ⟨fr,m,c,ds⟩ (after P x n Q ks):=afP ht hv h1 h2
theorem bD {t:Nat} {a b:Code} {p:Prop} {i:Decidable p} (ht:(decide (t < n))=true) (hv:F fr t = .bool (decide p)) (h1:p→T P x n a ⟨fr,m,c,ds⟩ (after P x n Q ks)) (h2:¬ p→T P x n b ⟨fr,m,c,ds⟩ (after P x n Q ks)) :
  T P x n (.cond (.tmp t) a b) ⟨fr,m,c,ds⟩ (after P x n Q ks):=afP ht hv (fun h=>h1 (of_decide_eq_true h)) (fun h=>h2 (of_decide_eq_false h))
theorem ah {t:Nat} {a b:Code} (ht:(decide (t < n))=true) (hv:F fr t = .bool true) (h1:T P x n a ⟨fr,m,c,ds⟩ (after P x n Q ks)):T P x n (.cond (.tmp t) a b) ⟨fr,m,c,ds⟩ (after P x n Q ks):=l8 ht hv (fun _=>h1) (fun h=>by cases h)
theorem aj {t:Nat} {a b:Code} (ht:(decide (t < n))=true) (hv:F fr t = .bool false) (h1:T P x n b ⟨fr,m,c,ds⟩ (after P x n Q ks)):T P x n (.cond (.tmp t) a b) ⟨fr,m,c,ds⟩ (after P x n Q ks):=l8 ht hv (fun h=>by cases h) (fun _=>h1)
def Cut (P:Program) (x:Ctx) (n:Nat) (Q:AX→AS→Prop) (ks:List Pc) (ts:List Nat) (R:AS→Prop):AX→AS→Prop
 | .normal,s=>∃ m',(∀ i o,m' i=some o→s.mem i=some o)∧R ⟨bT ts s.fr,m',s.c,s.ds⟩
 | e,s=>after P x n Q ks e s
theorem dE {a b:Code} (ts:List Nat) (R:AS→Prop) (h:T P x n a s (after P x n (Cut P x n Q ks ts R) [])) (h2:∀ s,R s→T P x n b s (after P x n Q ks)):T P x n a s (after P x n Q (.code b::ks)) :=
 gT h fun e s h=>by
  cases e with
  | normal =>
   obtain ⟨m',h1,h3⟩:=h
   obtain ⟨fr',m1,c',ds'⟩:=s
   refine gU (s:=⟨fr',m1,c',ds'⟩) (bT ts fr') (fun t _=>jM ts fr' t) ?_
   exact lG (s:=⟨bT ts fr',m1,c',ds'⟩) m' h1 (h2 _ h3)
  | _=>exact h
theorem aR {ts:List Nat} {R:AS→Prop} (h:R ⟨bT ts fr,m,c,ds⟩):after P x n (Cut P x n Q ks ts R) [] .normal ⟨fr,m,c,ds⟩:=⟨m,fun _ _ h=>h,h⟩
theorem ahm {a:Code} (fr':List (Nat × AV)) (hk:fr'.all (fun q=>decide (q.1 < n))=true) (hv:∀ q,q ∈ fr'→q.2=F fr q.1) (h:T P x n a ⟨fr',m,c,ds⟩ Q):T P x n a ⟨fr,m,c,ds⟩ Q:=by
 refine gU (s:=⟨fr,m,c,ds⟩) fr' (fun t _=>?_) h
 clear hk h
 induction fr' with
 | nil=>exact .inl rfl
 | cons q l ih =>
  simp only [F]
  split
  ·rename_i h;right;rw [hv q List.mem_cons_self,h]
  ·exact ih fun q' hq'=>hv q' (List.mem_cons_of_mem _ hq')
theorem bX {a:Code} (t sz:Nat) (ht:F fr t = .nilSl) (h:T P x n a ⟨(t,.list sz [])::fr,m,c,ds⟩ Q):T P x n a ⟨fr,m,c,ds⟩ Q:=by
 refine fg (s:=⟨fr,m,c,ds⟩) (s':=⟨(t,.list sz [])::fr,m,c,ds⟩) (fun g b w hr=>⟨g,hr.mr,hr.tm,hr.df,fun u hu=>?_,hr.young⟩) h
 simp only [F]
 split
 ·rename_i e;subst e
  have:=hr.fr u hu
  simp only [ht] at this
  rw [this.bu];exact .listNil _
 ·exact hr.fr u hu
theorem pa {a:Code} (t sz:Nat) (ht:F fr t = .nilSl) (h:T P x n a ⟨(t,.sl (.sub c 0 x.p) sz 0)::fr,m.set (.sub c 0 x.p) (some (.arr sz [])),c+1,ds⟩ Q):T P x n a ⟨fr,m,c,ds⟩ Q:=by
 refine fg (s:=⟨fr,m,c,ds⟩) _ (fun g b w hr=>?_) h
 have hl:g.loc (.sub c 0 x.p)=none:=hr.young _ ⟨c,0,Nat.le_refl _,Oid.az _⟩
 have hle:=Gh.jb hl
 refine ⟨g.cg (.sub c 0 x.p),hr.mr.uk sz hl (Oid.ay (Oid.az _)),hr.tm,hr.df.mono hle,fun u hu=>?_,fun i hi=>?_⟩
 ·simp only [F]
  split
  ·rename_i e;subst e
   have:=hr.fr u hu
   simp only [ht] at this
   rw [this.bu]
   exact .slNil _ _ (by simp [Gh.cg])
  ·exact (hr.fr u hu).mono hle
 ·simp only [Gh.cg]
  split
  ·rename_i e;subst e
   obtain ⟨c',i',h1,h2⟩:=hi
   have:=(Oid.apart (Oid.az _) h2).1
   simp only at h1
   omega
  ·exact hr.young i (hi.mono (Nat.le_succ _))
def nt (i:Oid) (sz:Nat) (xs:List AV):AV→AV
 | .sl j s n=>if j=i∧s=sz∧n=xs.length then .list sz xs else .sl j s n
 | v=>v
def frz (i:Oid) (sz:Nat) (xs:List AV):List (Nat × AV)→List (Nat × AV)
 | []=>[]
 | q::l=>(q.1,nt i sz xs q.2)::frz i sz xs l
theorem uw (i:Oid) (sz:Nat) (xs:List AV) (t:Nat):∀ fr,F (frz i sz xs fr) t=nt i sz xs (F fr t)
 | []=>rfl
 | q::l=>by
  simp only [frz,F]
  split
  ·rfl
  ·exact uw i sz xs t l
theorem l9 {a:Code} (i:Oid) (sz:Nat) (xs:List AV) (hi:m i=some (.arr sz xs)) (h:T P x n a ⟨frz i sz xs fr,m.set i none,c,ds⟩ Q):T P x n a ⟨fr,m,c,ds⟩ Q:=by
 refine Af (s:=⟨fr,m,c,ds⟩) i (frz i sz xs fr) hi (fun t _=>?_) h
 rw [uw]
 generalize F fr t=v
 unfold nt
 split
 ·split
  ·rename_i h;obtain ⟨rfl,rfl,rfl⟩:=h;exact .inr (.inr ⟨rfl,rfl⟩)
  ·exact .inr (.inl rfl)
 ·exact .inr (.inl rfl)
theorem Yv {a:Code} (m':Mem) (hm:∀ i o,m' i=some o→m i=some o) (h:T P x n a ⟨fr,m',c,ds⟩ Q):T P x n a ⟨fr,m,c,ds⟩ Q:=lG (s:=⟨fr,m,c,ds⟩) m' hm h
theorem af {id:Nat} {ops:Array Oper} (md:Nat→Bool) (gl:List (Nat × Nat)) (hng:Fit P x) (hok:(XU n P.globals.size ops && ns ops gl)=true)
  (h:qg x.p c m→∀ C S (K:List (Nat × AV)→Mem→List LE→Prop),
   (∀ {i o rest f xs fr m log} e,aA P f xs (Oid.under (.sub c i x.p)) e→(∀ q,q ∈ e.need→m q.1=some q.2)→ev P md gl x.p c false C S K (i+1) rest (put o.dst e.val fr) (m.aF e.upd) log→C i (o::rest) f xs fr m log) →
   (∀ {i o rest f xs fr m log} need R Rp,aX P f xs (Oid.under (.sub c i x.p)) need R Rp→(∀ q,q ∈ need→m q.1=some q.2)→(∀ val upd,R val upd→ev P md gl x.p c false C S K (i+1) rest (put o.dst val fr) (m.aF upd) log) →
    (∀ pv upd,Rp pv upd→Q (.panic pv) ⟨fr,m.aF upd,c+1,ds⟩)→C i (o::rest) f xs fr m log) →
   (∀ {i o rest fr m log} need R Rp,ahj P o.dst o.op (evA fr) (Oid.under (.sub c i x.p)) need R Rp→(∀ q,q ∈ need→m q.1=some q.2)→(∀ val upd,R val upd→ev P md gl x.p c false C S K (i+1) rest (put o.dst val fr) (m.aF upd) log) →
    (∀ pv upd,Rp pv upd→Q (.panic pv) ⟨fr,m.aF upd,c+1,ds⟩)→S i (o::rest) fr m log) →
   (∀ {fr m log},after P x n Q ks .normal ⟨fr,m,c+1,ds⟩→K fr m log) →
   ev P md gl x.p c false C S K 0 (cS ops.toList) fr m []):T P x n (.region id ops false) ⟨fr,m,c,ds⟩ (after P x n Q ks):=by
 simp only [Bool.and_eq_true] at hok
 obtain ⟨hok,hgl⟩:=hok
 refine qK md hng hok fun hf=>?_
 let K0:List (Nat × AV)→Mem→Prop:=fun fr m=>after P x n Q ks .normal ⟨fr,m,c+1,ds⟩
 let Kp:AV→List (Nat × AV)→Mem→Prop:=fun pv fr m=>after P x n Q ks (.panic pv) ⟨fr,m,c+1,ds⟩
 refine fY (md:=md) (lg:=false) (K:=K0) (Kp:=Kp) hgl _ _ _ _ [] (by simp) ?_
 refine h hf _ _ _ ?_ ?_ ?_ ?_
 ·intro i o rest f xs fr m log e h1 h2 h3 o' rest' hd hl
  simp only [cS,List.cons.injEq] at hl
  obtain ⟨rfl,rfl⟩:=hl
  exact ⟨_,_,_,h1.nd,h2,fun val upd ⟨hv,hu⟩=>by subst hv;subst hu;exact fY hgl _ _ _ _ log (fX hd) h3,fun _ _ h=>h.elim⟩
 ·intro i o rest f xs fr m log need R Rp h1 h2 h3 h4 o' rest' hd hl
  simp only [cS,List.cons.injEq] at hl
  obtain ⟨rfl,rfl⟩:=hl
  exact ⟨need,R,Rp,h1,h2,fun val upd hr=>fY hgl _ _ _ _ log (fX hd) (h3 val upd hr),fun pv upd hr=>ef (h4 pv upd hr)⟩
 ·intro i o rest fr m log need R Rp h1 h2 h3 h4 o' rest' hd hl
  simp only [cS,List.cons.injEq] at hl
  obtain ⟨rfl,rfl⟩:=hl
  exact ⟨need,R,Rp,h1 o' rfl rfl,h2,fun val upd hr=>fY hgl _ _ _ _ log (fX hd) (h3 val upd hr),fun pv upd hr=>ef (h4 pv upd hr)⟩
 ·intro fr m log h
  exact h
theorem bE {id:Nat} {ops:Array Oper} (md:Nat→Bool) (gl:List (Nat × Nat)) (U:List (Nat × Nat)) (hmx:P.follows .mixedOrders=true) (hng:Fit P x) (hok:(Ak n P.globals.size ops U && ns ops gl)=true) (ts:List Nat)
  (h:qg x.p c m→∀ C S (K:List (Nat × AV)→Mem→List LE→Prop),
   (∀ {i o rest f xs fr m log} e,aA P f xs (Oid.under (.sub c i x.p)) e→(∀ q,q ∈ e.need→m q.1=some q.2)→ev P md gl x.p c true C S (fun fr m log=>K (bT ts fr) m log) (i+1) rest (put o.dst e.val fr) (m.aF e.upd) (ji e::log)→C i (o::rest) f xs fr m log) →
   (∀ {i o rest fr m log} e,ahk P o.dst o.op (evA fr) (Oid.under (.sub c i x.p)) e→eA o.op=false→eW o.op=false→(∀ q,q ∈ e.need→m q.1=some q.2)→ev P md gl x.p c true C S (fun fr m log=>K (bT ts fr) m log) (i+1) rest (put o.dst e.val fr) (m.aF e.upd) (ji e::log)→S i (o::rest) fr m log) →
   (∀ {fr m log},qU log.reverse U→after P x n Q ks .normal ⟨fr,m,c+1,ds⟩→K fr m log) →
   ev P md gl x.p c true C S (fun fr m log=>K (bT ts fr) m log) 0 (cS ops.toList) fr m []):T P x n (.region id ops true) ⟨fr,m,c,ds⟩ (after P x n Q ks):=by
 simp only [Bool.and_eq_true] at hok
 obtain ⟨hok,hgl⟩:=hok
 simp only [Ak,Bool.and_eq_true] at hok
 obtain ⟨⟨k1,k2⟩,k3⟩:=hok
 have key:=nc (P:=P) (x:=x) (n:=n) (s:=⟨fr,m,c,ds⟩) (Q:=fun e s=>e = .normal∧after P x n Q ks .normal ⟨bT ts s.fr,s.mem,s.c,s.ds⟩) (id:=id) hmx hng k1 k2 fun hf=>by
  have h1:=e6 (P:=P) (md:=md) (ops:=ops) (p:=x.p) (c:=c) (K:=fun fr m log=>qU log.reverse U∧after P x n Q ks .normal ⟨bT ts fr,m,c+1,ds⟩) hgl ops.toList 0 fr m [] ⟨fun j=>by simp,rfl,fun k o e _ he=>by simp at he⟩
   (h hf (ur P ops x.p c _) (XV P ops x.p c _) (fun fr m log=>qU log.reverse U∧after P x n Q ks .normal ⟨fr,m,c+1,ds⟩)
    (fun {i o rest f xs fr m log} e h1 h2 h3=>fun o' rest' log' hL hlg hl hi=>by
     simp only [cS,List.cons.injEq] at hl
     obtain ⟨rfl,rfl⟩:=hl
     subst hlg
     exact ⟨e,h1,h2,e6 hgl _ _ _ _ (e::log') (hL.step (show vF o' e from ⟨fun h=>absurd h (by simp [hi.1]),fun h=>absurd h (by simp [hi.2])⟩)) h3⟩)
    (fun {i o rest fr m log} e h1 i1 i2 h2 h3=>fun o' rest' log' hL hlg hl=>by
     simp only [cS,List.cons.injEq] at hl
     obtain ⟨rfl,rfl⟩:=hl
     subst hlg
     simp only [l5] at i1 i2
     exact ⟨e,h1 o' rfl rfl,h2,e6 hgl _ _ _ _ (e::log') (hL.step (show vF o' e from ⟨fun h=>absurd h (by simp [i1]),fun h=>absurd h (by simp [i2])⟩)) h3⟩)
    (fun {fr m log} h1 h2=>⟨h1,h2⟩))
  refine fD (N:=ops.size) ?_ _ _ _ _ _ (by simp) h1
  rintro fr1 m1 log hlen ⟨⟨hd,hq⟩,ht⟩
  refine ⟨vG k3 (by simpa using hlen) ht (nZ (by rw [List.map_reverse];exact hd)),fun fr' hF=>⟨rfl,?_⟩⟩
  have:bT ts fr' = bT ts fr1:=by simp only [vE,hF]
  rw [this];exact hq
 intro g a w hr
 refine wpIn_mono (key g a w hr) fun e a' w' ⟨g',ex,s',h1,h2,h4,h5⟩=>?_
 subst h4
 exact ⟨g',.normal,⟨bT ts s'.fr,s'.mem,s'.c,s'.ds⟩,h1.forget _ (fun t _=>jM ts s'.fr t),h2,h5⟩
end
theorem ma {P:Program} [Laid P] {f:FuncId} {fn:Func} {n:Nat} {rs:List ResultVar} {c:Code} {xs:List AV} {p:Oid} {need:List (Oid × ar)} {R Rp:AV→List (Oid × Option ar)→Prop} (hf:P.funcs[f]? = some fn) (hn:fn.ntmps=n) (hr:fn.results.toList=rs)
  (hnm:(fn.name != "runtime.NumGoroutine")=true) (hl:(Nat.ble xs.length n)=true) (hok:eY n rs=true) (hb:fn.body=some c)
  (hT:∀ x:Ctx,x.p=p→x.rd=none→Fit P x→T P x n c ⟨cx 0 xs,Mem.of need,0,[]⟩ (after P x n (eZ P rs need R Rp) [])):aX P f xs (Oid.under p) need R Rp :=
 vH hf hn hr hnm hl hok hb fun x h1 h2 h3=>gT (hT x h1 h2 h3) fun _ _ h=>h
theorem aN {P:Program} [Laid P] {f:FuncId} {fn:Func} {n:Nat} {rs:List ResultVar} {c:Code} {xs:List AV} {p:Oid} {e:Eff} (hf:P.funcs[f]? = some fn) (hn:fn.ntmps=n) (hr:fn.results.toList=rs)
  (hnm:(fn.name != "runtime.NumGoroutine")=true) (hl:(Nat.ble xs.length n)=true) (hok:eY n rs=true) (hb:fn.body=some c)
  (hT:∀ x:Ctx,x.p=p→x.rd=none→Fit P x→T P x n c ⟨cx 0 xs,Mem.of e.need,0,[]⟩ (after P x n (eZ P rs e.need (fun v u=>v=e.val∧u=e.upd) fun _ _=>False) [])):aA P f xs (Oid.under p) e :=
 (ma hf hn hr hnm hl hok hb hT).ok
theorem cT {P:Program} {rs:List ResultVar} {need:List (Oid × ar)} {R Rp:AV→List (Oid × Option ar)→Prop} {fr:List (Nat × AV)} {m:Mem} {c:Nat} (val:AV) (upd:List (Oid × Option ar)) (h1:ib P m fr rs=some val) (h2:R val upd)
  (h3:∀ i o,((Mem.of need).aF upd) i=some o→m i=some o):eZ P rs need R Rp .ret ⟨fr,m,c,[]⟩:=⟨val,upd,h1,h2,h3⟩
theorem bc {P:Program} {rs:List ResultVar} {need:List (Oid × ar)} {R Rp:AV→List (Oid × Option ar)→Prop} {fr:List (Nat × AV)} {m:Mem} {c:Nat} (val:AV) (upd:List (Oid × Option ar)) (h1:ib P m fr rs=some val) (h2:R val upd)
  (h3:∀ i o,((Mem.of need).aF upd) i=some o→m i=some o):eZ P rs need R Rp .normal ⟨fr,m,c,[]⟩:=⟨val,upd,h1,h2,h3⟩
theorem aE {P:Program} {rs:List ResultVar} {val:AV} {fr:List (Nat × AV)} {m:Mem} {c:Nat} (h1:ib P m fr rs=some val):eZ P rs [] (fun v u=>v=val∧u=[]) (fun _ _=>False) .ret ⟨fr,m,c,[]⟩ :=
 cT val [] h1 ⟨rfl,rfl⟩ fun i o h=>by cases h
theorem aT {P:Program} {t:Nat} {val:AV} {fr:List (Nat × AV)} {m:Mem} {c:Nat} (h1:F fr t=val):eZ P [.tmp t] [] (fun v u=>v=val∧u=[]) (fun _ _=>False) .ret ⟨fr,m,c,[]⟩ :=
 aE (by simp only [ib,o7,h1,DX])
theorem fF {P:Program} [Laid P] {x:Ctx} {n:Nat} {ks:List Pc} {t sz k c:Nat} {id:Oid} {xs ys:List AV} {fr:List (Nat × AV)} {m:Mem} (hv:F fr t = .sl id sz k) (hi:m id=some (.arr sz xs)) (hk:k=xs.length) (hx:xs=ys) :
  T P x n .ret ⟨fr,m,c,[]⟩ (after P x n (eZ P [.tmp t] [] (fun v u=>v = .list sz ys∧u=[]) (fun _ _=>False)) ks):=by
 subst hx
 refine l9 id sz xs hi (aC (aT ?_))
 rw [uw,hv,nt,if_pos ⟨rfl,rfl,hk⟩]
end Go.Ab
namespace Go.Ab
def gd (p:Prop) [Decidable p] (v:Option AV):Option AV:=if p then v else none
theorem Yw {p:Prop} [Decidable p] {v:Option AV} (h:p):gd p v=v:=if_pos h
def gdR (p:Prop) [Decidable p] (v:OpR):OpR:=if p then v else .no
theorem D2 {p:Prop} [Decidable p] {v:OpR} (h:p):gdR p v=v:=if_pos h
theorem sR (s:List UInt8) (k:IntKind) (n:Int):ka (some .str) (.str s) (.int k n)=gd (0≤n∧n < s.length) (some (.int .u8 (s.getD n.toNat 0).toNat)):=rfl
theorem lh (el:TypeId) (ag:Bool) (sz by' sz':Nat) (xs:List AV) (k:IntKind) (n:Int):dy (some (.slice el ag sz by')) (.list sz' xs) (.int k n)=gd (sz' = sz∧0≤n∧n < xs.length) (some (.eptr (xs.getD n.toNat .undef))):=rfl
theorem nv (el:TypeId) (ag:Bool) (sz by' sz' len:Nat) (id:Oid) (k:IntKind) (n:Int):dy (some (.slice el ag sz by')) (.sl id sz' len) (.int k n)=gd (sz' = sz∧0≤n∧n < len) (some (.aptr id sz n.toNat 0)):=rfl
theorem mb (el:TypeId) (ag:Bool) (sz len off:Nat) (id:Oid) (k:IntKind) (n:Int):dy (some (.arr len el ag sz)) (.ptr id off) (.int k n)=gd (0≤n∧n < len) (some (.ptr id (off+n.toNat * sz))):=rfl
theorem qW (s:List UInt8):bB (some .str) (.str s) none none=some (.str s):=by
 simp [bB,bL]
theorem qX (s:List UInt8) (k:IntKind) (l:Int):bB (some .str) (.str s) (some (.int k l)) none=gd (0≤l∧l≤s.length) (some (.str (s.drop l.toNat))):=by
 simp only [bB,bL,gd]
 by_cases h:0≤l∧l≤s.length
 ·rw [if_pos h,if_pos ⟨h.1,h.2,Int.le_refl _⟩];simp
 ·rw [if_neg h,if_neg (fun h'=>h ⟨h'.1,h'.2.1⟩)]
theorem qY (s:List UInt8) (k:IntKind) (h:Int):bB (some .str) (.str s) none (some (.int k h))=gd (0≤h∧h≤s.length) (some (.str (s.take h.toNat))):=by
 simp only [bB,bL,gd]
 by_cases hc:0≤h∧h≤s.length
 ·rw [if_pos hc,if_pos ⟨Int.le_refl _,hc.1,hc.2⟩];simp
 ·rw [if_neg hc,if_neg (fun h'=>hc ⟨h'.2.1,h'.2.2⟩)]
theorem qZ (s:List UInt8) (k k':IntKind) (l h:Int):bB (some .str) (.str s) (some (.int k l)) (some (.int k' h))=gd (0≤l∧l≤h∧h≤s.length) (some (.str ((s.take h.toNat).drop l.toNat))):=rfl
theorem pb (el:TypeId) (ag:Bool) (sz by' sz':Nat) (xs:List AV) (k:IntKind) (l:Int):bB (some (.slice el ag sz by')) (.list sz' xs) (some (.int k l)) none=gd (sz' = sz∧0≤l∧l≤xs.length) (some (.list sz (xs.drop l.toNat))):=by
 simp only [bB,bL,gd]
 by_cases h:sz' = sz∧0≤l∧l≤xs.length
 ·rw [if_pos h,if_pos ⟨h.1,h.2.1,h.2.2,Int.le_refl _⟩];simp
 ·rw [if_neg h,if_neg (fun h'=>h ⟨h'.1,h'.2.1,h'.2.2.1⟩)]
theorem pc (el:TypeId) (ag:Bool) (sz by' sz':Nat) (xs:List AV) (k:IntKind) (h:Int):bB (some (.slice el ag sz by')) (.list sz' xs) none (some (.int k h))=gd (sz' = sz∧0≤h∧h≤xs.length) (some (.list sz (xs.take h.toNat))):=by
 simp only [bB,bL,gd]
 by_cases hc:sz' = sz∧0≤h∧h≤xs.length
 ·rw [if_pos hc,if_pos ⟨hc.1,Int.le_refl _,hc.2.1,hc.2.2⟩];simp
 ·rw [if_neg hc,if_neg (fun h'=>hc ⟨h'.1,h'.2.2.1,h'.2.2.2⟩)]
theorem pd (el:TypeId) (ag:Bool) (sz by':Nat) (xs:List AV):bB (some (.slice el ag sz by')) (.list sz xs) none none=some (.list sz xs):=by
 simp [bB,bL]
theorem pf (el:TypeId) (ag:Bool) (sz by' sz':Nat) (xs:List AV) (k k':IntKind) (l h:Int):bB (some (.slice el ag sz by')) (.list sz' xs) (some (.int k l)) (some (.int k' h))=gd (sz' = sz∧0≤l∧l≤h∧h≤xs.length) (some (.list sz ((xs.take h.toNat).drop l.toNat))):=rfl
theorem sS (el:TypeId) (ag:Bool) (sz by' sz' len:Nat) (id:Oid) (k:IntKind) (h:Int):bB (some (.slice el ag sz by')) (.sl id sz' len) none (some (.int k h))=gd (0≤h∧h≤len) (some (.sl id sz' h.toNat)):=by
 simp only [bB,bL,gd,true_and]
theorem sT (el:TypeId) (ag:Bool) (sz by' sz' len:Nat) (id:Oid):bB (some (.slice el ag sz by')) (.sl id sz' len) none none=some (.sl id sz' len):=by
 simp [bB,bL]
theorem q7 (el:TypeId) (ag:Bool) (sz by':Nat):bB (some (.slice el ag sz by')) .nilSl none none=some .nilSl:=by
 simp [bB,bL]
theorem sU (el:TypeId) (ag:Bool) (sz len:Nat) (cs:List AV) (k:IntKind) (n:Int):ka (some (.arr len el ag sz)) (.agg cs) (.int k n)=gd (0≤n∧n < len∧n.toNat * sz+sz≤cs.length∧(ag=true∨sz=1)) (some (iO ag cs (n.toNat * sz) sz)):=rfl
theorem q8 (el:TypeId) (ag:Bool) (sz len:Nat) (id:Oid) (k:IntKind) (l:Int):bB (some (.arr len el ag sz)) (.ptr id 0) (some (.int k l)) none=gd (0≤l∧l < len) (some (.win id sz l.toNat (len - l.toNat))):=by
 simp only [bB,bL,gd,Int.toNat_natCast]
 by_cases h:0≤l∧l < len
 ·rw [if_pos h,if_pos ⟨trivial,h.1,h.2,by omega,Int.le_refl _⟩]
 ·rw [if_neg h,if_neg (fun h'=>h ⟨h'.2.1,h'.2.2.1⟩)]
theorem q9 (el:TypeId) (ag:Bool) (sz len:Nat) (id:Oid) (k:IntKind) (h:Int):bB (some (.arr len el ag sz)) (.ptr id 0) none (some (.int k h))=gd ((0:Int) < len∧0≤h∧h≤len) (some (.win id sz 0 h.toNat)):=by
 simp only [bB,bL,gd]
 by_cases hc:(0:Int) < len∧0≤h∧h≤len
 ·rw [if_pos hc,if_pos ⟨trivial,Int.le_refl _,hc.1,hc.2.1,hc.2.2⟩];simp
 ·rw [if_neg hc,if_neg (fun h'=>hc ⟨h'.2.2.1,h'.2.2.2.1,h'.2.2.2.2⟩)]
theorem Au (k:IntKind) (a b:Int):fb .add k a b=some (.int k (k.wrap (a+b))):=rfl
theorem Av (k:IntKind) (a b:Int):fb .sub k a b=some (.int k (k.wrap (a - b))):=rfl
theorem Aw (k:IntKind) (a b:Int):fb .mul k a b=some (.int k (k.wrap (a * b))):=rfl
theorem Ax (k:IntKind) (a b:Int):fb .quo k a b=gd (b≠0) (some (.int k (k.wrap (a.tdiv b)))):=rfl
theorem Ay (k:IntKind) (a b:Int):fb .rem k a b=gd (b≠0) (some (.int k (a.tmod b))):=rfl
theorem Az (k:IntKind) (a b:Int):fb .and k a b=some (.int k (k.wrap (BitVec.ofInt k.bits a &&& BitVec.ofInt k.bits b).toNat)):=rfl
theorem D3 (k:IntKind) (a b:Int):fb .or k a b=some (.int k (k.wrap (BitVec.ofInt k.bits a ||| BitVec.ofInt k.bits b).toNat)):=rfl
theorem AA (k:IntKind) (a b:Int):fb .xor k a b=some (.int k (k.wrap (BitVec.ofInt k.bits a ^^^ BitVec.ofInt k.bits b).toNat)):=rfl
theorem rb (k:IntKind) (a b:Int):fb .andNot k a b=some (.int k (k.wrap (BitVec.ofInt k.bits a &&& ~~~ BitVec.ofInt k.bits b).toNat)):=rfl
theorem lv {α:Type} [BEq α] [LawfulBEq α] [DecidableEq α] (a b:α):(a == b)=decide (a=b):=by
 rw [Bool.eq_iff_iff];simp
theorem ux {α:Type} [BEq α] [LawfulBEq α] [DecidableEq α] (a b:α):(a != b)=decide (a≠b):=by
 rw [Bool.eq_iff_iff];simp
theorem AB (k:IntKind) (a b:Int):fb .eql k a b=some (.bool (decide (a=b))):=by
 simp only [fb,lv]
theorem AE (k:IntKind) (a b:Int):fb .neq k a b=some (.bool (decide (a≠b))):=by
 simp only [fb,ux]
theorem AF (k:IntKind) (a b:Int):fb .lss k a b=some (.bool (decide (a < b))):=rfl
theorem AG (k:IntKind) (a b:Int):fb .leq k a b=some (.bool (decide (a≤b))):=rfl
theorem AH (k:IntKind) (a b:Int):fb .gtr k a b=some (.bool (decide (b < a))):=rfl
theorem AI (k:IntKind) (a b:Int):fb .geq k a b=some (.bool (decide (b≤a))):=rfl
theorem sV (k:IntKind) (a b:Int):gX .shl k a b=gd (0≤b) (some (.int k (k.wrap (a * 2 ^ (min b.toNat k.bits))))):=by
 unfold gX gd
 by_cases h:0≤b
 ·rw [if_neg (by omega),if_pos h]
 ·rw [if_pos (by omega),if_neg h]
theorem sW (k:IntKind) (a b:Int):gX .shr k a b=gd (0≤b) (some (.int k (a.fdiv (2 ^ (min b.toNat k.bits))))):=by
 unfold gX gd
 by_cases h:0≤b
 ·rw [if_neg (by omega),if_pos h]
 ·rw [if_pos (by omega),if_neg h]
theorem AJ (a b:List UInt8):jC .add a b=gd (a.length+b.length≤9223372036854775807) (some (.str (a++b))):=rfl
theorem AK (a b:List UInt8):jC .eql a b=some (.bool (decide (a=b))):=by
 simp only [jC,lv]
theorem AL (a b:List UInt8):jC .neq a b=some (.bool (decide (a≠b))):=by
 simp only [jC,ux]
def ltS (a b:List UInt8):Bool:=Op.bytesLess a b
theorem AM (a b:List UInt8):jC .lss a b=some (.bool (ltS a b)):=rfl
theorem AN (a b:List UInt8):jC .leq a b=some (.bool (ltS a b || decide (a=b))):=by
 simp only [jC,ltS,lv]
theorem AO (a b:List UInt8):jC .gtr a b=some (.bool (!(ltS a b || decide (a=b)))):=by
 simp only [jC,ltS,lv]
theorem AP (a b:List UInt8):jC .geq a b=some (.bool (!ltS a b)):=rfl
def vK (P:Program) (m:Mem) (nid:Oid) (k:Option TyK) (s:AV) (x:Option (List (Oid × ar) × List AV)):OpR :=
 match k,s,x with
 | some (.slice el _ sz by'),.nilSl,some (nd,ys)=>gdR (lT P el sz=true∧0 < by'∧ys.length * by'≤140737488355328) (.eff ⟨nd,.sl nid sz ys.length,[(nid,some (.arr sz ys))]⟩)
 | some (.slice el _ sz by'),.sl id sz' len,some (nd,ys)=>match m id with
  | some (.arr s' xs)=>gdR (lT P el sz=true∧sz' = sz∧s' = sz∧xs.length=len∧0 < by'∧(len+ys.length) * by'≤140737488355328)
     (.eff ⟨(id,.arr s' xs)::nd,.sl nid sz (len+ys.length),[(id,none),(nid,some (.arr sz (xs++ys)))]⟩)
  | _=>.no
 | _,_,_=>.no
def AQ:Option TyK→Nat
 | some (.slice _ _ sz _)=>sz
 | _=>0
theorem D4 (P:Program) (m:Mem) (nid:Oid) (t:TypeId) (s x:AV):sJ P m nid t s x=vK P m nid (tyk P t) s (qz m (AQ (tyk P t)) x):=by
 unfold sJ vK
 cases tyk P t with
 | none=>rfl
 | some k =>
  cases k<;>try rfl
  simp only [AQ]
  generalize qz m _ x=r
  cases r with
  | none=>cases s<;>rfl
  | some r =>
   obtain ⟨nd,ys⟩:=r
   cases s<;>rfl
def c8 (i:Oid) (x:Option ar):List (Oid × ar)→List (Oid × ar)
 | []=>match x with
  | some o=>[(i,o)]
  | none=>[]
 | q::l=>if i=q.1 then (match x with
     | some o=>(i,o)::l
     | none=>c8 i none l) else q::c8 i x l
def dF:List (Oid × Option ar)→List (Oid × ar)→List (Oid × ar)
 | [],l=>l
 | q::u,l=>dF u (c8 q.1 q.2 l)
theorem Mem.bF (i:Oid) (x:Option ar):∀ l,(Mem.of l).set i x=Mem.of (c8 i x l)
 | []=>by cases x<;>(funext k;simp [Mem.of,Mem.set,c8,Mem.emp])
 | q::l=>by
  have ih:=fun x=>Mem.bF i x l
  simp only [c8]
  by_cases h:i=q.1
  ·rw [if_pos h]
   cases x with
   | some o=>funext k;simp only [Mem.of,Mem.set];subst h;split<;>rfl
   | none=>rw [← ih];funext k;simp only [Mem.of,Mem.set];subst h;split<;>rfl
  ·rw [if_neg h];funext k;simp only [Mem.of];rw [← ih];simp only [Mem.set]
   by_cases h1:k=i
   ·rw [if_pos h1,if_pos h1,if_neg (fun h2=>h (h1.symm.trans h2))]
   ·rw [if_neg h1,if_neg h1]
theorem Mem.bt:∀ (u:List (Oid × Option ar)) (l:List (Oid × ar)),(Mem.of l).aF u=Mem.of (dF u l)
 | [],_=>rfl
 | q::u,l=>by
  show ((Mem.of l).set q.1 q.2).aF u=_
  rw [Mem.bF,Mem.bt u];rfl
theorem Mem.Yx:Mem.emp=Mem.of []:=rfl
theorem Mem.bn (i:Oid):Mem.of [] i=none:=rfl
theorem Mem.ae (q:Oid × ar) (l:List (Oid × ar)) (i:Oid):Mem.of (q::l) i=if i=q.1 then some q.2 else Mem.of l i:=rfl
theorem D5 {L L':List (Oid × ar)} (h:∀ q,q ∈ L→Mem.of L' q.1=some q.2):∀ i o,Mem.of L i=some o→Mem.of L' i=some o:=by
 induction L with
 | nil=>intro i o h;cases h
 | cons q l ih =>
  intro i o hi
  simp only [Mem.ae] at hi
  split at hi
  ·rename_i e;simp only [Option.some.injEq] at hi;subst hi;subst e;exact h q List.mem_cons_self
  ·exact ih (fun q hq=>h q (List.mem_cons_of_mem _ hq)) i o hi
theorem cK {α:Type} (p:α→Prop):(∀ q,q ∈ ([]:List α)→p q)=True:=by simp
theorem bU {α:Type} (p:α→Prop) (a:α) (l:List α):(∀ q,q ∈ (a::l)→p q)=(p a∧∀ q,q ∈ l→p q):=by simp
theorem Oid.re (c i:Nat) (p:Oid):(Oid.sub c i p=p)=False:=by
 apply eq_false
 intro h
 have:(Oid.sub c i p).depth=p.depth:=by rw [h]
 simp only [Oid.depth] at this;omega
theorem Oid.rh (c i:Nat) (p:Oid):(p=Oid.sub c i p)=False:=by
 apply eq_false
 intro h
 have:p.depth=(Oid.sub c i p).depth:=by rw [← h]
 simp only [Oid.depth] at this;omega
theorem Oid.Yy {c c' i i':Nat} {p p':Oid} (h:c≠c'):(Oid.sub c i p=Oid.sub c' i' p')=False:=by
 apply eq_false;intro e;injection e with h1 _ _;exact h h1
theorem Oid.aa {p q:Oid} (h:¬ Oid.under p q) (c i:Nat):(q=Oid.sub c i p)=False:=by
 apply eq_false;intro e;subst e;exact h (Oid.ay (Oid.az _))
theorem Oid.ab {p q:Oid} (h:¬ Oid.under p q) (c i:Nat):(Oid.sub c i p=q)=False:=by
 apply eq_false;intro e;subst e;exact h (Oid.ay (Oid.az _))
theorem Oid.mc {p q:Oid} (h:¬ Oid.under p q):(q=p)=False:=by
 apply eq_false;intro e;subst e;exact h (Oid.az _)
theorem Oid.mg {p q:Oid} (h:¬ Oid.under p q):(p=q)=False:=by
 apply eq_false;intro e;subst e;exact h (Oid.az _)
theorem vL:qE .nilSl=some .nilPtr:=rfl
theorem AR (id:Oid) (sz n:Nat):qE (.sl id sz n)=gd (0 < n) (some (.aptr id sz 0 0)):=rfl
theorem AT (P:Program) (m:Mem) (t:TypeId) (n:Int):qF P m t .nilPtr (.int .i64 n)=gdR (n=0) (.eff ⟨[],.str [],[]⟩):=rfl
def afS (P:Program) (id:Oid) (sz i off:Nat) (n:Int) (o:Option ar) (k:Option TyK):OpR :=
 match o,k with
 | some (.arr s xs),some (.ptr e)=>gdR (sz=1∧i=0∧off=0∧s=1∧id.tyd=some e∧shp P e=some (false,1)∧0 < xs.length∧n=xs.length∧xs.length≤140737488355328∧xs.all gy=true)
   (.eff ⟨[(id,.arr s xs)],.str (xs.map byteOf),[(id,none)]⟩)
 | _,_=>.no
theorem AU (P:Program) (m:Mem) (t:TypeId) (id:Oid) (sz i off:Nat) (n:Int):qF P m t (.aptr id sz i off) (.int .i64 n)=afS P id sz i off n (m id) (tyk P t):=by
 simp only [qF]
 generalize m id=a
 generalize tyk P t=b
 cases a with
 | none=>rfl
 | some a=>cases a<;>first|rfl|(cases b with
  | none=>rfl
  | some b=>cases b<;>rfl)
def byA (b:UInt8):AV:=.int .u8 b.toNat
theorem mh (l:List UInt8):(l.map byA).all gy=true:=by
 rw [List.all_eq_true];intro v hv
 obtain ⟨b,_,rfl⟩:=List.mem_map.1 hv
 have:=b.toNat_lt
 show decide (b.toNat < 256)=true
 simp;omega
theorem mi (l:List UInt8):(l.map byA).map byteOf=l:=by
 rw [List.map_map]
 have:byteOf ∘ byA=id:=by funext b;simp [byteOf,byA,Int.toNat_natCast]
 rw [this,List.map_id]
def XW (P:Program) (sz:Nat) (xs:List AV) (a b:Option TyK):Option AV :=
 match a,b with
 | some (.slice el _ _ _),some .str=>gd (sz=1∧u8K (tyk P el)=true∧0 < xs.length∧xs.all gy=true) (some (.str (xs.map byteOf)))
 | _,_=>none
theorem sX (P:Program) (src dst:TypeId) (sz:Nat) (xs:List AV):lY P src dst (.list sz xs)=XW P sz xs (tyk P src) (tyk P dst):=by
 simp only [lY]
 generalize tyk P src=a
 generalize tyk P dst=b
 cases a with
 | none=>rfl
 | some a=>cases a<;>first|rfl|(cases b with
  | none=>rfl
  | some b=>cases b<;>rfl)
def XX (P:Program) (a b:Option TyK):Option AV :=
 match a,b with
 | some (.slice el _ _ _),some .str=>gd (u8K (tyk P el)=true) (some (.str []))
 | _,_=>none
theorem vM (P:Program) (src dst:TypeId):lY P src dst .nilSl=XX P (tyk P src) (tyk P dst):=by
 simp only [lY]
 generalize tyk P src=a
 generalize tyk P dst=b
 cases a with
 | none=>rfl
 | some a=>cases a<;>first|rfl|(cases b with
  | none=>rfl
  | some b=>cases b<;>rfl)
theorem sY (b:UInt8):gy (.int .u8 (b.toNat:Int))=true:=by
 have:=b.toNat_lt
 show decide (b.toNat < 256)=true
 simp;omega
theorem sZ (b:UInt8):byteOf (.int .u8 (b.toNat:Int))=b:=by simp [byteOf,Int.toNat_natCast]
attribute [go_sem] sX vM XX XW sY sZ
attribute [go_sem] vL AR AT AU afS mh mi iz
def uy:Bool→Nat→Oid→Oid
 | true,t,nid=>.ty t nid
 | false,_,nid=>nid
theorem AW (P:Program) (t:TypeId) (nid:Oid):eV P t nid=uy (al P t) t nid:=by
 unfold eV;cases al P t<;>rfl
def uz:Bool→Option Nat→Nat→Oid→Oid
 | true,some t',t,nid=>if t' = t then .ty t nid else nid
 | _,_,_,nid=>nid
def AY (P:Program) (k:Option TyK) (nid:Oid) (s:AV):Oid :=
 match k,s with
 | some (.slice el _ _ _),.nilSl=>uy (oZ (tyk P el)) el nid
 | some (.slice el _ _ _),.sl id _ _=>uz (oZ (tyk P el)) id.tyd el nid
 | _,_=>nid
theorem AZ (P:Program) (t:TypeId) (nid:Oid) (s:AV):kP P t nid s=AY P (tyk P t) nid s:=by
 unfold kP AY
 split
 ·rename_i el _ _ _ h
  try rw [h]
  show _=uy (oZ (tyk P el)) el nid
  cases oZ (tyk P el)<;>rfl
 ·rename_i el _ _ _ id _ _ h
  try rw [h]
  show _=uz (oZ (tyk P el)) id.tyd el nid
  cases oZ (tyk P el)<;>cases id.tyd<;>simp [uz]
 ·rename_i h1 h2
  first
   | rfl
   | (split
      ·rename_i h;exact (h1 _ _ _ _ h rfl).elim
      ·rename_i h;exact (h2 _ _ _ _ _ _ _ h rfl).elim
      ·rfl)
theorem A1 (n:Nat):(Oid.root n).tyd=none:=rfl
theorem D6 (c i:Nat) (p:Oid):(Oid.sub c i p).tyd=none:=rfl
theorem Yz (t:Nat) (p:Oid):(Oid.ty t p).tyd=some t:=rfl
theorem Oid.vN (t c i:Nat) (p q:Oid):(Oid.sub c i q=Oid.ty t p)=False:=by apply eq_false;intro e;cases e
theorem Oid.aO {p q:Oid} (h:¬ Oid.under p q) (t c i:Nat):(q=Oid.ty t (Oid.sub c i p))=False:=by
 apply eq_false;intro e;subst e;exact h (.inr (Oid.ay (Oid.az _)))
theorem Oid.aS {p q:Oid} (h:¬ Oid.under p q) (t c i:Nat):(Oid.ty t (Oid.sub c i p)=q)=False:=by
 apply eq_false;intro e;subst e;exact h (.inr (Oid.ay (Oid.az _)))
attribute [go_sem] AW uy uz AY AZ A1 D6 Yz oZ Oid.vN Oid.aO Oid.aS Oid.ty.injEq
theorem ri {α:Type} [Inhabited α] (f:α→AV) {l:List α} {i:Nat} (h:i < l.length) (d:AV):(l.map f).getD i d=f (l.getD i default):=by
 simp [List.getD_eq_getElem?_getD,List.getElem?_map,List.getElem?_eq_getElem h]
attribute [go_sem] Yw D2 sU q8 q9 nO sR lh nv mb qW qX qY qZ pb pc pd pf sS sT q7
 Au Av Aw Ax Ay Az D3 AA rb AB AE AF AG AH AI sV sW AJ AK AL AM AN AO AP
 D4 vK AQ lS lT Yp Yq Ap DZ Aq Yr Ar vJ qT ji jh opL prs kR nY l5 cS qU uv c8 dF Mem.bt Mem.Yx Mem.bn Mem.ae Oid.Yy Oid.aa Oid.ab Oid.mc Oid.mg Oid.re Oid.rh Oid.sub.injEq
 ri w64 Option.isSome_some Option.isSome_none beq_self_eq_true Option.bind_some Option.bind_none Option.map_some Option.map_none Int.toNat_natCast List.length_map List.length_take List.length_drop List.length_append List.length_cons List.length_nil List.map_cons List.map_nil List.getD_cons_zero List.getD_cons_succ List.getD_nil
 List.take_succ_cons List.take_zero List.take_nil List.drop_succ_cons List.drop_zero List.drop_nil List.cons_append List.nil_append List.all_cons List.all_nil Bool.and_true Bool.true_and Bool.and_false Bool.false_and Bool.or_true Bool.true_or Bool.or_false Bool.false_or Bool.not_true Bool.not_false
 true_and and_true and_self or_true true_or or_false false_or false_and and_false eq_self List.getElem?_cons_zero List.getElem?_cons_succ List.getElem?_toArray cK bU o7 ib DX eY
theorem bt1 (b:Bool):(b == true)=b:=by cases b<;>rfl
theorem bt2 (b:Bool):(b == false) = !b:=by cases b<;>rfl
attribute [go_sem] frz nt Mem.bF
attribute [go_sem] bt1 bt2 decide_true decide_false
attribute [go_sem] decide_eq_true_eq decide_eq_false_iff_not Bool.and_eq_true Bool.or_eq_true Bool.not_eq_true' Bool.not_eq_false'
def nmd:Nat→Bool:=fun _=>false
theorem YA (d:Nat):nmd d=false:=rfl
def mdl (l:List Nat):Nat→Bool:=fun d=>l.contains d
attribute [go_sem] YA mdl List.contains_cons List.contains_nil
theorem YB (k:IntKind):(k == k)=true:=by cases k<;>rfl
attribute [go_sem] YB
theorem cj {α:Type} {l:List α} {i:Nat} (h:i < l.length) (d:α):l.getD i d=l[i]:=by
 simp [List.getD_eq_getElem?_getD,List.getElem?_eq_getElem h]
theorem YC {x:UInt8} {n:Nat} (hn:n < 256):((x.toNat:Int)=(n:Int))↔x=UInt8.ofNat n:=by
 constructor
 ·intro h
  apply UInt8.toNat_inj.1
  rw [UInt8.toNat_ofNat',Nat.mod_eq_of_lt (by omega)];omega
 ·rintro rfl
  rw [UInt8.toNat_ofNat',Nat.mod_eq_of_lt (by omega)]
theorem cb {x y:UInt8}:((x.toNat:Int)=(y.toNat:Int))↔x=y:=by
 rw [← UInt8.toNat_inj];omega
theorem drop_cons {α:Type} [Inhabited α] {l:List α} {i:Nat} (h:i < l.length):l.drop i=l.getD i default::l.drop (i+1):=by
 rw [List.drop_eq_getElem_cons h,cj h]
theorem nw {α β:Type} [Inhabited α] (f:α→β) {l:List α} {i:Nat} (h:i < l.length):(l.take (i+1)).map f=(l.take i).map f++[f (l.getD i default)]:=by
 rw [List.take_succ_eq_append_getElem h,List.map_append,cj h];rfl
theorem YD (x:UInt8):IntKind.i64.wrap (x.toNat:Int)=x.toNat:=by
 have:=x.toNat_lt;exact w64 (by omega) (by omega)
theorem afT (x:UInt8):IntKind.u8.wrap (x.toNat:Int)=x.toNat:=by
 have:=x.toNat_lt
 simp [IntKind.wrap,IntKind.bits,IntKind.signed];omega
attribute [go_sem] YD afT
theorem rj (a b:Nat):(a:Int).tmod b=((a % b:Nat):Int):=by
 rw [Int.tmod_eq_emod_of_nonneg (by omega)];rfl
theorem A2 (a b:Nat):(a:Int).tdiv b=((a / b:Nat):Int):=by
 rw [Int.tdiv_eq_ediv_of_nonneg (by omega)];rfl
theorem w8 {n:Int} (h1:0≤n) (h2:n≤255):IntKind.u8.wrap n=n:=by
 simp [IntKind.wrap,IntKind.bits,IntKind.signed];omega
end Go.Ab
namespace Go.Ab
variable {α:Type} [DecidableEq α]
def iS (enc:α→AV):Prop:=∀ a b,dD (enc a) (enc b)=decide (a=b)
variable {enc:α→AV}
end Go.Ab
namespace Go.Ab
theorem fm {P:Program} [Laid P] {f:FuncId} {xs:List AV} {sp:Oid→Prop} {L:List (Oid × ar)} {R Rp:AV→List (Oid × Option ar)→Prop} (he:cL P f=true)
  (h:(∀ q ∈ L,Mem.of L q.1=some q.2)→aX P f xs sp L R Rp):aX P f xs sp L R Rp:=by
 by_cases hc:∀ q ∈ L,Mem.of L q.1=some q.2
 ·exact h hc
 ·refine ⟨he,fun x g args w m hm hn _ _ _=>absurd (fun q hq=>?_) hc⟩
  obtain ⟨o,ho⟩:=Mem.o5 hq
  obtain ⟨q',h1,h2,h3⟩:=Mem.dK ho
  have h4:=hn q hq
  have h5:=hn q' h1
  rw [h2,h4,h3] at h5
  rw [ho];exact h5.symm
theorem vO {B L L':List (Oid × ar)} {m:Mem} {upd:List (Oid × Option ar)} {sp:Oid→Prop} (hU:nU L sp upd L') (hL:∀ q ∈ L,m q.1=some q.2) (hB:∀ q ∈ B,m q.1=some q.2)
  (hd:∀ q ∈ B,(∀ q' ∈ L,¬ q'.1=q.1)∧¬ sp q.1):∀ q,q ∈ B++L'→(m.aF upd) q.1=some q.2:=by
 intro q hq
 rcases List.mem_append.1 hq with hq|hq
 ·rw [aU fun q' hq' e=>?_]
  ·exact hB q hq
  ·obtain ⟨h1,h2⟩:=hd q hq
   rcases hU.tou q' hq' with ⟨q2,h3,h4⟩|h3
   ·exact h1 q2 h3 (h4.trans e)
   ·exact h2 (e ▸ h3)
 ·exact qP hL (hU.got q hq)
theorem mj {B L:List (Oid × ar)} (hB:∀ q ∈ B,Mem.of (B++L) q.1=some q.2) (hd:∀ q ∈ L,∀ q' ∈ B,¬ q.1=q'.1) (hL:∀ q ∈ L,Mem.of L q.1=some q.2):∀ q ∈ B++L,Mem.of (B++L) q.1=some q.2:=by
 intro q hq
 rcases List.mem_append.1 hq with hq|hq
 ·exact hB q hq
 ·have:∀ (B:List (Oid × ar)),(∀ q' ∈ B,¬ q.1=q'.1)→Mem.of (B++L) q.1=Mem.of L q.1:=by
   intro B h
   induction B with
   | nil=>rfl
   | cons b B ih=>rw [List.cons_append,Mem.ae,if_neg (h b List.mem_cons_self)];exact ih fun q' hq'=>h q' (List.mem_cons_of_mem _ hq')
  rw [this B (hd q hq)];exact hL q hq
theorem bq {P:Program} [Laid P] {x:Ctx} {n:Nat} {a:Code} {Q:AX→AS→Prop} {fr:List (Nat × AV)} {m:Mem} {c:Nat} {ds:List AD} (L:List (Oid × ar)) (hm:∀ q,q ∈ L→m q.1=some q.2) (h:T P x n a ⟨fr,Mem.of L,c,ds⟩ Q):T P x n a ⟨fr,m,c,ds⟩ Q :=
 Yv (Mem.of L) (fun i o hi=>by obtain ⟨q,h1,rfl,rfl⟩:=Mem.dK hi;exact hm q h1) h
theorem ph {L:List (Oid × ar)} {m:Mem} (hm:∀ q,q ∈ L→m q.1=some q.2):∀ i o,Mem.of L i=some o→m i=some o:=fun i o hi=>by
 obtain ⟨q,h1,rfl,rfl⟩:=Mem.dK hi;exact hm q h1
theorem aJ (i:Oid) (x:Option ar) (l:List (Oid × ar)) (j:Oid):Mem.of (c8 i x l) j=if j=i then x else Mem.of l j:=by rw [← Mem.bF];rfl
end Go.Ab
namespace Go.Ab
open Go.ChangeShapes Go.WideShapes
def fc (a b:AV):Prop:=∀ g v,VR g a v→VR g b v
theorem fc.refl (a:AV):fc a a:=fun _ _ h=>h
theorem fc.nil (sz:Nat):fc .nilSl (.list sz []):=fun _ _ h=>by rw [h.bu];exact .listNil sz
inductive c7:List AV→List AV→Prop
 | nil:c7 [] []
 | cons {a b:AV} {l m:List AV} (h:fc a b) (t:c7 l m):c7 (a::l) (b::m)
theorem c7.length {l m:List AV} (h:c7 l m):l.length=m.length:=by
 induction h with
 | nil=>rfl
 | cons _ _ ih=>simp [ih]
theorem c7.at {l m:List AV} (h:c7 l m):∀ j,fc (l.getD j .undef) (m.getD j .undef):=by
 induction h with
 | nil=>exact fun j=>.refl _
 | cons h _ ih =>
  intro j
  cases j with
  | zero=>exact h
  | succ j=>simpa using ih j
theorem fc.agg {l m:List AV} (h:c7 l m):fc (.agg l) (.agg m):=fun g v hv=>by
 obtain ⟨a,rfl,h1,h2⟩:=hv.dY
 exact .agg _ _ (h1.trans h.length) fun j hj=>h.at j _ _ (h2 j (by rw [h.length];exact hj))
def A3 (a b:AV):Prop:=c7 a.cells b.cells
theorem A3.agg {l m:List AV} (h:c7 l m):A3 (.agg l) (.agg m):=h
inductive kT:List AV→List AV→Prop
 | nil:kT [] []
 | cons {a b:AV} {l m:List AV} (h:A3 a b) (t:kT l m):kT (a::l) (b::m)
theorem kT.length {l m:List AV} (h:kT l m):l.length=m.length:=by
 induction h with
 | nil=>rfl
 | cons _ _ ih=>simp [ih]
theorem kT.at {l m:List AV} (h:kT l m):∀ j,A3 (l.getD j .undef) (m.getD j .undef):=by
 induction h with
 | nil=>exact fun j=>.cons (.refl _) .nil
 | cons h _ ih =>
  intro j
  cases j with
  | zero=>exact h
  | succ j=>simpa using ih j
theorem fc.list {sz:Nat} {l m:List AV} (h:kT l m):fc (.list sz l) (.list sz m):=fun g v hv=>by
 rcases hv.dH with ⟨rfl,hu|⟨a,cap,hu⟩⟩|⟨b,o,cap,cs,hu,h1,h2,h3,h4⟩
 ·cases h;rw [hu];exact .listNil _
 ·cases h;rw [hu];exact .listAny _ _ _
 ·rw [hu,h.length]
  have hl:=h.length
  exact .list sz m b o cap cs (by omega) (fun i hi=>by have:=(h.at i).length;have:=h2 i (by omega);omega) (fun i j hi hj=>h3 i j (by omega) hj) fun i j hi hj=>(h.at i).at j _ _ (h4 i j (by omega) hj)
theorem VRs.pj {g:Gh} {xs ys:List AV} {a:Array Value} (h:VRs g xs a) (k:c7 xs ys):VRs g ys a:=⟨h.1.trans k.length,fun j hj=>k.at j _ _ (h.2 j (by rw [k.length];exact hj))⟩
theorem aA.pj {P:Program} [Laid P] {f:FuncId} {xs ys:List AV} {sp:Oid→Prop} {e:Eff} (h:aA P f ys sp e) (k:c7 xs ys):aA P f xs sp e :=
 ⟨h.enters,fun x g args w m h1 h2 h3=>h.calls x g args w m h1 h2 (h3.pj k)⟩
theorem aX.pj {P:Program} [Laid P] {f:FuncId} {xs ys:List AV} {sp:Oid→Prop} {need:List (Oid × ar)} {R Rp:AV→List (Oid × Option ar)→Prop} (h:aX P f ys sp need R Rp) (k:c7 xs ys):aX P f xs sp need R Rp :=
 ⟨h.enters,fun x g args w m h1 h2 h3=>h.calls x g args w m h1 h2 (h3.pj k)⟩
def cz (ng:Nat) (w:World):Gh :=
 ⟨fun i=>match i with | .root k=>if k < ng then some (some k) else none | .sub .. => none | .ty .. => none,
  fun b o=>match w.cell? ⟨b,o,none⟩ with|some v=>if v.oneCell' = true then some v else none|none=>none,fun b=>match w.heap[b]? with|some (.cells c _ _)=>some c.size|_=>none⟩
theorem ke {ng:Nat} {w:World} {b o:Nat} {v:Value} (h:w.cell? ⟨b,o,none⟩=some v) (hv:v.oneCell' = true):(cz ng w).com b o=some v:=by
 simp only [cz,h,hv,if_true]
theorem ml {ng:Nat} {w:World} {b o:Nat} {v:Value} (h:(cz ng w).com b o=some v):w.cell? ⟨b,o,none⟩=some v∧v.oneCell' = true:=by
 simp only [cz] at h
 split at h
 ·rename_i u hu
  split at h
  ·rename_i h1;cases h;exact ⟨hu,h1⟩
  ·cases h
 ·cases h
theorem s5 (ng:Nat) (w:World):aD ⟨ng,cz ng w,w,fun _=>False,.root ng,none⟩ (cz ng w) Mem.emp w where
 le:=Gh.le_refl _
 locs _ _:=rfl
 glob k hk:=by simp [cz,hk]
 coms _ _ _ h:=.inl h
 obj0 _ _ h:=by cases h
 inj _ _ _ _ _ h:=by cases h
 com _ _ _ h:=(ml h).1
 one _ _ _ h:=(ml h).2
 rows b r h:=by
  simp only [cz] at h
  split at h
  ·rename_i c t fz hc;simp only [Option.some.injEq] at h;exact ⟨c,t,fz,hc,h⟩
  ·cases h
 os:=rfl
 tape:=rfl
 output:=⟨rfl,fun _=>Nat.le_refl _⟩
 size:=Nat.le_refl _
 kept _ _ _:=rfl
 typs _ _ _ h:=by cases h
structure Rd (P:Program) (t:TypeId) {α:Type} (A:α→AV) (V:α→Prop):Prop where
 len:∀ a,(A a).cells.length=P.cellsOf t
 rd:∀ {H:Type} {enc:TypeId × Value→H} {w:World} {ng base fuel:Nat} {spare:Nat→Bool} {held:Bool} {cs:List Value} {x:DataW H × List MemPlace},DataW.trod enc P w base spare held fuel t cs=some x →
  (∀ n ∈ x.1.weights P t,n≤reachBytes)→∃ a:α,V a∧cs.length=P.cellsOf t∧∀ j,j < cs.length→(cs.getD j undef).oneCell' = true∧VR (cz ng w) ((A a).cells.getD j .undef) (cs.getD j undef)
section
variable {P:Program} [Laid P] {t:TypeId} {α β:Type} {A:α→AV} {V:α→Prop}
theorem Rd.map {B:β→AV} {W:β→Prop} (h:Rd P t A V) (f:α→β) (hA:∀ a,V a→A a=B (f a)) (hl:∀ b,(B b).cells.length=P.cellsOf t) (hV:∀ a,V a→W (f a)):Rd P t B W :=
 ⟨hl,fun {H enc w ng base fuel spare held cs x} h1 h2=>by
  obtain ⟨a,k1,k2,k3⟩:=h.rd (ng:=ng) h1 h2
  exact ⟨f a,hV a k1,k2,by rw [← hA a k1];exact k3⟩⟩
theorem A4 {a:AV} {v:Value} {g:Gh} (hc:a.cells=[a]) (hv:VR g a v) (h1:v.oneCell' = true):∀ j,j < [v].length→(([v]:List Value).getD j undef).oneCell' = true∧VR g (a.cells.getD j .undef) (([v]:List Value).getD j undef):=by
 intro j hj
 obtain rfl:j=0:=by simp at hj;exact hj
 rw [hc];exact ⟨h1,hv⟩
theorem YE {k:IntKind} (ht:P.underlying t=some (.int k)) (hc:P.cellsOf t=1):Rd P t (AV.int k) (fun n=>(Lit.int k n).wf=true) :=
 ⟨fun _=>hc.symm,fun h _=>by
  obtain ⟨n,rfl,rfl,hw⟩:=DataW.trod_int ht h
  exact ⟨n,hw,hc.symm,A4 rfl (.int k n) rfl⟩⟩
theorem rk (ht:P.underlying t=some (.int .u8)) (hc:P.cellsOf t=1):Rd P t (fun b:UInt8=>AV.int .u8 b.toNat) (fun _=>True) :=
 (YE ht hc).map (fun n=>UInt8.ofNat n.toNat) (fun n hn=>by
  have h1:0≤n∧n≤255:=by simpa [Lit.wf,IntKind.min,IntKind.max,IntKind.signed,IntKind.bits] using hn
  show AV.int .u8 n=AV.int .u8 _
  congr 1
  rw [UInt8.toNat_ofNat',Nat.mod_eq_of_lt (by omega)];omega) (fun _=>hc.symm) (fun _ _=>trivial)
theorem rd_str (ht:P.underlying t=some .string) (hc:P.cellsOf t=1):Rd P t AV.str (fun s=>s.length≤reachBytes) :=
 ⟨fun _=>hc.symm,fun h hw=>by
  obtain ⟨s,rfl,rfl,_⟩:=DataW.trod_string ht h
  exact ⟨s.data.toList,hw _ (by simp [DataW.weights]),hc.symm,A4 rfl (.str _ _ rfl) rfl⟩⟩
end
structure RdF (P:Program) (fs:List Field) (off tot:Nat) {β:Type} (B:β→List AV) (W:β→Prop):Prop where
 len:∀ b,(B b).length=tot
 rd:∀ {H:Type} {enc:TypeId × Value→H} {w:World} {ng base fuel:Nat} {spare:Nat→Bool} {held:Bool} {cs:List Value} {xs:List (DataW H × List MemPlace)},xs.length=fs.length →
  (∀ (i:Nat) (f:Field),fs[i]? = some f→DataW.trod enc P w base spare held fuel f.type ((cs.drop f.offset).take (P.cellsOf f.type))=xs[i]?)→(∀ n ∈ DataW.weightsEach P (fs.map (·.type)) (xs.map (·.1)),n≤reachBytes)→cs.length=off+tot →
  ∃ b:β,W b∧∀ j,j < tot→(cs.getD (off+j) undef).oneCell' = true∧VR (cz ng w) ((B b).getD j .undef) (cs.getD (off+j) undef)
section
variable {P:Program} [Laid P] {t:TypeId} {α β:Type} {A:α→AV} {V:α→Prop}
theorem D7 (off:Nat):RdF P [] off 0 (fun _:Unit=>[]) (fun _=>True):=⟨fun _=>rfl,fun _ _ _ _=>⟨(),trivial,fun j hj=>absurd hj (Nat.not_lt_zero _)⟩⟩
theorem ig {f:Field} {fs:List Field} {off tot:Nat} {B:β→List AV} {W:β→Prop} (ho:f.offset=off) (hA:Rd P f.type A V) (hB:RdF P fs (off+P.cellsOf f.type) tot B W) :
  RdF P (f::fs) off (P.cellsOf f.type+tot) (fun p:α × β=>(A p.1).cells++B p.2) (fun p=>V p.1∧W p.2) :=
 ⟨fun p=>by rw [List.length_append,hA.len,hB.len],fun {H enc w ng base fuel spare held cs xs} hx hf hw hl=>by
  match xs,hx with
  | x::xs,hx =>
   have h0:=hf 0 f rfl
   simp only [List.getElem?_cons_zero] at h0
   simp only [List.map_cons,DataW.weightsEach,List.mem_append] at hw
   obtain ⟨a,k1,k2,k3⟩:=hA.rd (ng:=ng) h0 fun n hn=>hw n (.inl hn)
   obtain ⟨b,k4,k5⟩:=hB.rd (ng:=ng) (cs:=cs) (xs:=xs) (by simpa using hx) (fun i f' hi=>by simpa using hf (i+1) f' (by simpa using hi)) (fun n hn=>hw n (.inr hn)) (by omega)
   refine ⟨(a,b),⟨k1,k4⟩,fun j hj=>?_⟩
   have hla:=hA.len a
   by_cases e:j < P.cellsOf f.type
   ·have:=k3 j (by rw [k2];exact e)
    have e1:((cs.drop f.offset).take (P.cellsOf f.type)).getD j undef=cs.getD (off+j) undef:=by
     simp [List.getD_eq_getElem?_getD,List.getElem?_take,e,List.getElem?_drop,ho]
    rw [e1] at this
    have e2:((A a).cells++B b).getD j .undef=(A a).cells.getD j .undef:=by
     simp [List.getD_eq_getElem?_getD,List.getElem?_append_left (by omega:j < (A a).cells.length)]
    show _∧VR _ (((A a).cells++B b).getD j .undef) _
    rw [e2];exact this
   ·have:=k5 (j - P.cellsOf f.type) (by omega)
    rw [show off+P.cellsOf f.type+(j - P.cellsOf f.type)=off+j by omega] at this
    have e2:((A a).cells++B b).getD j .undef=(B b).getD (j - P.cellsOf f.type) .undef:=by
     simp [List.getD_eq_getElem?_getD,List.getElem?_append_right (by omega:(A a).cells.length≤j),hla]
    show _∧VR _ (((A a).cells++B b).getD j .undef) _
    rw [e2];exact this⟩
theorem vP {fs:Array Field} {tot:Nat} {B:β→List AV} {W:β→Prop} (ht:P.underlying t=some (.struct fs)) (hc:P.cellsOf t=tot) (hF:RdF P fs.toList 0 tot B W):Rd P t (fun b=>.agg (B b)) W :=
 ⟨fun b=>(hF.len b).trans hc.symm,fun {H enc w ng base fuel spare held cs x} h hw=>by
  obtain ⟨xs,n,_,rfl,hl,hlen,hf⟩:=DataW.trod_struct ht h
  simp only [DataW.weights,ht] at hw
  obtain ⟨b,k1,k2⟩:=hF.rd (ng:=ng) (xs:=xs) (by simpa using hlen) (fun i f hi=>hf i f (by simpa using hi)) hw (by omega)
  refine ⟨b,k1,hl,fun j hj=>?_⟩
  have:=k2 j (by omega)
  rwa [Nat.zero_add] at this⟩
theorem Rd.D8 (h:Rd P t A V) (hc:P.cellsOf t=1) {H:Type} {enc:TypeId × Value→H} {w:World} {ng base:Nat} {spare:Nat→Bool} {held:Bool} {v:Value} {d:DataW H} {ps:List MemPlace} (hone:v.oneCell' = true)
  (hA:∀ a,V a→(A a).cells=[A a]) (hd:DataW.Trod enc P w base spare held t v d ps) (hw:∀ n ∈ d.weights P t,n≤reachBytes):∃ a,V a∧VR (cz ng w) (A a) v:=by
 obtain ⟨fuel,hd⟩:=hd
 obtain ⟨a,k1,k2,k3⟩:=h.rd (ng:=ng) hd hw
 refine ⟨a,k1,?_⟩
 have e:v.cells.toList=[v]:=by cases v<;>first|rfl|(simp [Value.oneCell'] at hone)
 rw [e] at k3
 have:=(k3 0 (by simp)).2
 rwa [hA a k1] at this
theorem Rd.D9 {B:β→List AV} {W:β→Prop} (h:Rd P t (fun b=>.agg (B b)) W) {H:Type} {enc:TypeId × Value→H} {w:World} {ng base:Nat} {spare:Nat→Bool} {held:Bool} {cs:Array Value} {d:DataW H} {ps:List MemPlace}
  (hd:DataW.Trod enc P w base spare held t (.agg cs) d ps) (hw:∀ n ∈ d.weights P t,n≤reachBytes):∃ b,W b∧VR (cz ng w) (.agg (B b)) (.agg cs):=by
 obtain ⟨fuel,hd⟩:=hd
 obtain ⟨b,k1,k2,k3⟩:=h.rd (ng:=ng) hd hw
 refine ⟨b,k1,.agg _ _ ?_ fun j hj=>?_⟩
 ·have:=h.len b
  simp only [Value.cells,Array.length_toList] at k2
  simp only [AV.cells] at this
  omega
 ·have hl:=h.len b
  simp only [AV.cells] at hl
  have:=(k3 j (by rw [k2];omega)).2
  simp only [Value.cells,AV.cells] at this
  simpa [List.getD_eq_getElem?_getD,Array.getD_eq_getD_getElem?] using this
theorem iT {H:Type} {enc:TypeId × Value→H} {w w':World} {base:Nat} {spare':Nat→Bool} (hl:laidOutB P=true) (hz:∀ t e,t < P.types.size→P.underlying t=some (.slice e)→0 < P.cellsOf e) :
  ∀ {ts:List TypeId} {vs:List Value} {ds:List (DataW H)} {ps:List MemPlace},(∀ t ∈ ts,P.readableRec t=true∧t < P.types.size)→DataW.TrodAll enc P w base (fun _=>true) true ts vs ds ps→(∀ p ∈ ps,w.sameAt w' p)→(∀ p ∈ ps,spare' p.block=true) →
   DataW.TrodAll enc P w' base spare' true ts vs ds ps
 | [],[],[],_,_,h,_,_=>h
 | t::ts,v::vs,d::ds,ps,hr,⟨p,q,h1,h2,e⟩,hs,hsp=>by
  have ht:=hr t List.mem_cons_self
  refine ⟨p,q,?_,iT hl hz (fun t ht=>hr t (List.mem_cons_of_mem _ ht)) h2 (fun x hx=>hs x (by rw [e];exact List.mem_append_right _ hx)) (fun x hx=>hsp x (by rw [e];exact List.mem_append_right _ hx)),e⟩
  have h3:DataW.Trod enc P w base spare' true t v d p:=h1.respare (kids_book hl ht.1) (fun u e' hu=>hz u e' hu.1) ⟨ht.2,book_self t⟩ fun x hx=>hsp x (by rw [e];exact List.mem_append_left _ hx)
  obtain ⟨n,hn⟩:=h3
  exact ⟨n,DataW.trod_carry n _ _ _ hn fun x hx=>hs x (by rw [e];exact List.mem_append_left _ hx)⟩
theorem A5 {H:Type} {enc:TypeId × Value→H} {f:FuncId} {fn:Func} {s:ChangeSpec} {tb:TypeId} (hl:laidOutB P=true) (hz:∀ t e,t < P.types.size→P.underlying t=some (.slice e)→0 < P.cellsOf e) (hr:∀ t ∈ fn.params.toList,P.readableRec t=true∧t < P.types.size)
  (hrt:fn.resultTypes=#[tb]) (htb:P.underlying tb=some .bool) (hv:s.vars=[]) {W:World} {args:Array Value} {ds gs:List (DataW H)} {before:List MemPlace} (hW:DataW.Whole enc P fn.params.toList s.vars false W args.toList ds gs before)
  (hfn:s.fn H ds={ results:=[.lit (.bool true)],args:=ds }) {avs:List AV} (ha:VRs (cz P.globals.size W) avs args) (hcall:aA P f avs (Oid.under (.root P.globals.size)) ⟨[],.bool true,[]⟩) (hLaid:Laid.facts P (cz P.globals.size W)) :
  Calls P f args W fun e W'=>∃ v,e = .returned v∧s.post enc P fn false true false false W args v W':=by
 refine (hcall.calls ⟨P.globals.size,cz P.globals.size W,W,fun _=>False,.root P.globals.size,none⟩ _ args W Mem.emp (s5 _ _) (fun q hq=>by cases hq) ha (fun i hi=>⟨?_,hi⟩) ⟨Nat.le_refl _,hLaid⟩).mono ?_
 ·cases i with
  | root k =>
   simp only [Oid.under,Oid.root.injEq] at hi
   subst hi
   simp [cz]
  | sub=>rfl
  | ty=>rfl
 rintro en W' ⟨g',v,rfl,hle,hloc,hvr,hm⟩
 obtain rfl:=hvr.bN
 refine ⟨_,rfl,?_⟩
 have hW0:=hW
 obtain ⟨p,q,hA,hV,rfl,hfz,hnd⟩:=hW
 rw [hv] at hV
 obtain ⟨rfl,rfl⟩:=trodVars_none hV
 rw [List.append_nil] at hW0 hfz
 have hsame:∀ p' ∈ p,W.sameAt W' p':=fun p' hp'=>by
  have hlt:=hW0.lt p' hp'
  have hh:=hm.kept p'.block hlt (fun h=>h)
  cases p' with
  | cell b o=>simp only [World.sameAt,World.cell?];simp only [MemPlace.block] at hh;rw [hh]
  | map b=>exact hh
 have hargs:∀ sp:Nat→Bool,(∀ p' ∈ p,sp p'.block=true)→DataW.TrodAll enc P W' 0 sp true fn.params.toList args.toList ds p:=fun sp hsp=>iT hl hz hr hA hsame hsp
 have hres:∀ (b:Nat) (sp:Nat→Bool) (hd:Bool),DataW.TrodAll enc P W' b sp hd fn.resultTypes.toList ((Value.bool true).resultList fn.resultTypes.size) [.lit (.bool true)] []:=by
  intro b sp hd
  rw [hrt]
  exact ⟨[],[],RowKit.shut_bool htb _,rfl,rfl⟩
 have hold:∀ p' ∈ p,(fun b=>decide (b < W.heap.size)) p'.block=true:=fun p' hp'=>by simpa using hW0.lt p' hp'
 refine ⟨ds,[],p,[],p,[],hW0,by rw [List.append_nil,hfn];exact hres _ _ _,by rw [List.append_nil,hfn];exact hargs _ hold,by rw [hv,List.append_nil,hfn];exact rfl,?_,fun h=>by cases h⟩
 exact World.keptBut_mono (fun p' hp'=>hp'.elim) (may:=fun _=>False) ⟨hm.os,hm.output.1,fun i hi=>by
  have hk:W'.heap[i]? = W.heap[i]? := hm.kept i hi (fun h=>h)
  rw [hk]
  exact (World.keptBut_refl W (fun _=>False)).2.2 i hi⟩
structure RdA (P:Program) (ts:List TypeId) {β:Type} (B:β→List AV) (W:β→Prop):Prop where
 rd:∀ {H:Type} {enc:TypeId × Value→H} {w:World} {ng base b0:Nat} {r:Reach} {vs:List Value} {ds:List (DataW H)} {ps:List MemPlace},(∀ (j:Nat) t v,ts[j]? = some t→vs[j]? = some v→Value.okWide P w r base t v) →
  DataW.TrodAll enc P w b0 (fun _=>true) true ts vs ds ps→(∀ n ∈ DataW.weightsEach P ts ds,n≤reachBytes)→∃ b,W b∧vs.length=(B b).length∧∀ j,j < vs.length→VR (cz ng w) ((B b).getD j .undef) (vs.getD j undef)
theorem s6 {w:World} {r:Reach} {base:Nat} {v:Value} (ht:P.underlying t=some .string) (h:Value.okWide P w r base t v):v.oneCell' = true:=by
 simp only [Value.okWide,ht,Cell.okWide,Cell.ok] at h
 cases v<;>first|rfl|exact h.elim
theorem okWide_struct {w:World} {r:Reach} {base:Nat} {fs:Array Field} {v:Value} (ht:P.underlying t=some (.struct fs)) (h:Value.okWide P w r base t v):∃ cs,v = .agg cs:=by
 simp only [Value.okWide,ht] at h
 obtain ⟨cs,h,_⟩:=h
 exact ⟨cs,h⟩
theorem rdA_nil:RdA P [] (fun _:Unit=>[]) (fun _=>True):=⟨fun {H enc w ng base b0 r vs ds ps} _ h _=>by
 obtain ⟨rfl,rfl,rfl⟩:=trodAll_nil h
 exact ⟨(),trivial,rfl,fun j hj=>absurd hj (Nat.not_lt_zero _)⟩⟩
theorem rm {ts:List TypeId} {B:β→List AV} {W:β→Prop} (k:∀ {H:Type} {enc:TypeId × Value→H} {w:World} {ng base b0:Nat} {r:Reach} {v:Value} {d:DataW H} {ps:List MemPlace},Value.okWide P w r base t v →
  DataW.Trod enc P w b0 (fun _=>true) true t v d ps→(∀ n ∈ d.weights P t,n≤reachBytes)→∃ a,V a∧VR (cz ng w) (A a) v) (hB:RdA P ts B W):RdA P (t::ts) (fun p:α × β=>A p.1::B p.2) (fun p=>V p.1∧W p.2) :=
 ⟨fun {H enc w ng base b0 r vs ds ps} hok h hw=>by
  obtain ⟨v,vs',d,ds',p,q,rfl,rfl,rfl,h1,h2⟩:=trodAll_cons h
  simp only [DataW.weightsEach,List.mem_append] at hw
  obtain ⟨a,k1,k2⟩:=k (ng:=ng) (hok 0 t v rfl rfl) h1 fun n hn=>hw n (.inl hn)
  obtain ⟨b,k3,k4,k5⟩:=hB.rd (ng:=ng) (fun j t v ht hv=>hok (j+1) t v ht hv) h2 fun n hn=>hw n (.inr hn)
  refine ⟨(a,b),⟨k1,k3⟩,by simp [k4],fun j hj=>?_⟩
  cases j with
  | zero=>exact k2
  | succ j=>simpa using k5 j (by simpa using hj)⟩
theorem rdA_str {ts:List TypeId} {B:β→List AV} {W:β→Prop} (ht:P.underlying t=some .string) (hc:P.cellsOf t=1) (hA1:∀ a,(A a).cells=[A a]) (hA:Rd P t A V) (hB:RdA P ts B W):RdA P (t::ts) (fun p:α × β=>A p.1::B p.2) (fun p=>V p.1∧W p.2) :=
 rm (fun hok hd hw=>hA.D8 hc (s6 ht hok) (fun a _=>hA1 a) hd hw) hB
theorem rdA_struct {ts:List TypeId} {B:β→List AV} {W:β→Prop} {fs:Array Field} {D:α→List AV} (ht:P.underlying t=some (.struct fs)) (hA1:∀ a,A a = .agg (D a)) (hA:Rd P t A V) (hB:RdA P ts B W):RdA P (t::ts) (fun p:α × β=>A p.1::B p.2) (fun p=>V p.1∧W p.2) :=
 rm (fun hok hd hw=>by
  obtain ⟨cs,rfl⟩:=okWide_struct ht hok
  have e:A=fun a=>.agg (D a):=funext hA1
  subst e
  exact Rd.D9 hA hd hw) hB
theorem ij {H:Type} {enc:TypeId × Value→H} {w:World} {base:Nat} {sp:Nat→Bool} {held:Bool}:∀ {ts:List TypeId} {vs:List Value} {ds:List (DataW H)} {ps:List MemPlace},DataW.TrodAll enc P w base sp held ts vs ds ps→ds.length=ts.length
 | [],[],[],_,_=>rfl
 | _::_,_::_,_::_,_,⟨_,_,_,h,_⟩=>by simp [ij h]
end
end Go.Ab
namespace Go.Ab
attribute [go_sem] Nat.reduceEqDiff Nat.reduceAdd Nat.reduceMul Nat.reduceLT Nat.reduceLeDiff reduceCtorEq Nat.reduceBEq Int.reduceToNat Int.reduceNeg
attribute [go_sem ↓] reduceIte
theorem zb1 {p:Prop} [Decidable p]:(decide p=true)=p:=decide_eq_true_eq
theorem zb2 {p:Prop} [Decidable p]:(decide p=false)=¬ p:=propext decide_eq_false_iff_not
theorem zb3 (b:Bool):((!b)=true)=(b=false):=Bool.not_eq_true' b
theorem zb4 (b:Bool):((!b)=false)=(b=true):=Bool.not_eq_false' b
theorem zb5 (a b:Bool):((a && b)=true)=(a=true∧b=true):=Bool.and_eq_true a b
inductive Ps where
 | at (c:Code)
 | nrm
 | ex (i:Nat)
@[irreducible] def A6 (P:Prop):Prop:=P
theorem zl {p:Prop} (h:p):A6 p:=by unfold A6;exact h
theorem Ea {p:Prop} (h:A6 p):p:=by unfold A6 at h;exact h
inductive Stp (P:Program) (x:Ctx) (n:Nat) (Q:AX→AS→Prop):Bool→Bool→Ps→List Pc→AS→Prop
 | seq {u v} {a b:Code} {ks s}:Stp P x n Q u true (.at a) (.code b::ks) s→Stp P x n Q u v (.at (.seq a b)) ks s
 | skip {u v ks s}:Stp P x n Q u true .nrm ks s→Stp P x n Q u v (.at .skip) ks s
 | block {v i a ks s}:Stp P x n Q true true (.at a) (.bend i::ks) s→Stp P x n Q true v (.at (.block i a)) ks s
 | exit {u v i ks s}:Stp P x n Q u true (.ex i) ks s→Stp P x n Q u v (.at (.exit i)) ks s
 | next {u v a ks s}:Stp P x n Q u true (.at a) ks s→Stp P x n Q u v .nrm (.code a::ks) s
 | bend {u v i ks s}:Stp P x n Q u true .nrm ks s→Stp P x n Q u v .nrm (.bend i::ks) s
 | lend {u v ts I k ks fr m c ds}:A6 (∃ k' m',k' < k∧(∀ i o,m' i=some o→m i=some o)∧I k' ⟨bT ts fr,m',c,ds⟩)→Stp P x n Q u v .nrm (.lend ts I k::ks) ⟨fr,m,c,ds⟩
 | xcode {u v a i ks s}:Stp P x n Q u true (.ex i) ks s→Stp P x n Q u v (.ex i) (.code a::ks) s
 | xlend {u v ts I k i ks s}:Stp P x n Q u true (.ex i) ks s→Stp P x n Q u v (.ex i) (.lend ts I k::ks) s
 | xhere {u v i ks s}:Stp P x n Q u true .nrm ks s→Stp P x n Q u v (.ex i) (.bend i::ks) s
 | xon {u v i j ks s}:Nat.beq i j=false→Stp P x n Q u true (.ex i) ks s→Stp P x n Q u v (.ex i) (.bend j::ks) s
 | ofT {u c ks s}:T P x n c s (after P x n Q ks)→Stp P x n Q u true (.at c) ks s
 | ofN {u ks s}:after P x n Q ks .normal s→Stp P x n Q u true .nrm ks s
 | ofX {u i ks s}:after P x n Q ks (.exit i) s→Stp P x n Q u true (.ex i) ks s
def ahn (P:Program) (x:Ctx) (n:Nat) (Q:AX→AS→Prop):Ps→List Pc→AS→Prop
 | .at c,ks,s=>T P x n c s (after P x n Q ks)
 | .nrm,ks,s=>after P x n Q ks .normal s
 | .ex i,ks,s=>after P x n Q ks (.exit i) s
theorem Stp.ok {P:Program} [Laid P] {x:Ctx} {n:Nat} {Q:AX→AS→Prop} {p:Ps} {ks:List Pc} {s:AS} {u v:Bool} (h:Stp P x n Q u v p ks s):ahn P x n Q p ks s:=by
 induction h with
 | seq _ ih=>exact l7 ih
 | skip _ ih=>exact Yt ih
 | block _ ih=>exact jO ih
 | exit _ ih=>exact Yu ih
 | next _ ih=>exact ih
 | bend _ ih=>exact ih
 | lend h=>exact Ea h
 | xcode _ ih=>exact ih
 | xlend _ ih=>exact ih
 | xhere _ ih=>exact Ys ih
 | xon hb _ ih=>exact ahl hb ih
 | ofT h=>exact h
 | ofN h=>exact h
 | ofX h=>exact h
section
variable {P:Program} [Laid P] {x:Ctx} {n:Nat} {Q:AX→AS→Prop} {ks:List Pc} {s:AS}
theorem zk {c:Code} (h:Stp P x n Q true false (.at c) ks s):T P x n c s (after P x n Q ks):=h.ok
theorem zn (h:Stp P x n Q true false .nrm ks s):after P x n Q ks .normal s:=h.ok
theorem ze {i:Nat} (h:Stp P x n Q true false (.ex i) ks s):after P x n Q ks (.exit i) s:=h.ok
theorem zu {c:Code} (h:Stp P x n Q false false (.at c) ks s):T P x n c s (after P x n Q ks):=h.ok
theorem zv (h:Stp P x n Q false false .nrm ks s):after P x n Q ks .normal s:=h.ok
theorem zw {i:Nat} (h:Stp P x n Q false false (.ex i) ks s):after P x n Q ks (.exit i) s:=h.ok
end
end Go.Ab
namespace Go.Ab
structure kf (q:Prop):Prop where
 out:q
theorem ai {a b:Prop} (h:a) (k:b):a∧b:=⟨h,k⟩
structure CC (a b:Prop):Prop where
 a:a
 b:b
theorem cq {a b:Prop} (h:a) (k:b):CC a b:=⟨h,k⟩
structure HD (U gl:List (Nat × Nat)) (ts:List Nat):Prop where
theorem HD.o:HD [] [] []:=⟨⟩
theorem HD.d (U gl:List (Nat × Nat)) (ts:List Nat):HD U gl ts:=⟨⟩
theorem uu {p q:Oid} (h:¬ Oid.under p q):(∀ c i,(q=Oid.sub c i p)=False)∧∀ c i,(Oid.sub c i p=q)=False:=⟨Oid.aa h,Oid.ab h⟩
section
variable {P:Program} [Laid P] {x:Ctx} {n:Nat} {Q:AX→AS→Prop} {ks:List Pc} {s:AS} {fr:List (Nat × AV)} {m:Mem} {c:Nat} {ds:List AD} {id:Nat} {ops:Array Oper}
theorem A7 {U gl:List (Nat × Nat)} {ts:List Nat} (_:HD U gl ts) (hmx:P.follows .mixedOrders=true) (hng:Fit P x) (hok:(Ak n P.globals.size ops U && ns ops gl)=true):type_of% (bE (P:=P) (x:=x) (n:=n) (Q:=Q) (ks:=ks) (fr:=fr) (m:=m) (c:=c) (ds:=ds) (id:=id) (ops:=ops) nmd gl U hmx hng hok ts):=bE nmd gl U hmx hng hok ts
theorem XY {U gl:List (Nat × Nat)} {ts:List Nat} (_:HD U gl ts) (hng:Fit P x) (hok:(XU n P.globals.size ops && ns ops gl)=true):type_of% (af (P:=P) (x:=x) (n:=n) (Q:=Q) (ks:=ks) (fr:=fr) (m:=m) (c:=c) (ds:=ds) (id:=id) (ops:=ops) nmd gl hng hok):=af nmd gl hng hok
end
theorem qs {p e:Prop} (e1:e) (h:e→p:=by intro e;simp (disch:=first|omega|assumption) only [go_sem,eq_self,decide_true,decide_false,ne_eq,not_true_eq_false,not_false_eq_true,e];first|done|fail):p:=h e1
theorem qs0 {p:Prop} (h:p:=by simp (disch:=first|omega|assumption) only [go_sem,eq_self,decide_true,decide_false,ne_eq,not_true_eq_false,not_false_eq_true];first|done|fail):p:=h
theorem qt {p q e:Prop} (e1:e) (k:q) (h:e→kf q→p:=by intro e k;simp (disch:=first|omega|assumption) only [go_sem,eq_self,decide_true,decide_false,ne_eq,not_true_eq_false,not_false_eq_true,e];exact k.out):p:=h e1 ⟨k⟩
theorem qt0 {p q:Prop} (k:q) (h:kf q→p:=by intro k;simp (disch:=first|omega|assumption) only [go_sem,eq_self,decide_true,decide_false,ne_eq,not_true_eq_false,not_false_eq_true];exact k.out):p:=h ⟨k⟩
theorem qv {p q:Prop} (k:q) (h:kf q→p:=by intro k;(first|refine zn ?_|refine ze ?_|refine zk ?_);with_reducible (constructor;repeat constructor);(try refine zl ?_);exact k.out):p:=h ⟨k⟩
theorem qn {p e:Prop} (e1:e) (h:e→p:=by intro e;first|(intro _ h;cases h;done)|exact qs e|exact nbu _|(refine nbA ?_ _;simp [hpN,hO.mem];done)|(simp only [List.mem_cons,forall_eq_or_imp];refine ⟨qs e,?_⟩;first|exact nbu _|(refine nbA ?_ _;simp [hpN,hO.mem];done))):p:=h e1
theorem qm {p c:Prop} (c1:c) (h:c→p:=by intro c;first|exact c|exact c (aH rfl hp)|exact c _ (aH rfl hp) (fun h=>hpp (Oid.ay h)) (hO.sub _ _)|exact c _ (aH rfl hp) (hO.sub _ _)):p:=h c1
theorem qr {p q e c:Prop} {U gl:List (Nat × Nat)} {ts:List Nat} (g:HD U gl ts) (e1:e) (c1:c) (k:q) (h:HD U gl ts→e→c→kf q→p:=by
  intro g e c k;(try refine qv ?_)
  refine XY g hng (by kernel_rfl) fun hf C S K hC1 hC hS hK=>?_;refine qt e ?_
  repeat (obtain ⟨c1,c⟩:CC _ _:=c;refine hC1 _ (qm c1) (qn e) ?_;refine qt e ?_)
  refine hK ?_;clear hK hS hC hC1 K S C hf;(try refine qv ?_)
  exact k.out):p:=h g e1 c1 ⟨k⟩
theorem qd {p q e c:Prop} {U gl:List (Nat × Nat)} {ts:List Nat} (g:HD U gl ts) (e1:e) (c1:c) (k:q) (h:HD U gl ts→e→c→kf q→p:=by
  intro g e c k;(try refine qv ?_)
  refine A7 g mixed hng (by kernel_rfl) fun hf C S K hC hS hK=>?_;refine qt e ?_
  repeat (obtain ⟨c1,c⟩:CC _ _:=c;refine hC _ (qm c1) (qn e) ?_;refine qt e ?_)
  (first|refine hK (aK rfl) ?_|refine hK (by simp (disch:=first|omega|assumption) only [go_sem,List.reverse_cons,List.reverse_nil,ne_eq,not_false_eq_true,implies_true]) ?_);clear hK hS hC K S C hf;(try refine qv ?_)
  exact k.out):p:=h g e1 c1 ⟨k⟩
theorem qw {p q e:Prop} (e1:e) (k:q) (h:e→kf q→p:=by
  intro e k
  repeat (first|refine ah rfl rfl ?_|refine aj rfl rfl ?_|(refine af nmd [] hng (by kernel_rfl) fun hf C S K hC1 hC hS hK=>?_;refine qt e ?_;refine hK ?_;clear hK hS hC hC1 K S C hf)|refine qv ?_)
  exact k.out):p:=h e1 ⟨k⟩
theorem qw0 {p q:Prop} (k:q) (h:kf q→p:=by
  intro k
  repeat (first|refine ah rfl rfl ?_|refine aj rfl rfl ?_|(refine af nmd [] hng (by kernel_rfl) fun hf C S K hC1 hC hS hK=>?_;refine qt0 ?_;refine hK ?_;clear hK hS hC hC1 K S C hf)|refine qv ?_)
  exact k.out):p:=h ⟨k⟩
theorem qr0 {p q:Prop} (k:q) (h:kf q→p:=by intro k;refine qr .o trivial trivial ?_;exact k.out):p:=h ⟨k⟩
theorem qr1 {p q c:Prop} (c1:c) (k:q) (h:c→kf q→p:=by intro c k;refine qr .o trivial (cq c trivial) ?_;exact k.out):p:=h c1 ⟨k⟩
end Go.Ab
namespace Go.Ab
open Go.RowKit
theorem cU {p q:Oid} (h:Oid.under p q) (hq:q.mono=false):p.mono=false:=by
 cases hp:p.mono with
 | false=>rfl
 | true=>rw [Oid.lF h hp] at hq;cases hq
theorem aD.below {x:Ctx} {g:Gh} {m:Mem} {w w':World} (h:aD x g m w) (hb:Below w.heap.size w w') (hp:x.p.mono=false):aD x g m w' where
 le:=h.le
 locs:=h.locs
 glob:=h.glob
 coms:=h.coms
 obj0 i o hi:=(h.obj0 i o hi).imp id fun ⟨b,h1,h2,h3,h4⟩=>⟨b,h1,h2,h3,b9.block (hb.block b h4.lt) h4⟩
 inj:=h.inj
 com b o v hv:=by
  have h1:=h.com b o v hv
  have hlt:b < w.heap.size:=by
   rcases Nat.lt_or_ge b w.heap.size with h2|h2
   ·exact h2
   ·simp [World.cell?,Array.getElem?_eq_none h2] at h1
  simp only [World.cell?] at h1 ⊢
  rw [hb.block b hlt];exact h1
 one:=h.one
 rows b r hr:=by
  obtain ⟨c,t,fz,h1,h2⟩:=h.rows b r hr
  exact ⟨c,t,fz,by rw [hb.block b (Array.getElem?_eq_some_iff.1 h1).1];exact h1,h2⟩
 os:=hb.os.trans h.os
 tape:=hb.tape.trans h.tape
 output:=⟨hb.output.trans h.output.1,fun hm=>by rw [hp] at hm;cases hm⟩
 size:=Nat.le_trans h.size hb.size
 kept b hlt hm:=(hb.block b (Nat.lt_of_lt_of_le hlt h.size)).trans (h.kept b hlt hm)
 typs t q b hl:=(h.typs t q b hl).imp fun c ⟨fz,h1⟩=>⟨fz,by rw [hb.block b (Array.getElem?_eq_some_iff.1 h1).1];exact h1⟩
structure mo (P:Program) [Laid P] (g:Gh) (w:World):Prop where
 com:∀ b o v,g.com b o=some v→w.cell? ⟨b,o,none⟩=some v
 rows:∀ b r,g.row b=some r→∃ c t fz,w.heap[b]? = some (.cells c t fz)∧c.size=r
 glob:∀ k,k < P.globals.size→g.loc (.root k)=some (some k)
 facts:Laid.facts P g
theorem aD.told {P:Program} [Laid P] {x:Ctx} {g:Gh} {m:Mem} {w:World} (h:aD x g m w) (hx:Fit P x):mo P g w :=
 ⟨h.com,h.rows,fun k hk=>h.glob k (Nat.lt_of_lt_of_le hk hx.1),Laid.mono h.le hx.2⟩
theorem gz {P:Program} [Laid P] {f:FuncId} {xs:List AV} {p:Oid} {val:AV} (he:cL P f=true) (hp:p.mono=false)
  (h:∀ (g:Gh) (args:Array Value) (w:World),VRs g xs args→mo P g w→Calls P f args w fun en w'=>∃ v,en = .returned v∧VR g val v∧Below w.heap.size w w'):aA P f xs (Oid.under p) ⟨[],val,[]⟩ :=
 ⟨he,fun x g args w m hm _ ha hs hx=>(h g args w ha (hm.told hx)).mono fun _ _ ⟨v,h1,h2,h3⟩=>⟨g,v,h1,Gh.le_refl g,fun _ _=>rfl,h2,hm.below h3 (cU (hs p (Oid.az p)).2 hp)⟩⟩
theorem fp {P:Program} [Laid P] {f:FuncId} {xs:List AV} {sp:Oid→Prop} {val:AV} (he:cL P f=true)
  (h:∀ (g:Gh) (args:Array Value) (w:World),VRs g xs args→mo P g w→Calls P f args w fun en w'=>∃ v,en = .returned v∧VR g val v∧w' = w):aA P f xs sp ⟨[],val,[]⟩ :=
 ⟨he,fun x g args w m hm _ ha hs hx=>(h g args w ha (hm.told hx)).mono fun _ _ ⟨v,h1,h2,h3⟩=>⟨g,v,h1,Gh.le_refl g,fun _ _=>rfl,h2,by rw [h3];exact hm⟩⟩
theorem VRs.one {g:Gh} {x:AV} {args:Array Value} (h:VRs g [x] args):∃ v,args=#[v]∧VR g x v:=by
 obtain ⟨h1,h2⟩:=h
 refine ⟨args.getD 0 undef,?_,h2 0 (by simp)⟩
 apply Array.ext
 ·rw [h1];rfl
 ·intro i hi hj
  obtain rfl:i=0:=by simp at h1;omega
  simp [Array.getD_eq_getD_getElem?,Array.getElem?_eq_getElem hi]
theorem VRs.two {g:Gh} {x y:AV} {args:Array Value} (h:VRs g [x,y] args):∃ v u,args=#[v,u]∧VR g x v∧VR g y u:=by
 obtain ⟨h1,h2⟩:=h
 refine ⟨args.getD 0 undef,args.getD 1 undef,?_,h2 0 (by simp),h2 1 (by simp)⟩
 apply Array.ext
 ·rw [h1];rfl
 ·intro i hi hj
  have:i < 2:=by simpa using hj
  rcases i with _|_|i
  ·simp [Array.getD_eq_getD_getElem?,Array.getElem?_eq_getElem hi]
  ·simp [Array.getD_eq_getD_getElem?,Array.getElem?_eq_getElem hi]
  ·omega
end Go.Ab
namespace Go.Proofs.YtlfeacmbhldjcaaGreatDoor
open Go Go.Ab
theorem afU:tyk Tryz.prog 0=some TyK.other:=by kernel_rfl
theorem afV:shp Tryz.prog 0=some (false,1):=by kernel_rfl
theorem afW:zer Tryz.prog 0=some [(AV.tuple [])]:=by kernel_rfl
theorem afX:al Tryz.prog 0=false:=by kernel_rfl
theorem afY:tyk Tryz.prog 1=some TyK.func:=by kernel_rfl
theorem afZ:shp Tryz.prog 1=some (false,1):=by kernel_rfl
theorem af0:zer Tryz.prog 1=some [AV.nilFn]:=by kernel_rfl
theorem af1:al Tryz.prog 1=false:=by kernel_rfl
theorem af2:tyk Tryz.prog 2=some (TyK.int .i64):=by kernel_rfl
theorem af3:shp Tryz.prog 2=some (false,1):=by kernel_rfl
theorem af4:zer Tryz.prog 2=some [(AV.int .i64 0)]:=by kernel_rfl
theorem af5:al Tryz.prog 2=false:=by kernel_rfl
theorem af6:aW Tryz.prog 10 2=some [(TyS.si .i64)]:=by kernel_rfl
theorem af7:Tryz.prog.eqGuardType Tryz.prog.depth 2=false:=by kernel_rfl
theorem af8:tyk Tryz.prog 3=some (TyK.int .i64):=by kernel_rfl
theorem af9:shp Tryz.prog 3=some (false,1):=by kernel_rfl
theorem aga:zer Tryz.prog 3=some [(AV.int .i64 0)]:=by kernel_rfl
theorem agb:al Tryz.prog 3=false:=by kernel_rfl
theorem agc:aW Tryz.prog 10 3=some [(TyS.si .i64)]:=by kernel_rfl
theorem agd:Tryz.prog.eqGuardType Tryz.prog.depth 3=false:=by kernel_rfl
theorem age:tyk Tryz.prog 4=some TyK.bool:=by kernel_rfl
theorem agf:shp Tryz.prog 4=some (false,1):=by kernel_rfl
theorem agh:zer Tryz.prog 4=some [(AV.bool false)]:=by kernel_rfl
theorem agi:al Tryz.prog 4=false:=by kernel_rfl
theorem agj:aW Tryz.prog 10 4=some [TyS.sb]:=by kernel_rfl
theorem agk:Tryz.prog.eqGuardType Tryz.prog.depth 4=false:=by kernel_rfl
theorem agl:tyk Tryz.prog 5=some (TyK.int .u8):=by kernel_rfl
theorem agm:shp Tryz.prog 5=some (false,1):=by kernel_rfl
theorem agn:zer Tryz.prog 5=some [(AV.int .u8 0)]:=by kernel_rfl
theorem ago:al Tryz.prog 5=false:=by kernel_rfl
theorem agp:aW Tryz.prog 10 5=some [(TyS.si .u8)]:=by kernel_rfl
theorem agq:Tryz.prog.eqGuardType Tryz.prog.depth 5=false:=by kernel_rfl
theorem agr:tyk Tryz.prog 6=some (TyK.int .u8):=by kernel_rfl
theorem agt:shp Tryz.prog 6=some (false,1):=by kernel_rfl
theorem agu:zer Tryz.prog 6=some [(AV.int .u8 0)]:=by kernel_rfl
theorem agv:al Tryz.prog 6=false:=by kernel_rfl
theorem agw:aW Tryz.prog 10 6=some [(TyS.si .u8)]:=by kernel_rfl
theorem agx:Tryz.prog.eqGuardType Tryz.prog.depth 6=false:=by kernel_rfl
theorem agy:tyk Tryz.prog 7=some (TyK.struct [(0,(false,1)),(1,(false,1)),(2,(false,1)),(3,(false,1))]):=by kernel_rfl
theorem agz:shp Tryz.prog 7=some (true,4):=by kernel_rfl
theorem agA:zer Tryz.prog 7=some [(AV.int .i64 0),(AV.int .i64 0),(AV.bool false),(AV.int .u8 0)]:=by kernel_rfl
theorem agB:al Tryz.prog 7=false:=by kernel_rfl
theorem agC:aW Tryz.prog 10 7=some [(TyS.si .i64),(TyS.si .i64),TyS.sb,(TyS.si .u8)]:=by kernel_rfl
theorem agD:Tryz.prog.eqGuardType Tryz.prog.depth 7=false:=by kernel_rfl
theorem Eb:aB Tryz.prog 7 0=some (0,false,1):=by kernel_rfl
theorem Ec:aB Tryz.prog 7 1=some (1,false,1):=by kernel_rfl
theorem Ed:aB Tryz.prog 7 2=some (2,false,1):=by kernel_rfl
theorem Ee:aB Tryz.prog 7 3=some (3,false,1):=by kernel_rfl
theorem agE:tyk Tryz.prog 8=some (TyK.struct [(0,(false,1)),(1,(false,1)),(2,(false,1)),(3,(false,1))]):=by kernel_rfl
theorem agF:shp Tryz.prog 8=some (true,4):=by kernel_rfl
theorem agG:zer Tryz.prog 8=some [(AV.int .i64 0),(AV.int .i64 0),(AV.bool false),(AV.int .u8 0)]:=by kernel_rfl
theorem agH:al Tryz.prog 8=false:=by kernel_rfl
theorem agI:aW Tryz.prog 10 8=some [(TyS.si .i64),(TyS.si .i64),TyS.sb,(TyS.si .u8)]:=by kernel_rfl
theorem agJ:Tryz.prog.eqGuardType Tryz.prog.depth 8=false:=by kernel_rfl
theorem Ef:aB Tryz.prog 8 0=some (0,false,1):=by kernel_rfl
theorem Eg:aB Tryz.prog 8 1=some (1,false,1):=by kernel_rfl
theorem Eh:aB Tryz.prog 8 2=some (2,false,1):=by kernel_rfl
theorem Ei:aB Tryz.prog 8 3=some (3,false,1):=by kernel_rfl
theorem agK:tyk Tryz.prog 9=some TyK.str:=by kernel_rfl
theorem agL:shp Tryz.prog 9=some (false,1):=by kernel_rfl
theorem agM:zer Tryz.prog 9=some [(AV.str [])]:=by kernel_rfl
theorem agN:al Tryz.prog 9=false:=by kernel_rfl
theorem agO:aW Tryz.prog 10 9=some [TyS.ss]:=by kernel_rfl
theorem agP:Tryz.prog.eqGuardType Tryz.prog.depth 9=false:=by kernel_rfl
theorem YF:tyk Tryz.prog 10=some TyK.str:=by kernel_rfl
theorem YG:shp Tryz.prog 10=some (false,1):=by kernel_rfl
theorem YH:zer Tryz.prog 10=some [(AV.str [])]:=by kernel_rfl
theorem YI:al Tryz.prog 10=false:=by kernel_rfl
theorem YJ:aW Tryz.prog 10 10=some [TyS.ss]:=by kernel_rfl
theorem YK:Tryz.prog.eqGuardType Tryz.prog.depth 10=false:=by kernel_rfl
theorem YL:tyk Tryz.prog 11=some TyK.str:=by kernel_rfl
theorem YM:shp Tryz.prog 11=some (false,1):=by kernel_rfl
theorem YN:zer Tryz.prog 11=some [(AV.str [])]:=by kernel_rfl
theorem YO:al Tryz.prog 11=false:=by kernel_rfl
theorem YP:aW Tryz.prog 10 11=some [TyS.ss]:=by kernel_rfl
theorem YQ:Tryz.prog.eqGuardType Tryz.prog.depth 11=false:=by kernel_rfl
theorem YR:tyk Tryz.prog 12=some (TyK.int .u64):=by kernel_rfl
theorem YS:shp Tryz.prog 12=some (false,1):=by kernel_rfl
theorem YT:zer Tryz.prog 12=some [(AV.int .u64 0)]:=by kernel_rfl
theorem YU:al Tryz.prog 12=false:=by kernel_rfl
theorem YV:aW Tryz.prog 10 12=some [(TyS.si .u64)]:=by kernel_rfl
theorem YW:Tryz.prog.eqGuardType Tryz.prog.depth 12=false:=by kernel_rfl
theorem YX:tyk Tryz.prog 13=some (TyK.struct [(0,(false,1)),(1,(false,1))]):=by kernel_rfl
theorem YY:shp Tryz.prog 13=some (true,2):=by kernel_rfl
theorem YZ:zer Tryz.prog 13=some [(AV.str []),(AV.int .u64 0)]:=by kernel_rfl
theorem Y0:al Tryz.prog 13=false:=by kernel_rfl
theorem A8:aB Tryz.prog 13 0=some (0,false,1):=by kernel_rfl
theorem A9:aB Tryz.prog 13 1=some (1,false,1):=by kernel_rfl
theorem Za:tyk Tryz.prog 14=some (TyK.struct [(0,(false,1)),(1,(false,1))]):=by kernel_rfl
theorem Zb:shp Tryz.prog 14=some (true,2):=by kernel_rfl
theorem Zc:zer Tryz.prog 14=some [(AV.str []),(AV.int .u64 0)]:=by kernel_rfl
theorem Zd:al Tryz.prog 14=false:=by kernel_rfl
theorem Ba:aB Tryz.prog 14 0=some (0,false,1):=by kernel_rfl
theorem Bb:aB Tryz.prog 14 1=some (1,false,1):=by kernel_rfl
theorem Ze:tyk Tryz.prog 15=some (TyK.ptr 330):=by kernel_rfl
theorem Zf:shp Tryz.prog 15=some (false,1):=by kernel_rfl
theorem Zg:zer Tryz.prog 15=some [AV.nilPtr]:=by kernel_rfl
theorem Zh:al Tryz.prog 15=false:=by kernel_rfl
theorem Zi:tyk Tryz.prog 16=some (TyK.ptr 333):=by kernel_rfl
theorem Zj:shp Tryz.prog 16=some (false,1):=by kernel_rfl
theorem Zk:zer Tryz.prog 16=some [AV.nilPtr]:=by kernel_rfl
theorem Zl:al Tryz.prog 16=false:=by kernel_rfl
theorem Zm:tyk Tryz.prog 17=some (TyK.ptr 341):=by kernel_rfl
theorem Zn:shp Tryz.prog 17=some (false,1):=by kernel_rfl
theorem Zo:zer Tryz.prog 17=some [AV.nilPtr]:=by kernel_rfl
theorem Zp:al Tryz.prog 17=false:=by kernel_rfl
theorem Zq:tyk Tryz.prog 18=some (TyK.struct [(0,(false,1))]):=by kernel_rfl
theorem Zr:shp Tryz.prog 18=some (true,1):=by kernel_rfl
theorem Zs:zer Tryz.prog 18=some [AV.nilPtr]:=by kernel_rfl
theorem Zt:al Tryz.prog 18=false:=by kernel_rfl
theorem Bc:aB Tryz.prog 18 0=some (0,false,1):=by kernel_rfl
theorem Zu:tyk Tryz.prog 19=some (TyK.struct [(0,(false,1))]):=by kernel_rfl
theorem Zv:shp Tryz.prog 19=some (true,1):=by kernel_rfl
theorem Zw:zer Tryz.prog 19=some [AV.nilPtr]:=by kernel_rfl
theorem Zx:al Tryz.prog 19=false:=by kernel_rfl
theorem Be:aB Tryz.prog 19 0=some (0,false,1):=by kernel_rfl
theorem Zy:tyk Tryz.prog 20=some (TyK.iface 0):=by kernel_rfl
theorem Zz:shp Tryz.prog 20=some (false,1):=by kernel_rfl
theorem ZA:zer Tryz.prog 20=some [AV.nilIface]:=by kernel_rfl
theorem ZB:al Tryz.prog 20=false:=by kernel_rfl
theorem ZC:tyk Tryz.prog 21=some (TyK.int .i32):=by kernel_rfl
theorem ZD:shp Tryz.prog 21=some (false,1):=by kernel_rfl
theorem ZE:zer Tryz.prog 21=some [(AV.int .i32 0)]:=by kernel_rfl
theorem ZF:al Tryz.prog 21=false:=by kernel_rfl
theorem ZG:aW Tryz.prog 10 21=some [(TyS.si .i32)]:=by kernel_rfl
theorem ZH:Tryz.prog.eqGuardType Tryz.prog.depth 21=false:=by kernel_rfl
theorem ZI:tyk Tryz.prog 22=some (TyK.slice 61 true 5 24):=by kernel_rfl
theorem ZJ:shp Tryz.prog 22=some (false,1):=by kernel_rfl
theorem ZK:zer Tryz.prog 22=some [AV.nilSl]:=by kernel_rfl
theorem ZL:al Tryz.prog 22=false:=by kernel_rfl
theorem ZM:tyk Tryz.prog 23=some TyK.func:=by kernel_rfl
theorem ZN:shp Tryz.prog 23=some (false,1):=by kernel_rfl
theorem ZO:zer Tryz.prog 23=some [AV.nilFn]:=by kernel_rfl
theorem ZP:al Tryz.prog 23=false:=by kernel_rfl
theorem ZQ:tyk Tryz.prog 24=some (TyK.ptr 34):=by kernel_rfl
theorem ZR:shp Tryz.prog 24=some (false,1):=by kernel_rfl
theorem ZS:zer Tryz.prog 24=some [AV.nilPtr]:=by kernel_rfl
theorem ZT:al Tryz.prog 24=false:=by kernel_rfl
theorem ZU:tyk Tryz.prog 25=some TyK.func:=by kernel_rfl
theorem ZV:shp Tryz.prog 25=some (false,1):=by kernel_rfl
theorem ZW:zer Tryz.prog 25=some [AV.nilFn]:=by kernel_rfl
theorem ZX:al Tryz.prog 25=false:=by kernel_rfl
theorem ZY:tyk Tryz.prog 26=some TyK.func:=by kernel_rfl
theorem ZZ:shp Tryz.prog 26=some (false,1):=by kernel_rfl
theorem Z0:zer Tryz.prog 26=some [AV.nilFn]:=by kernel_rfl
theorem Z9:al Tryz.prog 26=false:=by kernel_rfl
theorem aaa:tyk Tryz.prog 27=some (TyK.slice 9 false 1 16):=by kernel_rfl
theorem aab:shp Tryz.prog 27=some (false,1):=by kernel_rfl
theorem aac:zer Tryz.prog 27=some [AV.nilSl]:=by kernel_rfl
theorem aad:al Tryz.prog 27=false:=by kernel_rfl
theorem aae:tyk Tryz.prog 28=some TyK.func:=by kernel_rfl
theorem aaf:shp Tryz.prog 28=some (false,1):=by kernel_rfl
theorem aag:zer Tryz.prog 28=some [AV.nilFn]:=by kernel_rfl
theorem aah:al Tryz.prog 28=false:=by kernel_rfl
theorem aai:tyk Tryz.prog 29=some (TyK.ptr 125):=by kernel_rfl
theorem aaj:shp Tryz.prog 29=some (false,1):=by kernel_rfl
theorem aak:zer Tryz.prog 29=some [AV.nilPtr]:=by kernel_rfl
theorem aal:al Tryz.prog 29=false:=by kernel_rfl
theorem aam:tyk Tryz.prog 30=some (TyK.ptr 103):=by kernel_rfl
theorem aan:shp Tryz.prog 30=some (false,1):=by kernel_rfl
theorem aao:zer Tryz.prog 30=some [AV.nilPtr]:=by kernel_rfl
theorem aap:al Tryz.prog 30=false:=by kernel_rfl
theorem aaq:tyk Tryz.prog 31=some (TyK.ptr 129):=by kernel_rfl
theorem aar:shp Tryz.prog 31=some (false,1):=by kernel_rfl
theorem aas:zer Tryz.prog 31=some [AV.nilPtr]:=by kernel_rfl
theorem aat:al Tryz.prog 31=false:=by kernel_rfl
theorem aau:tyk Tryz.prog 32=some (TyK.ptr 108):=by kernel_rfl
theorem aav:shp Tryz.prog 32=some (false,1):=by kernel_rfl
theorem aaw:zer Tryz.prog 32=some [AV.nilPtr]:=by kernel_rfl
theorem aax:al Tryz.prog 32=false:=by kernel_rfl
theorem aay:tyk Tryz.prog 33=some (TyK.struct [(0,(false,1)),(1,(false,1)),(2,(false,1)),(3,(false,1))]):=by kernel_rfl
theorem aaz:shp Tryz.prog 33=some (true,4):=by kernel_rfl
theorem aaA:zer Tryz.prog 33=some [AV.nilPtr,AV.nilPtr,AV.nilPtr,AV.nilPtr]:=by kernel_rfl
theorem aaB:al Tryz.prog 33=false:=by kernel_rfl
theorem Bf:aB Tryz.prog 33 0=some (0,false,1):=by kernel_rfl
theorem Bg:aB Tryz.prog 33 1=some (1,false,1):=by kernel_rfl
theorem Bh:aB Tryz.prog 33 2=some (2,false,1):=by kernel_rfl
theorem Bi:aB Tryz.prog 33 3=some (3,false,1):=by kernel_rfl
theorem aaC:tyk Tryz.prog 34=some (TyK.struct [(0,(false,1)),(1,(false,1)),(2,(false,1)),(3,(false,1))]):=by kernel_rfl
theorem aaD:shp Tryz.prog 34=some (true,4):=by kernel_rfl
theorem aaE:zer Tryz.prog 34=some [AV.nilPtr,AV.nilPtr,AV.nilPtr,AV.nilPtr]:=by kernel_rfl
theorem aaF:al Tryz.prog 34=false:=by kernel_rfl
theorem Bj:aB Tryz.prog 34 0=some (0,false,1):=by kernel_rfl
theorem Bl:aB Tryz.prog 34 1=some (1,false,1):=by kernel_rfl
theorem Bm:aB Tryz.prog 34 2=some (2,false,1):=by kernel_rfl
theorem Bn:aB Tryz.prog 34 3=some (3,false,1):=by kernel_rfl
theorem aaG:tyk Tryz.prog 35=some TyK.func:=by kernel_rfl
theorem aaH:shp Tryz.prog 35=some (false,1):=by kernel_rfl
theorem aaI:zer Tryz.prog 35=some [AV.nilFn]:=by kernel_rfl
theorem aaJ:al Tryz.prog 35=false:=by kernel_rfl
theorem aaK:tyk Tryz.prog 36=some TyK.func:=by kernel_rfl
theorem aaL:shp Tryz.prog 36=some (false,1):=by kernel_rfl
theorem aaM:zer Tryz.prog 36=some [AV.nilFn]:=by kernel_rfl
theorem aaN:al Tryz.prog 36=false:=by kernel_rfl
theorem aaO:tyk Tryz.prog 37=some TyK.func:=by kernel_rfl
theorem aaP:shp Tryz.prog 37=some (false,1):=by kernel_rfl
theorem aaQ:zer Tryz.prog 37=some [AV.nilFn]:=by kernel_rfl
theorem aaR:al Tryz.prog 37=false:=by kernel_rfl
theorem aaS:tyk Tryz.prog 38=some (TyK.struct [(0,(false,1)),(1,(false,1)),(2,(false,1)),(3,(false,1))]):=by kernel_rfl
theorem aaT:shp Tryz.prog 38=some (true,4):=by kernel_rfl
theorem aaU:zer Tryz.prog 38=some [(AV.str []),(AV.str []),(AV.bool false),(AV.bool false)]:=by kernel_rfl
theorem aaV:al Tryz.prog 38=false:=by kernel_rfl
theorem aaW:aW Tryz.prog 10 38=some [TyS.ss,TyS.ss,TyS.sb,TyS.sb]:=by kernel_rfl
theorem aaX:Tryz.prog.eqGuardType Tryz.prog.depth 38=false:=by kernel_rfl
theorem Bo:aB Tryz.prog 38 0=some (0,false,1):=by kernel_rfl
theorem Bp:aB Tryz.prog 38 1=some (1,false,1):=by kernel_rfl
theorem Bq:aB Tryz.prog 38 2=some (2,false,1):=by kernel_rfl
theorem Br:aB Tryz.prog 38 3=some (3,false,1):=by kernel_rfl
theorem aaY:tyk Tryz.prog 39=some (TyK.struct [(0,(false,1)),(1,(false,1)),(2,(false,1)),(3,(false,1))]):=by kernel_rfl
theorem aaZ:shp Tryz.prog 39=some (true,4):=by kernel_rfl
theorem aa0:zer Tryz.prog 39=some [(AV.str []),(AV.str []),(AV.bool false),(AV.bool false)]:=by kernel_rfl
theorem aa1:al Tryz.prog 39=false:=by kernel_rfl
theorem aa2:aW Tryz.prog 10 39=some [TyS.ss,TyS.ss,TyS.sb,TyS.sb]:=by kernel_rfl
theorem aa3:Tryz.prog.eqGuardType Tryz.prog.depth 39=false:=by kernel_rfl
theorem Bt:aB Tryz.prog 39 0=some (0,false,1):=by kernel_rfl
theorem Bu:aB Tryz.prog 39 1=some (1,false,1):=by kernel_rfl
theorem Bv:aB Tryz.prog 39 2=some (2,false,1):=by kernel_rfl
theorem Bw:aB Tryz.prog 39 3=some (3,false,1):=by kernel_rfl
theorem aa4:tyk Tryz.prog 40=some (TyK.slice 39 true 4 40):=by kernel_rfl
theorem aa5:shp Tryz.prog 40=some (false,1):=by kernel_rfl
theorem aa6:zer Tryz.prog 40=some [AV.nilSl]:=by kernel_rfl
theorem aa7:al Tryz.prog 40=false:=by kernel_rfl
theorem aa8:tyk Tryz.prog 41=some (TyK.struct [(0,(false,1)),(1,(false,1)),(2,(false,1))]):=by kernel_rfl
theorem aa9:shp Tryz.prog 41=some (true,3):=by kernel_rfl
theorem aba:zer Tryz.prog 41=some [AV.nilSl,AV.nilSl,(AV.int .i64 0)]:=by kernel_rfl
theorem abb:al Tryz.prog 41=false:=by kernel_rfl
theorem Bx:aB Tryz.prog 41 0=some (0,false,1):=by kernel_rfl
theorem By:aB Tryz.prog 41 1=some (1,false,1):=by kernel_rfl
theorem Bz:aB Tryz.prog 41 2=some (2,false,1):=by kernel_rfl
theorem abc:tyk Tryz.prog 42=some (TyK.struct [(0,(false,1)),(1,(false,1)),(2,(false,1))]):=by kernel_rfl
theorem abd:shp Tryz.prog 42=some (true,3):=by kernel_rfl
theorem abe:zer Tryz.prog 42=some [AV.nilSl,AV.nilSl,(AV.int .i64 0)]:=by kernel_rfl
theorem abf:al Tryz.prog 42=false:=by kernel_rfl
theorem BA:aB Tryz.prog 42 0=some (0,false,1):=by kernel_rfl
theorem BB:aB Tryz.prog 42 1=some (1,false,1):=by kernel_rfl
theorem BC:aB Tryz.prog 42 2=some (2,false,1):=by kernel_rfl
theorem abg:tyk Tryz.prog 43=some (TyK.int .i64):=by kernel_rfl
theorem abh:shp Tryz.prog 43=some (false,1):=by kernel_rfl
theorem abi:zer Tryz.prog 43=some [(AV.int .i64 0)]:=by kernel_rfl
theorem abj:al Tryz.prog 43=false:=by kernel_rfl
theorem abk:aW Tryz.prog 10 43=some [(TyS.si .i64)]:=by kernel_rfl
theorem abl:Tryz.prog.eqGuardType Tryz.prog.depth 43=false:=by kernel_rfl
theorem abm:tyk Tryz.prog 44=some TyK.other:=by kernel_rfl
theorem abn:shp Tryz.prog 44=some (false,1):=by kernel_rfl
theorem abo:zer Tryz.prog 44=some [(AV.tuple [AV.nilSl,AV.undef,(AV.int .i64 0)])]:=by kernel_rfl
theorem abp:al Tryz.prog 44=false:=by kernel_rfl
theorem abq:tyk Tryz.prog 45=some TyK.func:=by kernel_rfl
theorem abr:shp Tryz.prog 45=some (false,1):=by kernel_rfl
theorem abt:zer Tryz.prog 45=some [AV.nilFn]:=by kernel_rfl
theorem abu:al Tryz.prog 45=false:=by kernel_rfl
theorem abv:tyk Tryz.prog 46=some (TyK.slice 48 true 6 88):=by kernel_rfl
theorem abw:shp Tryz.prog 46=some (false,1):=by kernel_rfl
theorem abx:zer Tryz.prog 46=some [AV.nilSl]:=by kernel_rfl
theorem aby:al Tryz.prog 46=false:=by kernel_rfl
theorem abz:tyk Tryz.prog 47=some (TyK.struct [(0,(false,1)),(1,(false,1)),(2,(false,1)),(3,(false,1)),(4,(false,1)),(5,(false,1))]):=by kernel_rfl
theorem abA:shp Tryz.prog 47=some (true,6):=by kernel_rfl
theorem abB:zer Tryz.prog 47=some [(AV.int .i64 0),(AV.bool false),(AV.str []),(AV.str []),(AV.str []),AV.nilSl]:=by kernel_rfl
theorem abC:al Tryz.prog 47=false:=by kernel_rfl
theorem BD:aB Tryz.prog 47 0=some (0,false,1):=by kernel_rfl
theorem BE:aB Tryz.prog 47 1=some (1,false,1):=by kernel_rfl
theorem BF:aB Tryz.prog 47 2=some (2,false,1):=by kernel_rfl
theorem BG:aB Tryz.prog 47 3=some (3,false,1):=by kernel_rfl
theorem BH:aB Tryz.prog 47 4=some (4,false,1):=by kernel_rfl
theorem BI:aB Tryz.prog 47 5=some (5,false,1):=by kernel_rfl
theorem abD:tyk Tryz.prog 48=some (TyK.struct [(0,(false,1)),(1,(false,1)),(2,(false,1)),(3,(false,1)),(4,(false,1)),(5,(false,1))]):=by kernel_rfl
theorem abE:shp Tryz.prog 48=some (true,6):=by kernel_rfl
theorem abF:zer Tryz.prog 48=some [(AV.int .i64 0),(AV.bool false),(AV.str []),(AV.str []),(AV.str []),AV.nilSl]:=by kernel_rfl
theorem abG:al Tryz.prog 48=false:=by kernel_rfl
theorem BJ:aB Tryz.prog 48 0=some (0,false,1):=by kernel_rfl
theorem BK:aB Tryz.prog 48 1=some (1,false,1):=by kernel_rfl
theorem BL:aB Tryz.prog 48 2=some (2,false,1):=by kernel_rfl
theorem BM:aB Tryz.prog 48 3=some (3,false,1):=by kernel_rfl
theorem BN:aB Tryz.prog 48 4=some (4,false,1):=by kernel_rfl
theorem BO:aB Tryz.prog 48 5=some (5,false,1):=by kernel_rfl
theorem abH:tyk Tryz.prog 49=some TyK.other:=by kernel_rfl
theorem abI:shp Tryz.prog 49=some (false,1):=by kernel_rfl
theorem abJ:zer Tryz.prog 49=some [(AV.tuple [(AV.str []),AV.undef,(AV.int .i64 0)])]:=by kernel_rfl
theorem abK:al Tryz.prog 49=false:=by kernel_rfl
theorem abL:tyk Tryz.prog 50=some TyK.func:=by kernel_rfl
theorem abM:shp Tryz.prog 50=some (false,1):=by kernel_rfl
theorem abN:zer Tryz.prog 50=some [AV.nilFn]:=by kernel_rfl
theorem abO:al Tryz.prog 50=false:=by kernel_rfl
theorem abP:tyk Tryz.prog 51=some TyK.func:=by kernel_rfl
theorem abQ:shp Tryz.prog 51=some (false,1):=by kernel_rfl
theorem abR:zer Tryz.prog 51=some [AV.nilFn]:=by kernel_rfl
theorem abS:al Tryz.prog 51=false:=by kernel_rfl
theorem abT:tyk Tryz.prog 52=some TyK.func:=by kernel_rfl
theorem abU:shp Tryz.prog 52=some (false,1):=by kernel_rfl
theorem abV:zer Tryz.prog 52=some [AV.nilFn]:=by kernel_rfl
theorem abW:al Tryz.prog 52=false:=by kernel_rfl
theorem abX:tyk Tryz.prog 53=some (TyK.struct [(0,(false,1)),(1,(false,1)),(2,(false,1)),(3,(false,1)),(4,(false,1))]):=by kernel_rfl
theorem abY:shp Tryz.prog 53=some (true,5):=by kernel_rfl
theorem abZ:zer Tryz.prog 53=some [(AV.int .u8 0),(AV.int .u8 0),(AV.int .u8 0),(AV.int .u8 0),(AV.int .u8 0)]:=by kernel_rfl
theorem ab0:al Tryz.prog 53=false:=by kernel_rfl
theorem ab1:aW Tryz.prog 10 53=some [(TyS.si .u8),(TyS.si .u8),(TyS.si .u8),(TyS.si .u8),(TyS.si .u8)]:=by kernel_rfl
theorem ab2:Tryz.prog.eqGuardType Tryz.prog.depth 53=false:=by kernel_rfl
theorem BP:aB Tryz.prog 53 0=some (0,false,1):=by kernel_rfl
theorem BQ:aB Tryz.prog 53 1=some (1,false,1):=by kernel_rfl
theorem BS:aB Tryz.prog 53 2=some (2,false,1):=by kernel_rfl
theorem BT:aB Tryz.prog 53 3=some (3,false,1):=by kernel_rfl
theorem BU:aB Tryz.prog 53 4=some (4,false,1):=by kernel_rfl
theorem ab3:tyk Tryz.prog 54=some (TyK.struct [(0,(false,1)),(1,(false,1)),(2,(false,1)),(3,(false,1)),(4,(false,1))]):=by kernel_rfl
theorem ab4:shp Tryz.prog 54=some (true,5):=by kernel_rfl
theorem ab5:zer Tryz.prog 54=some [(AV.int .u8 0),(AV.int .u8 0),(AV.int .u8 0),(AV.int .u8 0),(AV.int .u8 0)]:=by kernel_rfl
theorem ab6:al Tryz.prog 54=false:=by kernel_rfl
theorem ab7:aW Tryz.prog 10 54=some [(TyS.si .u8),(TyS.si .u8),(TyS.si .u8),(TyS.si .u8),(TyS.si .u8)]:=by kernel_rfl
theorem ab8:Tryz.prog.eqGuardType Tryz.prog.depth 54=false:=by kernel_rfl
theorem BV:aB Tryz.prog 54 0=some (0,false,1):=by kernel_rfl
theorem BW:aB Tryz.prog 54 1=some (1,false,1):=by kernel_rfl
theorem BX:aB Tryz.prog 54 2=some (2,false,1):=by kernel_rfl
theorem BY:aB Tryz.prog 54 3=some (3,false,1):=by kernel_rfl
theorem BZ:aB Tryz.prog 54 4=some (4,false,1):=by kernel_rfl
theorem ab9:tyk Tryz.prog 55=some TyK.other:=by kernel_rfl
theorem aca:shp Tryz.prog 55=some (false,1):=by kernel_rfl
theorem acb:zer Tryz.prog 55=some [(AV.tuple [AV.nilSl,(AV.int .i64 0)])]:=by kernel_rfl
theorem acd:al Tryz.prog 55=false:=by kernel_rfl
theorem ace:tyk Tryz.prog 56=some TyK.func:=by kernel_rfl
theorem acf:shp Tryz.prog 56=some (false,1):=by kernel_rfl
theorem acg:zer Tryz.prog 56=some [AV.nilFn]:=by kernel_rfl
theorem ach:al Tryz.prog 56=false:=by kernel_rfl
theorem aci:tyk Tryz.prog 57=some TyK.func:=by kernel_rfl
theorem acj:shp Tryz.prog 57=some (false,1):=by kernel_rfl
theorem ack:zer Tryz.prog 57=some [AV.nilFn]:=by kernel_rfl
theorem acm:al Tryz.prog 57=false:=by kernel_rfl
theorem acn:tyk Tryz.prog 58=some TyK.func:=by kernel_rfl
theorem aco:shp Tryz.prog 58=some (false,1):=by kernel_rfl
theorem acp:zer Tryz.prog 58=some [AV.nilFn]:=by kernel_rfl
theorem acq:al Tryz.prog 58=false:=by kernel_rfl
theorem acr:tyk Tryz.prog 59=some TyK.func:=by kernel_rfl
theorem acs:shp Tryz.prog 59=some (false,1):=by kernel_rfl
theorem acu:zer Tryz.prog 59=some [AV.nilFn]:=by kernel_rfl
theorem acv:al Tryz.prog 59=false:=by kernel_rfl
theorem acw:tyk Tryz.prog 60=some (TyK.struct [(0,(false,1)),(1,(false,1)),(2,(false,1)),(3,(false,1)),(4,(false,1))]):=by kernel_rfl
theorem acx:shp Tryz.prog 60=some (true,5):=by kernel_rfl
theorem acy:zer Tryz.prog 60=some [(AV.int .u8 0),(AV.int .u8 0),(AV.int .u8 0),(AV.int .u8 0),(AV.str [])]:=by kernel_rfl
theorem acz:al Tryz.prog 60=false:=by kernel_rfl
theorem acA:aW Tryz.prog 10 60=some [(TyS.si .u8),(TyS.si .u8),(TyS.si .u8),(TyS.si .u8),TyS.ss]:=by kernel_rfl
theorem acB:Tryz.prog.eqGuardType Tryz.prog.depth 60=false:=by kernel_rfl
theorem B1:aB Tryz.prog 60 0=some (0,false,1):=by kernel_rfl
theorem B2:aB Tryz.prog 60 1=some (1,false,1):=by kernel_rfl
theorem B3:aB Tryz.prog 60 2=some (2,false,1):=by kernel_rfl
theorem B4:aB Tryz.prog 60 3=some (3,false,1):=by kernel_rfl
theorem B5:aB Tryz.prog 60 4=some (4,false,1):=by kernel_rfl
theorem acC:tyk Tryz.prog 61=some (TyK.struct [(0,(false,1)),(1,(false,1)),(2,(false,1)),(3,(false,1)),(4,(false,1))]):=by kernel_rfl
theorem acD:shp Tryz.prog 61=some (true,5):=by kernel_rfl
theorem acE:zer Tryz.prog 61=some [(AV.int .u8 0),(AV.int .u8 0),(AV.int .u8 0),(AV.int .u8 0),(AV.str [])]:=by kernel_rfl
theorem acF:al Tryz.prog 61=false:=by kernel_rfl
theorem acG:aW Tryz.prog 10 61=some [(TyS.si .u8),(TyS.si .u8),(TyS.si .u8),(TyS.si .u8),TyS.ss]:=by kernel_rfl
theorem acH:Tryz.prog.eqGuardType Tryz.prog.depth 61=false:=by kernel_rfl
theorem B6:aB Tryz.prog 61 0=some (0,false,1):=by kernel_rfl
theorem B7:aB Tryz.prog 61 1=some (1,false,1):=by kernel_rfl
theorem B8:aB Tryz.prog 61 2=some (2,false,1):=by kernel_rfl
theorem B9:aB Tryz.prog 61 3=some (3,false,1):=by kernel_rfl
theorem Ca:aB Tryz.prog 61 4=some (4,false,1):=by kernel_rfl
theorem acI:tyk Tryz.prog 62=some TyK.func:=by kernel_rfl
theorem acJ:shp Tryz.prog 62=some (false,1):=by kernel_rfl
theorem acK:zer Tryz.prog 62=some [AV.nilFn]:=by kernel_rfl
theorem acL:al Tryz.prog 62=false:=by kernel_rfl
theorem acM:tyk Tryz.prog 63=some TyK.func:=by kernel_rfl
theorem acN:shp Tryz.prog 63=some (false,1):=by kernel_rfl
theorem acO:zer Tryz.prog 63=some [AV.nilFn]:=by kernel_rfl
theorem acP:al Tryz.prog 63=false:=by kernel_rfl
theorem acQ:tyk Tryz.prog 64=some TyK.func:=by kernel_rfl
theorem acR:shp Tryz.prog 64=some (false,1):=by kernel_rfl
theorem acS:zer Tryz.prog 64=some [AV.nilFn]:=by kernel_rfl
theorem acT:al Tryz.prog 64=false:=by kernel_rfl
theorem acU:tyk Tryz.prog 65=some TyK.func:=by kernel_rfl
theorem acV:shp Tryz.prog 65=some (false,1):=by kernel_rfl
theorem acW:zer Tryz.prog 65=some [AV.nilFn]:=by kernel_rfl
theorem acX:al Tryz.prog 65=false:=by kernel_rfl
theorem acY:tyk Tryz.prog 66=some TyK.func:=by kernel_rfl
theorem acZ:shp Tryz.prog 66=some (false,1):=by kernel_rfl
theorem ac0:zer Tryz.prog 66=some [AV.nilFn]:=by kernel_rfl
theorem ac1:al Tryz.prog 66=false:=by kernel_rfl
theorem ac2:tyk Tryz.prog 67=some TyK.func:=by kernel_rfl
theorem ac3:shp Tryz.prog 67=some (false,1):=by kernel_rfl
theorem ac4:zer Tryz.prog 67=some [AV.nilFn]:=by kernel_rfl
theorem ac5:al Tryz.prog 67=false:=by kernel_rfl
theorem ac6:tyk Tryz.prog 68=some (TyK.struct [(0,(false,1))]):=by kernel_rfl
theorem ac7:shp Tryz.prog 68=some (true,1):=by kernel_rfl
theorem ac8:zer Tryz.prog 68=some [AV.nilPtr]:=by kernel_rfl
theorem ac9:al Tryz.prog 68=false:=by kernel_rfl
theorem Cb:aB Tryz.prog 68 0=some (0,false,1):=by kernel_rfl
theorem ada:tyk Tryz.prog 69=some (TyK.struct [(0,(false,1))]):=by kernel_rfl
theorem adb:shp Tryz.prog 69=some (true,1):=by kernel_rfl
theorem ade:zer Tryz.prog 69=some [AV.nilPtr]:=by kernel_rfl
theorem adf:al Tryz.prog 69=false:=by kernel_rfl
theorem Cc:aB Tryz.prog 69 0=some (0,false,1):=by kernel_rfl
theorem adg:tyk Tryz.prog 70=some TyK.func:=by kernel_rfl
theorem adh:shp Tryz.prog 70=some (false,1):=by kernel_rfl
theorem adi:zer Tryz.prog 70=some [AV.nilFn]:=by kernel_rfl
theorem adj:al Tryz.prog 70=false:=by kernel_rfl
theorem adk:tyk Tryz.prog 71=some TyK.func:=by kernel_rfl
theorem adl:shp Tryz.prog 71=some (false,1):=by kernel_rfl
theorem adm:zer Tryz.prog 71=some [AV.nilFn]:=by kernel_rfl
theorem adn:al Tryz.prog 71=false:=by kernel_rfl
theorem ado:tyk Tryz.prog 72=some TyK.func:=by kernel_rfl
theorem adp:shp Tryz.prog 72=some (false,1):=by kernel_rfl
theorem adq:zer Tryz.prog 72=some [AV.nilFn]:=by kernel_rfl
theorem adr:al Tryz.prog 72=false:=by kernel_rfl
theorem ads:tyk Tryz.prog 73=some TyK.func:=by kernel_rfl
theorem adt:shp Tryz.prog 73=some (false,1):=by kernel_rfl
theorem adu:zer Tryz.prog 73=some [AV.nilFn]:=by kernel_rfl
theorem adv:al Tryz.prog 73=false:=by kernel_rfl
theorem adw:tyk Tryz.prog 74=some TyK.func:=by kernel_rfl
theorem adx:shp Tryz.prog 74=some (false,1):=by kernel_rfl
theorem ady:zer Tryz.prog 74=some [AV.nilFn]:=by kernel_rfl
theorem adz:al Tryz.prog 74=false:=by kernel_rfl
theorem adA:tyk Tryz.prog 75=some TyK.func:=by kernel_rfl
theorem adB:shp Tryz.prog 75=some (false,1):=by kernel_rfl
theorem adC:zer Tryz.prog 75=some [AV.nilFn]:=by kernel_rfl
theorem adD:al Tryz.prog 75=false:=by kernel_rfl
theorem adE:tyk Tryz.prog 76=some (TyK.ptr 82):=by kernel_rfl
theorem adF:shp Tryz.prog 76=some (false,1):=by kernel_rfl
theorem adG:zer Tryz.prog 76=some [AV.nilPtr]:=by kernel_rfl
theorem adH:al Tryz.prog 76=false:=by kernel_rfl
theorem adI:tyk Tryz.prog 77=some TyK.other:=by kernel_rfl
theorem adJ:shp Tryz.prog 77=some (false,1):=by kernel_rfl
theorem adK:zer Tryz.prog 77=some [(AV.tuple [AV.nilPtr,(AV.int .i64 0)])]:=by kernel_rfl
theorem adL:al Tryz.prog 77=false:=by kernel_rfl
theorem adM:tyk Tryz.prog 78=some TyK.func:=by kernel_rfl
theorem adN:shp Tryz.prog 78=some (false,1):=by kernel_rfl
theorem adO:zer Tryz.prog 78=some [AV.nilFn]:=by kernel_rfl
theorem adP:al Tryz.prog 78=false:=by kernel_rfl
theorem adQ:tyk Tryz.prog 79=some TyK.func:=by kernel_rfl
theorem adR:shp Tryz.prog 79=some (false,1):=by kernel_rfl
theorem adS:zer Tryz.prog 79=some [AV.nilFn]:=by kernel_rfl
theorem adT:al Tryz.prog 79=false:=by kernel_rfl
theorem adU:tyk Tryz.prog 80=some (TyK.slice 135 true 2 24):=by kernel_rfl
theorem adV:shp Tryz.prog 80=some (false,1):=by kernel_rfl
theorem adW:zer Tryz.prog 80=some [AV.nilSl]:=by kernel_rfl
theorem adX:al Tryz.prog 80=false:=by kernel_rfl
theorem adY:tyk Tryz.prog 81=some (TyK.struct [(0,(true,3)),(3,(false,1)),(4,(false,1))]):=by kernel_rfl
theorem adZ:shp Tryz.prog 81=some (true,5):=by kernel_rfl
theorem ad0:zer Tryz.prog 81=some [AV.nilSl,AV.nilSl,(AV.int .i64 0),AV.nilSl,AV.nilSl]:=by kernel_rfl
theorem ad1:al Tryz.prog 81=false:=by kernel_rfl
theorem Cd:aB Tryz.prog 81 0=some (0,true,3):=by kernel_rfl
theorem Ce:aB Tryz.prog 81 1=some (3,false,1):=by kernel_rfl
theorem Cf:aB Tryz.prog 81 2=some (4,false,1):=by kernel_rfl
theorem ad2:tyk Tryz.prog 82=some (TyK.struct [(0,(true,3)),(3,(false,1)),(4,(false,1))]):=by kernel_rfl
theorem ad3:shp Tryz.prog 82=some (true,5):=by kernel_rfl
theorem ad4:zer Tryz.prog 82=some [AV.nilSl,AV.nilSl,(AV.int .i64 0),AV.nilSl,AV.nilSl]:=by kernel_rfl
theorem ad5:al Tryz.prog 82=false:=by kernel_rfl
theorem Cg:aB Tryz.prog 82 0=some (0,true,3):=by kernel_rfl
theorem Ch:aB Tryz.prog 82 1=some (3,false,1):=by kernel_rfl
theorem Ci:aB Tryz.prog 82 2=some (4,false,1):=by kernel_rfl
theorem ad6:tyk Tryz.prog 83=some TyK.func:=by kernel_rfl
theorem ad7:shp Tryz.prog 83=some (false,1):=by kernel_rfl
theorem ad8:zer Tryz.prog 83=some [AV.nilFn]:=by kernel_rfl
theorem ad9:al Tryz.prog 83=false:=by kernel_rfl
theorem aea:tyk Tryz.prog 84=some TyK.func:=by kernel_rfl
theorem aeb:shp Tryz.prog 84=some (false,1):=by kernel_rfl
theorem aec:zer Tryz.prog 84=some [AV.nilFn]:=by kernel_rfl
theorem aed:al Tryz.prog 84=false:=by kernel_rfl
theorem aee:tyk Tryz.prog 85=some TyK.func:=by kernel_rfl
theorem aef:shp Tryz.prog 85=some (false,1):=by kernel_rfl
theorem aeg:zer Tryz.prog 85=some [AV.nilFn]:=by kernel_rfl
theorem aeh:al Tryz.prog 85=false:=by kernel_rfl
theorem aei:tyk Tryz.prog 86=some TyK.func:=by kernel_rfl
theorem aej:shp Tryz.prog 86=some (false,1):=by kernel_rfl
theorem aek:zer Tryz.prog 86=some [AV.nilFn]:=by kernel_rfl
theorem ael:al Tryz.prog 86=false:=by kernel_rfl
theorem aem:tyk Tryz.prog 87=some TyK.func:=by kernel_rfl
theorem aen:shp Tryz.prog 87=some (false,1):=by kernel_rfl
theorem aeo:zer Tryz.prog 87=some [AV.nilFn]:=by kernel_rfl
theorem aep:al Tryz.prog 87=false:=by kernel_rfl
theorem aeq:tyk Tryz.prog 88=some TyK.func:=by kernel_rfl
theorem aer:shp Tryz.prog 88=some (false,1):=by kernel_rfl
theorem aes:zer Tryz.prog 88=some [AV.nilFn]:=by kernel_rfl
theorem aet:al Tryz.prog 88=false:=by kernel_rfl
theorem aeu:tyk Tryz.prog 89=some TyK.func:=by kernel_rfl
theorem aev:shp Tryz.prog 89=some (false,1):=by kernel_rfl
theorem aew:zer Tryz.prog 89=some [AV.nilFn]:=by kernel_rfl
theorem aex:al Tryz.prog 89=false:=by kernel_rfl
theorem aey:tyk Tryz.prog 90=some TyK.func:=by kernel_rfl
theorem aez:shp Tryz.prog 90=some (false,1):=by kernel_rfl
theorem aeA:zer Tryz.prog 90=some [AV.nilFn]:=by kernel_rfl
theorem aeB:al Tryz.prog 90=false:=by kernel_rfl
theorem aeC:tyk Tryz.prog 91=some TyK.func:=by kernel_rfl
theorem aeD:shp Tryz.prog 91=some (false,1):=by kernel_rfl
theorem aeE:zer Tryz.prog 91=some [AV.nilFn]:=by kernel_rfl
theorem aeF:al Tryz.prog 91=false:=by kernel_rfl
theorem aeG:tyk Tryz.prog 92=some TyK.func:=by kernel_rfl
theorem aeH:shp Tryz.prog 92=some (false,1):=by kernel_rfl
theorem aeI:zer Tryz.prog 92=some [AV.nilFn]:=by kernel_rfl
theorem aeJ:al Tryz.prog 92=false:=by kernel_rfl
theorem aeK:tyk Tryz.prog 93=some TyK.func:=by kernel_rfl
theorem aeL:shp Tryz.prog 93=some (false,1):=by kernel_rfl
theorem aeM:zer Tryz.prog 93=some [AV.nilFn]:=by kernel_rfl
theorem aeN:al Tryz.prog 93=false:=by kernel_rfl
theorem aeO:tyk Tryz.prog 94=some (TyK.ptr 43):=by kernel_rfl
theorem aeP:shp Tryz.prog 94=some (false,1):=by kernel_rfl
theorem aeQ:zer Tryz.prog 94=some [AV.nilPtr]:=by kernel_rfl
theorem aeR:al Tryz.prog 94=false:=by kernel_rfl
theorem aeS:tyk Tryz.prog 95=some (TyK.struct [(0,(false,1)),(1,(false,1)),(2,(false,1))]):=by kernel_rfl
theorem aeT:shp Tryz.prog 95=some (true,3):=by kernel_rfl
theorem aeU:zer Tryz.prog 95=some [(AV.int .i64 0),(AV.int .i64 0),(AV.str [])]:=by kernel_rfl
theorem aeV:al Tryz.prog 95=false:=by kernel_rfl
theorem aeW:aW Tryz.prog 10 95=some [(TyS.si .i64),(TyS.si .i64),TyS.ss]:=by kernel_rfl
theorem aeX:Tryz.prog.eqGuardType Tryz.prog.depth 95=false:=by kernel_rfl
theorem Cj:aB Tryz.prog 95 0=some (0,false,1):=by kernel_rfl
theorem Ck:aB Tryz.prog 95 1=some (1,false,1):=by kernel_rfl
theorem Cl:aB Tryz.prog 95 2=some (2,false,1):=by kernel_rfl
theorem aeY:tyk Tryz.prog 96=some (TyK.struct [(0,(false,1)),(1,(false,1)),(2,(false,1))]):=by kernel_rfl
theorem aeZ:shp Tryz.prog 96=some (true,3):=by kernel_rfl
theorem ae0:zer Tryz.prog 96=some [(AV.int .i64 0),(AV.int .i64 0),(AV.str [])]:=by kernel_rfl
theorem ae1:al Tryz.prog 96=false:=by kernel_rfl
theorem ae2:aW Tryz.prog 10 96=some [(TyS.si .i64),(TyS.si .i64),TyS.ss]:=by kernel_rfl
theorem ae3:Tryz.prog.eqGuardType Tryz.prog.depth 96=false:=by kernel_rfl
theorem Cm:aB Tryz.prog 96 0=some (0,false,1):=by kernel_rfl
theorem Cn:aB Tryz.prog 96 1=some (1,false,1):=by kernel_rfl
theorem Co:aB Tryz.prog 96 2=some (2,false,1):=by kernel_rfl
theorem ae4:tyk Tryz.prog 97=some TyK.other:=by kernel_rfl
theorem ae5:shp Tryz.prog 97=some (false,1):=by kernel_rfl
theorem ae6:zer Tryz.prog 97=some [(AV.tuple [(AV.str []),AV.undef])]:=by kernel_rfl
theorem ae7:al Tryz.prog 97=false:=by kernel_rfl
theorem ae8:tyk Tryz.prog 98=some TyK.func:=by kernel_rfl
theorem ae9:shp Tryz.prog 98=some (false,1):=by kernel_rfl
theorem afa:zer Tryz.prog 98=some [AV.nilFn]:=by kernel_rfl
theorem afb:al Tryz.prog 98=false:=by kernel_rfl
theorem afc:tyk Tryz.prog 99=some TyK.func:=by kernel_rfl
theorem afd:shp Tryz.prog 99=some (false,1):=by kernel_rfl
theorem afe:zer Tryz.prog 99=some [AV.nilFn]:=by kernel_rfl
theorem aff:al Tryz.prog 99=false:=by kernel_rfl
theorem Ej:tyk Tryz.prog 100=some TyK.func:=by kernel_rfl
theorem Ek:shp Tryz.prog 100=some (false,1):=by kernel_rfl
theorem El:zer Tryz.prog 100=some [AV.nilFn]:=by kernel_rfl
theorem Em:al Tryz.prog 100=false:=by kernel_rfl
theorem En:tyk Tryz.prog 101=some TyK.func:=by kernel_rfl
theorem Eo:shp Tryz.prog 101=some (false,1):=by kernel_rfl
theorem Ep:zer Tryz.prog 101=some [AV.nilFn]:=by kernel_rfl
theorem Er:al Tryz.prog 101=false:=by kernel_rfl
theorem Es:tyk Tryz.prog 102=some (TyK.struct [(0,(false,1)),(1,(false,1)),(2,(false,1))]):=by kernel_rfl
theorem Et:shp Tryz.prog 102=some (true,3):=by kernel_rfl
theorem Eu:zer Tryz.prog 102=some [AV.nilPtr,(AV.str []),(AV.int .i64 0)]:=by kernel_rfl
theorem Ev:al Tryz.prog 102=false:=by kernel_rfl
theorem vQ:aB Tryz.prog 102 0=some (0,false,1):=by kernel_rfl
theorem vR:aB Tryz.prog 102 1=some (1,false,1):=by kernel_rfl
theorem vS:aB Tryz.prog 102 2=some (2,false,1):=by kernel_rfl
theorem Ew:tyk Tryz.prog 103=some (TyK.struct [(0,(false,1)),(1,(false,1)),(2,(false,1))]):=by kernel_rfl
theorem Ex:shp Tryz.prog 103=some (true,3):=by kernel_rfl
theorem Ey:zer Tryz.prog 103=some [AV.nilPtr,(AV.str []),(AV.int .i64 0)]:=by kernel_rfl
theorem Ez:al Tryz.prog 103=false:=by kernel_rfl
theorem vT:aB Tryz.prog 103 0=some (0,false,1):=by kernel_rfl
theorem vU:aB Tryz.prog 103 1=some (1,false,1):=by kernel_rfl
theorem vV:aB Tryz.prog 103 2=some (2,false,1):=by kernel_rfl
theorem EA:tyk Tryz.prog 104=some TyK.func:=by kernel_rfl
theorem EB:shp Tryz.prog 104=some (false,1):=by kernel_rfl
theorem EC:zer Tryz.prog 104=some [AV.nilFn]:=by kernel_rfl
theorem ED:al Tryz.prog 104=false:=by kernel_rfl
theorem EE:tyk Tryz.prog 105=some TyK.other:=by kernel_rfl
theorem EF:shp Tryz.prog 105=some (false,1):=by kernel_rfl
theorem EH:zer Tryz.prog 105=some [(AV.tuple [(AV.str []),AV.undef,(AV.int .i64 0)])]:=by kernel_rfl
theorem EI:al Tryz.prog 105=false:=by kernel_rfl
theorem EJ:tyk Tryz.prog 106=some TyK.func:=by kernel_rfl
theorem EL:shp Tryz.prog 106=some (false,1):=by kernel_rfl
theorem EM:zer Tryz.prog 106=some [AV.nilFn]:=by kernel_rfl
theorem EN:al Tryz.prog 106=false:=by kernel_rfl
theorem EO:tyk Tryz.prog 107=some (TyK.struct [(0,(false,1)),(1,(false,1)),(2,(false,1))]):=by kernel_rfl
theorem EP:shp Tryz.prog 107=some (true,3):=by kernel_rfl
theorem ES:zer Tryz.prog 107=some [AV.nilPtr,(AV.str []),(AV.int .i64 0)]:=by kernel_rfl
theorem ET:al Tryz.prog 107=false:=by kernel_rfl
theorem vW:aB Tryz.prog 107 0=some (0,false,1):=by kernel_rfl
theorem vX:aB Tryz.prog 107 1=some (1,false,1):=by kernel_rfl
theorem vY:aB Tryz.prog 107 2=some (2,false,1):=by kernel_rfl
theorem EU:tyk Tryz.prog 108=some (TyK.struct [(0,(false,1)),(1,(false,1)),(2,(false,1))]):=by kernel_rfl
theorem EV:shp Tryz.prog 108=some (true,3):=by kernel_rfl
theorem EW:zer Tryz.prog 108=some [AV.nilPtr,(AV.str []),(AV.int .i64 0)]:=by kernel_rfl
theorem EX:al Tryz.prog 108=false:=by kernel_rfl
theorem vZ:aB Tryz.prog 108 0=some (0,false,1):=by kernel_rfl
theorem v7:aB Tryz.prog 108 1=some (1,false,1):=by kernel_rfl
theorem v8:aB Tryz.prog 108 2=some (2,false,1):=by kernel_rfl
theorem EY:tyk Tryz.prog 109=some TyK.func:=by kernel_rfl
theorem EZ:shp Tryz.prog 109=some (false,1):=by kernel_rfl
theorem E0:zer Tryz.prog 109=some [AV.nilFn]:=by kernel_rfl
theorem E2:al Tryz.prog 109=false:=by kernel_rfl
theorem E3:tyk Tryz.prog 110=some TyK.other:=by kernel_rfl
theorem E4:shp Tryz.prog 110=some (false,1):=by kernel_rfl
theorem E5:zer Tryz.prog 110=some [(AV.tuple [(AV.int .u8 0),(AV.str [])])]:=by kernel_rfl
theorem E6:al Tryz.prog 110=false:=by kernel_rfl
theorem E7:tyk Tryz.prog 111=some TyK.func:=by kernel_rfl
theorem E8:shp Tryz.prog 111=some (false,1):=by kernel_rfl
theorem E9:zer Tryz.prog 111=some [AV.nilFn]:=by kernel_rfl
theorem Fa:al Tryz.prog 111=false:=by kernel_rfl
theorem Fb:tyk Tryz.prog 112=some TyK.func:=by kernel_rfl
theorem Fe:shp Tryz.prog 112=some (false,1):=by kernel_rfl
theorem Ff:zer Tryz.prog 112=some [AV.nilFn]:=by kernel_rfl
theorem Fg:al Tryz.prog 112=false:=by kernel_rfl
theorem Fh:tyk Tryz.prog 113=some TyK.func:=by kernel_rfl
theorem Fi:shp Tryz.prog 113=some (false,1):=by kernel_rfl
theorem Fj:zer Tryz.prog 113=some [AV.nilFn]:=by kernel_rfl
theorem Fk:al Tryz.prog 113=false:=by kernel_rfl
theorem Fl:tyk Tryz.prog 114=some (TyK.ptr 117):=by kernel_rfl
theorem Fm:shp Tryz.prog 114=some (false,1):=by kernel_rfl
theorem Fo:zer Tryz.prog 114=some [AV.nilPtr]:=by kernel_rfl
theorem Fp:al Tryz.prog 114=false:=by kernel_rfl
theorem Fq:tyk Tryz.prog 115=some (TyK.slice 5 false 1 1):=by kernel_rfl
theorem Fs:shp Tryz.prog 115=some (false,1):=by kernel_rfl
theorem Ft:zer Tryz.prog 115=some [AV.nilSl]:=by kernel_rfl
theorem Fu:al Tryz.prog 115=false:=by kernel_rfl
theorem Fv:tyk Tryz.prog 116=some (TyK.struct [(0,(false,1)),(1,(false,1))]):=by kernel_rfl
theorem Fw:shp Tryz.prog 116=some (true,2):=by kernel_rfl
theorem Fx:zer Tryz.prog 116=some [AV.nilPtr,AV.nilSl]:=by kernel_rfl
theorem Fy:al Tryz.prog 116=false:=by kernel_rfl
theorem wa:aB Tryz.prog 116 0=some (0,false,1):=by kernel_rfl
theorem wb:aB Tryz.prog 116 1=some (1,false,1):=by kernel_rfl
theorem Fz:tyk Tryz.prog 117=some (TyK.struct [(0,(false,1)),(1,(false,1))]):=by kernel_rfl
theorem FA:shp Tryz.prog 117=some (true,2):=by kernel_rfl
theorem FB:zer Tryz.prog 117=some [AV.nilPtr,AV.nilSl]:=by kernel_rfl
theorem FC:al Tryz.prog 117=true:=by kernel_rfl
theorem wc:aB Tryz.prog 117 0=some (0,false,1):=by kernel_rfl
theorem wg:aB Tryz.prog 117 1=some (1,false,1):=by kernel_rfl
theorem FD:tyk Tryz.prog 118=some (TyK.iface 1):=by kernel_rfl
theorem FE:shp Tryz.prog 118=some (false,1):=by kernel_rfl
theorem FF:zer Tryz.prog 118=some [AV.nilIface]:=by kernel_rfl
theorem FG:al Tryz.prog 118=false:=by kernel_rfl
theorem FH:tyk Tryz.prog 119=some (TyK.iface 1):=by kernel_rfl
theorem FI:shp Tryz.prog 119=some (false,1):=by kernel_rfl
theorem FJ:zer Tryz.prog 119=some [AV.nilIface]:=by kernel_rfl
theorem FK:al Tryz.prog 119=false:=by kernel_rfl
theorem FL:tyk Tryz.prog 120=some TyK.func:=by kernel_rfl
theorem FM:shp Tryz.prog 120=some (false,1):=by kernel_rfl
theorem FN:zer Tryz.prog 120=some [AV.nilFn]:=by kernel_rfl
theorem FO:al Tryz.prog 120=false:=by kernel_rfl
theorem FP:tyk Tryz.prog 121=some (TyK.map 9 96):=by kernel_rfl
theorem FQ:shp Tryz.prog 121=some (false,1):=by kernel_rfl
theorem FR:zer Tryz.prog 121=some [AV.nilMap]:=by kernel_rfl
theorem FT:al Tryz.prog 121=false:=by kernel_rfl
theorem FU:lV Tryz.prog 121=some ([TyS.ss],(false,(AV.agg [(AV.int .i64 0),(AV.int .i64 0),(AV.str [])]))):=by kernel_rfl
theorem FV:eS Tryz.prog 121=some ([TyS.ss],false):=by kernel_rfl
theorem FW:tyk Tryz.prog 122=some (TyK.map 9 96):=by kernel_rfl
theorem FX:shp Tryz.prog 122=some (false,1):=by kernel_rfl
theorem FY:zer Tryz.prog 122=some [AV.nilMap]:=by kernel_rfl
theorem FZ:al Tryz.prog 122=false:=by kernel_rfl
theorem F3:lV Tryz.prog 122=some ([TyS.ss],(false,(AV.agg [(AV.int .i64 0),(AV.int .i64 0),(AV.str [])]))):=by kernel_rfl
theorem F4:eS Tryz.prog 122=some ([TyS.ss],false):=by kernel_rfl
theorem F5:tyk Tryz.prog 123=some (TyK.ptr 159):=by kernel_rfl
theorem F6:shp Tryz.prog 123=some (false,1):=by kernel_rfl
theorem F7:zer Tryz.prog 123=some [AV.nilPtr]:=by kernel_rfl
theorem F8:al Tryz.prog 123=false:=by kernel_rfl
theorem F9:tyk Tryz.prog 124=some (TyK.struct [(0,(false,1)),(1,(false,1))]):=by kernel_rfl
theorem Ga:shp Tryz.prog 124=some (true,2):=by kernel_rfl
theorem Gb:zer Tryz.prog 124=some [AV.nilMap,AV.nilPtr]:=by kernel_rfl
theorem Gc:al Tryz.prog 124=false:=by kernel_rfl
theorem wh:aB Tryz.prog 124 0=some (0,false,1):=by kernel_rfl
theorem wi:aB Tryz.prog 124 1=some (1,false,1):=by kernel_rfl
theorem Gd:tyk Tryz.prog 125=some (TyK.struct [(0,(false,1)),(1,(false,1))]):=by kernel_rfl
theorem Ge:shp Tryz.prog 125=some (true,2):=by kernel_rfl
theorem Gf:zer Tryz.prog 125=some [AV.nilMap,AV.nilPtr]:=by kernel_rfl
theorem Gg:al Tryz.prog 125=false:=by kernel_rfl
theorem wj:aB Tryz.prog 125 0=some (0,false,1):=by kernel_rfl
theorem wm:aB Tryz.prog 125 1=some (1,false,1):=by kernel_rfl
theorem Gi:tyk Tryz.prog 126=some (TyK.slice 163 true 4 48):=by kernel_rfl
theorem Gj:shp Tryz.prog 126=some (false,1):=by kernel_rfl
theorem Gk:zer Tryz.prog 126=some [AV.nilSl]:=by kernel_rfl
theorem Gl:al Tryz.prog 126=false:=by kernel_rfl
theorem Gm:tyk Tryz.prog 127=some (TyK.slice 213 true 3 40):=by kernel_rfl
theorem Gn:shp Tryz.prog 127=some (false,1):=by kernel_rfl
theorem Gp:zer Tryz.prog 127=some [AV.nilSl]:=by kernel_rfl
theorem Gq:al Tryz.prog 127=false:=by kernel_rfl
theorem Gr:tyk Tryz.prog 128=some (TyK.struct [(0,(false,1)),(1,(false,1)),(2,(false,1)),(3,(false,1)),(4,(false,1))]):=by kernel_rfl
theorem Gs:shp Tryz.prog 128=some (true,5):=by kernel_rfl
theorem Gt:zer Tryz.prog 128=some [AV.nilSl,AV.nilSl,AV.nilSl,AV.nilSl,(AV.bool false)]:=by kernel_rfl
theorem Gu:al Tryz.prog 128=false:=by kernel_rfl
theorem wu:aB Tryz.prog 128 0=some (0,false,1):=by kernel_rfl
theorem wv:aB Tryz.prog 128 1=some (1,false,1):=by kernel_rfl
theorem wx:aB Tryz.prog 128 2=some (2,false,1):=by kernel_rfl
theorem wy:aB Tryz.prog 128 3=some (3,false,1):=by kernel_rfl
theorem wz:aB Tryz.prog 128 4=some (4,false,1):=by kernel_rfl
theorem Gv:tyk Tryz.prog 129=some (TyK.struct [(0,(false,1)),(1,(false,1)),(2,(false,1)),(3,(false,1)),(4,(false,1))]):=by kernel_rfl
theorem Gw:shp Tryz.prog 129=some (true,5):=by kernel_rfl
theorem Gx:zer Tryz.prog 129=some [AV.nilSl,AV.nilSl,AV.nilSl,AV.nilSl,(AV.bool false)]:=by kernel_rfl
theorem Gy:al Tryz.prog 129=false:=by kernel_rfl
theorem wA:aB Tryz.prog 129 0=some (0,false,1):=by kernel_rfl
theorem wB:aB Tryz.prog 129 1=some (1,false,1):=by kernel_rfl
theorem wC:aB Tryz.prog 129 2=some (2,false,1):=by kernel_rfl
theorem wD:aB Tryz.prog 129 3=some (3,false,1):=by kernel_rfl
theorem wE:aB Tryz.prog 129 4=some (4,false,1):=by kernel_rfl
theorem Gz:tyk Tryz.prog 130=some TyK.func:=by kernel_rfl
theorem GA:shp Tryz.prog 130=some (false,1):=by kernel_rfl
theorem GB:zer Tryz.prog 130=some [AV.nilFn]:=by kernel_rfl
theorem GC:al Tryz.prog 130=false:=by kernel_rfl
theorem GD:tyk Tryz.prog 131=some (TyK.ptr 133):=by kernel_rfl
theorem GF:shp Tryz.prog 131=some (false,1):=by kernel_rfl
theorem GG:zer Tryz.prog 131=some [AV.nilPtr]:=by kernel_rfl
theorem GH:al Tryz.prog 131=false:=by kernel_rfl
theorem GI:tyk Tryz.prog 132=some (TyK.struct [(0,(false,1)),(1,(false,1)),(2,(true,2)),(4,(false,1)),(5,(false,1))]):=by kernel_rfl
theorem GJ:shp Tryz.prog 132=some (true,6):=by kernel_rfl
theorem GK:zer Tryz.prog 132=some [(AV.str []),AV.nilSl,AV.nilPtr,AV.nilSl,(AV.bool false),(AV.bool false)]:=by kernel_rfl
theorem GL:al Tryz.prog 132=false:=by kernel_rfl
theorem wF:aB Tryz.prog 132 0=some (0,false,1):=by kernel_rfl
theorem wG:aB Tryz.prog 132 1=some (1,false,1):=by kernel_rfl
theorem wH:aB Tryz.prog 132 2=some (2,true,2):=by kernel_rfl
theorem wI:aB Tryz.prog 132 3=some (4,false,1):=by kernel_rfl
theorem wJ:aB Tryz.prog 132 4=some (5,false,1):=by kernel_rfl
theorem GM:tyk Tryz.prog 133=some (TyK.struct [(0,(false,1)),(1,(false,1)),(2,(true,2)),(4,(false,1)),(5,(false,1))]):=by kernel_rfl
theorem GN:shp Tryz.prog 133=some (true,6):=by kernel_rfl
theorem GO:zer Tryz.prog 133=some [(AV.str []),AV.nilSl,AV.nilPtr,AV.nilSl,(AV.bool false),(AV.bool false)]:=by kernel_rfl
theorem GP:al Tryz.prog 133=true:=by kernel_rfl
theorem wK:aB Tryz.prog 133 0=some (0,false,1):=by kernel_rfl
theorem wM:aB Tryz.prog 133 1=some (1,false,1):=by kernel_rfl
theorem wN:aB Tryz.prog 133 2=some (2,true,2):=by kernel_rfl
theorem wO:aB Tryz.prog 133 3=some (4,false,1):=by kernel_rfl
theorem wP:aB Tryz.prog 133 4=some (5,false,1):=by kernel_rfl
theorem GQ:tyk Tryz.prog 134=some (TyK.struct [(0,(false,1)),(1,(false,1))]):=by kernel_rfl
theorem GR:shp Tryz.prog 134=some (true,2):=by kernel_rfl
theorem GS:zer Tryz.prog 134=some [(AV.int .i64 0),(AV.str [])]:=by kernel_rfl
theorem GU:al Tryz.prog 134=false:=by kernel_rfl
theorem GV:aW Tryz.prog 10 134=some [(TyS.si .i64),TyS.ss]:=by kernel_rfl
theorem GW:Tryz.prog.eqGuardType Tryz.prog.depth 134=false:=by kernel_rfl
theorem wQ:aB Tryz.prog 134 0=some (0,false,1):=by kernel_rfl
theorem wR:aB Tryz.prog 134 1=some (1,false,1):=by kernel_rfl
theorem GX:tyk Tryz.prog 135=some (TyK.struct [(0,(false,1)),(1,(false,1))]):=by kernel_rfl
theorem GY:shp Tryz.prog 135=some (true,2):=by kernel_rfl
theorem GZ:zer Tryz.prog 135=some [(AV.int .i64 0),(AV.str [])]:=by kernel_rfl
theorem G0:al Tryz.prog 135=false:=by kernel_rfl
theorem G3:aW Tryz.prog 10 135=some [(TyS.si .i64),TyS.ss]:=by kernel_rfl
theorem G4:Tryz.prog.eqGuardType Tryz.prog.depth 135=false:=by kernel_rfl
theorem wS:aB Tryz.prog 135 0=some (0,false,1):=by kernel_rfl
theorem wT:aB Tryz.prog 135 1=some (1,false,1):=by kernel_rfl
theorem G5:tyk Tryz.prog 136=some TyK.func:=by kernel_rfl
theorem G6:shp Tryz.prog 136=some (false,1):=by kernel_rfl
theorem G7:zer Tryz.prog 136=some [AV.nilFn]:=by kernel_rfl
theorem G8:al Tryz.prog 136=false:=by kernel_rfl
theorem G9:tyk Tryz.prog 137=some TyK.other:=by kernel_rfl
theorem Ha:shp Tryz.prog 137=some (false,1):=by kernel_rfl
theorem Hb:zer Tryz.prog 137=some [(AV.tuple [AV.undef,(AV.bool false)])]:=by kernel_rfl
theorem Hc:al Tryz.prog 137=false:=by kernel_rfl
theorem Hd:tyk Tryz.prog 138=some TyK.func:=by kernel_rfl
theorem He:shp Tryz.prog 138=some (false,1):=by kernel_rfl
theorem Hf:zer Tryz.prog 138=some [AV.nilFn]:=by kernel_rfl
theorem Hh:al Tryz.prog 138=false:=by kernel_rfl
theorem Hi:tyk Tryz.prog 139=some (TyK.slice 27 false 1 24):=by kernel_rfl
theorem Hj:shp Tryz.prog 139=some (false,1):=by kernel_rfl
theorem Hk:zer Tryz.prog 139=some [AV.nilSl]:=by kernel_rfl
theorem Hl:al Tryz.prog 139=false:=by kernel_rfl
theorem Hm:tyk Tryz.prog 140=some TyK.func:=by kernel_rfl
theorem Hn:shp Tryz.prog 140=some (false,1):=by kernel_rfl
theorem Ho:zer Tryz.prog 140=some [AV.nilFn]:=by kernel_rfl
theorem Hp:al Tryz.prog 140=false:=by kernel_rfl
theorem Hq:tyk Tryz.prog 141=some TyK.other:=by kernel_rfl
theorem Hr:shp Tryz.prog 141=some (false,1):=by kernel_rfl
theorem Hs:zer Tryz.prog 141=some [(AV.tuple [(AV.int .i64 0),AV.nilIface])]:=by kernel_rfl
theorem Ht:al Tryz.prog 141=false:=by kernel_rfl
theorem Hu:tyk Tryz.prog 142=some TyK.func:=by kernel_rfl
theorem Hv:shp Tryz.prog 142=some (false,1):=by kernel_rfl
theorem Hw:zer Tryz.prog 142=some [AV.nilFn]:=by kernel_rfl
theorem Hx:al Tryz.prog 142=false:=by kernel_rfl
theorem Hy:tyk Tryz.prog 143=some TyK.func:=by kernel_rfl
theorem Hz:shp Tryz.prog 143=some (false,1):=by kernel_rfl
theorem HA:zer Tryz.prog 143=some [AV.nilFn]:=by kernel_rfl
theorem HB:al Tryz.prog 143=false:=by kernel_rfl
theorem HC:tyk Tryz.prog 144=some TyK.other:=by kernel_rfl
theorem HE:shp Tryz.prog 144=some (false,1):=by kernel_rfl
theorem HF:zer Tryz.prog 144=some [(AV.tuple [AV.undef,(AV.int .i64 0),(AV.int .i64 0)])]:=by kernel_rfl
theorem HG:al Tryz.prog 144=false:=by kernel_rfl
theorem HH:tyk Tryz.prog 145=some TyK.func:=by kernel_rfl
theorem HI:shp Tryz.prog 145=some (false,1):=by kernel_rfl
theorem HJ:zer Tryz.prog 145=some [AV.nilFn]:=by kernel_rfl
theorem HK:al Tryz.prog 145=false:=by kernel_rfl
theorem HL:tyk Tryz.prog 146=some TyK.func:=by kernel_rfl
theorem HM:shp Tryz.prog 146=some (false,1):=by kernel_rfl
theorem HN:zer Tryz.prog 146=some [AV.nilFn]:=by kernel_rfl
theorem HO:al Tryz.prog 146=false:=by kernel_rfl
theorem HP:tyk Tryz.prog 147=some TyK.other:=by kernel_rfl
theorem HQ:shp Tryz.prog 147=some (false,1):=by kernel_rfl
theorem HR:zer Tryz.prog 147=some [(AV.tuple [(AV.str []),(AV.int .i64 0)])]:=by kernel_rfl
theorem HS:al Tryz.prog 147=false:=by kernel_rfl
theorem HT:tyk Tryz.prog 148=some TyK.func:=by kernel_rfl
theorem HU:shp Tryz.prog 148=some (false,1):=by kernel_rfl
theorem HV:zer Tryz.prog 148=some [AV.nilFn]:=by kernel_rfl
theorem HW:al Tryz.prog 148=false:=by kernel_rfl
theorem HX:tyk Tryz.prog 149=some TyK.other:=by kernel_rfl
theorem HY:shp Tryz.prog 149=some (false,1):=by kernel_rfl
theorem HZ:zer Tryz.prog 149=some [(AV.tuple [AV.nilSl,(AV.int .i64 0)])]:=by kernel_rfl
theorem H0:al Tryz.prog 149=false:=by kernel_rfl
theorem H2:tyk Tryz.prog 150=some TyK.func:=by kernel_rfl
theorem H3:shp Tryz.prog 150=some (false,1):=by kernel_rfl
theorem H4:zer Tryz.prog 150=some [AV.nilFn]:=by kernel_rfl
theorem H5:al Tryz.prog 150=false:=by kernel_rfl
theorem H6:tyk Tryz.prog 151=some TyK.func:=by kernel_rfl
theorem H7:shp Tryz.prog 151=some (false,1):=by kernel_rfl
theorem H8:zer Tryz.prog 151=some [AV.nilFn]:=by kernel_rfl
theorem H9:al Tryz.prog 151=false:=by kernel_rfl
theorem Ia:tyk Tryz.prog 152=some (TyK.ptr 154):=by kernel_rfl
theorem Ib:shp Tryz.prog 152=some (false,1):=by kernel_rfl
theorem Ic:zer Tryz.prog 152=some [AV.nilPtr]:=by kernel_rfl
theorem Ie:al Tryz.prog 152=false:=by kernel_rfl
theorem Ig:tyk Tryz.prog 153=some (TyK.struct [(0,(false,1)),(1,(false,1)),(2,(false,1)),(3,(false,1)),(4,(false,1)),(5,(false,1))]):=by kernel_rfl
theorem Ih:shp Tryz.prog 153=some (true,6):=by kernel_rfl
theorem Ii:zer Tryz.prog 153=some [AV.nilPtr,(AV.str []),AV.nilSl,(AV.int .i64 0),(AV.bool false),(AV.bool false)]:=by kernel_rfl
theorem Ij:al Tryz.prog 153=false:=by kernel_rfl
theorem wU:aB Tryz.prog 153 0=some (0,false,1):=by kernel_rfl
theorem wV:aB Tryz.prog 153 1=some (1,false,1):=by kernel_rfl
theorem wW:aB Tryz.prog 153 2=some (2,false,1):=by kernel_rfl
theorem wX:aB Tryz.prog 153 3=some (3,false,1):=by kernel_rfl
theorem wY:aB Tryz.prog 153 4=some (4,false,1):=by kernel_rfl
theorem wZ:aB Tryz.prog 153 5=some (5,false,1):=by kernel_rfl
theorem Ik:tyk Tryz.prog 154=some (TyK.struct [(0,(false,1)),(1,(false,1)),(2,(false,1)),(3,(false,1)),(4,(false,1)),(5,(false,1))]):=by kernel_rfl
theorem Il:shp Tryz.prog 154=some (true,6):=by kernel_rfl
theorem Im:zer Tryz.prog 154=some [AV.nilPtr,(AV.str []),AV.nilSl,(AV.int .i64 0),(AV.bool false),(AV.bool false)]:=by kernel_rfl
theorem Io:al Tryz.prog 154=false:=by kernel_rfl
theorem w5:aB Tryz.prog 154 0=some (0,false,1):=by kernel_rfl
theorem w6:aB Tryz.prog 154 1=some (1,false,1):=by kernel_rfl
theorem w7:aB Tryz.prog 154 2=some (2,false,1):=by kernel_rfl
theorem w9:aB Tryz.prog 154 3=some (3,false,1):=by kernel_rfl
theorem xa:aB Tryz.prog 154 4=some (4,false,1):=by kernel_rfl
theorem xb:aB Tryz.prog 154 5=some (5,false,1):=by kernel_rfl
theorem Ip:tyk Tryz.prog 155=some TyK.func:=by kernel_rfl
theorem Iq:shp Tryz.prog 155=some (false,1):=by kernel_rfl
theorem Ir:zer Tryz.prog 155=some [AV.nilFn]:=by kernel_rfl
theorem Iu:al Tryz.prog 155=false:=by kernel_rfl
theorem Iv:tyk Tryz.prog 156=some (TyK.map 179 9):=by kernel_rfl
theorem Iw:shp Tryz.prog 156=some (false,1):=by kernel_rfl
theorem Ix:zer Tryz.prog 156=some [AV.nilMap]:=by kernel_rfl
theorem Iy:al Tryz.prog 156=false:=by kernel_rfl
theorem Iz:lV Tryz.prog 156=some ([TyS.ss,TyS.sb],(true,(AV.str []))):=by kernel_rfl
theorem IA:eS Tryz.prog 156=some ([TyS.ss,TyS.sb],true):=by kernel_rfl
theorem IB:tyk Tryz.prog 157=some (TyK.map 9 4):=by kernel_rfl
theorem IC:shp Tryz.prog 157=some (false,1):=by kernel_rfl
theorem ID:zer Tryz.prog 157=some [AV.nilMap]:=by kernel_rfl
theorem IE:al Tryz.prog 157=false:=by kernel_rfl
theorem IF:lV Tryz.prog 157=some ([TyS.ss],(false,(AV.bool false))):=by kernel_rfl
theorem IG:eS Tryz.prog 157=some ([TyS.ss],false):=by kernel_rfl
theorem IH:tyk Tryz.prog 158=some (TyK.struct [(0,(false,1)),(1,(false,1)),(2,(false,1))]):=by kernel_rfl
theorem II:shp Tryz.prog 158=some (true,3):=by kernel_rfl
theorem IJ:zer Tryz.prog 158=some [AV.nilMap,AV.nilMap,AV.nilMap]:=by kernel_rfl
theorem IK:al Tryz.prog 158=false:=by kernel_rfl
theorem xc:aB Tryz.prog 158 0=some (0,false,1):=by kernel_rfl
theorem xd:aB Tryz.prog 158 1=some (1,false,1):=by kernel_rfl
theorem xe:aB Tryz.prog 158 2=some (2,false,1):=by kernel_rfl
theorem IL:tyk Tryz.prog 159=some (TyK.struct [(0,(false,1)),(1,(false,1)),(2,(false,1))]):=by kernel_rfl
theorem IM:shp Tryz.prog 159=some (true,3):=by kernel_rfl
theorem IN:zer Tryz.prog 159=some [AV.nilMap,AV.nilMap,AV.nilMap]:=by kernel_rfl
theorem IP:al Tryz.prog 159=false:=by kernel_rfl
theorem xf:aB Tryz.prog 159 0=some (0,false,1):=by kernel_rfl
theorem xg:aB Tryz.prog 159 1=some (1,false,1):=by kernel_rfl
theorem xh:aB Tryz.prog 159 2=some (2,false,1):=by kernel_rfl
theorem IQ:tyk Tryz.prog 160=some TyK.other:=by kernel_rfl
theorem IS:shp Tryz.prog 160=some (false,1):=by kernel_rfl
theorem IT:zer Tryz.prog 160=some [(AV.tuple [AV.nilSl,(AV.bool false)])]:=by kernel_rfl
theorem IU:al Tryz.prog 160=false:=by kernel_rfl
theorem IV:tyk Tryz.prog 161=some TyK.func:=by kernel_rfl
theorem IW:shp Tryz.prog 161=some (false,1):=by kernel_rfl
theorem IX:zer Tryz.prog 161=some [AV.nilFn]:=by kernel_rfl
theorem IY:al Tryz.prog 161=false:=by kernel_rfl
theorem IZ:tyk Tryz.prog 162=some (TyK.struct [(0,(false,1)),(1,(true,3))]):=by kernel_rfl
theorem I0:shp Tryz.prog 162=some (true,4):=by kernel_rfl
theorem I1:zer Tryz.prog 162=some [(AV.str []),(AV.int .i64 0),(AV.int .i64 0),(AV.str [])]:=by kernel_rfl
theorem I2:al Tryz.prog 162=false:=by kernel_rfl
theorem I3:aW Tryz.prog 10 162=some [TyS.ss,(TyS.si .i64),(TyS.si .i64),TyS.ss]:=by kernel_rfl
theorem I4:Tryz.prog.eqGuardType Tryz.prog.depth 162=false:=by kernel_rfl
theorem xi:aB Tryz.prog 162 0=some (0,false,1):=by kernel_rfl
theorem xj:aB Tryz.prog 162 1=some (1,true,3):=by kernel_rfl
theorem I5:tyk Tryz.prog 163=some (TyK.struct [(0,(false,1)),(1,(true,3))]):=by kernel_rfl
theorem I6:shp Tryz.prog 163=some (true,4):=by kernel_rfl
theorem I7:zer Tryz.prog 163=some [(AV.str []),(AV.int .i64 0),(AV.int .i64 0),(AV.str [])]:=by kernel_rfl
theorem I8:al Tryz.prog 163=false:=by kernel_rfl
theorem I9:aW Tryz.prog 10 163=some [TyS.ss,(TyS.si .i64),(TyS.si .i64),TyS.ss]:=by kernel_rfl
theorem Ja:Tryz.prog.eqGuardType Tryz.prog.depth 163=false:=by kernel_rfl
theorem xk:aB Tryz.prog 163 0=some (0,false,1):=by kernel_rfl
theorem xl:aB Tryz.prog 163 1=some (1,true,3):=by kernel_rfl
theorem Jb:tyk Tryz.prog 164=some TyK.func:=by kernel_rfl
theorem Jc:shp Tryz.prog 164=some (false,1):=by kernel_rfl
theorem Jd:zer Tryz.prog 164=some [AV.nilFn]:=by kernel_rfl
theorem Je:al Tryz.prog 164=false:=by kernel_rfl
theorem Jf:tyk Tryz.prog 165=some (TyK.ptr 5):=by kernel_rfl
theorem Jg:shp Tryz.prog 165=some (false,1):=by kernel_rfl
theorem Jh:zer Tryz.prog 165=some [AV.nilPtr]:=by kernel_rfl
theorem Ji:al Tryz.prog 165=false:=by kernel_rfl
theorem Jj:tyk Tryz.prog 166=some TyK.func:=by kernel_rfl
theorem Jk:shp Tryz.prog 166=some (false,1):=by kernel_rfl
theorem Jl:zer Tryz.prog 166=some [AV.nilFn]:=by kernel_rfl
theorem Jm:al Tryz.prog 166=false:=by kernel_rfl
theorem Jn:tyk Tryz.prog 167=some TyK.func:=by kernel_rfl
theorem Jo:shp Tryz.prog 167=some (false,1):=by kernel_rfl
theorem Jp:zer Tryz.prog 167=some [AV.nilFn]:=by kernel_rfl
theorem Jq:al Tryz.prog 167=false:=by kernel_rfl
theorem Jr:tyk Tryz.prog 168=some TyK.other:=by kernel_rfl
theorem Js:shp Tryz.prog 168=some (false,1):=by kernel_rfl
theorem Jt:zer Tryz.prog 168=some [(AV.tuple [(AV.int .i64 0),(AV.bool false)])]:=by kernel_rfl
theorem Ju:al Tryz.prog 168=false:=by kernel_rfl
theorem Jv:tyk Tryz.prog 169=some TyK.func:=by kernel_rfl
theorem Jw:shp Tryz.prog 169=some (false,1):=by kernel_rfl
theorem Jx:zer Tryz.prog 169=some [AV.nilFn]:=by kernel_rfl
theorem Jy:al Tryz.prog 169=false:=by kernel_rfl
theorem Jz:tyk Tryz.prog 170=some TyK.func:=by kernel_rfl
theorem JA:shp Tryz.prog 170=some (false,1):=by kernel_rfl
theorem JB:zer Tryz.prog 170=some [AV.nilFn]:=by kernel_rfl
theorem JC:al Tryz.prog 170=false:=by kernel_rfl
theorem JD:tyk Tryz.prog 171=some TyK.func:=by kernel_rfl
theorem JE:shp Tryz.prog 171=some (false,1):=by kernel_rfl
theorem JF:zer Tryz.prog 171=some [AV.nilFn]:=by kernel_rfl
theorem JG:al Tryz.prog 171=false:=by kernel_rfl
theorem JH:tyk Tryz.prog 172=some TyK.func:=by kernel_rfl
theorem JI:shp Tryz.prog 172=some (false,1):=by kernel_rfl
theorem JJ:zer Tryz.prog 172=some [AV.nilFn]:=by kernel_rfl
theorem JK:al Tryz.prog 172=false:=by kernel_rfl
theorem JL:tyk Tryz.prog 173=some TyK.other:=by kernel_rfl
theorem JM:shp Tryz.prog 173=some (false,1):=by kernel_rfl
theorem JN:zer Tryz.prog 173=some [(AV.tuple [AV.undef,(AV.int .i64 0)])]:=by kernel_rfl
theorem JO:al Tryz.prog 173=false:=by kernel_rfl
theorem JP:tyk Tryz.prog 174=some TyK.func:=by kernel_rfl
theorem JQ:shp Tryz.prog 174=some (false,1):=by kernel_rfl
theorem JR:zer Tryz.prog 174=some [AV.nilFn]:=by kernel_rfl
theorem JS:al Tryz.prog 174=false:=by kernel_rfl
theorem JT:tyk Tryz.prog 175=some TyK.func:=by kernel_rfl
theorem JU:shp Tryz.prog 175=some (false,1):=by kernel_rfl
theorem JV:zer Tryz.prog 175=some [AV.nilFn]:=by kernel_rfl
theorem JW:al Tryz.prog 175=false:=by kernel_rfl
theorem JX:tyk Tryz.prog 176=some TyK.func:=by kernel_rfl
theorem JY:shp Tryz.prog 176=some (false,1):=by kernel_rfl
theorem JZ:zer Tryz.prog 176=some [AV.nilFn]:=by kernel_rfl
theorem J0:al Tryz.prog 176=false:=by kernel_rfl
theorem J1:tyk Tryz.prog 177=some TyK.func:=by kernel_rfl
theorem J2:shp Tryz.prog 177=some (false,1):=by kernel_rfl
theorem J3:zer Tryz.prog 177=some [AV.nilFn]:=by kernel_rfl
theorem J4:al Tryz.prog 177=false:=by kernel_rfl
theorem J5:tyk Tryz.prog 178=some (TyK.struct [(0,(false,1)),(1,(false,1))]):=by kernel_rfl
theorem J6:shp Tryz.prog 178=some (true,2):=by kernel_rfl
theorem J7:zer Tryz.prog 178=some [(AV.str []),(AV.bool false)]:=by kernel_rfl
theorem J8:al Tryz.prog 178=false:=by kernel_rfl
theorem J9:aW Tryz.prog 10 178=some [TyS.ss,TyS.sb]:=by kernel_rfl
theorem Ka:Tryz.prog.eqGuardType Tryz.prog.depth 178=false:=by kernel_rfl
theorem xm:aB Tryz.prog 178 0=some (0,false,1):=by kernel_rfl
theorem xn:aB Tryz.prog 178 1=some (1,false,1):=by kernel_rfl
theorem Kb:tyk Tryz.prog 179=some (TyK.struct [(0,(false,1)),(1,(false,1))]):=by kernel_rfl
theorem Kc:shp Tryz.prog 179=some (true,2):=by kernel_rfl
theorem Ke:zer Tryz.prog 179=some [(AV.str []),(AV.bool false)]:=by kernel_rfl
theorem Kf:al Tryz.prog 179=false:=by kernel_rfl
theorem Kg:aW Tryz.prog 10 179=some [TyS.ss,TyS.sb]:=by kernel_rfl
theorem Kh:Tryz.prog.eqGuardType Tryz.prog.depth 179=false:=by kernel_rfl
theorem xo:aB Tryz.prog 179 0=some (0,false,1):=by kernel_rfl
theorem xp:aB Tryz.prog 179 1=some (1,false,1):=by kernel_rfl
theorem Ki:tyk Tryz.prog 180=some TyK.func:=by kernel_rfl
theorem Kj:shp Tryz.prog 180=some (false,1):=by kernel_rfl
theorem Kk:zer Tryz.prog 180=some [AV.nilFn]:=by kernel_rfl
theorem Kl:al Tryz.prog 180=false:=by kernel_rfl
theorem Km:tyk Tryz.prog 181=some TyK.func:=by kernel_rfl
theorem Kn:shp Tryz.prog 181=some (false,1):=by kernel_rfl
theorem Ko:zer Tryz.prog 181=some [AV.nilFn]:=by kernel_rfl
theorem Kq:al Tryz.prog 181=false:=by kernel_rfl
theorem Kr:tyk Tryz.prog 182=some TyK.func:=by kernel_rfl
theorem Ks:shp Tryz.prog 182=some (false,1):=by kernel_rfl
theorem Kt:zer Tryz.prog 182=some [AV.nilFn]:=by kernel_rfl
theorem Ku:al Tryz.prog 182=false:=by kernel_rfl
theorem Kv:tyk Tryz.prog 183=some TyK.func:=by kernel_rfl
theorem Kw:shp Tryz.prog 183=some (false,1):=by kernel_rfl
theorem Kx:zer Tryz.prog 183=some [AV.nilFn]:=by kernel_rfl
theorem Ky:al Tryz.prog 183=false:=by kernel_rfl
theorem Kz:tyk Tryz.prog 184=some (TyK.slice 189 true 257 257):=by kernel_rfl
theorem KQ:shp Tryz.prog 184=some (false,1):=by kernel_rfl
theorem KU:zer Tryz.prog 184=some [AV.nilSl]:=by kernel_rfl
theorem KW:al Tryz.prog 184=false:=by kernel_rfl
theorem KX:tyk Tryz.prog 185=some TyK.func:=by kernel_rfl
theorem KY:shp Tryz.prog 185=some (false,1):=by kernel_rfl
theorem KZ:zer Tryz.prog 185=some [AV.nilFn]:=by kernel_rfl
theorem La:al Tryz.prog 185=false:=by kernel_rfl
theorem Lb:tyk Tryz.prog 186=some (TyK.arr 256 4 false 1):=by kernel_rfl
theorem Lc:shp Tryz.prog 186=some (true,256):=by kernel_rfl
theorem Ld:al Tryz.prog 186=false:=by kernel_rfl
theorem Le:tyk Tryz.prog 187=some (TyK.arr 256 4 false 1):=by kernel_rfl
theorem Lf:shp Tryz.prog 187=some (true,256):=by kernel_rfl
theorem Lg:al Tryz.prog 187=false:=by kernel_rfl
theorem Lh:tyk Tryz.prog 188=some (TyK.struct [(0,(false,1)),(1,(true,256))]):=by kernel_rfl
theorem Li:shp Tryz.prog 188=some (true,257):=by kernel_rfl
theorem Lj:al Tryz.prog 188=false:=by kernel_rfl
theorem xq:aB Tryz.prog 188 0=some (0,false,1):=by kernel_rfl
theorem xr:aB Tryz.prog 188 1=some (1,true,256):=by kernel_rfl
theorem Lk:tyk Tryz.prog 189=some (TyK.struct [(0,(false,1)),(1,(true,256))]):=by kernel_rfl
theorem Ll:shp Tryz.prog 189=some (true,257):=by kernel_rfl
theorem Lm:al Tryz.prog 189=false:=by kernel_rfl
theorem xt:aB Tryz.prog 189 0=some (0,false,1):=by kernel_rfl
theorem xu:aB Tryz.prog 189 1=some (1,true,256):=by kernel_rfl
theorem Ln:tyk Tryz.prog 190=some TyK.other:=by kernel_rfl
theorem Lo:shp Tryz.prog 190=some (false,1):=by kernel_rfl
theorem Lp:zer Tryz.prog 190=some [AV.nilPtr]:=by kernel_rfl
theorem Lq:al Tryz.prog 190=false:=by kernel_rfl
theorem Lr:tyk Tryz.prog 191=some TyK.func:=by kernel_rfl
theorem Ls:shp Tryz.prog 191=some (false,1):=by kernel_rfl
theorem Lt:zer Tryz.prog 191=some [AV.nilFn]:=by kernel_rfl
theorem Lu:al Tryz.prog 191=false:=by kernel_rfl
theorem Lv:tyk Tryz.prog 192=some TyK.func:=by kernel_rfl
theorem Lw:shp Tryz.prog 192=some (false,1):=by kernel_rfl
theorem Lx:zer Tryz.prog 192=some [AV.nilFn]:=by kernel_rfl
theorem Ly:al Tryz.prog 192=false:=by kernel_rfl
theorem Lz:tyk Tryz.prog 193=some TyK.func:=by kernel_rfl
theorem LA:shp Tryz.prog 193=some (false,1):=by kernel_rfl
theorem LB:zer Tryz.prog 193=some [AV.nilFn]:=by kernel_rfl
theorem LC:al Tryz.prog 193=false:=by kernel_rfl
theorem LD:tyk Tryz.prog 194=some (TyK.map 9 192):=by kernel_rfl
theorem LF:shp Tryz.prog 194=some (false,1):=by kernel_rfl
theorem LG:zer Tryz.prog 194=some [AV.nilMap]:=by kernel_rfl
theorem LH:al Tryz.prog 194=false:=by kernel_rfl
theorem LI:lV Tryz.prog 194=some ([TyS.ss],(false,AV.nilFn)):=by kernel_rfl
theorem LJ:eS Tryz.prog 194=some ([TyS.ss],false):=by kernel_rfl
theorem LM:tyk Tryz.prog 195=some TyK.other:=by kernel_rfl
theorem LN:shp Tryz.prog 195=some (false,1):=by kernel_rfl
theorem LO:zer Tryz.prog 195=some [(AV.tuple [(AV.str []),(AV.bool false)])]:=by kernel_rfl
theorem LP:al Tryz.prog 195=false:=by kernel_rfl
theorem LQ:tyk Tryz.prog 196=some TyK.func:=by kernel_rfl
theorem LR:shp Tryz.prog 196=some (false,1):=by kernel_rfl
theorem LS:zer Tryz.prog 196=some [AV.nilFn]:=by kernel_rfl
theorem LU:al Tryz.prog 196=false:=by kernel_rfl
theorem LV:tyk Tryz.prog 197=some TyK.func:=by kernel_rfl
theorem LW:shp Tryz.prog 197=some (false,1):=by kernel_rfl
theorem LX:zer Tryz.prog 197=some [AV.nilFn]:=by kernel_rfl
theorem LY:al Tryz.prog 197=false:=by kernel_rfl
theorem LZ:tyk Tryz.prog 198=some TyK.other:=by kernel_rfl
theorem L3:shp Tryz.prog 198=some (false,1):=by kernel_rfl
theorem L4:zer Tryz.prog 198=some [(AV.tuple [AV.nilFn,(AV.bool false)])]:=by kernel_rfl
theorem L5:al Tryz.prog 198=false:=by kernel_rfl
theorem L6:tyk Tryz.prog 199=some TyK.func:=by kernel_rfl
theorem L7:shp Tryz.prog 199=some (false,1):=by kernel_rfl
theorem L8:zer Tryz.prog 199=some [AV.nilFn]:=by kernel_rfl
theorem L9:al Tryz.prog 199=false:=by kernel_rfl
theorem Ma:tyk Tryz.prog 200=some TyK.other:=by kernel_rfl
theorem Mb:shp Tryz.prog 200=some (false,1):=by kernel_rfl
theorem Mc:zer Tryz.prog 200=some [(AV.tuple [(AV.int .i64 0),AV.nilSl,(AV.int .i64 0)])]:=by kernel_rfl
theorem Md:al Tryz.prog 200=false:=by kernel_rfl
theorem Me:tyk Tryz.prog 201=some TyK.func:=by kernel_rfl
theorem Mf:shp Tryz.prog 201=some (false,1):=by kernel_rfl
theorem Mg:zer Tryz.prog 201=some [AV.nilFn]:=by kernel_rfl
theorem Mh:al Tryz.prog 201=false:=by kernel_rfl
theorem Mi:tyk Tryz.prog 202=some TyK.func:=by kernel_rfl
theorem Mj:shp Tryz.prog 202=some (false,1):=by kernel_rfl
theorem Mk:zer Tryz.prog 202=some [AV.nilFn]:=by kernel_rfl
theorem Ml:al Tryz.prog 202=false:=by kernel_rfl
theorem Mm:tyk Tryz.prog 203=some TyK.func:=by kernel_rfl
theorem Mn:shp Tryz.prog 203=some (false,1):=by kernel_rfl
theorem Mo:zer Tryz.prog 203=some [AV.nilFn]:=by kernel_rfl
theorem Mp:al Tryz.prog 203=false:=by kernel_rfl
theorem Mq:tyk Tryz.prog 204=some TyK.func:=by kernel_rfl
theorem Mr:shp Tryz.prog 204=some (false,1):=by kernel_rfl
theorem Ms:zer Tryz.prog 204=some [AV.nilFn]:=by kernel_rfl
theorem Mt:al Tryz.prog 204=false:=by kernel_rfl
theorem Mu:tyk Tryz.prog 205=some TyK.func:=by kernel_rfl
theorem Mv:shp Tryz.prog 205=some (false,1):=by kernel_rfl
theorem Mw:zer Tryz.prog 205=some [AV.nilFn]:=by kernel_rfl
theorem Mx:al Tryz.prog 205=false:=by kernel_rfl
theorem My:tyk Tryz.prog 206=some TyK.func:=by kernel_rfl
theorem Mz:shp Tryz.prog 206=some (false,1):=by kernel_rfl
theorem MA:zer Tryz.prog 206=some [AV.nilFn]:=by kernel_rfl
theorem MB:al Tryz.prog 206=false:=by kernel_rfl
theorem MC:tyk Tryz.prog 207=some TyK.func:=by kernel_rfl
theorem MD:shp Tryz.prog 207=some (false,1):=by kernel_rfl
theorem MF:zer Tryz.prog 207=some [AV.nilFn]:=by kernel_rfl
theorem MG:al Tryz.prog 207=false:=by kernel_rfl
theorem MH:tyk Tryz.prog 208=some TyK.func:=by kernel_rfl
theorem MI:shp Tryz.prog 208=some (false,1):=by kernel_rfl
theorem MJ:zer Tryz.prog 208=some [AV.nilFn]:=by kernel_rfl
theorem MK:al Tryz.prog 208=false:=by kernel_rfl
theorem ML:tyk Tryz.prog 209=some TyK.func:=by kernel_rfl
theorem MM:shp Tryz.prog 209=some (false,1):=by kernel_rfl
theorem MN:zer Tryz.prog 209=some [AV.nilFn]:=by kernel_rfl
theorem MO:al Tryz.prog 209=false:=by kernel_rfl
theorem MQ:tyk Tryz.prog 210=some TyK.func:=by kernel_rfl
theorem MR:shp Tryz.prog 210=some (false,1):=by kernel_rfl
theorem MS:zer Tryz.prog 210=some [AV.nilFn]:=by kernel_rfl
theorem MT:al Tryz.prog 210=false:=by kernel_rfl
theorem MU:tyk Tryz.prog 211=some TyK.func:=by kernel_rfl
theorem MV:shp Tryz.prog 211=some (false,1):=by kernel_rfl
theorem MW:zer Tryz.prog 211=some [AV.nilFn]:=by kernel_rfl
theorem MX:al Tryz.prog 211=false:=by kernel_rfl
theorem MY:tyk Tryz.prog 212=some (TyK.struct [(0,(false,1)),(1,(false,1)),(2,(false,1))]):=by kernel_rfl
theorem MZ:shp Tryz.prog 212=some (true,3):=by kernel_rfl
theorem M0:zer Tryz.prog 212=some [(AV.str []),(AV.bool false),(AV.str [])]:=by kernel_rfl
theorem M3:al Tryz.prog 212=false:=by kernel_rfl
theorem M4:aW Tryz.prog 10 212=some [TyS.ss,TyS.sb,TyS.ss]:=by kernel_rfl
theorem M5:Tryz.prog.eqGuardType Tryz.prog.depth 212=false:=by kernel_rfl
theorem xv:aB Tryz.prog 212 0=some (0,false,1):=by kernel_rfl
theorem xw:aB Tryz.prog 212 1=some (1,false,1):=by kernel_rfl
theorem xx:aB Tryz.prog 212 2=some (2,false,1):=by kernel_rfl
theorem M6:tyk Tryz.prog 213=some (TyK.struct [(0,(false,1)),(1,(false,1)),(2,(false,1))]):=by kernel_rfl
theorem M7:shp Tryz.prog 213=some (true,3):=by kernel_rfl
theorem M8:zer Tryz.prog 213=some [(AV.str []),(AV.bool false),(AV.str [])]:=by kernel_rfl
theorem M9:al Tryz.prog 213=false:=by kernel_rfl
theorem Na:aW Tryz.prog 10 213=some [TyS.ss,TyS.sb,TyS.ss]:=by kernel_rfl
theorem Nb:Tryz.prog.eqGuardType Tryz.prog.depth 213=false:=by kernel_rfl
theorem xy:aB Tryz.prog 213 0=some (0,false,1):=by kernel_rfl
theorem xz:aB Tryz.prog 213 1=some (1,false,1):=by kernel_rfl
theorem xA:aB Tryz.prog 213 2=some (2,false,1):=by kernel_rfl
theorem Nc:tyk Tryz.prog 214=some TyK.func:=by kernel_rfl
theorem Nd:shp Tryz.prog 214=some (false,1):=by kernel_rfl
theorem Nf:zer Tryz.prog 214=some [AV.nilFn]:=by kernel_rfl
theorem Ng:al Tryz.prog 214=false:=by kernel_rfl
theorem Nh:tyk Tryz.prog 215=some TyK.func:=by kernel_rfl
theorem Ni:shp Tryz.prog 215=some (false,1):=by kernel_rfl
theorem Nj:zer Tryz.prog 215=some [AV.nilFn]:=by kernel_rfl
theorem Nk:al Tryz.prog 215=false:=by kernel_rfl
theorem Nl:tyk Tryz.prog 216=some TyK.func:=by kernel_rfl
theorem Nn:shp Tryz.prog 216=some (false,1):=by kernel_rfl
theorem Np:zer Tryz.prog 216=some [AV.nilFn]:=by kernel_rfl
theorem Nq:al Tryz.prog 216=false:=by kernel_rfl
theorem Nr:tyk Tryz.prog 217=some TyK.other:=by kernel_rfl
theorem Ns:shp Tryz.prog 217=some (false,1):=by kernel_rfl
theorem Nt:zer Tryz.prog 217=some [(AV.tuple [AV.undef,(AV.str []),(AV.bool false)])]:=by kernel_rfl
theorem Nu:al Tryz.prog 217=false:=by kernel_rfl
theorem Nv:tyk Tryz.prog 218=some TyK.func:=by kernel_rfl
theorem Nw:shp Tryz.prog 218=some (false,1):=by kernel_rfl
theorem Nx:zer Tryz.prog 218=some [AV.nilFn]:=by kernel_rfl
theorem Ny:al Tryz.prog 218=false:=by kernel_rfl
theorem Nz:tyk Tryz.prog 219=some TyK.func:=by kernel_rfl
theorem NA:shp Tryz.prog 219=some (false,1):=by kernel_rfl
theorem NB:zer Tryz.prog 219=some [AV.nilFn]:=by kernel_rfl
theorem NC:al Tryz.prog 219=false:=by kernel_rfl
theorem ND:tyk Tryz.prog 220=some TyK.func:=by kernel_rfl
theorem NF:shp Tryz.prog 220=some (false,1):=by kernel_rfl
theorem NG:zer Tryz.prog 220=some [AV.nilFn]:=by kernel_rfl
theorem NH:al Tryz.prog 220=false:=by kernel_rfl
theorem NI:tyk Tryz.prog 221=some TyK.other:=by kernel_rfl
theorem NJ:shp Tryz.prog 221=some (false,1):=by kernel_rfl
theorem NK:zer Tryz.prog 221=some [(AV.tuple [AV.nilSl,(AV.int .i64 0)])]:=by kernel_rfl
theorem NL:al Tryz.prog 221=false:=by kernel_rfl
theorem NM:tyk Tryz.prog 222=some TyK.func:=by kernel_rfl
theorem NN:shp Tryz.prog 222=some (false,1):=by kernel_rfl
theorem NO:zer Tryz.prog 222=some [AV.nilFn]:=by kernel_rfl
theorem NP:al Tryz.prog 222=false:=by kernel_rfl
theorem NQ:tyk Tryz.prog 223=some TyK.func:=by kernel_rfl
theorem NR:shp Tryz.prog 223=some (false,1):=by kernel_rfl
theorem NS:zer Tryz.prog 223=some [AV.nilFn]:=by kernel_rfl
theorem NU:al Tryz.prog 223=false:=by kernel_rfl
theorem NV:tyk Tryz.prog 224=some TyK.func:=by kernel_rfl
theorem NW:shp Tryz.prog 224=some (false,1):=by kernel_rfl
theorem NX:zer Tryz.prog 224=some [AV.nilFn]:=by kernel_rfl
theorem NY:al Tryz.prog 224=false:=by kernel_rfl
theorem NZ:tyk Tryz.prog 225=some (TyK.arr 256 4 false 1):=by kernel_rfl
theorem N0:shp Tryz.prog 225=some (true,256):=by kernel_rfl
theorem N1:al Tryz.prog 225=false:=by kernel_rfl
theorem N2:tyk Tryz.prog 226=some TyK.other:=by kernel_rfl
theorem N3:shp Tryz.prog 226=some (false,1):=by kernel_rfl
theorem N4:zer Tryz.prog 226=some [(AV.tuple [AV.undef,(AV.bool false)])]:=by kernel_rfl
theorem N5:al Tryz.prog 226=false:=by kernel_rfl
theorem N6:tyk Tryz.prog 227=some TyK.func:=by kernel_rfl
theorem N7:shp Tryz.prog 227=some (false,1):=by kernel_rfl
theorem N8:zer Tryz.prog 227=some [AV.nilFn]:=by kernel_rfl
theorem N9:al Tryz.prog 227=false:=by kernel_rfl
theorem Oa:tyk Tryz.prog 228=some TyK.func:=by kernel_rfl
theorem Ob:shp Tryz.prog 228=some (false,1):=by kernel_rfl
theorem Oc:zer Tryz.prog 228=some [AV.nilFn]:=by kernel_rfl
theorem Od:al Tryz.prog 228=false:=by kernel_rfl
theorem Oe:tyk Tryz.prog 229=some (TyK.ptr 225):=by kernel_rfl
theorem Of:shp Tryz.prog 229=some (false,1):=by kernel_rfl
theorem Og:zer Tryz.prog 229=some [AV.nilPtr]:=by kernel_rfl
theorem Oh:al Tryz.prog 229=false:=by kernel_rfl
theorem Oi:tyk Tryz.prog 230=some (TyK.ptr 232):=by kernel_rfl
theorem Oj:shp Tryz.prog 230=some (false,1):=by kernel_rfl
theorem Ol:zer Tryz.prog 230=some [AV.nilPtr]:=by kernel_rfl
theorem Om:al Tryz.prog 230=false:=by kernel_rfl
theorem Oo:tyk Tryz.prog 231=some (TyK.struct [(0,(false,1))]):=by kernel_rfl
theorem Oq:shp Tryz.prog 231=some (true,1):=by kernel_rfl
theorem Ot:zer Tryz.prog 231=some [(AV.str [])]:=by kernel_rfl
theorem Ou:al Tryz.prog 231=false:=by kernel_rfl
theorem Ov:aW Tryz.prog 10 231=some [TyS.ss]:=by kernel_rfl
theorem Ow:Tryz.prog.eqGuardType Tryz.prog.depth 231=false:=by kernel_rfl
theorem xB:aB Tryz.prog 231 0=some (0,false,1):=by kernel_rfl
theorem Ox:tyk Tryz.prog 232=some (TyK.struct [(0,(false,1))]):=by kernel_rfl
theorem Oy:shp Tryz.prog 232=some (true,1):=by kernel_rfl
theorem Oz:zer Tryz.prog 232=some [(AV.str [])]:=by kernel_rfl
theorem OA:al Tryz.prog 232=false:=by kernel_rfl
theorem OB:aW Tryz.prog 10 232=some [TyS.ss]:=by kernel_rfl
theorem OC:Tryz.prog.eqGuardType Tryz.prog.depth 232=false:=by kernel_rfl
theorem xC:aB Tryz.prog 232 0=some (0,false,1):=by kernel_rfl
theorem OD:tyk Tryz.prog 233=some (TyK.ptr 258):=by kernel_rfl
theorem OE:shp Tryz.prog 233=some (false,1):=by kernel_rfl
theorem OF:zer Tryz.prog 233=some [AV.nilPtr]:=by kernel_rfl
theorem OG:al Tryz.prog 233=false:=by kernel_rfl
theorem OH:tyk Tryz.prog 234=some TyK.func:=by kernel_rfl
theorem OI:shp Tryz.prog 234=some (false,1):=by kernel_rfl
theorem OJ:zer Tryz.prog 234=some [AV.nilFn]:=by kernel_rfl
theorem OK:al Tryz.prog 234=false:=by kernel_rfl
theorem OL:tyk Tryz.prog 235=some (TyK.ptr 237):=by kernel_rfl
theorem OM:shp Tryz.prog 235=some (false,1):=by kernel_rfl
theorem ON:zer Tryz.prog 235=some [AV.nilPtr]:=by kernel_rfl
theorem OP:al Tryz.prog 235=false:=by kernel_rfl
theorem OQ:tyk Tryz.prog 236=some (TyK.struct [(0,(false,1))]):=by kernel_rfl
theorem OR:shp Tryz.prog 236=some (true,1):=by kernel_rfl
theorem OS:zer Tryz.prog 236=some [AV.nilSl]:=by kernel_rfl
theorem OT:al Tryz.prog 236=false:=by kernel_rfl
theorem xD:aB Tryz.prog 236 0=some (0,false,1):=by kernel_rfl
theorem OU:tyk Tryz.prog 237=some (TyK.struct [(0,(false,1))]):=by kernel_rfl
theorem OV:shp Tryz.prog 237=some (true,1):=by kernel_rfl
theorem OW:zer Tryz.prog 237=some [AV.nilSl]:=by kernel_rfl
theorem OX:al Tryz.prog 237=false:=by kernel_rfl
theorem xE:aB Tryz.prog 237 0=some (0,false,1):=by kernel_rfl
theorem OY:tyk Tryz.prog 238=some TyK.func:=by kernel_rfl
theorem OZ:shp Tryz.prog 238=some (false,1):=by kernel_rfl
theorem O0:zer Tryz.prog 238=some [AV.nilFn]:=by kernel_rfl
theorem O2:al Tryz.prog 238=false:=by kernel_rfl
theorem O3:tyk Tryz.prog 239=some (TyK.int .u64):=by kernel_rfl
theorem O4:shp Tryz.prog 239=some (false,1):=by kernel_rfl
theorem O5:zer Tryz.prog 239=some [(AV.int .u64 0)]:=by kernel_rfl
theorem O6:al Tryz.prog 239=false:=by kernel_rfl
theorem O7:aW Tryz.prog 10 239=some [(TyS.si .u64)]:=by kernel_rfl
theorem O8:Tryz.prog.eqGuardType Tryz.prog.depth 239=false:=by kernel_rfl
theorem O9:tyk Tryz.prog 240=some TyK.func:=by kernel_rfl
theorem Pa:shp Tryz.prog 240=some (false,1):=by kernel_rfl
theorem Pb:zer Tryz.prog 240=some [AV.nilFn]:=by kernel_rfl
theorem Pd:al Tryz.prog 240=false:=by kernel_rfl
theorem Pe:tyk Tryz.prog 241=some TyK.other:=by kernel_rfl
theorem Pf:shp Tryz.prog 241=some (false,1):=by kernel_rfl
theorem Pg:zer Tryz.prog 241=some [(AV.tuple [(AV.int .i32 0),(AV.int .i64 0)])]:=by kernel_rfl
theorem Ph:al Tryz.prog 241=false:=by kernel_rfl
theorem Pj:tyk Tryz.prog 242=some TyK.func:=by kernel_rfl
theorem Pk:shp Tryz.prog 242=some (false,1):=by kernel_rfl
theorem Pl:zer Tryz.prog 242=some [AV.nilFn]:=by kernel_rfl
theorem Pm:al Tryz.prog 242=false:=by kernel_rfl
theorem Pn:tyk Tryz.prog 243=some TyK.func:=by kernel_rfl
theorem Po:shp Tryz.prog 243=some (false,1):=by kernel_rfl
theorem Pp:zer Tryz.prog 243=some [AV.nilFn]:=by kernel_rfl
theorem Pq:al Tryz.prog 243=false:=by kernel_rfl
theorem Pr:tyk Tryz.prog 244=some TyK.func:=by kernel_rfl
theorem Pu:shp Tryz.prog 244=some (false,1):=by kernel_rfl
theorem Pv:zer Tryz.prog 244=some [AV.nilFn]:=by kernel_rfl
theorem Pw:al Tryz.prog 244=false:=by kernel_rfl
theorem Px:tyk Tryz.prog 245=some (TyK.ptr 187):=by kernel_rfl
theorem Py:shp Tryz.prog 245=some (false,1):=by kernel_rfl
theorem Pz:zer Tryz.prog 245=some [AV.nilPtr]:=by kernel_rfl
theorem PA:al Tryz.prog 245=false:=by kernel_rfl
theorem PB:tyk Tryz.prog 246=some TyK.func:=by kernel_rfl
theorem PC:shp Tryz.prog 246=some (false,1):=by kernel_rfl
theorem PD:zer Tryz.prog 246=some [AV.nilFn]:=by kernel_rfl
theorem PE:al Tryz.prog 246=false:=by kernel_rfl
theorem PF:tyk Tryz.prog 247=some TyK.func:=by kernel_rfl
theorem PH:shp Tryz.prog 247=some (false,1):=by kernel_rfl
theorem PI:zer Tryz.prog 247=some [AV.nilFn]:=by kernel_rfl
theorem PJ:al Tryz.prog 247=false:=by kernel_rfl
theorem PK:tyk Tryz.prog 248=some (TyK.ptr 39):=by kernel_rfl
theorem PM:shp Tryz.prog 248=some (false,1):=by kernel_rfl
theorem PN:zer Tryz.prog 248=some [AV.nilPtr]:=by kernel_rfl
theorem PO:al Tryz.prog 248=false:=by kernel_rfl
theorem PQ:tyk Tryz.prog 249=some TyK.func:=by kernel_rfl
theorem PS:shp Tryz.prog 249=some (false,1):=by kernel_rfl
theorem PT:zer Tryz.prog 249=some [AV.nilFn]:=by kernel_rfl
theorem PU:al Tryz.prog 249=false:=by kernel_rfl
theorem PW:tyk Tryz.prog 250=some TyK.func:=by kernel_rfl
theorem PX:shp Tryz.prog 250=some (false,1):=by kernel_rfl
theorem PY:zer Tryz.prog 250=some [AV.nilFn]:=by kernel_rfl
theorem PZ:al Tryz.prog 250=false:=by kernel_rfl
theorem P0:tyk Tryz.prog 251=some TyK.func:=by kernel_rfl
theorem P1:shp Tryz.prog 251=some (false,1):=by kernel_rfl
theorem P2:zer Tryz.prog 251=some [AV.nilFn]:=by kernel_rfl
theorem P3:al Tryz.prog 251=false:=by kernel_rfl
theorem P4:tyk Tryz.prog 252=some TyK.func:=by kernel_rfl
theorem P5:shp Tryz.prog 252=some (false,1):=by kernel_rfl
theorem P6:zer Tryz.prog 252=some [AV.nilFn]:=by kernel_rfl
theorem P7:al Tryz.prog 252=false:=by kernel_rfl
theorem P8:tyk Tryz.prog 253=some TyK.func:=by kernel_rfl
theorem P9:shp Tryz.prog 253=some (false,1):=by kernel_rfl
theorem Qa:zer Tryz.prog 253=some [AV.nilFn]:=by kernel_rfl
theorem Qb:al Tryz.prog 253=false:=by kernel_rfl
theorem Qc:tyk Tryz.prog 254=some TyK.other:=by kernel_rfl
theorem Qd:shp Tryz.prog 254=some (false,1):=by kernel_rfl
theorem Qe:zer Tryz.prog 254=some [(AV.tuple [(AV.str []),(AV.str []),(AV.bool false)])]:=by kernel_rfl
theorem Qf:al Tryz.prog 254=false:=by kernel_rfl
theorem Qg:tyk Tryz.prog 255=some TyK.func:=by kernel_rfl
theorem Qh:shp Tryz.prog 255=some (false,1):=by kernel_rfl
theorem Qi:zer Tryz.prog 255=some [AV.nilFn]:=by kernel_rfl
theorem Qj:al Tryz.prog 255=false:=by kernel_rfl
theorem Qk:tyk Tryz.prog 256=some (TyK.slice 233 false 1 8):=by kernel_rfl
theorem Ql:shp Tryz.prog 256=some (false,1):=by kernel_rfl
theorem Qm:zer Tryz.prog 256=some [AV.nilSl]:=by kernel_rfl
theorem Qn:al Tryz.prog 256=false:=by kernel_rfl
theorem Qo:tyk Tryz.prog 257=some (TyK.struct [(0,(false,1)),(1,(false,1)),(2,(false,1)),(3,(false,1)),(4,(false,1))]):=by kernel_rfl
theorem Qp:shp Tryz.prog 257=some (true,5):=by kernel_rfl
theorem Qq:zer Tryz.prog 257=some [(AV.int .i64 0),(AV.int .i64 0),(AV.str []),(AV.str []),AV.nilSl]:=by kernel_rfl
theorem Qr:al Tryz.prog 257=false:=by kernel_rfl
theorem xF:aB Tryz.prog 257 0=some (0,false,1):=by kernel_rfl
theorem xG:aB Tryz.prog 257 1=some (1,false,1):=by kernel_rfl
theorem xH:aB Tryz.prog 257 2=some (2,false,1):=by kernel_rfl
theorem xI:aB Tryz.prog 257 3=some (3,false,1):=by kernel_rfl
theorem xJ:aB Tryz.prog 257 4=some (4,false,1):=by kernel_rfl
theorem Qs:tyk Tryz.prog 258=some (TyK.struct [(0,(false,1)),(1,(false,1)),(2,(false,1)),(3,(false,1)),(4,(false,1))]):=by kernel_rfl
theorem Qt:shp Tryz.prog 258=some (true,5):=by kernel_rfl
theorem Qu:zer Tryz.prog 258=some [(AV.int .i64 0),(AV.int .i64 0),(AV.str []),(AV.str []),AV.nilSl]:=by kernel_rfl
theorem Qv:al Tryz.prog 258=false:=by kernel_rfl
theorem xK:aB Tryz.prog 258 0=some (0,false,1):=by kernel_rfl
theorem xL:aB Tryz.prog 258 1=some (1,false,1):=by kernel_rfl
theorem xM:aB Tryz.prog 258 2=some (2,false,1):=by kernel_rfl
theorem xN:aB Tryz.prog 258 3=some (3,false,1):=by kernel_rfl
theorem xO:aB Tryz.prog 258 4=some (4,false,1):=by kernel_rfl
theorem Qw:tyk Tryz.prog 259=some TyK.func:=by kernel_rfl
theorem Qx:shp Tryz.prog 259=some (false,1):=by kernel_rfl
theorem Qy:zer Tryz.prog 259=some [AV.nilFn]:=by kernel_rfl
theorem Qz:al Tryz.prog 259=false:=by kernel_rfl
theorem QA:tyk Tryz.prog 260=some TyK.func:=by kernel_rfl
theorem QB:shp Tryz.prog 260=some (false,1):=by kernel_rfl
theorem QC:zer Tryz.prog 260=some [AV.nilFn]:=by kernel_rfl
theorem QD:al Tryz.prog 260=false:=by kernel_rfl
theorem QE:tyk Tryz.prog 261=some TyK.func:=by kernel_rfl
theorem QF:shp Tryz.prog 261=some (false,1):=by kernel_rfl
theorem QH:zer Tryz.prog 261=some [AV.nilFn]:=by kernel_rfl
theorem QI:al Tryz.prog 261=false:=by kernel_rfl
theorem QJ:tyk Tryz.prog 262=some TyK.func:=by kernel_rfl
theorem QK:shp Tryz.prog 262=some (false,1):=by kernel_rfl
theorem QL:zer Tryz.prog 262=some [AV.nilFn]:=by kernel_rfl
theorem QM:al Tryz.prog 262=false:=by kernel_rfl
theorem QN:tyk Tryz.prog 263=some TyK.func:=by kernel_rfl
theorem QO:shp Tryz.prog 263=some (false,1):=by kernel_rfl
theorem QP:zer Tryz.prog 263=some [AV.nilFn]:=by kernel_rfl
theorem QQ:al Tryz.prog 263=false:=by kernel_rfl
theorem QR:tyk Tryz.prog 264=some TyK.func:=by kernel_rfl
theorem QS:shp Tryz.prog 264=some (false,1):=by kernel_rfl
theorem QT:zer Tryz.prog 264=some [AV.nilFn]:=by kernel_rfl
theorem QU:al Tryz.prog 264=false:=by kernel_rfl
theorem QV:tyk Tryz.prog 265=some TyK.func:=by kernel_rfl
theorem QW:shp Tryz.prog 265=some (false,1):=by kernel_rfl
theorem QX:zer Tryz.prog 265=some [AV.nilFn]:=by kernel_rfl
theorem QY:al Tryz.prog 265=false:=by kernel_rfl
theorem QZ:tyk Tryz.prog 266=some TyK.func:=by kernel_rfl
theorem Q0:shp Tryz.prog 266=some (false,1):=by kernel_rfl
theorem Q1:zer Tryz.prog 266=some [AV.nilFn]:=by kernel_rfl
theorem Q2:al Tryz.prog 266=false:=by kernel_rfl
theorem Q3:tyk Tryz.prog 267=some TyK.func:=by kernel_rfl
theorem Q4:shp Tryz.prog 267=some (false,1):=by kernel_rfl
theorem Q5:zer Tryz.prog 267=some [AV.nilFn]:=by kernel_rfl
theorem Q6:al Tryz.prog 267=false:=by kernel_rfl
theorem Q7:tyk Tryz.prog 268=some (TyK.int .i64):=by kernel_rfl
theorem Q8:shp Tryz.prog 268=some (false,1):=by kernel_rfl
theorem Q9:zer Tryz.prog 268=some [(AV.int .i64 0)]:=by kernel_rfl
theorem Ra:al Tryz.prog 268=false:=by kernel_rfl
theorem Rb:aW Tryz.prog 10 268=some [(TyS.si .i64)]:=by kernel_rfl
theorem Rc:Tryz.prog.eqGuardType Tryz.prog.depth 268=false:=by kernel_rfl
theorem Re:tyk Tryz.prog 269=some TyK.other:=by kernel_rfl
theorem Rf:shp Tryz.prog 269=some (false,1):=by kernel_rfl
theorem Rg:zer Tryz.prog 269=some [(AV.tuple [(AV.int .i64 0),AV.nilIface])]:=by kernel_rfl
theorem Rh:al Tryz.prog 269=false:=by kernel_rfl
theorem Ri:tyk Tryz.prog 270=some TyK.func:=by kernel_rfl
theorem Rj:shp Tryz.prog 270=some (false,1):=by kernel_rfl
theorem Rk:zer Tryz.prog 270=some [AV.nilFn]:=by kernel_rfl
theorem Rl:al Tryz.prog 270=false:=by kernel_rfl
theorem Rm:tyk Tryz.prog 271=some (TyK.ptr 304):=by kernel_rfl
theorem Rn:shp Tryz.prog 271=some (false,1):=by kernel_rfl
theorem Ro:zer Tryz.prog 271=some [AV.nilPtr]:=by kernel_rfl
theorem Rq:al Tryz.prog 271=false:=by kernel_rfl
theorem Rr:tyk Tryz.prog 272=some TyK.func:=by kernel_rfl
theorem Rt:shp Tryz.prog 272=some (false,1):=by kernel_rfl
theorem Ru:zer Tryz.prog 272=some [AV.nilFn]:=by kernel_rfl
theorem Rv:al Tryz.prog 272=false:=by kernel_rfl
theorem Rw:tyk Tryz.prog 273=some TyK.func:=by kernel_rfl
theorem Rx:shp Tryz.prog 273=some (false,1):=by kernel_rfl
theorem Ry:zer Tryz.prog 273=some [AV.nilFn]:=by kernel_rfl
theorem Rz:al Tryz.prog 273=false:=by kernel_rfl
theorem RA:tyk Tryz.prog 274=some TyK.func:=by kernel_rfl
theorem RB:shp Tryz.prog 274=some (false,1):=by kernel_rfl
theorem RC:zer Tryz.prog 274=some [AV.nilFn]:=by kernel_rfl
theorem RE:al Tryz.prog 274=false:=by kernel_rfl
theorem RF:tyk Tryz.prog 275=some TyK.func:=by kernel_rfl
theorem RG:shp Tryz.prog 275=some (false,1):=by kernel_rfl
theorem RH:zer Tryz.prog 275=some [AV.nilFn]:=by kernel_rfl
theorem RI:al Tryz.prog 275=false:=by kernel_rfl
theorem RJ:tyk Tryz.prog 276=some TyK.func:=by kernel_rfl
theorem RM:shp Tryz.prog 276=some (false,1):=by kernel_rfl
theorem RN:zer Tryz.prog 276=some [AV.nilFn]:=by kernel_rfl
theorem RO:al Tryz.prog 276=false:=by kernel_rfl
theorem RQ:tyk Tryz.prog 277=some TyK.func:=by kernel_rfl
theorem RS:shp Tryz.prog 277=some (false,1):=by kernel_rfl
theorem RT:zer Tryz.prog 277=some [AV.nilFn]:=by kernel_rfl
theorem RU:al Tryz.prog 277=false:=by kernel_rfl
theorem RV:tyk Tryz.prog 278=some (TyK.arr 24 5 false 1):=by kernel_rfl
theorem RW:shp Tryz.prog 278=some (true,24):=by kernel_rfl
theorem RX:zer Tryz.prog 278=some [(AV.int .u8 0),(AV.int .u8 0),(AV.int .u8 0),(AV.int .u8 0),(AV.int .u8 0),(AV.int .u8 0),(AV.int .u8 0),(AV.int .u8 0),(AV.int .u8 0),(AV.int .u8 0),(AV.int .u8 0),(AV.int .u8 0),(AV.int .u8 0),(AV.int .u8 0),(AV.int .u8 0),(AV.int .u8 0),(AV.int .u8 0),(AV.int .u8 0),(AV.int .u8 0),(AV.int .u8 0),(AV.int .u8 0),(AV.int .u8 0),(AV.int .u8 0),(AV.int .u8 0)]:=by kernel_rfl
theorem RY:al Tryz.prog 278=false:=by kernel_rfl
theorem RZ:tyk Tryz.prog 279=some (TyK.int .u64):=by kernel_rfl
theorem R0:shp Tryz.prog 279=some (false,1):=by kernel_rfl
theorem R1:zer Tryz.prog 279=some [(AV.int .u64 0)]:=by kernel_rfl
theorem R2:al Tryz.prog 279=false:=by kernel_rfl
theorem R3:aW Tryz.prog 10 279=some [(TyS.si .u64)]:=by kernel_rfl
theorem R4:Tryz.prog.eqGuardType Tryz.prog.depth 279=false:=by kernel_rfl
theorem R5:tyk Tryz.prog 280=some TyK.func:=by kernel_rfl
theorem R6:shp Tryz.prog 280=some (false,1):=by kernel_rfl
theorem R7:zer Tryz.prog 280=some [AV.nilFn]:=by kernel_rfl
theorem R8:al Tryz.prog 280=false:=by kernel_rfl
theorem R9:tyk Tryz.prog 281=some TyK.func:=by kernel_rfl
theorem Sa:shp Tryz.prog 281=some (false,1):=by kernel_rfl
theorem Sb:zer Tryz.prog 281=some [AV.nilFn]:=by kernel_rfl
theorem Sc:al Tryz.prog 281=false:=by kernel_rfl
theorem Se:tyk Tryz.prog 282=some TyK.other:=by kernel_rfl
theorem Sf:shp Tryz.prog 282=some (false,1):=by kernel_rfl
theorem Sg:zer Tryz.prog 282=some [(AV.tuple [AV.nilSl,(AV.str [])])]:=by kernel_rfl
theorem Sh:al Tryz.prog 282=false:=by kernel_rfl
theorem Si:tyk Tryz.prog 283=some TyK.func:=by kernel_rfl
theorem Sj:shp Tryz.prog 283=some (false,1):=by kernel_rfl
theorem Sk:zer Tryz.prog 283=some [AV.nilFn]:=by kernel_rfl
theorem Sl:al Tryz.prog 283=false:=by kernel_rfl
theorem Sm:tyk Tryz.prog 284=some TyK.func:=by kernel_rfl
theorem Sn:shp Tryz.prog 284=some (false,1):=by kernel_rfl
theorem Sp:zer Tryz.prog 284=some [AV.nilFn]:=by kernel_rfl
theorem Sr:al Tryz.prog 284=false:=by kernel_rfl
theorem Ss:tyk Tryz.prog 285=some TyK.func:=by kernel_rfl
theorem Su:shp Tryz.prog 285=some (false,1):=by kernel_rfl
theorem Sv:zer Tryz.prog 285=some [AV.nilFn]:=by kernel_rfl
theorem Sw:al Tryz.prog 285=false:=by kernel_rfl
theorem Sx:tyk Tryz.prog 286=some (TyK.arr 256 5 false 1):=by kernel_rfl
theorem Sy:shp Tryz.prog 286=some (true,256):=by kernel_rfl
theorem Sz:al Tryz.prog 286=false:=by kernel_rfl
theorem SA:tyk Tryz.prog 287=some (TyK.struct [(0,(false,1)),(1,(false,1))]):=by kernel_rfl
theorem SB:shp Tryz.prog 287=some (true,2):=by kernel_rfl
theorem SC:zer Tryz.prog 287=some [(AV.int .u8 0),(AV.int .u8 0)]:=by kernel_rfl
theorem SD:al Tryz.prog 287=false:=by kernel_rfl
theorem SE:aW Tryz.prog 10 287=some [(TyS.si .u8),(TyS.si .u8)]:=by kernel_rfl
theorem SF:Tryz.prog.eqGuardType Tryz.prog.depth 287=false:=by kernel_rfl
theorem xP:aB Tryz.prog 287 0=some (0,false,1):=by kernel_rfl
theorem xQ:aB Tryz.prog 287 1=some (1,false,1):=by kernel_rfl
theorem SH:tyk Tryz.prog 288=some (TyK.struct [(0,(false,1)),(1,(false,1))]):=by kernel_rfl
theorem SI:shp Tryz.prog 288=some (true,2):=by kernel_rfl
theorem SJ:zer Tryz.prog 288=some [(AV.int .u8 0),(AV.int .u8 0)]:=by kernel_rfl
theorem SK:al Tryz.prog 288=false:=by kernel_rfl
theorem SL:aW Tryz.prog 10 288=some [(TyS.si .u8),(TyS.si .u8)]:=by kernel_rfl
theorem SM:Tryz.prog.eqGuardType Tryz.prog.depth 288=false:=by kernel_rfl
theorem xR:aB Tryz.prog 288 0=some (0,false,1):=by kernel_rfl
theorem xS:aB Tryz.prog 288 1=some (1,false,1):=by kernel_rfl
theorem SN:tyk Tryz.prog 289=some (TyK.arr 16 288 true 2):=by kernel_rfl
theorem SO:shp Tryz.prog 289=some (true,32):=by kernel_rfl
theorem SP:zer Tryz.prog 289=some [(AV.int .u8 0),(AV.int .u8 0),(AV.int .u8 0),(AV.int .u8 0),(AV.int .u8 0),(AV.int .u8 0),(AV.int .u8 0),(AV.int .u8 0),(AV.int .u8 0),(AV.int .u8 0),(AV.int .u8 0),(AV.int .u8 0),(AV.int .u8 0),(AV.int .u8 0),(AV.int .u8 0),(AV.int .u8 0),(AV.int .u8 0),(AV.int .u8 0),(AV.int .u8 0),(AV.int .u8 0),(AV.int .u8 0),(AV.int .u8 0),(AV.int .u8 0),(AV.int .u8 0),(AV.int .u8 0),(AV.int .u8 0),(AV.int .u8 0),(AV.int .u8 0),(AV.int .u8 0),(AV.int .u8 0),(AV.int .u8 0),(AV.int .u8 0)]:=by kernel_rfl
theorem SQ:al Tryz.prog 289=false:=by kernel_rfl
theorem SR:tyk Tryz.prog 290=some TyK.func:=by kernel_rfl
theorem SS:shp Tryz.prog 290=some (false,1):=by kernel_rfl
theorem SU:zer Tryz.prog 290=some [AV.nilFn]:=by kernel_rfl
theorem SV:al Tryz.prog 290=false:=by kernel_rfl
theorem SX:tyk Tryz.prog 291=some (TyK.int .i64):=by kernel_rfl
theorem SY:shp Tryz.prog 291=some (false,1):=by kernel_rfl
theorem SZ:zer Tryz.prog 291=some [(AV.int .i64 0)]:=by kernel_rfl
theorem Ta:al Tryz.prog 291=false:=by kernel_rfl
theorem Tb:aW Tryz.prog 10 291=some [(TyS.si .i64)]:=by kernel_rfl
theorem Tc:Tryz.prog.eqGuardType Tryz.prog.depth 291=false:=by kernel_rfl
theorem Td:tyk Tryz.prog 292=some TyK.other:=by kernel_rfl
theorem Te:shp Tryz.prog 292=some (false,1):=by kernel_rfl
theorem Tf:zer Tryz.prog 292=some [(AV.tuple [(AV.int .i64 0),(AV.int .i64 0)])]:=by kernel_rfl
theorem Tg:al Tryz.prog 292=false:=by kernel_rfl
theorem Th:tyk Tryz.prog 293=some TyK.func:=by kernel_rfl
theorem Ti:shp Tryz.prog 293=some (false,1):=by kernel_rfl
theorem Tj:zer Tryz.prog 293=some [AV.nilFn]:=by kernel_rfl
theorem Tk:al Tryz.prog 293=false:=by kernel_rfl
theorem Tl:tyk Tryz.prog 294=some TyK.func:=by kernel_rfl
theorem Tm:shp Tryz.prog 294=some (false,1):=by kernel_rfl
theorem Tn:zer Tryz.prog 294=some [AV.nilFn]:=by kernel_rfl
theorem To:al Tryz.prog 294=false:=by kernel_rfl
theorem Tp:tyk Tryz.prog 295=some TyK.func:=by kernel_rfl
theorem Tq:shp Tryz.prog 295=some (false,1):=by kernel_rfl
theorem Ts:zer Tryz.prog 295=some [AV.nilFn]:=by kernel_rfl
theorem Tt:al Tryz.prog 295=false:=by kernel_rfl
theorem Tu:tyk Tryz.prog 296=some TyK.func:=by kernel_rfl
theorem Tv:shp Tryz.prog 296=some (false,1):=by kernel_rfl
theorem Tw:zer Tryz.prog 296=some [AV.nilFn]:=by kernel_rfl
theorem Tx:al Tryz.prog 296=false:=by kernel_rfl
theorem Tz:tyk Tryz.prog 297=some TyK.func:=by kernel_rfl
theorem TA:shp Tryz.prog 297=some (false,1):=by kernel_rfl
theorem TB:zer Tryz.prog 297=some [AV.nilFn]:=by kernel_rfl
theorem TC:al Tryz.prog 297=false:=by kernel_rfl
theorem TD:tyk Tryz.prog 298=some (TyK.int .u32):=by kernel_rfl
theorem TE:shp Tryz.prog 298=some (false,1):=by kernel_rfl
theorem TF:zer Tryz.prog 298=some [(AV.int .u32 0)]:=by kernel_rfl
theorem TH:al Tryz.prog 298=false:=by kernel_rfl
theorem TI:aW Tryz.prog 10 298=some [(TyS.si .u32)]:=by kernel_rfl
theorem TJ:Tryz.prog.eqGuardType Tryz.prog.depth 298=false:=by kernel_rfl
theorem TK:tyk Tryz.prog 299=some (TyK.slice 40 false 1 24):=by kernel_rfl
theorem TL:shp Tryz.prog 299=some (false,1):=by kernel_rfl
theorem TM:zer Tryz.prog 299=some [AV.nilSl]:=by kernel_rfl
theorem TN:al Tryz.prog 299=false:=by kernel_rfl
theorem TO:tyk Tryz.prog 300=some TyK.func:=by kernel_rfl
theorem TP:shp Tryz.prog 300=some (false,1):=by kernel_rfl
theorem TQ:zer Tryz.prog 300=some [AV.nilFn]:=by kernel_rfl
theorem TR:al Tryz.prog 300=false:=by kernel_rfl
theorem TS:tyk Tryz.prog 301=some TyK.other:=by kernel_rfl
theorem TT:shp Tryz.prog 301=some (false,1):=by kernel_rfl
theorem TU:zer Tryz.prog 301=some [(AV.tuple [(AV.int .u64 0),AV.nilIface])]:=by kernel_rfl
theorem TW:al Tryz.prog 301=false:=by kernel_rfl
theorem TX:tyk Tryz.prog 302=some TyK.func:=by kernel_rfl
theorem TY:shp Tryz.prog 302=some (false,1):=by kernel_rfl
theorem TZ:zer Tryz.prog 302=some [AV.nilFn]:=by kernel_rfl
theorem T1:al Tryz.prog 302=false:=by kernel_rfl
theorem T2:tyk Tryz.prog 303=some (TyK.struct [(0,(false,1)),(1,(false,1)),(2,(false,1))]):=by kernel_rfl
theorem T3:shp Tryz.prog 303=some (true,3):=by kernel_rfl
theorem T4:zer Tryz.prog 303=some [(AV.str []),(AV.str []),AV.nilIface]:=by kernel_rfl
theorem T5:al Tryz.prog 303=false:=by kernel_rfl
theorem xT:aB Tryz.prog 303 0=some (0,false,1):=by kernel_rfl
theorem xU:aB Tryz.prog 303 1=some (1,false,1):=by kernel_rfl
theorem xV:aB Tryz.prog 303 2=some (2,false,1):=by kernel_rfl
theorem T6:tyk Tryz.prog 304=some (TyK.struct [(0,(false,1)),(1,(false,1)),(2,(false,1))]):=by kernel_rfl
theorem T7:shp Tryz.prog 304=some (true,3):=by kernel_rfl
theorem T8:zer Tryz.prog 304=some [(AV.str []),(AV.str []),AV.nilIface]:=by kernel_rfl
theorem T9:al Tryz.prog 304=false:=by kernel_rfl
theorem xW:aB Tryz.prog 304 0=some (0,false,1):=by kernel_rfl
theorem xX:aB Tryz.prog 304 1=some (1,false,1):=by kernel_rfl
theorem xY:aB Tryz.prog 304 2=some (2,false,1):=by kernel_rfl
theorem Ua:tyk Tryz.prog 305=some TyK.func:=by kernel_rfl
theorem Ub:shp Tryz.prog 305=some (false,1):=by kernel_rfl
theorem Uc:zer Tryz.prog 305=some [AV.nilFn]:=by kernel_rfl
theorem Ud:al Tryz.prog 305=false:=by kernel_rfl
theorem Ue:tyk Tryz.prog 306=some TyK.func:=by kernel_rfl
theorem Uf:shp Tryz.prog 306=some (false,1):=by kernel_rfl
theorem Ug:zer Tryz.prog 306=some [AV.nilFn]:=by kernel_rfl
theorem Uh:al Tryz.prog 306=false:=by kernel_rfl
theorem Ui:tyk Tryz.prog 307=some TyK.func:=by kernel_rfl
theorem Uj:shp Tryz.prog 307=some (false,1):=by kernel_rfl
theorem Uk:zer Tryz.prog 307=some [AV.nilFn]:=by kernel_rfl
theorem Ul:al Tryz.prog 307=false:=by kernel_rfl
theorem Um:tyk Tryz.prog 308=some (TyK.arr 20 279 false 1):=by kernel_rfl
theorem Un:shp Tryz.prog 308=some (true,20):=by kernel_rfl
theorem Uo:zer Tryz.prog 308=some [(AV.int .u64 0),(AV.int .u64 0),(AV.int .u64 0),(AV.int .u64 0),(AV.int .u64 0),(AV.int .u64 0),(AV.int .u64 0),(AV.int .u64 0),(AV.int .u64 0),(AV.int .u64 0),(AV.int .u64 0),(AV.int .u64 0),(AV.int .u64 0),(AV.int .u64 0),(AV.int .u64 0),(AV.int .u64 0),(AV.int .u64 0),(AV.int .u64 0),(AV.int .u64 0),(AV.int .u64 0)]:=by kernel_rfl
theorem Up:al Tryz.prog 308=false:=by kernel_rfl
theorem Uq:tyk Tryz.prog 309=some (TyK.arr 65 5 false 1):=by kernel_rfl
theorem Ur:shp Tryz.prog 309=some (true,65):=by kernel_rfl
theorem Us:al Tryz.prog 309=false:=by kernel_rfl
theorem Ut:tyk Tryz.prog 310=some TyK.func:=by kernel_rfl
theorem Uu:shp Tryz.prog 310=some (false,1):=by kernel_rfl
theorem Uv:zer Tryz.prog 310=some [AV.nilFn]:=by kernel_rfl
theorem Uw:al Tryz.prog 310=false:=by kernel_rfl
theorem Ux:tyk Tryz.prog 311=some TyK.other:=by kernel_rfl
theorem Uy:shp Tryz.prog 311=some (false,1):=by kernel_rfl
theorem Uz:zer Tryz.prog 311=some [(AV.tuple [(AV.int .u32 0),(AV.int .u32 0)])]:=by kernel_rfl
theorem UA:al Tryz.prog 311=false:=by kernel_rfl
theorem UB:tyk Tryz.prog 312=some TyK.func:=by kernel_rfl
theorem UC:shp Tryz.prog 312=some (false,1):=by kernel_rfl
theorem UD:zer Tryz.prog 312=some [AV.nilFn]:=by kernel_rfl
theorem UE:al Tryz.prog 312=false:=by kernel_rfl
theorem UF:tyk Tryz.prog 313=some (TyK.int .u64):=by kernel_rfl
theorem UG:shp Tryz.prog 313=some (false,1):=by kernel_rfl
theorem UH:zer Tryz.prog 313=some [(AV.int .u64 0)]:=by kernel_rfl
theorem UI:al Tryz.prog 313=false:=by kernel_rfl
theorem UJ:aW Tryz.prog 10 313=some [(TyS.si .u64)]:=by kernel_rfl
theorem UK:Tryz.prog.eqGuardType Tryz.prog.depth 313=false:=by kernel_rfl
theorem UL:tyk Tryz.prog 314=some TyK.func:=by kernel_rfl
theorem UM:shp Tryz.prog 314=some (false,1):=by kernel_rfl
theorem UN:zer Tryz.prog 314=some [AV.nilFn]:=by kernel_rfl
theorem UO:al Tryz.prog 314=false:=by kernel_rfl
theorem UP:tyk Tryz.prog 315=some TyK.func:=by kernel_rfl
theorem UQ:shp Tryz.prog 315=some (false,1):=by kernel_rfl
theorem UR:zer Tryz.prog 315=some [AV.nilFn]:=by kernel_rfl
theorem US:al Tryz.prog 315=false:=by kernel_rfl
theorem UT:tyk Tryz.prog 316=some TyK.func:=by kernel_rfl
theorem UU:shp Tryz.prog 316=some (false,1):=by kernel_rfl
theorem UW:zer Tryz.prog 316=some [AV.nilFn]:=by kernel_rfl
theorem UX:al Tryz.prog 316=false:=by kernel_rfl
theorem UY:tyk Tryz.prog 317=some (TyK.ptr 3):=by kernel_rfl
theorem UZ:shp Tryz.prog 317=some (false,1):=by kernel_rfl
theorem U0:zer Tryz.prog 317=some [AV.nilPtr]:=by kernel_rfl
theorem U1:al Tryz.prog 317=false:=by kernel_rfl
theorem U2:tyk Tryz.prog 318=some TyK.func:=by kernel_rfl
theorem U3:shp Tryz.prog 318=some (false,1):=by kernel_rfl
theorem U4:zer Tryz.prog 318=some [AV.nilFn]:=by kernel_rfl
theorem U5:al Tryz.prog 318=false:=by kernel_rfl
theorem U6:tyk Tryz.prog 319=some TyK.func:=by kernel_rfl
theorem U7:shp Tryz.prog 319=some (false,1):=by kernel_rfl
theorem U8:zer Tryz.prog 319=some [AV.nilFn]:=by kernel_rfl
theorem U9:al Tryz.prog 319=false:=by kernel_rfl
theorem Va:tyk Tryz.prog 320=some (TyK.ptr 322):=by kernel_rfl
theorem Vb:shp Tryz.prog 320=some (false,1):=by kernel_rfl
theorem Vc:zer Tryz.prog 320=some [AV.nilPtr]:=by kernel_rfl
theorem Vd:al Tryz.prog 320=false:=by kernel_rfl
theorem Ve:tyk Tryz.prog 321=some (TyK.struct [(0,(false,1))]):=by kernel_rfl
theorem Vf:shp Tryz.prog 321=some (true,1):=by kernel_rfl
theorem Vg:zer Tryz.prog 321=some [(AV.str [])]:=by kernel_rfl
theorem Vh:al Tryz.prog 321=false:=by kernel_rfl
theorem Vi:aW Tryz.prog 10 321=some [TyS.ss]:=by kernel_rfl
theorem Vj:Tryz.prog.eqGuardType Tryz.prog.depth 321=false:=by kernel_rfl
theorem xZ:aB Tryz.prog 321 0=some (0,false,1):=by kernel_rfl
theorem Vk:tyk Tryz.prog 322=some (TyK.struct [(0,(false,1))]):=by kernel_rfl
theorem Vl:shp Tryz.prog 322=some (true,1):=by kernel_rfl
theorem Vm:zer Tryz.prog 322=some [(AV.str [])]:=by kernel_rfl
theorem Vn:al Tryz.prog 322=false:=by kernel_rfl
theorem Vo:aW Tryz.prog 10 322=some [TyS.ss]:=by kernel_rfl
theorem Vp:Tryz.prog.eqGuardType Tryz.prog.depth 322=false:=by kernel_rfl
theorem x0:aB Tryz.prog 322 0=some (0,false,1):=by kernel_rfl
theorem Vq:tyk Tryz.prog 323=some TyK.func:=by kernel_rfl
theorem Vs:shp Tryz.prog 323=some (false,1):=by kernel_rfl
theorem Vt:zer Tryz.prog 323=some [AV.nilFn]:=by kernel_rfl
theorem Vu:al Tryz.prog 323=false:=by kernel_rfl
theorem Vv:tyk Tryz.prog 324=some (TyK.ptr 313):=by kernel_rfl
theorem Vw:shp Tryz.prog 324=some (false,1):=by kernel_rfl
theorem Vx:zer Tryz.prog 324=some [AV.nilPtr]:=by kernel_rfl
theorem Vy:al Tryz.prog 324=false:=by kernel_rfl
theorem Vz:tyk Tryz.prog 325=some TyK.other:=by kernel_rfl
theorem VA:shp Tryz.prog 325=some (false,1):=by kernel_rfl
theorem VB:zer Tryz.prog 325=some [(AV.tuple [(AV.int .i64 0),(AV.int .i64 0)])]:=by kernel_rfl
theorem VC:al Tryz.prog 325=false:=by kernel_rfl
theorem VD:tyk Tryz.prog 326=some TyK.func:=by kernel_rfl
theorem VF:shp Tryz.prog 326=some (false,1):=by kernel_rfl
theorem VG:zer Tryz.prog 326=some [AV.nilFn]:=by kernel_rfl
theorem VH:al Tryz.prog 326=false:=by kernel_rfl
theorem VI:tyk Tryz.prog 327=some (TyK.arr 32 5 false 1):=by kernel_rfl
theorem VJ:shp Tryz.prog 327=some (true,32):=by kernel_rfl
theorem VL:zer Tryz.prog 327=some [(AV.int .u8 0),(AV.int .u8 0),(AV.int .u8 0),(AV.int .u8 0),(AV.int .u8 0),(AV.int .u8 0),(AV.int .u8 0),(AV.int .u8 0),(AV.int .u8 0),(AV.int .u8 0),(AV.int .u8 0),(AV.int .u8 0),(AV.int .u8 0),(AV.int .u8 0),(AV.int .u8 0),(AV.int .u8 0),(AV.int .u8 0),(AV.int .u8 0),(AV.int .u8 0),(AV.int .u8 0),(AV.int .u8 0),(AV.int .u8 0),(AV.int .u8 0),(AV.int .u8 0),(AV.int .u8 0),(AV.int .u8 0),(AV.int .u8 0),(AV.int .u8 0),(AV.int .u8 0),(AV.int .u8 0),(AV.int .u8 0),(AV.int .u8 0)]:=by kernel_rfl
theorem VM:al Tryz.prog 327=false:=by kernel_rfl
theorem VN:tyk Tryz.prog 328=some (TyK.arr 64 5 false 1):=by kernel_rfl
theorem VO:shp Tryz.prog 328=some (true,64):=by kernel_rfl
theorem VP:al Tryz.prog 328=false:=by kernel_rfl
theorem VQ:tyk Tryz.prog 329=some (TyK.struct [(0,(false,1)),(1,(false,1)),(2,(false,1)),(3,(false,1))]):=by kernel_rfl
theorem VS:shp Tryz.prog 329=some (true,4):=by kernel_rfl
theorem VT:zer Tryz.prog 329=some [AV.nilPtr,AV.nilPtr,AV.nilPtr,(AV.str [])]:=by kernel_rfl
theorem VU:al Tryz.prog 329=false:=by kernel_rfl
theorem x7:aB Tryz.prog 329 0=some (0,false,1):=by kernel_rfl
theorem x8:aB Tryz.prog 329 1=some (1,false,1):=by kernel_rfl
theorem x9:aB Tryz.prog 329 2=some (2,false,1):=by kernel_rfl
theorem ya:aB Tryz.prog 329 3=some (3,false,1):=by kernel_rfl
theorem VV:tyk Tryz.prog 330=some (TyK.struct [(0,(false,1)),(1,(false,1)),(2,(false,1)),(3,(false,1))]):=by kernel_rfl
theorem VW:shp Tryz.prog 330=some (true,4):=by kernel_rfl
theorem VX:zer Tryz.prog 330=some [AV.nilPtr,AV.nilPtr,AV.nilPtr,(AV.str [])]:=by kernel_rfl
theorem VY:al Tryz.prog 330=false:=by kernel_rfl
theorem yb:aB Tryz.prog 330 0=some (0,false,1):=by kernel_rfl
theorem yc:aB Tryz.prog 330 1=some (1,false,1):=by kernel_rfl
theorem yd:aB Tryz.prog 330 2=some (2,false,1):=by kernel_rfl
theorem ye:aB Tryz.prog 330 3=some (3,false,1):=by kernel_rfl
theorem VZ:tyk Tryz.prog 331=some (TyK.arr 0 16 false 1):=by kernel_rfl
theorem V0:shp Tryz.prog 331=some (true,0):=by kernel_rfl
theorem V1:zer Tryz.prog 331=some []:=by kernel_rfl
theorem V2:al Tryz.prog 331=false:=by kernel_rfl
theorem V3:tyk Tryz.prog 332=some (TyK.struct [(0,(true,0))]):=by kernel_rfl
theorem V4:shp Tryz.prog 332=some (true,0):=by kernel_rfl
theorem V5:zer Tryz.prog 332=some []:=by kernel_rfl
theorem V6:al Tryz.prog 332=false:=by kernel_rfl
theorem yf:aB Tryz.prog 332 0=some (0,true,0):=by kernel_rfl
theorem V7:tyk Tryz.prog 333=some (TyK.struct [(0,(true,0))]):=by kernel_rfl
theorem V8:shp Tryz.prog 333=some (true,0):=by kernel_rfl
theorem V9:zer Tryz.prog 333=some []:=by kernel_rfl
theorem Wa:al Tryz.prog 333=false:=by kernel_rfl
theorem yg:aB Tryz.prog 333 0=some (0,true,0):=by kernel_rfl
theorem Wb:tyk Tryz.prog 334=some TyK.func:=by kernel_rfl
theorem Wc:shp Tryz.prog 334=some (false,1):=by kernel_rfl
theorem Wd:zer Tryz.prog 334=some [AV.nilFn]:=by kernel_rfl
theorem We:al Tryz.prog 334=false:=by kernel_rfl
theorem Wf:tyk Tryz.prog 335=some (TyK.int .u8):=by kernel_rfl
theorem Wg:shp Tryz.prog 335=some (false,1):=by kernel_rfl
theorem Wh:zer Tryz.prog 335=some [(AV.int .u8 0)]:=by kernel_rfl
theorem Wi:al Tryz.prog 335=false:=by kernel_rfl
theorem Wj:aW Tryz.prog 10 335=some [(TyS.si .u8)]:=by kernel_rfl
theorem Wl:Tryz.prog.eqGuardType Tryz.prog.depth 335=false:=by kernel_rfl
theorem Wm:tyk Tryz.prog 336=some (TyK.int .u8):=by kernel_rfl
theorem Wn:shp Tryz.prog 336=some (false,1):=by kernel_rfl
theorem Wo:zer Tryz.prog 336=some [(AV.int .u8 0)]:=by kernel_rfl
theorem Wp:al Tryz.prog 336=false:=by kernel_rfl
theorem Wq:aW Tryz.prog 10 336=some [(TyS.si .u8)]:=by kernel_rfl
theorem Wr:Tryz.prog.eqGuardType Tryz.prog.depth 336=false:=by kernel_rfl
theorem Ws:tyk Tryz.prog 337=some TyK.func:=by kernel_rfl
theorem Wt:shp Tryz.prog 337=some (false,1):=by kernel_rfl
theorem Wu:zer Tryz.prog 337=some [AV.nilFn]:=by kernel_rfl
theorem Wv:al Tryz.prog 337=false:=by kernel_rfl
theorem Ww:tyk Tryz.prog 338=some (TyK.int .i32):=by kernel_rfl
theorem Wx:shp Tryz.prog 338=some (false,1):=by kernel_rfl
theorem Wy:zer Tryz.prog 338=some [(AV.int .i32 0)]:=by kernel_rfl
theorem Wz:al Tryz.prog 338=false:=by kernel_rfl
theorem WA:aW Tryz.prog 10 338=some [(TyS.si .i32)]:=by kernel_rfl
theorem WB:Tryz.prog.eqGuardType Tryz.prog.depth 338=false:=by kernel_rfl
theorem WC:tyk Tryz.prog 339=some (TyK.int .i32):=by kernel_rfl
theorem WD:shp Tryz.prog 339=some (false,1):=by kernel_rfl
theorem WE:zer Tryz.prog 339=some [(AV.int .i32 0)]:=by kernel_rfl
theorem WG:al Tryz.prog 339=false:=by kernel_rfl
theorem WH:aW Tryz.prog 10 339=some [(TyS.si .i32)]:=by kernel_rfl
theorem WI:Tryz.prog.eqGuardType Tryz.prog.depth 339=false:=by kernel_rfl
theorem WJ:tyk Tryz.prog 340=some (TyK.struct [(0,(false,1)),(1,(false,1)),(2,(false,1)),(3,(false,1)),(4,(false,1)),(5,(false,1)),(6,(false,1)),(7,(false,1)),(8,(false,1)),(9,(false,1)),(10,(false,1))]):=by kernel_rfl
theorem WK:shp Tryz.prog 340=some (true,11):=by kernel_rfl
theorem WN:zer Tryz.prog 340=some [(AV.int .u64 0),(AV.int .u64 0),(AV.int .u32 0),(AV.int .u8 0),(AV.int .u8 0),(AV.int .u8 0),(AV.int .u8 0),AV.nilFn,AV.nilPtr,(AV.int .i32 0),(AV.int .i32 0)]:=by kernel_rfl
theorem WO:al Tryz.prog 340=false:=by kernel_rfl
theorem yh:aB Tryz.prog 340 0=some (0,false,1):=by kernel_rfl
theorem yi:aB Tryz.prog 340 1=some (1,false,1):=by kernel_rfl
theorem yj:aB Tryz.prog 340 2=some (2,false,1):=by kernel_rfl
theorem yk:aB Tryz.prog 340 3=some (3,false,1):=by kernel_rfl
theorem yl:aB Tryz.prog 340 4=some (4,false,1):=by kernel_rfl
theorem ym:aB Tryz.prog 340 5=some (5,false,1):=by kernel_rfl
theorem yn:aB Tryz.prog 340 6=some (6,false,1):=by kernel_rfl
theorem yo:aB Tryz.prog 340 7=some (7,false,1):=by kernel_rfl
theorem yr:aB Tryz.prog 340 8=some (8,false,1):=by kernel_rfl
theorem yt:aB Tryz.prog 340 9=some (9,false,1):=by kernel_rfl
theorem s7:aB Tryz.prog 340 10=some (10,false,1):=by kernel_rfl
theorem WQ:tyk Tryz.prog 341=some (TyK.struct [(0,(false,1)),(1,(false,1)),(2,(false,1)),(3,(false,1)),(4,(false,1)),(5,(false,1)),(6,(false,1)),(7,(false,1)),(8,(false,1)),(9,(false,1)),(10,(false,1))]):=by kernel_rfl
theorem WS:shp Tryz.prog 341=some (true,11):=by kernel_rfl
theorem WT:zer Tryz.prog 341=some [(AV.int .u64 0),(AV.int .u64 0),(AV.int .u32 0),(AV.int .u8 0),(AV.int .u8 0),(AV.int .u8 0),(AV.int .u8 0),AV.nilFn,AV.nilPtr,(AV.int .i32 0),(AV.int .i32 0)]:=by kernel_rfl
theorem WU:al Tryz.prog 341=false:=by kernel_rfl
theorem yu:aB Tryz.prog 341 0=some (0,false,1):=by kernel_rfl
theorem yv:aB Tryz.prog 341 1=some (1,false,1):=by kernel_rfl
theorem yw:aB Tryz.prog 341 2=some (2,false,1):=by kernel_rfl
theorem yx:aB Tryz.prog 341 3=some (3,false,1):=by kernel_rfl
theorem yy:aB Tryz.prog 341 4=some (4,false,1):=by kernel_rfl
theorem yz:aB Tryz.prog 341 5=some (5,false,1):=by kernel_rfl
theorem yA:aB Tryz.prog 341 6=some (6,false,1):=by kernel_rfl
theorem yB:aB Tryz.prog 341 7=some (7,false,1):=by kernel_rfl
theorem yC:aB Tryz.prog 341 8=some (8,false,1):=by kernel_rfl
theorem yD:aB Tryz.prog 341 9=some (9,false,1):=by kernel_rfl
theorem s8:aB Tryz.prog 341 10=some (10,false,1):=by kernel_rfl
attribute [go_sem] afU afV afW afX afY afZ af0 af1 af2 af3 af4 af5 af6 af7 af8 af9 aga agb agc agd age agf agh agi agj agk agl agm agn ago agp agq agr agt agu agv agw agx agy agz
attribute [go_sem] agA agB agC agD Eb Ec Ed Ee agE agF agG agH agI agJ Ef Eg Eh Ei agK agL agM agN agO agP YF YG YH YI YJ YK YL YM YN YO YP YQ YR YS YT YU
attribute [go_sem] YV YW YX YY YZ Y0 A8 A9 Za Zb Zc Zd Ba Bb Ze Zf Zg Zh Zi Zj Zk Zl Zm Zn Zo Zp Zq Zr Zs Zt Bc Zu Zv Zw Zx Be Zy Zz ZA ZB
attribute [go_sem] ZC ZD ZE ZF ZG ZH ZI ZJ ZK ZL ZM ZN ZO ZP ZQ ZR ZS ZT ZU ZV ZW ZX ZY ZZ Z0 Z9 aaa aab aac aad aae aaf aag aah aai aaj aak aal aam aan
attribute [go_sem] aao aap aaq aar aas aat aau aav aaw aax aay aaz aaA aaB Bf Bg Bh Bi aaC aaD aaE aaF Bj Bl Bm Bn aaG aaH aaI aaJ aaK aaL aaM aaN aaO aaP aaQ aaR aaS aaT
attribute [go_sem] aaU aaV aaW aaX Bo Bp Bq Br aaY aaZ aa0 aa1 aa2 aa3 Bt Bu Bv Bw aa4 aa5 aa6 aa7 aa8 aa9 aba abb Bx By Bz abc abd abe abf BA BB BC abg abh abi abj
attribute [go_sem] abk abl abm abn abo abp abq abr abt abu abv abw abx aby abz abA abB abC BD BE BF BG BH BI abD abE abF abG BJ BK BL BM BN BO abH abI abJ abK abL abM
attribute [go_sem] abN abO abP abQ abR abS abT abU abV abW abX abY abZ ab0 ab1 ab2 BP BQ BS BT BU ab3 ab4 ab5 ab6 ab7 ab8 BV BW BX BY BZ ab9 aca acb acd ace acf acg ach
attribute [go_sem] aci acj ack acm acn aco acp acq acr acs acu acv acw acx acy acz acA acB B1 B2 B3 B4 B5 acC acD acE acF acG acH B6 B7 B8 B9 Ca acI acJ acK acL acM acN
attribute [go_sem] acO acP acQ acR acS acT acU acV acW acX acY acZ ac0 ac1 ac2 ac3 ac4 ac5 ac6 ac7 ac8 ac9 Cb ada adb ade adf Cc adg adh adi adj adk adl adm adn ado adp adq adr
attribute [go_sem] ads adt adu adv adw adx ady adz adA adB adC adD adE adF adG adH adI adJ adK adL adM adN adO adP adQ adR adS adT adU adV adW adX adY adZ ad0 ad1 Cd Ce Cf ad2
attribute [go_sem] ad3 ad4 ad5 Cg Ch Ci ad6 ad7 ad8 ad9 aea aeb aec aed aee aef aeg aeh aei aej aek ael aem aen aeo aep aeq aer aes aet aeu aev aew aex aey aez aeA aeB aeC aeD
attribute [go_sem] aeE aeF aeG aeH aeI aeJ aeK aeL aeM aeN aeO aeP aeQ aeR aeS aeT aeU aeV aeW aeX Cj Ck Cl aeY aeZ ae0 ae1 ae2 ae3 Cm Cn Co ae4 ae5 ae6 ae7 ae8 ae9 afa afb
attribute [go_sem] afc afd afe aff Ej Ek El Em En Eo Ep Er Es Et Eu Ev vQ vR vS Ew Ex Ey Ez vT vU vV EA EB EC ED EE EF EH EI EJ EL EM EN EO EP
attribute [go_sem] ES ET vW vX vY EU EV EW EX vZ v7 v8 EY EZ E0 E2 E3 E4 E5 E6 E7 E8 E9 Fa Fb Fe Ff Fg Fh Fi Fj Fk Fl Fm Fo Fp Fq Fs Ft Fu
attribute [go_sem] Fv Fw Fx Fy wa wb Fz FA FB FC wc wg FD FE FF FG FH FI FJ FK FL FM FN FO FP FQ FR FT FU FV FW FX FY FZ F3 F4 F5 F6 F7 F8
attribute [go_sem] F9 Ga Gb Gc wh wi Gd Ge Gf Gg wj wm Gi Gj Gk Gl Gm Gn Gp Gq Gr Gs Gt Gu wu wv wx wy wz Gv Gw Gx Gy wA wB wC wD wE Gz GA
attribute [go_sem] GB GC GD GF GG GH GI GJ GK GL wF wG wH wI wJ GM GN GO GP wK wM wN wO wP GQ GR GS GU GV GW wQ wR GX GY GZ G0 G3 G4 wS wT
attribute [go_sem] G5 G6 G7 G8 G9 Ha Hb Hc Hd He Hf Hh Hi Hj Hk Hl Hm Hn Ho Hp Hq Hr Hs Ht Hu Hv Hw Hx Hy Hz HA HB HC HE HF HG HH HI HJ HK
attribute [go_sem] HL HM HN HO HP HQ HR HS HT HU HV HW HX HY HZ H0 H2 H3 H4 H5 H6 H7 H8 H9 Ia Ib Ic Ie Ig Ih Ii Ij wU wV wW wX wY wZ Ik Il
attribute [go_sem] Im Io w5 w6 w7 w9 xa xb Ip Iq Ir Iu Iv Iw Ix Iy Iz IA IB IC ID IE IF IG IH II IJ IK xc xd xe IL IM IN IP xf xg xh IQ IS
attribute [go_sem] IT IU IV IW IX IY IZ I0 I1 I2 I3 I4 xi xj I5 I6 I7 I8 I9 Ja xk xl Jb Jc Jd Je Jf Jg Jh Ji Jj Jk Jl Jm Jn Jo Jp Jq Jr Js
attribute [go_sem] Jt Ju Jv Jw Jx Jy Jz JA JB JC JD JE JF JG JH JI JJ JK JL JM JN JO JP JQ JR JS JT JU JV JW JX JY JZ J0 J1 J2 J3 J4 J5 J6
attribute [go_sem] J7 J8 J9 Ka xm xn Kb Kc Ke Kf Kg Kh xo xp Ki Kj Kk Kl Km Kn Ko Kq Kr Ks Kt Ku Kv Kw Kx Ky Kz KQ KU KW KX KY KZ La Lb Lc
attribute [go_sem] Ld Le Lf Lg Lh Li Lj xq xr Lk Ll Lm xt xu Ln Lo Lp Lq Lr Ls Lt Lu Lv Lw Lx Ly Lz LA LB LC LD LF LG LH LI LJ LM LN LO LP
attribute [go_sem] LQ LR LS LU LV LW LX LY LZ L3 L4 L5 L6 L7 L8 L9 Ma Mb Mc Md Me Mf Mg Mh Mi Mj Mk Ml Mm Mn Mo Mp Mq Mr Ms Mt Mu Mv Mw Mx
attribute [go_sem] My Mz MA MB MC MD MF MG MH MI MJ MK ML MM MN MO MQ MR MS MT MU MV MW MX MY MZ M0 M3 M4 M5 xv xw xx M6 M7 M8 M9 Na Nb xy
attribute [go_sem] xz xA Nc Nd Nf Ng Nh Ni Nj Nk Nl Nn Np Nq Nr Ns Nt Nu Nv Nw Nx Ny Nz NA NB NC ND NF NG NH NI NJ NK NL NM NN NO NP NQ NR
attribute [go_sem] NS NU NV NW NX NY NZ N0 N1 N2 N3 N4 N5 N6 N7 N8 N9 Oa Ob Oc Od Oe Of Og Oh Oi Oj Ol Om Oo Oq Ot Ou Ov Ow xB Ox Oy Oz OA
attribute [go_sem] OB OC xC OD OE OF OG OH OI OJ OK OL OM ON OP OQ OR OS OT xD OU OV OW OX xE OY OZ O0 O2 O3 O4 O5 O6 O7 O8 O9 Pa Pb Pd Pe
attribute [go_sem] Pf Pg Ph Pj Pk Pl Pm Pn Po Pp Pq Pr Pu Pv Pw Px Py Pz PA PB PC PD PE PF PH PI PJ PK PM PN PO PQ PS PT PU PW PX PY PZ P0
attribute [go_sem] P1 P2 P3 P4 P5 P6 P7 P8 P9 Qa Qb Qc Qd Qe Qf Qg Qh Qi Qj Qk Ql Qm Qn Qo Qp Qq Qr xF xG xH xI xJ Qs Qt Qu Qv xK xL xM xN
attribute [go_sem] xO Qw Qx Qy Qz QA QB QC QD QE QF QH QI QJ QK QL QM QN QO QP QQ QR QS QT QU QV QW QX QY QZ Q0 Q1 Q2 Q3 Q4 Q5 Q6 Q7 Q8 Q9
attribute [go_sem] Ra Rb Rc Re Rf Rg Rh Ri Rj Rk Rl Rm Rn Ro Rq Rr Rt Ru Rv Rw Rx Ry Rz RA RB RC RE RF RG RH RI RJ RM RN RO RQ RS RT RU RV
attribute [go_sem] RW RX RY RZ R0 R1 R2 R3 R4 R5 R6 R7 R8 R9 Sa Sb Sc Se Sf Sg Sh Si Sj Sk Sl Sm Sn Sp Sr Ss Su Sv Sw Sx Sy Sz SA SB SC SD
attribute [go_sem] SE SF xP xQ SH SI SJ SK SL SM xR xS SN SO SP SQ SR SS SU SV SX SY SZ Ta Tb Tc Td Te Tf Tg Th Ti Tj Tk Tl Tm Tn To Tp Tq
attribute [go_sem] Ts Tt Tu Tv Tw Tx Tz TA TB TC TD TE TF TH TI TJ TK TL TM TN TO TP TQ TR TS TT TU TW TX TY TZ T1 T2 T3 T4 T5 xT xU xV T6
attribute [go_sem] T7 T8 T9 xW xX xY Ua Ub Uc Ud Ue Uf Ug Uh Ui Uj Uk Ul Um Un Uo Up Uq Ur Us Ut Uu Uv Uw Ux Uy Uz UA UB UC UD UE UF UG UH
attribute [go_sem] UI UJ UK UL UM UN UO UP UQ UR US UT UU UW UX UY UZ U0 U1 U2 U3 U4 U5 U6 U7 U8 U9 Va Vb Vc Vd Ve Vf Vg Vh Vi Vj xZ Vk Vl
attribute [go_sem] Vm Vn Vo Vp x0 Vq Vs Vt Vu Vv Vw Vx Vy Vz VA VB VC VD VF VG VH VI VJ VL VM VN VO VP VQ VS VT VU x7 x8 x9 ya VV VW VX VY
attribute [go_sem] yb yc yd ye VZ V0 V1 V2 V3 V4 V5 V6 yf V7 V8 V9 Wa yg Wb Wc Wd We Wf Wg Wh Wi Wj Wl Wm Wn Wo Wp Wq Wr Ws Wt Wu Wv Ww Wx
attribute [go_sem] Wy Wz WA WB WC WD WE WG WH WI WJ WK WN WO yh yi yj yk yl ym yn yo yr yt s7 WQ WS WT WU yu yv yw yx yy yz yA yB yC yD s8
theorem mixed:Tryz.prog.follows .mixedOrders=true:=by kernel_rfl
end Go.Proofs.YtlfeacmbhldjcaaGreatDoor
namespace Go.Proofs.YtlfeacmbhldjcaaGreatDoor
open Go
set_option maxRecDepth 100000
set_option maxHeartbeats 1000000
theorem lx:((Tryz.prog.info? 117).map (·.size))=some 2:=by kernel_rfl
theorem WV:liesAt Tryz.prog Tryz.prog.depth 117 (2 / Tryz.prog.cellsOf 117) 0 117 1=true:=by kernel_rfl
theorem mq (b:Nat) (w:World) (h0:w.cell? ⟨b,0,none⟩=some (.pointer (some ⟨b,0,none⟩))) :
  Calls Tryz.prog 115 #[.pointer (some ⟨b,0,none⟩)] w fun e w'=>e = .returned (.tuple #[])∧w' = w:=by
 obtain ⟨j,hj,_⟩:=Option.map_eq_some_iff.1 lx
 go_enter Tryz.func115,Tryz.ntmps115
 go_wp2
 rw [Lib.run_neq_ptr_same w _ Tryz.underlying114 hj]
 go_wp2
 go_end0
 exact ⟨rfl,rfl⟩
theorem lj (b:Nat) (w:World) (h0:w.cell? ⟨b,0,none⟩=some (.pointer none)) (hsh:w.shape? b=some (117,2)) (hfz:w.frozen? ⟨b,0,none⟩=false) :
  Calls Tryz.prog 115 #[.pointer (some ⟨b,0,none⟩)] w fun e w'=>e = .returned (.tuple #[])∧w' = w.setCell ⟨b,0,none⟩ (.pointer (some ⟨b,0,none⟩)):=by
 obtain ⟨j,hj,hjs⟩:=Option.map_eq_some_iff.1 lx
 go_enter Tryz.func115,Tryz.ntmps115
 go_wp2
 rw [Lib.run_to_unsafe w ⟨b,0,none⟩ Tryz.underlying114 Tryz.underlying190 hj (by rw [hjs];decide) hsh (Nat.zero_lt_succ 1)]
 simp only [Result.andThen]
 rw [Oper.upon_value]
 go_wp2
 rw [run_callFunc_extern Tryz.func146 (by kernel_rfl) (by kernel_rfl) (by kernel_rfl) (e:=Extern.AbiNoEscape.same) (by kernel_rfl)]
 rw [Lib.run_noEscape]
 simp only [Result.andThen]
 rw [Oper.upon_value]
 go_wp2
 rw [Lib.run_from_unsafe w ⟨b,0,none⟩ Tryz.underlying190 Tryz.underlying114 hj hsh WV]
 simp only [Result.andThen]
 rw [Oper.upon_value]
 go_wp2
 go_end0
 exact ⟨rfl,rfl⟩
end Go.Proofs.YtlfeacmbhldjcaaGreatDoor
