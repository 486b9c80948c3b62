/- A part of the proof: the texts FwD, FwE, Ty, S0, Shelf, S1, FwL, Laid, SX, S2, S2b, S6a, S7, S8, S3, S4, S5, S6, S9, S10, S11, S12, S15, S13, S14, S16, S17, S23, one behind the other. -/
import Derived.Test.YtpficjpdfbiedaaGreatDoorPNb
import Derived.ProofKit
import Derived.SizedLaws
import Derived.ReadAgain
import Derived.Below
import Derived.Deep.Draws
import Derived.Test.YtpficjpdfbiedaaGreatDoorProg
import Derived.KernelRfl
import Derived.Lib.Builder
import Derived.WalkKit
import Derived.Laws.Externs
import Derived.Laws.BitsLemmas
import Derived.Shelf.Strings.Builder1
import Derived.Shelf.Small.Bits
import Derived.Shelf.Strconv.Atoi
import Derived.Shelf.Strconv.Itoa0
import Derived.Shelf.Strconv.Itoa1
import Derived.Shelf.LaysM
import Derived.Shelf.Strconv.Itoa2
import Derived.Shelf.Strconv.Itoa3
import Derived.Shelf.Strconv.AtoiErrFast
import Derived.Shelf.Strconv.ParseIntEmpty
import Derived.Shelf.Strconv.AtoiFail
import Derived.Shelf.Strconv.Clone
import Derived.Shelf.Strconv.SyntaxError
import Derived.Shelf.LaysC
import Derived.Shelf.Strconv.ToError
import Derived.Shelf.Strconv.Lower
import Derived.Shelf.Strconv.ParseUint10
import Derived.Shelf.Strconv.ParseUint10Empty
import Derived.Shelf.Strconv.ParseUint10Any
import Derived.Shelf.Strconv.ParseInt10
import Derived.Shelf.Strconv.AtoiLong
import Derived.Shelf.Strconv.AtoiInnerAll
import Derived.Shelf.Strconv.RangeError
import Derived.Shelf.Strconv.ToErrorRange
import Derived.Shelf.Strconv.AtoiAll
import Derived.Shelf.Strings.Search1
import Derived.Shelf.Strings.Search2
import Derived.Shelf.Strings.Search3
import Derived.Shelf.Strings.Cut
import Derived.Shelf.Strings.Count
import Derived.Shelf.Strings.Shaped
import Derived.Shelf.Sort.Plain
import Derived.Shelf.Strings.LastIndex
import Derived.Shelf.Strings.Prefix
import Derived.Shelf.Strings.Split
import Derived.Shelf.Strings.SplitShaped
import Derived.Shelf.Unicode.Decode
import Derived.Shelf.Strings.RuneCount
import Derived.Shelf.Unicode.DecodeSlow
import Derived.Shelf.Slices.In.SortNone
import Derived.Ground.SlgfProg
import Derived.Shelf.SlicesE.IndexFunc
import Derived.Shelf.SlicesE.DeleteFunc
import Derived.Lib.LaidTab
import Derived.Deep.DeepHandedRow
import Derived.Test.YtpficjpdfbiedaaGreatDoorRows
import Derived.Test.YtpficjpdfbiedaaGreatDoorCards
import Derived.Test.YtpficjpdfbiedaaGreatDoorTie
import Derived.Lib.AtoiAllCases
import Derived.Lib.ItoaMem
import Derived.Lib.ItoaLen
import Derived.Lib.AtoiTie
import Derived.Sort.Row
set_option linter.unusedVariables false
set_option linter.unusedSimpArgs false
set_option linter.unusedSectionVars false
namespace Go.Ab
universe u
def both (b:Bool) (A B:Prop):Prop:=(b=true→A)∧(b=false→B)
theorem lx (A B:Prop):both true A B=A:=by simp [both]
theorem pa (A B:Prop):both false A B=B:=by simp [both]
structure LOp where
 dst:Option Nat
 op:Op
 guard:Option (Nat × Bool)
def j5 (o:Oper):LOp:=⟨o.dst,o.op,o.guard⟩
def b6:List Oper→List LOp
 | []=>[]
 | o::l=>j5 o::b6 l
def prs (ρ:Operand→AV):List (Nat × Operand)→List (Nat × AV)
 | []=>[]
 | q::l=>(q.1,ρ q.2)::prs ρ l
theorem vT (ρ:Operand→AV) (l:List (Nat × Operand)):l.map (fun q=>(q.1,ρ q.2))=prs ρ l:=by
 induction l with
 | nil=>rfl
 | cons q l ih=>simp only [List.map_cons,prs,ih]
def opL (P:Program) (m:Mem) (nid:Oid) (md:Nat→Bool) (ρ:Operand→AV) (dst:Option Nat) (op:Op):OpR :=
 match op with
 | .move x=>bj (ρ x)
 | .assign x=>bj (ρ x)
 | .pick c a b=>match ρ c with
  | .bool v=>bj (if v then ρ a else ρ b)
  | _=>.no
 | .alloc t=>match zer P t with
  | some z=>.eff ⟨[],.ptr (dO P t nid) 0,[(dO P t nid,some (.cells z))]⟩
  | none=>.no
 | .box t x=>if (ρ x).known=true then .eff ⟨[],.ptr (dO P t nid) 0,[(dO P t nid,some (.cells (ρ x).cells))]⟩ else .no
 | .build t ps=>cE (gu P t (prs ρ ps.toList))
 | .buildSlice t n ps=>match jS P (tyk P t) n (prs ρ ps.toList) with
  | some (sz,vs)=>if (match dst with|some d=>md d|none=>false)=true then .eff ⟨[],.sl nid sz n,[(nid,some (.arr sz vs))]⟩ else bj (.list sz vs)
  | none=>.no
 | .load t a=>fe (shp P t) m (ρ a)
 | .store t a v=>gq (shp P t) m (ρ a) (ρ v)
 | .nilCheck x=>if jN (ρ x)=true then bj (ρ x) else .no
 | .binOp op t x y _=>cE (vP P op t (isC y) (ρ x) (ρ y))
 | .unOp op _ x=>cE (unA op (ρ x))
 | .convert s d x=>cE (ql P s d (ρ x))
 | .fieldAddr t x k=>cE (dL (bO P t k) (ρ x))
 | .field t x k=>cE (jP (bO P t k) (ρ x))
 | .indexAddr t x i=>cE (cD (tyk P t) (ρ x) (ρ i))
 | .index t x i=>cE (iQ (tyk P t) (ρ x) (ρ i))
 | .extract x i=>cE (fA (ρ x) i)
 | .makeFunc f xs ys=>bj (.fn f (xs.toList.map ρ) (ys.toList.map ρ))
 | .makeInterface t x=>cE (iR (tyk P t) t (ρ x))
 | .slice t x lo hi none=>cE (bT (tyk P t) (ρ x) (lo.map ρ) (hi.map ρ))
 | .makeMap t none=>match jU P t with
  | some (ks,ag)=>.eff ⟨[],.map nid,[(nid,some (.map ks ag [] 0))]⟩
  | none=>.no
 | .lookup t x k ok=>dA P m t (ρ x) (ρ k) ok
 | .mapUpdate t x k v=>bw P m t (ρ x) (ρ k) (ρ v)
 | .insert t x k v=>bw P m t (ρ x) (ρ k) (ρ v)
 | .mapEntry t x k=>cY P m t (ρ x) (ρ k)
 | .entryStore _ x k v=>b5 m (ρ x) (ρ k) (ρ v)
 | .range t x=>gB (tyk P t) m nid (ρ x)
 | .entry x=>gC m (ρ x)
 | .call c=>gY P m nid ρ c
 | _=>.no
theorem pb (P:Program) (m:Mem) (nid:Oid) (md:Nat→Bool) (ρ:Operand→AV) (o:Oper):opF P m nid md ρ o=opL P m nid md ρ o.dst o.op:=by
 unfold opF opL;simp only [vT];rfl
def ly:List (Nat × Nat)→Nat→Option Nat
 | [],_=>none
 | q::l,j=>if j=q.1 then some q.2 else ly l j
def jh (gl:List (Nat × Nat)) (g:Option (Nat × Bool)) (f:Nat→AV):Option Bool :=
 match g with
 | none=>some true
 | some (j,want)=>match ly gl j with
  | none=>none
  | some d=>match f d with
   | .bool b=>some (b == want)
   | .tuple []=>some false
   | _=>none
def kW (ops:Array Oper) (gl:List (Nat × Nat)):Bool:=gl.all fun q=>match ops[q.1]? with
 | some o=>o.dst == some q.2
 | none=>false
theorem nF {ops:Array Oper}:∀ {gl:List (Nat × Nat)},kW ops gl=true→∀ {j d:Nat},ly gl j=some d→(ops[j]?).bind (·.dst)=some d
 | [],_,_,_,h=>by cases h
 | q::l,hg,j,d,h=>by
  simp only [kW,List.all_cons,Bool.and_eq_true] at hg
  simp only [ly] at h
  split at h
  ·rename_i e
   simp only [Option.some.injEq] at h;subst h;subst e
   have:=hg.1
   split at this
   ·rename_i o ho;rw [ho];simpa using this
   ·cases this
  ·exact nF (by simpa [kW] using hg.2) h
theorem nG {ops:Array Oper} {gl:List (Nat × Nat)} (hg:kW ops gl=true) {o:Oper} {f:Nat→AV} {b:Bool} (h:jh gl o.guard f=some b):eG ops o f=some b:=by
 unfold jh at h
 unfold eG
 split at h
 ·rename_i e;rw [e];exact h
 ·rename_i j want e
  rw [e];simp only
  cases hl:ly gl j with
  | none=>rw [hl] at h;cases h
  | some d =>
   rw [hl] at h
   rw [nF hg hl]
   exact h
structure LE where
 need:List Oid
 upd:List Oid
def LE.none:LE:=⟨[],[]⟩
def s8 {α β:Type}:List (α × β)→List α
 | []=>[]
 | q::l=>q.1::s8 l
theorem eN {α β:Type} {l:List (α × β)} {q:α × β} (h:q ∈ l):q.1 ∈ s8 l:=by
 induction l with
 | nil=>cases h
 | cons a l ih =>
  rcases List.mem_cons.1 h with rfl|h
  ·exact List.mem_cons_self
  ·exact List.mem_cons_of_mem _ (ih h)
def gD (e:Eff):LE:=⟨s8 e.need,s8 e.upd⟩
def nH (lg:Bool) (e:LE) (log:List LE):List LE:=if lg then e::log else log
def ev (P:Program) (md:Nat→Bool) (gl:List (Nat × Nat)) (p:Oid) (c:Nat) (lg:Bool) (C:Nat→List LOp→FuncId→List AV→List (Nat × AV)→Mem→List LE→Prop) (S:Nat→List LOp→List (Nat × AV)→Mem→List LE→Prop)
    (K:List (Nat × AV)→Mem→List LE→Prop):Nat→List LOp→List (Nat × AV)→Mem→List LE→Prop
 | _,[],fr,m,log=>K fr m log
 | i,o::rest,fr,m,log =>
  match jh gl o.guard (F fr) with
  | some b=>both b
    (match opL P m (.sub c i p) md (evA fr) o.dst o.op with
     | .eff e=>ev P md gl p c lg C S K (i+1) rest (put o.dst e.val fr) (m.aG e.upd) (nH lg (gD e) log)
     | .call f xs=>C i (o::rest) f xs fr m log
     | .no=>S i (o::rest) fr m log)
    (ev P md gl p c lg C S K (i+1) rest (put o.dst (.tuple []) fr) m (nH lg LE.none log))
  | none=>False
section
variable (P:Program) (md:Nat→Bool) (gl:List (Nat × Nat)) (p:Oid) (c:Nat) (lg:Bool) (C:Nat→List LOp→FuncId→List AV→List (Nat × AV)→Mem→List LE→Prop) (S:Nat→List LOp→List (Nat × AV)→Mem→List LE→Prop)
  (K:List (Nat × AV)→Mem→List LE→Prop) (i:Nat) (o:LOp) (rest:List LOp) (fr:List (Nat × AV)) (m:Mem) (log:List LE)
def evR (r:OpR):Prop:=match r with
 | .eff e=>ev P md gl p c lg C S K (i+1) rest (put o.dst e.val fr) (m.aG e.upd) (nH lg (gD e) log)
 | .call f xs=>C i (o::rest) f xs fr m log
 | .no=>S i (o::rest) fr m log
def evG (b:Option Bool):Prop:=match b with
 | some b=>both b (evR P md gl p c lg C S K i o rest fr m log (opL P m (.sub c i p) md (evA fr) o.dst o.op)) (ev P md gl p c lg C S K (i+1) rest (put o.dst (.tuple []) fr) m (nH lg LE.none log))
 | none=>False
theorem nr {α:Sort u} {a b:α} (h:a=b):a=b:=h
theorem xF:ev P md gl p c lg C S K i [] fr m log=K fr m log:=nr (by rw [ev])
theorem xG (dst:Option Nat) (op:Op):ev P md gl p c lg C S K i (⟨dst,op,none⟩::rest) fr m log=evR P md gl p c lg C S K i ⟨dst,op,none⟩ rest fr m log (opL P m (.sub c i p) md (evA fr) dst op):=nr (by
 rw [ev];simp only [jh,lx];rfl)
theorem s9 (dst:Option Nat) (op:Op) (j:Nat) (w:Bool):ev P md gl p c lg C S K i (⟨dst,op,some (j,w)⟩::rest) fr m log=evG P md gl p c lg C S K i ⟨dst,op,some (j,w)⟩ rest fr m log (jh gl (some (j,w)) (F fr)):=nr (by
 rw [ev];rfl)
theorem vU (e:Eff):evR P md gl p c lg C S K i o rest fr m log (.eff e)=ev P md gl p c lg C S K (i+1) rest (put o.dst e.val fr) (m.aG e.upd) (nH lg (gD e) log):=nr (by rw [evR])
theorem ta (f:FuncId) (xs:List AV):evR P md gl p c lg C S K i o rest fr m log (.call f xs)=C i (o::rest) f xs fr m log:=nr (by rw [evR])
theorem xH:evR P md gl p c lg C S K i o rest fr m log .no=S i (o::rest) fr m log:=nr (by rw [evR])
theorem tc:evG P md gl p c lg C S K i o rest fr m log (some true)=evR P md gl p c lg C S K i o rest fr m log (opL P m (.sub c i p) md (evA fr) o.dst o.op):=nr (by rw [evG];simp only [lx])
theorem rn:evG P md gl p c lg C S K i o rest fr m log (some false)=ev P md gl p c lg C S K (i+1) rest (put o.dst (.tuple []) fr) m (nH lg LE.none log):=nr (by rw [evG];simp only [pa])
variable {P md gl p c lg C S K i o rest fr m log}
theorem bG {b:Bool} (h1:b=true→evR P md gl p c lg C S K i o rest fr m log (opL P m (.sub c i p) md (evA fr) o.dst o.op)) (h2:b=false→ev P md gl p c lg C S K (i+1) rest (put o.dst (.tuple []) fr) m (nH lg LE.none log)) :
  evG P md gl p c lg C S K i o rest fr m log (some b):=⟨h1,h2⟩
end
section
variable {P:Program} [Laid P] {md:Nat→Bool} {ops:Array Oper} {p:Oid} {c:Nat} {gl:List (Nat × Nat)}
theorem eO {i:Nat} {o:Oper} {rest:List Oper} (h:ops.toList.drop i=o::rest):ops.toList.drop (i+1)=rest:=by
 have:(ops.toList.drop i).drop 1=rest:=by rw [h];rfl
 rwa [List.drop_drop] at this
def vV (P:Program) [Laid P] (md:Nat→Bool) (ops:Array Oper) (p:Oid) (c:Nat) (K:List (Nat × AV)→Mem→Prop) (Kp:AV→List (Nat × AV)→Mem→Prop):Nat→List LOp→FuncId→List AV→List (Nat × AV)→Mem→List LE→Prop :=
 fun i L f xs fr m _=>∀ o rest,ops.toList.drop i=o::rest→b6 (o::rest)=L→∃ need R Rp,bK P f xs (Oid.under (.sub c i p)) need R Rp∧(∀ q,q ∈ need→m q.1=some q.2)∧(∀ val upd,R val upd→dQ P md ops p c (i+1) rest (put o.dst val fr) (m.aG upd) K Kp)∧∀ pv upd,Rp pv upd→Kp pv fr (m.aG upd)
def zU (P:Program) [Laid P] (dst:Option Nat) (op:Op) (ρ:Operand→AV) (sp:Oid→Prop) (need:List (Oid × af)) (R Rp:AV→List (Oid × Option af)→Prop):Prop :=
 ∀ o:Oper,o.dst=dst→o.op=op→jg P o ρ sp need R Rp
def zV (P:Program) [Laid P] (dst:Option Nat) (op:Op) (ρ:Operand→AV) (sp:Oid→Prop) (e:Eff):Prop:=∀ o:Oper,o.dst=dst→o.op=op→aw P o ρ sp e
def zg (P:Program) [Laid P] (md:Nat→Bool) (ops:Array Oper) (p:Oid) (c:Nat) (K:List (Nat × AV)→Mem→Prop) (Kp:AV→List (Nat × AV)→Mem→Prop):Nat→List LOp→List (Nat × AV)→Mem→List LE→Prop :=
 fun i L fr m _=>∀ o rest,ops.toList.drop i=o::rest→b6 (o::rest)=L→∃ need R Rp,jg P o (evA fr) (Oid.under (.sub c i p)) need R Rp∧(∀ q,q ∈ need→m q.1=some q.2)∧(∀ val upd,R val upd→dQ P md ops p c (i+1) rest (put o.dst val fr) (m.aG upd) K Kp)∧∀ pv upd,Rp pv upd→Kp pv fr (m.aG upd)
theorem eP {K:List (Nat × AV)→Mem→Prop} {Kp:AV→List (Nat × AV)→Mem→Prop} {lg:Bool} (hg:kW ops gl=true):∀ (rest:List Oper) (i:Nat) (fr:List (Nat × AV)) (m:Mem) (log:List LE),ops.toList.drop i=rest →
  ev P md gl p c lg (vV P md ops p c K Kp) (zg P md ops p c K Kp) (fun fr m _=>K fr m) i (b6 rest) fr m log→dQ P md ops p c i rest fr m K Kp
 | [],_,_,_,_,_,h=>h
 | o::rest,i,fr,m,log,hd,h=>by
  simp only [b6,ev] at h
  simp only [dQ]
  cases hw:jh gl (j5 o).guard (F fr) with
  | none=>simp only [hw] at h
  | some b =>
   simp only [hw] at h
   rw [nG (o:=o) hg hw]
   cases b with
   | true =>
    have h:=h.1 rfl
    rw [pb]
    simp only [j5] at h
    simp only
    cases ho:opL P m (.sub c i p) md (evA fr) o.dst o.op with
    | eff e=>simp only [ho] at h;exact eP hg rest _ _ _ _ (eO hd) h
    | call f xs=>simp only [ho] at h;exact .inr (h o rest hd rfl)
    | no=>simp only [ho] at h;exact h o rest hd rfl
   | false=>exact eP hg rest _ _ _ _ (eO hd) (h.2 rfl)
def ji (ops:Array Oper) (i:Nat) (rest:List Oper) (log:List Eff):Prop:=(∀ j,rest[j]? = ops[i+j]?)∧log.length=i∧∀ (k:Nat) o e,ops[k]? = some o→log.reverse[k]? = some e→rj o e
def KT (ops:Array Oper) (K:List (Nat × AV)→Mem→List Eff→Prop) (fr:List (Nat × AV)) (m:Mem) (log:List Eff):Prop:=K fr m log∧∀ (k:Nat) o e,ops[k]? = some o→log.reverse[k]? = some e→rj o e
theorem ji.step {i:Nat} {o:Oper} {rest:List Oper} {log:List Eff} (h:ji ops i (o::rest) log) {e:Eff} (he:rj o e):ji ops (i+1) rest (e::log):=by
 obtain ⟨hl,hn,ht⟩:=h
 have h0:ops[i]? = some o:=by simpa using (hl 0).symm
 refine ⟨fun j=>by have:=hl (j+1);simpa [Nat.add_assoc,Nat.add_comm 1 j] using this,by simp [hn],?_⟩
 intro k o' e' ho' he'
 rw [List.reverse_cons] at he'
 by_cases hk:k < log.reverse.length
 ·rw [List.getElem?_append_left hk] at he';exact ht k o' e' ho' he'
 ·rw [List.getElem?_append_right (by omega)] at he'
  have hk0:k - log.reverse.length=0:=by
   cases hz:k - log.reverse.length with
   | zero=>rfl
   | succ z=>rw [hz] at he';simp at he'
  have hki:k=i:=by rw [List.length_reverse,hn] at hk0 hk;omega
  subst hki
  rw [hk0] at he'
  simp only [List.getElem?_cons_zero,Option.some.injEq] at he'
  rw [h0] at ho';simp only [Option.some.injEq] at ho'
  subst ho';subst he';exact he
theorem ji.drop {i:Nat} {rest:List Oper} {log:List Eff} (h:ji ops i rest log):ops.toList.drop i=rest:=by
 apply List.ext_getElem?
 intro j
 rw [List.getElem?_drop,h.1 j];simp
def qp (P:Program) [Laid P] (ops:Array Oper) (p:Oid) (c:Nat) (K:List (Nat × AV)→Mem→List LE→Prop):Nat→List LOp→FuncId→List AV→List (Nat × AV)→Mem→List LE→Prop :=
 fun i L f xs fr m lg=>∀ o rest log,ji ops i (o::rest) log→log.map gD=lg→b6 (o::rest)=L→(dq o.op=false∧dP o.op=false)→∃ e,ak P f xs (Oid.under (.sub c i p)) e∧(∀ q,q ∈ e.need→m q.1=some q.2) ∧
     b9 P ops p c (i+1) rest (put o.dst e.val fr) (m.aG e.upd) (e::log) (KT ops fun fr m log=>K fr m (log.map gD))
def xm (P:Program) [Laid P] (ops:Array Oper) (p:Oid) (c:Nat) (K:List (Nat × AV)→Mem→List LE→Prop):Nat→List LOp→List (Nat × AV)→Mem→List LE→Prop :=
 fun i L fr m lg=>∀ o rest log,ji ops i (o::rest) log→log.map gD=lg→b6 (o::rest)=L→∃ e,aw P o (evA fr) (Oid.under (.sub c i p)) e∧(∀ q,q ∈ e.need→m q.1=some q.2) ∧
     b9 P ops p c (i+1) rest (put o.dst e.val fr) (m.aG e.upd) (e::log) (KT ops fun fr m log=>K fr m (log.map gD))
theorem dR {K:List (Nat × AV)→Mem→List LE→Prop} (hg:kW ops gl=true):∀ (rest:List Oper) (i:Nat) (fr:List (Nat × AV)) (m:Mem) (log:List Eff),ji ops i rest log →
  ev P md gl p c true (qp P ops p c K) (xm P ops p c K) K i (b6 rest) fr m (log.map gD)→b9 P ops p c i rest fr m log (KT ops fun fr m log=>K fr m (log.map gD))
 | [],_,_,_,_,hL,h=>⟨h,hL.2.2⟩
 | o::rest,i,fr,m,log,hL,h=>by
  simp only [b6,ev] at h
  simp only [b9]
  cases hw:jh gl (j5 o).guard (F fr) with
  | none=>simp only [hw] at h
  | some b =>
   simp only [hw] at h
   rw [nG (o:=o) hg hw]
   cases b with
   | true =>
    have h:=h.1 rfl
    simp only [j5] at h
    simp only
    cases ho:opL P m (.sub c i p) md (evA fr) o.dst o.op with
    | eff e =>
     simp only [ho] at h
     rw [← pb] at ho
     obtain ⟨h1,h2⟩:=sV (sp:=Oid.under (.sub c i p)) (Oid.ah _) (fun t=>Oid.mV t _) rfl ho
     exact ⟨e,h1,h2,dR hg rest _ _ _ (e::log) (hL.step ⟨fun hi=>sX hi ho,fun hi=>sY hi ho⟩) h⟩
    | call f xs =>
     simp only [ho] at h
     rw [← pb] at ho
     have i1:dq o.op=false:=by
      cases hi:dq o.op with
      | false=>rfl
      | true=>exact (kT hi ho).elim
     have i2:dP o.op=false:=by
      cases hi:dP o.op with
      | false=>rfl
      | true=>exact (kU hi ho).elim
     obtain ⟨e,h1,h2,h3⟩:=h o rest log hL rfl rfl ⟨i1,i2⟩
     exact ⟨e,nz ho h1,h2,h3⟩
    | no =>
     simp only [ho] at h
     exact h o rest log hL rfl rfl
   | false=>exact dR hg rest _ _ _ (Eff.none::log) (hL.step ⟨fun _=>⟨rfl,rfl⟩,fun _=>rfl⟩) (h.2 rfl)
def qq (a b:LE):Prop:=(∀ i,i ∈ a.upd→∀ j,j ∈ b.need→i≠j)∧(∀ i,i ∈ a.upd→∀ j,j ∈ b.upd→i≠j)∧(∀ i,i ∈ a.need→∀ j,j ∈ b.upd→i≠j)
def nI (E:List LE):List (Nat × Nat)→Prop
 | []=>True
 | (i,j)::r=>qq (E.getD i LE.none) (E.getD j LE.none)∧nI E r
theorem nJ {a b:LE} (ha:a.upd=[]) (hb:b.upd=[]):qq a b:=by
 unfold qq;rw [ha,hb]
 refine ⟨?_,?_,?_⟩<;>intro i h j k<;>first|(cases h;done)|(cases k;done)
theorem aE {E:List LE} (h:(E.all fun e=>e.upd.isEmpty)=true):∀ {U:List (Nat × Nat)},nI E U
 | []=>trivial
 | (i,j)::r=>by
  have hget:∀ k,(E.getD k LE.none).upd=[]:=fun k=>by
   rw [List.getD_eq_getElem?_getD]
   cases hk:E[k]? with
   | none=>rfl
   | some e =>
    rw [List.all_eq_true] at h
    exact List.isEmpty_iff.1 (h e (List.mem_of_getElem? hk))
  exact ⟨nJ (hget i) (hget j),aE h⟩
theorem lz {E:List Eff}:∀ {U:List (Nat × Nat)},nI (E.map gD) U→sZ E U
 | [],_=>trivial
 | (i,j)::r,h=>by
  have hget:∀ k,(E.map gD).getD k LE.none=gD (E.getD k Eff.none):=fun k=>by
   simp only [List.getD_eq_getElem?_getD,List.getElem?_map]
   cases E[k]? <;> rfl
  simp only [nI,hget] at h
  obtain ⟨⟨h1,h2,h3⟩,h4⟩:=h
  exact ⟨⟨fun q hq q' hq'=>h1 _ (eN hq) _ (eN hq'),fun q hq q' hq'=>h2 _ (eN hq) _ (eN hq'),fun q hq q' hq'=>h3 _ (eN hq) _ (eN hq')⟩,lz h4⟩
end
end Go.Ab
namespace Go.Ab
inductive Pc where
 | code (c:Code)
 | bend (id:Nat)
 | lend (ts:List Nat) (I:Nat→AS→Prop) (k:Nat)
def after (P:Program) (x:Ctx) (n:Nat) (Q:AX→AS→Prop):List Pc→AX→AS→Prop
 | [],e,s=>Q e s
 | k::ks,e,s=>match k,e with
  | .code c,.normal=>T P x n c s (after P x n Q ks)
  | .lend ts I k,.normal=>∃ k' m',k' < k∧(∀ i o,m' i=some o→s.mem i=some o)∧I k' ⟨bP ts s.fr,m',s.c,s.ds⟩
  | .bend j,.exit i=>if i=j then after P x n Q ks .normal s else after P x n Q ks (.exit i) s
  | _,e=>after P x n Q ks e s
section
variable {P:Program} [Laid P] {x:Ctx} {n:Nat} {Q:AX→AS→Prop} {ks:List Pc} {s:AS} {fr:List (Nat × AV)} {m:Mem} {c:Nat} {ds:List AD}
theorem td {a:Code} (h:T P x n a s (after P x n Q ks)):after P x n Q (.code a::ks) .normal s:=h
theorem dS {e:AX} (h:Q e s):after P x n Q [] e s:=h
theorem xI {i:Nat} (h:after P x n Q ks .normal s):after P x n Q (.bend i::ks) (.exit i) s:=by simp only [after,if_true];exact h
theorem zW {i j:Nat} (hj:(Nat.beq i j)=false) (h:after P x n Q ks (.exit i) s):after P x n Q (.bend j::ks) (.exit i) s:=by
 have:¬ i=j:=fun e=>by subst e;simp at hj
 simp only [after,if_neg this];exact h
theorem fR:∀ {ks:List Pc},Q .ret s→after P x n Q ks .ret s
 | [],h=>h
 | .code _::ks,h=>fR (ks:=ks) h
 | .bend _::ks,h=>fR (ks:=ks) h
 | .lend .. :: ks,h=>fR (ks:=ks) h
theorem dn {v:AV}:∀ {ks:List Pc},Q (.panic v) s→after P x n Q ks (.panic v) s
 | [],h=>h
 | .code _::ks,h=>dn (ks:=ks) h
 | .bend _::ks,h=>dn (ks:=ks) h
 | .lend .. :: ks,h=>dn (ks:=ks) h
theorem zh {a b:Code} (h:T P x n a s (after P x n Q (.code b::ks))):T P x n (.seq a b) s (after P x n Q ks) :=
 zb (iM h fun e s h=>by cases e<;>exact h)
theorem xJ (h:after P x n Q ks .normal s):T P x n .skip s (after P x n Q ks):=xw h
theorem ar (h:Q .ret s):T P x n .ret s (after P x n Q ks):=y9 (fR h)
theorem xK {i:Nat} (h:after P x n Q ks (.exit i) s):T P x n (.exit i) s (after P x n Q ks):=xx h
theorem dc {id:Nat} {a:Code} (h:T P x n a s (after P x n Q (.bend id::ks))):T P x n (.block id a) s (after P x n Q ks) :=
 vw (iM h fun e s h=>by cases e<;>first|exact h|(simp only [after] at h;simp only [AX.inBlock];split<;>simp_all))
theorem aT (ts:List Nat) {a:Code} (I:Nat→AS→Prop) (k:Nat) (h0:I k ⟨bP ts fr,m,c,ds⟩)
  (round:∀ k s,I k s→T P x n a s (after P x n Q (.lend ts I k::ks))):T P x n (.loop a) ⟨fr,m,c,ds⟩ (after P x n Q ks):=by
 refine xz (fun k s=>∃ m',(∀ i o,m' i=some o→s.mem i=some o)∧I k ⟨bP ts s.fr,m',s.c,s.ds⟩) k ⟨m,fun _ _ h=>h,h0⟩ ?_
 rintro k ⟨fr',m1,c',ds'⟩ ⟨m',hm,hi⟩
 refine jI (s:=⟨fr',m1,c',ds'⟩) (bP ts fr') (fun t _=>l9 ts fr' t) ?_
 refine oT (s:=⟨bP ts fr',m1,c',ds'⟩) m' hm ?_
 refine iM (round k _ hi) fun e s h=>?_
 cases e with
 | normal=>obtain ⟨k',m',h1,h2,h3⟩:=h;exact ⟨k',h1,m',h2,h3⟩
 | _=>exact h
theorem rp {t:Nat} {a b:Code} {v:Bool} (ht:(decide (t < n))=true) (hv:F fr t = .bool v) (h1:v=true→T P x n a ⟨fr,m,c,ds⟩ (after P x n Q ks)) (h2:v=false→T P x n b ⟨fr,m,c,ds⟩ (after P x n Q ks)) :
  T P x n (.cond (.tmp t) a b) ⟨fr,m,c,ds⟩ (after P x n Q ks):=zd ht hv h1 h2
theorem aY {t:Nat} {a b:Code} {p:Prop} {i:Decidable p} (ht:(decide (t < n))=true) (hv:F fr t = .bool (decide p)) (h1:p→T P x n a ⟨fr,m,c,ds⟩ (after P x n Q ks)) (h2:¬ p→T P x n b ⟨fr,m,c,ds⟩ (after P x n Q ks)) :
  T P x n (.cond (.tmp t) a b) ⟨fr,m,c,ds⟩ (after P x n Q ks):=zd ht hv (fun h=>h1 (of_decide_eq_true h)) (fun h=>h2 (of_decide_eq_false h))
theorem aA {t:Nat} {a b:Code} (ht:(decide (t < n))=true) (hv:F fr t = .bool true) (h1:T P x n a ⟨fr,m,c,ds⟩ (after P x n Q ks)):T P x n (.cond (.tmp t) a b) ⟨fr,m,c,ds⟩ (after P x n Q ks):=rp ht hv (fun _=>h1) (fun h=>by cases h)
theorem aB {t:Nat} {a b:Code} (ht:(decide (t < n))=true) (hv:F fr t = .bool false) (h1:T P x n b ⟨fr,m,c,ds⟩ (after P x n Q ks)):T P x n (.cond (.tmp t) a b) ⟨fr,m,c,ds⟩ (after P x n Q ks):=rp ht hv (fun h=>by cases h) (fun _=>h1)
def Cut (P:Program) (x:Ctx) (n:Nat) (Q:AX→AS→Prop) (ks:List Pc) (ts:List Nat) (R:AS→Prop):AX→AS→Prop
 | .normal,s=>∃ m',(∀ i o,m' i=some o→s.mem i=some o)∧R ⟨bP ts s.fr,m',s.c,s.ds⟩
 | e,s=>after P x n Q ks e s
theorem xn {a b:Code} (ts:List Nat) (R:AS→Prop) (h:T P x n a s (after P x n (Cut P x n Q ks ts R) [])) (h2:∀ s,R s→T P x n b s (after P x n Q ks)):T P x n a s (after P x n Q (.code b::ks)) :=
 iM h fun e s h=>by
  cases e with
  | normal =>
   obtain ⟨m',h1,h3⟩:=h
   obtain ⟨fr',m1,c',ds'⟩:=s
   refine jI (s:=⟨fr',m1,c',ds'⟩) (bP ts fr') (fun t _=>l9 ts fr' t) ?_
   exact oT (s:=⟨bP ts fr',m1,c',ds'⟩) m' h1 (h2 _ h3)
  | _=>exact h
theorem j6 {ts:List Nat} {R:AS→Prop} (h:R ⟨bP ts fr,m,c,ds⟩):after P x n (Cut P x n Q ks ts R) [] .normal ⟨fr,m,c,ds⟩:=⟨m,fun _ _ h=>h,h⟩
theorem xL {a:Code} (fr':List (Nat × AV)) (hk:fr'.all (fun q=>decide (q.1 < n))=true) (hv:∀ q,q ∈ fr'→q.2=F fr q.1) (h:T P x n a ⟨fr',m,c,ds⟩ Q):T P x n a ⟨fr,m,c,ds⟩ Q:=by
 refine jI (s:=⟨fr,m,c,ds⟩) fr' (fun t _=>?_) h
 clear hk h
 induction fr' with
 | nil=>exact .inl rfl
 | cons q l ih =>
  simp only [F]
  split
  ·rename_i h;right;rw [hv q List.mem_cons_self,h]
  ·exact ih fun q' hq'=>hv q' (List.mem_cons_of_mem _ hq')
theorem rq {a:Code} (t sz:Nat) (ht:F fr t = .nilSl) (h:T P x n a ⟨(t,.list sz [])::fr,m,c,ds⟩ Q):T P x n a ⟨fr,m,c,ds⟩ Q:=by
 refine eU (s:=⟨fr,m,c,ds⟩) (s':=⟨(t,.list sz [])::fr,m,c,ds⟩) (fun g b w hr=>⟨g,hr.mr,hr.tm,hr.df,fun u hu=>?_,hr.young⟩) h
 simp only [F]
 split
 ·rename_i e;subst e
  have:=hr.fr u hu
  simp only [ht] at this
  rw [this.bh];exact .listNil _
 ·exact hr.fr u hu
theorem fD {a:Code} (t sz:Nat) (ht:F fr t = .nilSl) (h:T P x n a ⟨(t,.sl (.sub c 0 x.p) sz 0)::fr,m.set (.sub c 0 x.p) (some (.arr sz [])),c+1,ds⟩ Q):T P x n a ⟨fr,m,c,ds⟩ Q:=by
 refine eU (s:=⟨fr,m,c,ds⟩) _ (fun g b w hr=>?_) h
 have hl:g.loc (.sub c 0 x.p)=none:=hr.young _ ⟨c,0,Nat.le_refl _,Oid.ah _⟩
 have hle:=Gh.gx hl
 refine ⟨g.bC (.sub c 0 x.p),hr.mr.qi sz hl (Oid.aj (Oid.ah _)),hr.tm,hr.df.mono hle,fun u hu=>?_,fun i hi=>?_⟩
 ·simp only [F]
  split
  ·rename_i e;subst e
   have:=hr.fr u hu
   simp only [ht] at this
   rw [this.bh]
   exact .slNil _ _ (by simp [Gh.bC])
  ·exact (hr.fr u hu).mono hle
 ·simp only [Gh.bC]
  split
  ·rename_i e;subst e
   obtain ⟨c',i',h1,h2⟩:=hi
   have:=(Oid.apart (Oid.ah _) h2).1
   simp only at h1
   omega
  ·exact hr.young i (hi.mono (Nat.le_succ _))
def mg (i:Oid) (sz:Nat) (xs:List AV):AV→AV
 | .sl j s n=>if j=i∧s=sz∧n=xs.length then .list sz xs else .sl j s n
 | v=>v
def frz (i:Oid) (sz:Nat) (xs:List AV):List (Nat × AV)→List (Nat × AV)
 | []=>[]
 | q::l=>(q.1,mg i sz xs q.2)::frz i sz xs l
theorem tf (i:Oid) (sz:Nat) (xs:List AV) (t:Nat):∀ fr,F (frz i sz xs fr) t=mg i sz xs (F fr t)
 | []=>rfl
 | q::l=>by
  simp only [frz,F]
  split
  ·rfl
  ·exact tf i sz xs t l
theorem cm {a:Code} (i:Oid) (sz:Nat) (xs:List AV) (hi:m i=some (.arr sz xs)) (h:T P x n a ⟨frz i sz xs fr,m.set i none,c,ds⟩ Q):T P x n a ⟨fr,m,c,ds⟩ Q:=by
 refine sW (s:=⟨fr,m,c,ds⟩) i (frz i sz xs fr) hi (fun t _=>?_) h
 rw [tf]
 generalize F fr t=v
 unfold mg
 split
 ·split
  ·rename_i h;obtain ⟨rfl,rfl,rfl⟩:=h;exact .inr (.inr ⟨rfl,rfl⟩)
  ·exact .inr (.inl rfl)
 ·exact .inr (.inl rfl)
theorem xM {a:Code} (m':Mem) (hm:∀ i o,m' i=some o→m i=some o) (h:T P x n a ⟨fr,m',c,ds⟩ Q):T P x n a ⟨fr,m,c,ds⟩ Q:=oT (s:=⟨fr,m,c,ds⟩) m' hm h
theorem az {id:Nat} {ops:Array Oper} (md:Nat→Bool) (gl:List (Nat × Nat)) (hng:Fit P x) (hok:(xl n P.globals.size ops && kW ops gl)=true)
  (h:mX x.p c m→∀ C S (K:List (Nat × AV)→Mem→List LE→Prop),
   (∀ {i o rest f xs fr m log} e,ak P f xs (Oid.under (.sub c i x.p)) e→(∀ q,q ∈ e.need→m q.1=some q.2)→ev P md gl x.p c false C S K (i+1) rest (put o.dst e.val fr) (m.aG e.upd) log→C i (o::rest) f xs fr m log) →
   (∀ {i o rest f xs fr m log} need R Rp,bK P f xs (Oid.under (.sub c i x.p)) need R Rp→(∀ q,q ∈ need→m q.1=some q.2)→(∀ val upd,R val upd→ev P md gl x.p c false C S K (i+1) rest (put o.dst val fr) (m.aG upd) log) →
    (∀ pv upd,Rp pv upd→Q (.panic pv) ⟨fr,m.aG upd,c+1,ds⟩)→C i (o::rest) f xs fr m log) →
   (∀ {i o rest fr m log} need R Rp,zU P o.dst o.op (evA fr) (Oid.under (.sub c i x.p)) need R Rp→(∀ q,q ∈ need→m q.1=some q.2)→(∀ val upd,R val upd→ev P md gl x.p c false C S K (i+1) rest (put o.dst val fr) (m.aG upd) log) →
    (∀ pv upd,Rp pv upd→Q (.panic pv) ⟨fr,m.aG upd,c+1,ds⟩)→S i (o::rest) fr m log) →
   (∀ {fr m log},after P x n Q ks .normal ⟨fr,m,c+1,ds⟩→K fr m log) →
   ev P md gl x.p c false C S K 0 (b6 ops.toList) fr m []):T P x n (.region id ops false) ⟨fr,m,c,ds⟩ (after P x n Q ks):=by
 simp only [Bool.and_eq_true] at hok
 obtain ⟨hok,hgl⟩:=hok
 refine nB md hng hok fun hf=>?_
 let K0:List (Nat × AV)→Mem→Prop:=fun fr m=>after P x n Q ks .normal ⟨fr,m,c+1,ds⟩
 let Kp:AV→List (Nat × AV)→Mem→Prop:=fun pv fr m=>after P x n Q ks (.panic pv) ⟨fr,m,c+1,ds⟩
 refine eP (md:=md) (lg:=false) (K:=K0) (Kp:=Kp) hgl _ _ _ _ [] (by simp) ?_
 refine h hf _ _ _ ?_ ?_ ?_ ?_
 ·intro i o rest f xs fr m log e h1 h2 h3 o' rest' hd hl
  simp only [b6,List.cons.injEq] at hl
  obtain ⟨rfl,rfl⟩:=hl
  exact ⟨_,_,_,h1.nd,h2,fun val upd ⟨hv,hu⟩=>by subst hv;subst hu;exact eP hgl _ _ _ _ log (eO hd) h3,fun _ _ h=>h.elim⟩
 ·intro i o rest f xs fr m log need R Rp h1 h2 h3 h4 o' rest' hd hl
  simp only [b6,List.cons.injEq] at hl
  obtain ⟨rfl,rfl⟩:=hl
  exact ⟨need,R,Rp,h1,h2,fun val upd hr=>eP hgl _ _ _ _ log (eO hd) (h3 val upd hr),fun pv upd hr=>dn (h4 pv upd hr)⟩
 ·intro i o rest fr m log need R Rp h1 h2 h3 h4 o' rest' hd hl
  simp only [b6,List.cons.injEq] at hl
  obtain ⟨rfl,rfl⟩:=hl
  exact ⟨need,R,Rp,h1 o' rfl rfl,h2,fun val upd hr=>eP hgl _ _ _ _ log (eO hd) (h3 val upd hr),fun pv upd hr=>dn (h4 pv upd hr)⟩
 ·intro fr m log h
  exact h
theorem bA {id:Nat} {ops:Array Oper} (md:Nat→Bool) (gl:List (Nat × Nat)) (U:List (Nat × Nat)) (hmx:P.follows .mixedOrders=true) (hng:Fit P x) (hok:(s5 n P.globals.size ops U && kW ops gl)=true) (ts:List Nat)
  (h:mX x.p c m→∀ C S (K:List (Nat × AV)→Mem→List LE→Prop),
   (∀ {i o rest f xs fr m log} e,ak P f xs (Oid.under (.sub c i x.p)) e→(∀ q,q ∈ e.need→m q.1=some q.2)→ev P md gl x.p c true C S (fun fr m log=>K (bP ts fr) m log) (i+1) rest (put o.dst e.val fr) (m.aG e.upd) (gD e::log)→C i (o::rest) f xs fr m log) →
   (∀ {i o rest fr m log} e,zV P o.dst o.op (evA fr) (Oid.under (.sub c i x.p)) e→dq o.op=false→dP o.op=false→(∀ q,q ∈ e.need→m q.1=some q.2)→ev P md gl x.p c true C S (fun fr m log=>K (bP ts fr) m log) (i+1) rest (put o.dst e.val fr) (m.aG e.upd) (gD e::log)→S i (o::rest) fr m log) →
   (∀ {fr m log},nI log.reverse U→after P x n Q ks .normal ⟨fr,m,c+1,ds⟩→K fr m log) →
   ev P md gl x.p c true C S (fun fr m log=>K (bP ts fr) m log) 0 (b6 ops.toList) fr m []):T P x n (.region id ops true) ⟨fr,m,c,ds⟩ (after P x n Q ks):=by
 simp only [Bool.and_eq_true] at hok
 obtain ⟨hok,hgl⟩:=hok
 simp only [s5,Bool.and_eq_true] at hok
 obtain ⟨⟨k1,k2⟩,k3⟩:=hok
 have key:=kP (P:=P) (x:=x) (n:=n) (s:=⟨fr,m,c,ds⟩) (Q:=fun e s=>e = .normal∧after P x n Q ks .normal ⟨bP ts s.fr,s.mem,s.c,s.ds⟩) (id:=id) hmx hng k1 k2 fun hf=>by
  have h1:=dR (P:=P) (md:=md) (ops:=ops) (p:=x.p) (c:=c) (K:=fun fr m log=>nI log.reverse U∧after P x n Q ks .normal ⟨bP ts fr,m,c+1,ds⟩) hgl ops.toList 0 fr m [] ⟨fun j=>by simp,rfl,fun k o e _ he=>by simp at he⟩
   (h hf (qp P ops x.p c _) (xm P ops x.p c _) (fun fr m log=>nI log.reverse U∧after P x n Q ks .normal ⟨fr,m,c+1,ds⟩)
    (fun {i o rest f xs fr m log} e h1 h2 h3=>fun o' rest' log' hL hlg hl hi=>by
     simp only [b6,List.cons.injEq] at hl
     obtain ⟨rfl,rfl⟩:=hl
     subst hlg
     exact ⟨e,h1,h2,dR hgl _ _ _ _ (e::log') (hL.step (show rj o' e from ⟨fun h=>absurd h (by simp [hi.1]),fun h=>absurd h (by simp [hi.2])⟩)) h3⟩)
    (fun {i o rest fr m log} e h1 i1 i2 h2 h3=>fun o' rest' log' hL hlg hl=>by
     simp only [b6,List.cons.injEq] at hl
     obtain ⟨rfl,rfl⟩:=hl
     subst hlg
     simp only [j5] at i1 i2
     exact ⟨e,h1 o' rfl rfl,h2,dR hgl _ _ _ _ (e::log') (hL.step (show rj o' e from ⟨fun h=>absurd h (by simp [i1]),fun h=>absurd h (by simp [i2])⟩)) h3⟩)
    (fun {fr m log} h1 h2=>⟨h1,h2⟩))
  refine eA (N:=ops.size) ?_ _ _ _ _ _ (by simp) h1
  rintro fr1 m1 log hlen ⟨⟨hd,hq⟩,ht⟩
  refine ⟨rk k3 (by simpa using hlen) ht (lz (by rw [List.map_reverse];exact hd)),fun fr' hF=>⟨rfl,?_⟩⟩
  have:bP ts fr' = bP ts fr1:=by simp only [ri,hF]
  rw [this];exact hq
 intro g a w hr
 refine wpIn_mono (key g a w hr) fun e a' w' ⟨g',ex,s',h1,h2,h4,h5⟩=>?_
 subst h4
 exact ⟨g',.normal,⟨bP ts s'.fr,s'.mem,s'.c,s'.ds⟩,h1.forget _ (fun t _=>l9 ts s'.fr t),h2,h5⟩
end
theorem pc {P:Program} [Laid P] {f:FuncId} {fn:Func} {n:Nat} {rs:List ResultVar} {c:Code} {xs:List AV} {p:Oid} {need:List (Oid × af)} {R Rp:AV→List (Oid × Option af)→Prop} (hf:P.funcs[f]? = some fn) (hn:fn.ntmps=n) (hr:fn.results.toList=rs)
  (hnm:(fn.name != "runtime.NumGoroutine")=true) (hl:(Nat.ble xs.length n)=true) (hok:eB n rs=true) (hb:fn.body=some c)
  (hT:∀ x:Ctx,x.p=p→x.rd=none→Fit P x→T P x n c ⟨cR 0 xs,Mem.of need,0,[]⟩ (after P x n (eK P rs need R Rp) [])):bK P f xs (Oid.under p) need R Rp :=
 rm hf hn hr hnm hl hok hb fun x h1 h2 h3=>iM (hT x h1 h2 h3) fun _ _ h=>h
theorem aK {P:Program} [Laid P] {f:FuncId} {fn:Func} {n:Nat} {rs:List ResultVar} {c:Code} {xs:List AV} {p:Oid} {e:Eff} (hf:P.funcs[f]? = some fn) (hn:fn.ntmps=n) (hr:fn.results.toList=rs)
  (hnm:(fn.name != "runtime.NumGoroutine")=true) (hl:(Nat.ble xs.length n)=true) (hok:eB n rs=true) (hb:fn.body=some c)
  (hT:∀ x:Ctx,x.p=p→x.rd=none→Fit P x→T P x n c ⟨cR 0 xs,Mem.of e.need,0,[]⟩ (after P x n (eK P rs e.need (fun v u=>v=e.val∧u=e.upd) fun _ _=>False) [])):ak P f xs (Oid.under p) e :=
 (pc hf hn hr hnm hl hok hb hT).ok
theorem cn {P:Program} {rs:List ResultVar} {need:List (Oid × af)} {R Rp:AV→List (Oid × Option af)→Prop} {fr:List (Nat × AV)} {m:Mem} {c:Nat} (val:AV) (upd:List (Oid × Option af)) (h1:jZ P m fr rs=some val) (h2:R val upd)
  (h3:∀ i o,((Mem.of need).aG upd) i=some o→m i=some o):eK P rs need R Rp .ret ⟨fr,m,c,[]⟩:=⟨val,upd,h1,h2,h3⟩
theorem eo {P:Program} {rs:List ResultVar} {need:List (Oid × af)} {R Rp:AV→List (Oid × Option af)→Prop} {fr:List (Nat × AV)} {m:Mem} {c:Nat} (val:AV) (upd:List (Oid × Option af)) (h1:jZ P m fr rs=some val) (h2:R val upd)
  (h3:∀ i o,((Mem.of need).aG upd) i=some o→m i=some o):eK P rs need R Rp .normal ⟨fr,m,c,[]⟩:=⟨val,upd,h1,h2,h3⟩
theorem aq {P:Program} {rs:List ResultVar} {val:AV} {fr:List (Nat × AV)} {m:Mem} {c:Nat} (h1:jZ P m fr rs=some val):eK P rs [] (fun v u=>v=val∧u=[]) (fun _ _=>False) .ret ⟨fr,m,c,[]⟩ :=
 cn val [] h1 ⟨rfl,rfl⟩ fun i o h=>by cases h
theorem a6 {P:Program} {t:Nat} {val:AV} {fr:List (Nat × AV)} {m:Mem} {c:Nat} (h1:F fr t=val):eK P [.tmp t] [] (fun v u=>v=val∧u=[]) (fun _ _=>False) .ret ⟨fr,m,c,[]⟩ :=
 aq (by simp only [jZ,mb,h1,vS])
end Go.Ab
namespace Go.Ab
def gd (p:Prop) [Decidable p] (v:Option AV):Option AV:=if p then v else none
theorem xN {p:Prop} [Decidable p] {v:Option AV} (h:p):gd p v=v:=if_pos h
def gdR (p:Prop) [Decidable p] (v:OpR):OpR:=if p then v else .no
theorem vW {p:Prop} [Decidable p] {v:OpR} (h:p):gdR p v=v:=if_pos h
theorem qu [Decidable True] (v:Option AV):gd True v=v:=if_pos trivial
theorem tg [Decidable True] (v:OpR):gdR True v=v:=if_pos trivial
theorem pd (s:List UInt8) (k:IntKind) (n:Int):iQ (some .str) (.str s) (.int k n)=gd (0≤n∧n < s.length) (some (.int .u8 (s.getD n.toNat 0).toNat)):=rfl
theorem jy (el:TypeId) (ag:Bool) (sz by' sz':Nat) (xs:List AV) (k:IntKind) (n:Int):cD (some (.slice el ag sz by')) (.list sz' xs) (.int k n)=gd (sz' = sz∧0≤n∧n < xs.length) (some (.eptr (xs.getD n.toNat .undef))):=rfl
theorem kX (el:TypeId) (ag:Bool) (sz by' sz' len:Nat) (id:Oid) (k:IntKind) (n:Int):cD (some (.slice el ag sz by')) (.sl id sz' len) (.int k n)=gd (sz' = sz∧0≤n∧n < len) (some (.aptr id sz n.toNat 0)):=rfl
theorem j7 (el:TypeId) (ag:Bool) (sz len off:Nat) (id:Oid) (k:IntKind) (n:Int):cD (some (.arr len el ag sz)) (.ptr id off) (.int k n)=gd (0≤n∧n < len) (some (.ptr id (off+n.toNat * sz))):=rfl
theorem nK (s:List UInt8) (k:IntKind) (l:Int):bT (some .str) (.str s) (some (.int k l)) none=gd (0≤l∧l≤s.length) (some (.str (s.drop l.toNat))):=by
 simp only [bT,bF,gd]
 by_cases h:0≤l∧l≤s.length
 ·rw [if_pos h,if_pos ⟨h.1,h.2,Int.le_refl _⟩];simp
 ·rw [if_neg h,if_neg (fun h'=>h ⟨h'.1,h'.2.1⟩)]
theorem nL (s:List UInt8) (k:IntKind) (h:Int):bT (some .str) (.str s) none (some (.int k h))=gd (0≤h∧h≤s.length) (some (.str (s.take h.toNat))):=by
 simp only [bT,bF,gd]
 by_cases hc:0≤h∧h≤s.length
 ·rw [if_pos hc,if_pos ⟨Int.le_refl _,hc.1,hc.2⟩];simp
 ·rw [if_neg hc,if_neg (fun h'=>hc ⟨h'.2.1,h'.2.2⟩)]
theorem nM (s:List UInt8) (k k':IntKind) (l h:Int):bT (some .str) (.str s) (some (.int k l)) (some (.int k' h))=gd (0≤l∧l≤h∧h≤s.length) (some (.str ((s.take h.toNat).drop l.toNat))):=rfl
theorem mh (el:TypeId) (ag:Bool) (sz by' sz':Nat) (xs:List AV) (k:IntKind) (l:Int):bT (some (.slice el ag sz by')) (.list sz' xs) (some (.int k l)) none=gd (sz' = sz∧0≤l∧l≤xs.length) (some (.list sz (xs.drop l.toNat))):=by
 simp only [bT,bF,gd]
 by_cases h:sz' = sz∧0≤l∧l≤xs.length
 ·rw [if_pos h,if_pos ⟨h.1,h.2.1,h.2.2,Int.le_refl _⟩];simp
 ·rw [if_neg h,if_neg (fun h'=>h ⟨h'.1,h'.2.1,h'.2.2.1⟩)]
theorem mi (el:TypeId) (ag:Bool) (sz by' sz':Nat) (xs:List AV) (k:IntKind) (h:Int):bT (some (.slice el ag sz by')) (.list sz' xs) none (some (.int k h))=gd (sz' = sz∧0≤h∧h≤xs.length) (some (.list sz (xs.take h.toNat))):=by
 simp only [bT,bF,gd]
 by_cases hc:sz' = sz∧0≤h∧h≤xs.length
 ·rw [if_pos hc,if_pos ⟨hc.1,Int.le_refl _,hc.2.1,hc.2.2⟩];simp
 ·rw [if_neg hc,if_neg (fun h'=>hc ⟨h'.1,h'.2.2.1,h'.2.2.2⟩)]
theorem mj (el:TypeId) (ag:Bool) (sz by' sz':Nat) (xs:List AV) (k k':IntKind) (l h:Int):bT (some (.slice el ag sz by')) (.list sz' xs) (some (.int k l)) (some (.int k' h))=gd (sz' = sz∧0≤l∧l≤h∧h≤xs.length) (some (.list sz ((xs.take h.toNat).drop l.toNat))):=rfl
theorem pf (el:TypeId) (ag:Bool) (sz len:Nat) (cs:List AV) (k:IntKind) (n:Int):iQ (some (.arr len el ag sz)) (.agg cs) (.int k n)=gd (0≤n∧n < len∧n.toNat * sz+sz≤cs.length∧(ag=true∨sz=1)) (some (fY ag cs (n.toNat * sz) sz)):=rfl
theorem nN (el:TypeId) (ag:Bool) (sz len:Nat) (id:Oid) (k:IntKind) (l:Int):bT (some (.arr len el ag sz)) (.ptr id 0) (some (.int k l)) none=gd (0≤l∧l < len) (some (.win id sz l.toNat (len - l.toNat))):=by
 simp only [bT,bF,gd,Int.toNat_natCast]
 by_cases h:0≤l∧l < len
 ·rw [if_pos h,if_pos ⟨trivial,h.1,h.2,by omega,Int.le_refl _⟩]
 ·rw [if_neg h,if_neg (fun h'=>h ⟨h'.2.1,h'.2.2.1⟩)]
theorem nO (el:TypeId) (ag:Bool) (sz len:Nat) (id:Oid) (k:IntKind) (h:Int):bT (some (.arr len el ag sz)) (.ptr id 0) none (some (.int k h))=gd ((0:Int) < len∧0≤h∧h≤len) (some (.win id sz 0 h.toNat)):=by
 simp only [bT,bF,gd]
 by_cases hc:(0:Int) < len∧0≤h∧h≤len
 ·rw [if_pos hc,if_pos ⟨trivial,Int.le_refl _,hc.1,hc.2.1,hc.2.2⟩];simp
 ·rw [if_neg hc,if_neg (fun h'=>hc ⟨h'.2.2.1,h'.2.2.2.1,h'.2.2.2.2⟩)]
theorem th (k:IntKind) (a b:Int):cl .add k a b=some (.int k (k.wrap (a+b))):=rfl
theorem tj (k:IntKind) (a b:Int):cl .sub k a b=some (.int k (k.wrap (a - b))):=rfl
theorem tk (k:IntKind) (a b:Int):cl .mul k a b=some (.int k (k.wrap (a * b))):=rfl
theorem tl (k:IntKind) (a b:Int):cl .quo k a b=gd (b≠0) (some (.int k (k.wrap (a.tdiv b)))):=rfl
theorem tn (k:IntKind) (a b:Int):cl .rem k a b=gd (b≠0) (some (.int k (a.tmod b))):=rfl
theorem tp (k:IntKind) (a b:Int):cl .and k a b=some (.int k (k.wrap (BitVec.ofInt k.bits a &&& BitVec.ofInt k.bits b).toNat)):=rfl
theorem vX (k:IntKind) (a b:Int):cl .or k a b=some (.int k (k.wrap (BitVec.ofInt k.bits a ||| BitVec.ofInt k.bits b).toNat)):=rfl
theorem tq (k:IntKind) (a b:Int):cl .xor k a b=some (.int k (k.wrap (BitVec.ofInt k.bits a ^^^ BitVec.ofInt k.bits b).toNat)):=rfl
theorem nP (k:IntKind) (a b:Int):cl .andNot k a b=some (.int k (k.wrap (BitVec.ofInt k.bits a &&& ~~~ BitVec.ofInt k.bits b).toNat)):=rfl
theorem jF {α:Type} [BEq α] [LawfulBEq α] [DecidableEq α] (a b:α):(a == b)=decide (a=b):=by
 rw [Bool.eq_iff_iff];simp
theorem qx {α:Type} [BEq α] [LawfulBEq α] [DecidableEq α] (a b:α):(a != b)=decide (a≠b):=by
 rw [Bool.eq_iff_iff];simp
theorem tt (k:IntKind) (a b:Int):cl .eql k a b=some (.bool (decide (a=b))):=by
 simp only [cl,jF]
theorem tu (k:IntKind) (a b:Int):cl .neq k a b=some (.bool (decide (a≠b))):=by
 simp only [cl,qx]
theorem tw (k:IntKind) (a b:Int):cl .lss k a b=some (.bool (decide (a < b))):=rfl
theorem tx (k:IntKind) (a b:Int):cl .leq k a b=some (.bool (decide (a≤b))):=rfl
theorem tz (k:IntKind) (a b:Int):cl .gtr k a b=some (.bool (decide (b < a))):=rfl
theorem tA (k:IntKind) (a b:Int):cl .geq k a b=some (.bool (decide (b≤a))):=rfl
theorem pg (k:IntKind) (a b:Int):dp .shl k a b=gd (0≤b) (some (.int k (k.wrap (a * 2 ^ (min b.toNat k.bits))))):=by
 unfold dp gd
 by_cases h:0≤b
 ·rw [if_neg (by omega),if_pos h]
 ·rw [if_pos (by omega),if_neg h]
theorem ph (k:IntKind) (a b:Int):dp .shr k a b=gd (0≤b) (some (.int k (a.fdiv (2 ^ (min b.toNat k.bits))))):=by
 unfold dp gd
 by_cases h:0≤b
 ·rw [if_neg (by omega),if_pos h]
 ·rw [if_pos (by omega),if_neg h]
theorem tB (a b:List UInt8):gP .add a b=gd (a.length+b.length≤9223372036854775807) (some (.str (a++b))):=rfl
theorem tC (a b:List UInt8):gP .eql a b=some (.bool (decide (a=b))):=by
 simp only [gP,jF]
theorem tD (a b:List UInt8):gP .neq a b=some (.bool (decide (a≠b))):=by
 simp only [gP,qx]
def ltS (a b:List UInt8):Bool:=Op.bytesLess a b
theorem tE (a b:List UInt8):gP .lss a b=some (.bool (ltS a b)):=rfl
theorem tF (a b:List UInt8):gP .leq a b=some (.bool (ltS a b || decide (a=b))):=by
 simp only [gP,ltS,jF]
theorem tG (a b:List UInt8):gP .gtr a b=some (.bool (!(ltS a b || decide (a=b)))):=by
 simp only [gP,ltS,jF]
theorem tH (a b:List UInt8):gP .geq a b=some (.bool (!ltS a b)):=rfl
def xO (P:Program) (m:Mem) (nid:Oid) (k:Option TyK) (s:AV) (x:Option (List (Oid × af) × List AV)):OpR :=
 match k,s,x with
 | some (.slice el _ sz by'),.nilSl,some (nd,ys)=>gdR (jT P el sz=true∧0 < by'∧ys.length * by'≤140737488355328) (.eff ⟨nd,.sl nid sz ys.length,[(nid,some (.arr sz ys))]⟩)
 | some (.slice el _ sz by'),.sl id sz' len,some (nd,ys)=>match m id with
  | some (.arr s' xs)=>gdR (jT P el sz=true∧sz' = sz∧s' = sz∧xs.length=len∧0 < by'∧(len+ys.length) * by'≤140737488355328)
     (.eff ⟨(id,.arr s' xs)::nd,.sl nid sz (len+ys.length),[(id,none),(nid,some (.arr sz (xs++ys)))]⟩)
  | _=>.no
 | _,_,_=>.no
def tI:Option TyK→Nat
 | some (.slice _ _ sz _)=>sz
 | _=>0
theorem vY (P:Program) (m:Mem) (nid:Oid) (t:TypeId) (s x:AV):oY P m nid t s x=xO P m nid (tyk P t) s (nj m (tI (tyk P t)) x):=by
 unfold oY xO
 cases tyk P t with
 | none=>rfl
 | some k =>
  cases k<;>try rfl
  simp only [tI]
  generalize nj m _ x=r
  cases r with
  | none=>cases s<;>rfl
  | some r =>
   obtain ⟨nd,ys⟩:=r
   cases s<;>rfl
def bV (i:Oid) (x:Option af):List (Oid × af)→List (Oid × af)
 | []=>match x with
  | some o=>[(i,o)]
  | none=>[]
 | q::l=>if i=q.1 then (match x with
     | some o=>(i,o)::l
     | none=>bV i none l) else q::bV i x l
def bI:List (Oid × Option af)→List (Oid × af)→List (Oid × af)
 | [],l=>l
 | q::u,l=>bI u (bV q.1 q.2 l)
theorem Mem.aU (i:Oid) (x:Option af):∀ l,(Mem.of l).set i x=Mem.of (bV i x l)
 | []=>by cases x<;>(funext k;simp [Mem.of,Mem.set,bV,Mem.emp])
 | q::l=>by
  have ih:=fun x=>Mem.aU i x l
  simp only [bV]
  by_cases h:i=q.1
  ·rw [if_pos h]
   cases x with
   | some o=>funext k;simp only [Mem.of,Mem.set];subst h;split<;>rfl
   | none=>rw [← ih];funext k;simp only [Mem.of,Mem.set];subst h;split<;>rfl
  ·rw [if_neg h];funext k;simp only [Mem.of];rw [← ih];simp only [Mem.set]
   by_cases h1:k=i
   ·rw [if_pos h1,if_pos h1,if_neg (fun h2=>h (h1.symm.trans h2))]
   ·rw [if_neg h1,if_neg h1]
theorem Mem.aN:∀ (u:List (Oid × Option af)) (l:List (Oid × af)),(Mem.of l).aG u=Mem.of (bI u l)
 | [],_=>rfl
 | q::u,l=>by
  show ((Mem.of l).set q.1 q.2).aG u=_
  rw [Mem.aU,Mem.aN u];rfl
theorem Mem.xP:Mem.emp=Mem.of []:=rfl
theorem Mem.aL (i:Oid):Mem.of [] i=none:=rfl
theorem Mem.al (q:Oid × af) (l:List (Oid × af)) (i:Oid):Mem.of (q::l) i=if i=q.1 then some q.2 else Mem.of l i:=rfl
theorem ij {L L':List (Oid × af)} (h:∀ q,q ∈ L→Mem.of L' q.1=some q.2):∀ i o,Mem.of L i=some o→Mem.of L' i=some o:=by
 induction L with
 | nil=>intro i o h;cases h
 | cons q l ih =>
  intro i o hi
  simp only [Mem.al] at hi
  split at hi
  ·rename_i e;simp only [Option.some.injEq] at hi;subst hi;subst e;exact h q List.mem_cons_self
  ·exact ih (fun q hq=>h q (List.mem_cons_of_mem _ hq)) i o hi
theorem bp {α:Type} (p:α→Prop):(∀ q,q ∈ ([]:List α)→p q)=True:=by simp
theorem bc {α:Type} (p:α→Prop) (a:α) (l:List α):(∀ q,q ∈ (a::l)→p q)=(p a∧∀ q,q ∈ l→p q):=by simp
theorem Oid.nQ (c i:Nat) (p:Oid):(Oid.sub c i p=p)=False:=by
 apply eq_false
 intro h
 have:(Oid.sub c i p).depth=p.depth:=by rw [h]
 simp only [Oid.depth] at this;omega
theorem Oid.nR (c i:Nat) (p:Oid):(p=Oid.sub c i p)=False:=by
 apply eq_false
 intro h
 have:p.depth=(Oid.sub c i p).depth:=by rw [← h]
 simp only [Oid.depth] at this;omega
theorem Oid.xQ {c c' i i':Nat} {p p':Oid} (h:c≠c'):(Oid.sub c i p=Oid.sub c' i' p')=False:=by
 apply eq_false;intro e;injection e with h1 _ _;exact h h1
theorem Oid.aa {p q:Oid} (h:¬ Oid.under p q) (c i:Nat):(q=Oid.sub c i p)=False:=by
 apply eq_false;intro e;subst e;exact h (Oid.aj (Oid.ah _))
theorem Oid.ab {p q:Oid} (h:¬ Oid.under p q) (c i:Nat):(Oid.sub c i p=q)=False:=by
 apply eq_false;intro e;subst e;exact h (Oid.aj (Oid.ah _))
theorem Oid.j8 {p q:Oid} (h:¬ Oid.under p q):(q=p)=False:=by
 apply eq_false;intro e;subst e;exact h (Oid.ah _)
theorem Oid.j9 {p q:Oid} (h:¬ Oid.under p q):(p=q)=False:=by
 apply eq_false;intro e;subst e;exact h (Oid.ah _)
theorem ru:nt .nilSl=some .nilPtr:=rfl
theorem tJ (id:Oid) (sz n:Nat):nt (.sl id sz n)=gd (0 < n) (some (.aptr id sz 0 0)):=rfl
theorem tK (P:Program) (m:Mem) (t:TypeId) (n:Int):nu P m t .nilPtr (.int .i64 n)=gdR (n=0) (.eff ⟨[],.str [],[]⟩):=rfl
def zi (P:Program) (id:Oid) (sz i off:Nat) (n:Int) (o:Option af) (k:Option TyK):OpR :=
 match o,k with
 | some (.arr s xs),some (.ptr e)=>gdR (sz=1∧i=0∧off=0∧s=1∧id.tyd=some e∧shp P e=some (false,1)∧0 < xs.length∧n=xs.length∧xs.length≤140737488355328∧xs.all fB=true)
   (.eff ⟨[(id,.arr s xs)],.str (xs.map byteOf),[(id,none)]⟩)
 | _,_=>.no
theorem tL (P:Program) (m:Mem) (t:TypeId) (id:Oid) (sz i off:Nat) (n:Int):nu P m t (.aptr id sz i off) (.int .i64 n)=zi P id sz i off n (m id) (tyk P t):=by
 simp only [nu]
 generalize m id=a
 generalize tyk P t=b
 cases a with
 | none=>rfl
 | some a=>cases a<;>first|rfl|(cases b with
  | none=>rfl
  | some b=>cases b<;>rfl)
def byA (b:UInt8):AV:=.int .u8 b.toNat
theorem pj (l:List UInt8):(l.map byA).all fB=true:=by
 rw [List.all_eq_true];intro v hv
 obtain ⟨b,_,rfl⟩:=List.mem_map.1 hv
 have:=b.toNat_lt
 show decide (b.toNat < 256)=true
 simp;omega
theorem pk (l:List UInt8):(l.map byA).map byteOf=l:=by
 rw [List.map_map]
 have:byteOf ∘ byA=id:=by funext b;simp [byteOf,byA,Int.toNat_natCast]
 rw [this,List.map_id]
def xo (P:Program) (sz:Nat) (xs:List AV) (a b:Option TyK):Option AV :=
 match a,b with
 | some (.slice el _ _ _),some .str=>gd (sz=1∧u8K (tyk P el)=true∧0 < xs.length∧xs.all fB=true) (some (.str (xs.map byteOf)))
 | _,_=>none
theorem pn (P:Program) (src dst:TypeId) (sz:Nat) (xs:List AV):nv P src dst (.list sz xs)=xo P sz xs (tyk P src) (tyk P dst):=by
 simp only [nv]
 generalize tyk P src=a
 generalize tyk P dst=b
 cases a with
 | none=>rfl
 | some a=>cases a<;>first|rfl|(cases b with
  | none=>rfl
  | some b=>cases b<;>rfl)
theorem gE (b:UInt8):fB (.int .u8 (b.toNat:Int))=true:=by
 have:=b.toNat_lt
 show decide (b.toNat < 256)=true
 simp;omega
theorem pq (b:UInt8):byteOf (.int .u8 (b.toNat:Int))=b:=by simp [byteOf,Int.toNat_natCast]
attribute [go_sem] pn xo gE pq
attribute [go_sem] ru tJ tK tL zi pj pk fP
def qy:Bool→Nat→Oid→Oid
 | true,t,nid=>.ty t nid
 | false,_,nid=>nid
theorem tM (P:Program) (t:TypeId) (nid:Oid):dO P t nid=qy (cQ P t) t nid:=by
 unfold dO;cases cQ P t<;>rfl
def qz:Bool→Option Nat→Nat→Oid→Oid
 | true,some t',t,nid=>if t' = t then .ty t nid else nid
 | _,_,_,nid=>nid
def tN (P:Program) (k:Option TyK) (nid:Oid) (s:AV):Oid :=
 match k,s with
 | some (.slice el _ _ _),.nilSl=>qy (l8 (tyk P el)) el nid
 | some (.slice el _ _ _),.sl id _ _=>qz (l8 (tyk P el)) id.tyd el nid
 | _,_=>nid
theorem tO (P:Program) (t:TypeId) (nid:Oid) (s:AV):jf P t nid s=tN P (tyk P t) nid s:=by
 unfold jf tN
 split
 ·rename_i el _ _ _ h
  try rw [h]
  show _=qy (l8 (tyk P el)) el nid
  cases l8 (tyk P el)<;>rfl
 ·rename_i el _ _ _ id _ _ h
  try rw [h]
  show _=qz (l8 (tyk P el)) id.tyd el nid
  cases l8 (tyk P el)<;>cases id.tyd<;>simp [qz]
 ·rename_i h1 h2
  first
   | rfl
   | (split
      ·rename_i h;exact (h1 _ _ _ _ h rfl).elim
      ·rename_i h;exact (h2 _ _ _ _ _ _ _ h rfl).elim
      ·rfl)
theorem tP (n:Nat):(Oid.root n).tyd=none:=rfl
theorem vZ (c i:Nat) (p:Oid):(Oid.sub c i p).tyd=none:=rfl
theorem xR (t:Nat) (p:Oid):(Oid.ty t p).tyd=some t:=rfl
theorem Oid.cS {p q:Oid} (h:¬ Oid.under p q) (t c i:Nat):(q=Oid.ty t (Oid.sub c i p))=False:=by
 apply eq_false;intro e;subst e;exact h (.inr (Oid.aj (Oid.ah _)))
theorem Oid.dC {p q:Oid} (h:¬ Oid.under p q) (t c i:Nat):(Oid.ty t (Oid.sub c i p)=q)=False:=by
 apply eq_false;intro e;subst e;exact h (.inr (Oid.aj (Oid.ah _)))
attribute [go_sem] tM qy qz tN tO tP vZ xR l8 Oid.cS Oid.dC Oid.ty.injEq
theorem nS {α:Type} [Inhabited α] (f:α→AV) {l:List α} {i:Nat} (h:i < l.length) (d:AV):(l.map f).getD i d=f (l.getD i default):=by
 simp [List.getD_eq_getElem?_getD,List.getElem?_map,List.getElem?_eq_getElem h]
attribute [go_sem] xN vW pf nN nO ll pd jy kX j7 nK nL nM mh mi mj
 th tj tk tl tn tp vX tq nP tt tu tw tx tz tA pg ph tB tC tD tE tF tG tH
 vY xO tI jS jT xF xG s9 vU ta xH tc rn nH gD s8 opL prs jh ly j5 b6 nI qq bV bI Mem.aN Mem.xP Mem.aL Mem.al Oid.xQ Oid.aa Oid.ab Oid.j8 Oid.j9 Oid.nQ Oid.nR Oid.sub.injEq
 nS w64 Option.isSome_some Option.isSome_none beq_self_eq_true Option.bind_some Option.bind_none Option.map_some Option.map_none Int.toNat_natCast List.length_map List.length_take List.length_drop List.length_append List.length_cons List.length_nil List.map_cons List.map_nil List.getD_cons_zero List.getD_cons_succ List.getD_nil
 List.take_succ_cons List.take_zero List.take_nil List.drop_succ_cons List.drop_zero List.drop_nil List.cons_append List.nil_append List.all_cons List.all_nil Bool.and_true Bool.true_and Bool.and_false Bool.false_and Bool.or_true Bool.true_or Bool.or_false Bool.false_or Bool.not_true Bool.not_false
 true_and and_true and_self or_true true_or or_false false_or false_and and_false eq_self List.getElem?_cons_zero List.getElem?_cons_succ List.getElem?_toArray bp bc mb jZ vS eB
theorem bt1 (b:Bool):(b == true)=b:=by cases b<;>rfl
theorem bt2 (b:Bool):(b == false) = !b:=by cases b<;>rfl
attribute [go_sem] frz mg Mem.aU
attribute [go_sem] bt1 bt2 decide_true decide_false
attribute [go_sem] decide_eq_true_eq decide_eq_false_iff_not Bool.and_eq_true Bool.or_eq_true Bool.not_eq_true' Bool.not_eq_false'
def nmd:Nat→Bool:=fun _=>false
theorem xS (d:Nat):nmd d=false:=rfl
attribute [go_sem] xS List.contains_cons List.contains_nil
theorem ik {α:Type} {l:List α} {i:Nat} (h:i < l.length) (d:α):l.getD i d=l[i]:=by
 simp [List.getD_eq_getElem?_getD,List.getElem?_eq_getElem h]
theorem cT (a b:Nat):(a:Int).tmod b=((a % b:Nat):Int):=by
 rw [Int.tmod_eq_emod_of_nonneg (by omega)];rfl
theorem ka (a b:Nat):(a:Int).tdiv b=((a / b:Nat):Int):=by
 rw [Int.tdiv_eq_ediv_of_nonneg (by omega)];rfl
theorem w8 {n:Int} (h1:0≤n) (h2:n≤255):IntKind.u8.wrap n=n:=by
 simp [IntKind.wrap,IntKind.bits,IntKind.signed];omega
end Go.Ab
namespace Go.Ab
variable {α:Type} [DecidableEq α]
def tQ (enc:α→AV):Prop:=∀ a b,cP (enc a) (enc b)=decide (a=b)
variable {enc:α→AV}
end Go.Ab
namespace Go.Ab
theorem cL {P:Program} [Laid P] {f:FuncId} {xs:List AV} {sp:Oid→Prop} {L:List (Oid × af)} {R Rp:AV→List (Oid × Option af)→Prop} (he:db P f=true)
  (h:(∀ q ∈ L,Mem.of L q.1=some q.2)→bK P f xs sp L R Rp):bK P f xs sp L R Rp:=by
 by_cases hc:∀ q ∈ L,Mem.of L q.1=some q.2
 ·exact h hc
 ·refine ⟨he,fun x g args w m hm hn _ _ _=>absurd (fun q hq=>?_) hc⟩
  obtain ⟨o,ho⟩:=Mem.jE hq
  obtain ⟨q',h1,h2,h3⟩:=Mem.cF ho
  have h4:=hn q hq
  have h5:=hn q' h1
  rw [h2,h4,h3] at h5
  rw [ho];exact h5.symm
theorem lA {B L L':List (Oid × af)} {m:Mem} {upd:List (Oid × Option af)} {sp:Oid→Prop} (hU:fg L sp upd L') (hL:∀ q ∈ L,m q.1=some q.2) (hB:∀ q ∈ B,m q.1=some q.2)
  (hd:∀ q ∈ B,(∀ q' ∈ L,¬ q'.1=q.1)∧¬ sp q.1):∀ q,q ∈ B++L'→(m.aG upd) q.1=some q.2:=by
 intro q hq
 rcases List.mem_append.1 hq with hq|hq
 ·rw [aI fun q' hq' e=>?_]
  ·exact hB q hq
  ·obtain ⟨h1,h2⟩:=hd q hq
   rcases hU.tou q' hq' with ⟨q2,h3,h4⟩|h3
   ·exact h1 q2 h3 (h4.trans e)
   ·exact h2 (e ▸ h3)
 ·exact j4 hL (hU.got q hq)
theorem dT {B L:List (Oid × af)} (hB:∀ q ∈ B,Mem.of (B++L) q.1=some q.2) (hd:∀ q ∈ L,∀ q' ∈ B,¬ q.1=q'.1) (hL:∀ q ∈ L,Mem.of L q.1=some q.2):∀ q ∈ B++L,Mem.of (B++L) q.1=some q.2:=by
 intro q hq
 rcases List.mem_append.1 hq with hq|hq
 ·exact hB q hq
 ·have:∀ (B:List (Oid × af)),(∀ q' ∈ B,¬ q.1=q'.1)→Mem.of (B++L) q.1=Mem.of L q.1:=by
   intro B h
   induction B with
   | nil=>rfl
   | cons b B ih=>rw [List.cons_append,Mem.al,if_neg (h b List.mem_cons_self)];exact ih fun q' hq'=>h q' (List.mem_cons_of_mem _ hq')
  rw [this B (hd q hq)];exact hL q hq
theorem fh {P:Program} [Laid P] {x:Ctx} {n:Nat} {a:Code} {Q:AX→AS→Prop} {fr:List (Nat × AV)} {m:Mem} {c:Nat} {ds:List AD} (L:List (Oid × af)) (hm:∀ q,q ∈ L→m q.1=some q.2) (h:T P x n a ⟨fr,Mem.of L,c,ds⟩ Q):T P x n a ⟨fr,m,c,ds⟩ Q :=
 xM (Mem.of L) (fun i o hi=>by obtain ⟨q,h1,rfl,rfl⟩:=Mem.cF hi;exact hm q h1) h
theorem il {L:List (Oid × af)} {m:Mem} (hm:∀ q,q ∈ L→m q.1=some q.2):∀ i o,Mem.of L i=some o→m i=some o:=fun i o hi=>by
 obtain ⟨q,h1,rfl,rfl⟩:=Mem.cF hi;exact hm q h1
theorem aH (i:Oid) (x:Option af) (l:List (Oid × af)) (j:Oid):Mem.of (bV i x l) j=if j=i then x else Mem.of l j:=by rw [← Mem.aU];rfl
end Go.Ab
namespace Go.Ab
open Go.ChangeShapes Go.WideShapes
def eC (a b:AV):Prop:=∀ g v,VR g a v→VR g b v
theorem eC.refl (a:AV):eC a a:=fun _ _ h=>h
theorem eC.nil (sz:Nat):eC .nilSl (.list sz []):=fun _ _ h=>by rw [h.bh];exact .listNil sz
inductive cU:List AV→List AV→Prop
 | nil:cU [] []
 | cons {a b:AV} {l m:List AV} (h:eC a b) (t:cU l m):cU (a::l) (b::m)
theorem cU.length {l m:List AV} (h:cU l m):l.length=m.length:=by
 induction h with
 | nil=>rfl
 | cons _ _ ih=>simp [ih]
theorem cU.at {l m:List AV} (h:cU l m):∀ j,eC (l.getD j .undef) (m.getD j .undef):=by
 induction h with
 | nil=>exact fun j=>.refl _
 | cons h _ ih =>
  intro j
  cases j with
  | zero=>exact h
  | succ j=>simpa using ih j
theorem eC.agg {l m:List AV} (h:cU l m):eC (.agg l) (.agg m):=fun g v hv=>by
 obtain ⟨a,rfl,h1,h2⟩:=hv.da
 exact .agg _ _ (h1.trans h.length) fun j hj=>h.at j _ _ (h2 j (by rw [h.length];exact hj))
def rv (a b:AV):Prop:=cU a.cells b.cells
theorem rv.agg {l m:List AV} (h:cU l m):rv (.agg l) (.agg m):=h
inductive jj:List AV→List AV→Prop
 | nil:jj [] []
 | cons {a b:AV} {l m:List AV} (h:rv a b) (t:jj l m):jj (a::l) (b::m)
theorem jj.length {l m:List AV} (h:jj l m):l.length=m.length:=by
 induction h with
 | nil=>rfl
 | cons _ _ ih=>simp [ih]
theorem jj.at {l m:List AV} (h:jj l m):∀ j,rv (l.getD j .undef) (m.getD j .undef):=by
 induction h with
 | nil=>exact fun j=>.cons (.refl _) .nil
 | cons h _ ih =>
  intro j
  cases j with
  | zero=>exact h
  | succ j=>simpa using ih j
theorem eC.list {sz:Nat} {l m:List AV} (h:jj l m):eC (.list sz l) (.list sz m):=fun g v hv=>by
 rcases hv.di with ⟨rfl,hu|⟨a,cap,hu⟩⟩|⟨b,o,cap,cs,hu,h1,h2,h3,h4⟩
 ·cases h;rw [hu];exact .listNil _
 ·cases h;rw [hu];exact .listAny _ _ _
 ·rw [hu,h.length]
  have hl:=h.length
  exact .list sz m b o cap cs (by omega) (fun i hi=>by have:=(h.at i).length;have:=h2 i (by omega);omega) (fun i j hi hj=>h3 i j (by omega) hj) fun i j hi hj=>(h.at i).at j _ _ (h4 i j (by omega) hj)
theorem VRs.nT {g:Gh} {xs ys:List AV} {a:Array Value} (h:VRs g xs a) (k:cU xs ys):VRs g ys a:=⟨h.1.trans k.length,fun j hj=>k.at j _ _ (h.2 j (by rw [k.length];exact hj))⟩
theorem ak.nT {P:Program} [Laid P] {f:FuncId} {xs ys:List AV} {sp:Oid→Prop} {e:Eff} (h:ak P f ys sp e) (k:cU xs ys):ak P f xs sp e :=
 ⟨h.enters,fun x g args w m h1 h2 h3=>h.calls x g args w m h1 h2 (h3.nT k)⟩
theorem bK.nT {P:Program} [Laid P] {f:FuncId} {xs ys:List AV} {sp:Oid→Prop} {need:List (Oid × af)} {R Rp:AV→List (Oid × Option af)→Prop} (h:bK P f ys sp need R Rp) (k:cU xs ys):bK P f xs sp need R Rp :=
 ⟨h.enters,fun x g args w m h1 h2 h3=>h.calls x g args w m h1 h2 (h3.nT k)⟩
def bB (ng:Nat) (w:World):Gh :=
 ⟨fun i=>match i with | .root k=>if k < ng then some (some k) else none | .sub .. => none | .ty .. => none,
  fun b o=>match w.cell? ⟨b,o,none⟩ with|some v=>if v.oneCell' = true then some v else none|none=>none,fun b=>match w.heap[b]? with|some (.cells c _ _)=>some c.size|_=>none⟩
theorem fS {ng:Nat} {w:World} {b o:Nat} {v:Value} (h:w.cell? ⟨b,o,none⟩=some v) (hv:v.oneCell' = true):(bB ng w).com b o=some v:=by
 simp only [bB,h,hv,if_true]
theorem kb {ng:Nat} {w:World} {b o:Nat} {v:Value} (h:(bB ng w).com b o=some v):w.cell? ⟨b,o,none⟩=some v∧v.oneCell' = true:=by
 simp only [bB] at h
 split at h
 ·rename_i u hu
  split at h
  ·rename_i h1;cases h;exact ⟨hu,h1⟩
  ·cases h
 ·cases h
theorem pr (ng:Nat) (w:World):ao ⟨ng,bB ng w,w,fun _=>False,.root ng,none⟩ (bB ng w) Mem.emp w where
 le:=Gh.le_refl _
 locs _ _:=rfl
 glob k hk:=by simp [bB,hk]
 coms _ _ _ h:=.inl h
 obj0 _ _ h:=by cases h
 inj _ _ _ _ _ h:=by cases h
 com _ _ _ h:=(kb h).1
 one _ _ _ h:=(kb h).2
 rows b r h:=by
  simp only [bB] at h
  split at h
  ·rename_i c t fz hc;simp only [Option.some.injEq] at h;exact ⟨c,t,fz,hc,h⟩
  ·cases h
 os:=rfl
 tape:=rfl
 output:=⟨rfl,fun _=>Nat.le_refl _⟩
 size:=Nat.le_refl _
 kept _ _ _:=rfl
 typs _ _ _ h:=by cases h
structure Rd (P:Program) (t:TypeId) {α:Type} (A:α→AV) (V:α→Prop):Prop where
 len:∀ a,(A a).cells.length=P.cellsOf t
 rd:∀ {H:Type} {enc:TypeId × Value→H} {w:World} {ng base fuel:Nat} {spare:Nat→Bool} {held:Bool} {cs:List Value} {x:DataW H × List MemPlace},DataW.trod enc P w base spare held fuel t cs=some x →
  (∀ n ∈ x.1.weights P t,n≤reachBytes)→∃ a:α,V a∧cs.length=P.cellsOf t∧∀ j,j < cs.length→(cs.getD j undef).oneCell' = true∧VR (bB ng w) ((A a).cells.getD j .undef) (cs.getD j undef)
section
variable {P:Program} [Laid P] {t:TypeId} {α β:Type} {A:α→AV} {V:α→Prop}
theorem Rd.map {B:β→AV} {W:β→Prop} (h:Rd P t A V) (f:α→β) (hA:∀ a,V a→A a=B (f a)) (hl:∀ b,(B b).cells.length=P.cellsOf t) (hV:∀ a,V a→W (f a)):Rd P t B W :=
 ⟨hl,fun {H enc w ng base fuel spare held cs x} h1 h2=>by
  obtain ⟨a,k1,k2,k3⟩:=h.rd (ng:=ng) h1 h2
  exact ⟨f a,hV a k1,k2,by rw [← hA a k1];exact k3⟩⟩
theorem kc {a:AV} {v:Value} {g:Gh} (hc:a.cells=[a]) (hv:VR g a v) (h1:v.oneCell' = true):∀ j,j < [v].length→(([v]:List Value).getD j undef).oneCell' = true∧VR g (a.cells.getD j .undef) (([v]:List Value).getD j undef):=by
 intro j hj
 obtain rfl:j=0:=by simp at hj;exact hj
 rw [hc];exact ⟨h1,hv⟩
theorem v7 (ht:P.underlying t=some .bool) (hc:P.cellsOf t=1):Rd P t AV.bool (fun _=>True) :=
 ⟨fun _=>hc.symm,fun h _=>by
  obtain ⟨b,rfl,rfl⟩:=DataW.trod_bool ht h
  exact ⟨b,trivial,hc.symm,kc rfl (.bool b) rfl⟩⟩
theorem rd_int {k:IntKind} (ht:P.underlying t=some (.int k)) (hc:P.cellsOf t=1):Rd P t (AV.int k) (fun n=>(Lit.int k n).wf=true) :=
 ⟨fun _=>hc.symm,fun h _=>by
  obtain ⟨n,rfl,rfl,hw⟩:=DataW.trod_int ht h
  exact ⟨n,hw,hc.symm,kc rfl (.int k n) rfl⟩⟩
theorem rd_str (ht:P.underlying t=some .string) (hc:P.cellsOf t=1):Rd P t AV.str (fun s=>s.length≤reachBytes) :=
 ⟨fun _=>hc.symm,fun h hw=>by
  obtain ⟨s,rfl,rfl,_⟩:=DataW.trod_string ht h
  exact ⟨s.data.toList,hw _ (by simp [DataW.weights]),hc.symm,kc rfl (.str _ _ rfl) rfl⟩⟩
theorem fE {H:Type} {e:TypeId} {n:Nat}:∀ {l:List (DataW H)} {d:DataW H},d ∈ l→n ∈ d.weights P e→n ∈ DataW.weightsAll P e l
 | [],_,h,_=>by cases h
 | x::l,d,h,hn=>by
  rw [DataW.weightsAll]
  rcases List.mem_cons.1 h with rfl|h
  ·exact List.mem_append_left _ hn
  ·exact List.mem_append_right _ (fE h hn)
theorem jk {p:Nat→α→Prop}:∀ (n:Nat),(∀ i,i < n→∃ a,p i a)→∃ l:List α,l.length=n∧∀ i,i < n→∃ a,l[i]? = some a∧p i a
 | 0,_=>⟨[],rfl,fun i hi=>absurd hi (Nat.not_lt_zero _)⟩
 | n+1,h=>by
  obtain ⟨l,h1,h2⟩:=jk n fun i hi=>h i (Nat.lt_succ_of_lt hi)
  obtain ⟨a,ha⟩:=h n (Nat.lt_succ_self _)
  refine ⟨l++[a],by simp [h1],fun i hi=>?_⟩
  by_cases e:i < n
  ·obtain ⟨b,hb,hp⟩:=h2 i e
   exact ⟨b,by rw [List.getElem?_append_left (by omega)];exact hb,hp⟩
  ·obtain rfl:i=n:=by omega
   exact ⟨a,by rw [List.getElem?_append_right (by omega),h1,Nat.sub_self];rfl,ha⟩
theorem mapM_at {β:Type} {f:Nat→Option β}:∀ {l:List Nat} {r:List β},l.mapM f=some r→r.length=l.length∧∀ i,i < l.length→f (l.getD i 0)=r[i]?
 | [],r,h=>by simp at h;subst h;exact ⟨rfl,fun i hi=>absurd hi (Nat.not_lt_zero _)⟩
 | x::l,r,h=>by
  simp only [List.mapM_cons,Option.bind_eq_bind,Option.bind_eq_some_iff] at h
  obtain ⟨y,hy,ys,hys,e⟩:=h
  cases e
  obtain ⟨h1,h2⟩:=mapM_at hys
  refine ⟨by simp [h1],fun i hi=>?_⟩
  cases i with
  | zero=>simpa using hy
  | succ i=>simpa using h2 i (by simpa using hi)
theorem ry {w:World} {base n:Nat} {a:Addr} {cs:List Value} (h:w.cells? base a n=some cs):cs.length=n∧∀ j,j < n→w.cell? (a.add j)=cs[j]? := by
 unfold World.cells? at h
 split at h
 ·obtain ⟨h1,h2⟩:=mapM_at h
  rw [List.length_range] at h1
  refine ⟨h1,fun j hj=>?_⟩
  have:=h2 j (by simpa using hj)
  rwa [List.getD_eq_getElem?_getD,List.getElem?_range hj] at this
 ·cases h
theorem rz {w:World} {a:Addr} {v:Value} (h:w.cell? a=some v):a.spot=none:=by
 unfold World.cell? at h
 split at h
 ·split at h
  ·cases h
  ·rename_i e;simpa using e
 ·cases h
theorem lB {a:Addr} (h:a.spot=none) (n:Nat):a.add n=⟨a.block,a.off+n,none⟩:=by
 unfold Addr.add
 split
 ·rename_i e;subst e;cases a;simp_all
 ·rfl
theorem nU {e:TypeId} (ht:P.underlying t=some (.slice e)) (hc:P.cellsOf t=1) (hp:0 < P.cellsOf e) (hE:Rd P e A V):Rd P t (fun l:List α=>.list (P.cellsOf e) (l.map A)) (fun l=>l.length * P.bytesOf e≤reachBytes∧∀ a ∈ l,V a) :=
 ⟨fun _=>hc.symm,fun {H enc w ng base fuel spare held cs x} h hw=>by
  rcases DataW.trod_slice ht h with ⟨rfl,rfl⟩|⟨a,len,cap,elems,rest,n,_,rfl,rfl,hb,hl,hm,hlen,hel,_,_⟩
  ·exact ⟨[],⟨by simp,fun _ h=>by cases h⟩,hc.symm,kc rfl (.listNil _) rfl⟩
  simp only [DataW.weights,ht,List.mem_cons,List.mem_append] at hw
  have hwt:=hw _ (.inl rfl)
  simp only [List.length_map] at hwt
  have key:∀ i,i < len→∃ (y:α × (Nat→Value)),V y.1∧∀ j,j < P.cellsOf e→w.cell? ((a.add (i * P.cellsOf e)).add j)=some (y.2 j)∧(y.2 j).oneCell' = true∧VR (bB ng w) ((A y.1).cells.getD j .undef) (y.2 j):=by
   intro i hi
   have h1:=hel i hi
   rw [List.getElem?_eq_getElem (by omega)] at h1
   simp only [Option.bind_eq_some_iff] at h1
   obtain ⟨cs',h2,h3⟩:=h1
   obtain ⟨h4,h5⟩:=ry h2
   obtain ⟨y,k1,k2,k3⟩:=hE.rd (ng:=ng) h3 fun m hm=>hw m (.inr (.inl (fE (List.mem_map.2 ⟨_,List.getElem_mem (by omega:i < elems.length),rfl⟩) hm)))
   refine ⟨(y,fun j=>cs'.getD j undef),k1,fun j hj=>⟨?_,k3 j (by omega)⟩⟩
   show _=some (cs'.getD j undef)
   rw [h5 j hj,List.getD_eq_getElem?_getD,List.getElem?_eq_getElem (by omega)];rfl
  obtain ⟨l,hl1,hl2⟩:=jk len key
  have hsp:0 < len→a.spot=none:=fun h0=>by
   obtain ⟨y,_,_,h2⟩:=hl2 0 h0
   have h3:=rz (h2 0 hp).1
   simpa [Addr.add] using h3
  refine ⟨l.map (·.1),⟨?_,fun b hb=>?_⟩,hc.symm,kc rfl ?_ rfl⟩
  ·rw [List.length_map,hl1]
   exact Nat.le_trans (Nat.mul_le_mul_right _ (by omega)) hwt
  ·obtain ⟨y,hy,rfl⟩:=List.mem_map.1 hb
   obtain ⟨i,hi,e1⟩:=List.getElem_of_mem hy
   obtain ⟨z,hz,h1,_⟩:=hl2 i (by omega)
   rw [List.getElem?_eq_getElem hi,e1] at hz
   cases hz;exact h1
  ·by_cases h0:len=0
   ·subst h0
    obtain rfl:=List.eq_nil_of_length_eq_zero hl1
    exact .listAny _ _ _
   have hs:=hsp (by omega)
   have e1:((l.map (·.1)).map A).length=len:=by simp [hl1]
   have hat:∀ i,i < len→∃ y:α × (Nat→Value),((l.map (·.1)).map A).getD i .undef=A y.1∧(l.getD i (y.1,fun _=>undef)).2=y.2∧(∀ j,j < P.cellsOf e→w.cell? ((a.add (i * P.cellsOf e)).add j)=some (y.2 j)∧(y.2 j).oneCell' = true∧VR (bB ng w) ((A y.1).cells.getD j .undef) (y.2 j)):=by
    intro i hi
    obtain ⟨y,hy,_,h2⟩:=hl2 i hi
    refine ⟨y,?_,?_,h2⟩
    ·simp [List.getD_eq_getElem?_getD,hy]
    ·simp [List.getD_eq_getElem?_getD,hy]
   have:=VR.list (g:=bB ng w) (P.cellsOf e) ((l.map (·.1)).map A) a.block a.off cap (fun i j=>(match l[i]? with|some y=>y.2|none=>fun _=>undef) j) (by omega)
    (fun i hi=>by
     obtain ⟨y,h1,_⟩:=hat i (by omega)
     rw [h1];exact hE.len _)
    (fun i j hi hj=>by
     obtain ⟨y,hy,_,h2⟩:=hl2 i (by omega)
     simp only [hy]
     obtain ⟨h3,h4,_⟩:=h2 j hj
     rw [lB hs,lB rfl] at h3
     exact fS h3 h4)
    (fun i j hi hj=>by
     obtain ⟨y,hy,_,h2⟩:=hl2 i (by omega)
     simp only [hy,List.getD_eq_getElem?_getD,List.getElem?_map,Option.map_some,Option.getD_some]
     have h5:=(h2 j hj).2.2
     rwa [List.getD_eq_getElem?_getD] at h5)
   rw [e1] at this
   have ea:a=⟨a.block,a.off,none⟩:=by cases a;simp_all
   rw [ea];exact this⟩
end
structure RdF (P:Program) (fs:List Field) (off tot:Nat) {β:Type} (B:β→List AV) (W:β→Prop):Prop where
 len:∀ b,(B b).length=tot
 rd:∀ {H:Type} {enc:TypeId × Value→H} {w:World} {ng base fuel:Nat} {spare:Nat→Bool} {held:Bool} {cs:List Value} {xs:List (DataW H × List MemPlace)},xs.length=fs.length →
  (∀ (i:Nat) (f:Field),fs[i]? = some f→DataW.trod enc P w base spare held fuel f.type ((cs.drop f.offset).take (P.cellsOf f.type))=xs[i]?)→(∀ n ∈ DataW.weightsEach P (fs.map (·.type)) (xs.map (·.1)),n≤reachBytes)→cs.length=off+tot →
  ∃ b:β,W b∧∀ j,j < tot→(cs.getD (off+j) undef).oneCell' = true∧VR (bB ng w) ((B b).getD j .undef) (cs.getD (off+j) undef)
section
variable {P:Program} [Laid P] {t:TypeId} {α β:Type} {A:α→AV} {V:α→Prop}
theorem ml (off:Nat):RdF P [] off 0 (fun _:Unit=>[]) (fun _=>True):=⟨fun _=>rfl,fun _ _ _ _=>⟨(),trivial,fun j hj=>absurd hj (Nat.not_lt_zero _)⟩⟩
theorem cu {f:Field} {fs:List Field} {off tot:Nat} {B:β→List AV} {W:β→Prop} (ho:f.offset=off) (hA:Rd P f.type A V) (hB:RdF P fs (off+P.cellsOf f.type) tot B W) :
  RdF P (f::fs) off (P.cellsOf f.type+tot) (fun p:α × β=>(A p.1).cells++B p.2) (fun p=>V p.1∧W p.2) :=
 ⟨fun p=>by rw [List.length_append,hA.len,hB.len],fun {H enc w ng base fuel spare held cs xs} hx hf hw hl=>by
  match xs,hx with
  | x::xs,hx =>
   have h0:=hf 0 f rfl
   simp only [List.getElem?_cons_zero] at h0
   simp only [List.map_cons,DataW.weightsEach,List.mem_append] at hw
   obtain ⟨a,k1,k2,k3⟩:=hA.rd (ng:=ng) h0 fun n hn=>hw n (.inl hn)
   obtain ⟨b,k4,k5⟩:=hB.rd (ng:=ng) (cs:=cs) (xs:=xs) (by simpa using hx) (fun i f' hi=>by simpa using hf (i+1) f' (by simpa using hi)) (fun n hn=>hw n (.inr hn)) (by omega)
   refine ⟨(a,b),⟨k1,k4⟩,fun j hj=>?_⟩
   have hla:=hA.len a
   by_cases e:j < P.cellsOf f.type
   ·have:=k3 j (by rw [k2];exact e)
    have e1:((cs.drop f.offset).take (P.cellsOf f.type)).getD j undef=cs.getD (off+j) undef:=by
     simp [List.getD_eq_getElem?_getD,List.getElem?_take,e,List.getElem?_drop,ho]
    rw [e1] at this
    have e2:((A a).cells++B b).getD j .undef=(A a).cells.getD j .undef:=by
     simp [List.getD_eq_getElem?_getD,List.getElem?_append_left (by omega:j < (A a).cells.length)]
    show _∧VR _ (((A a).cells++B b).getD j .undef) _
    rw [e2];exact this
   ·have:=k5 (j - P.cellsOf f.type) (by omega)
    rw [show off+P.cellsOf f.type+(j - P.cellsOf f.type)=off+j by omega] at this
    have e2:((A a).cells++B b).getD j .undef=(B b).getD (j - P.cellsOf f.type) .undef:=by
     simp [List.getD_eq_getElem?_getD,List.getElem?_append_right (by omega:(A a).cells.length≤j),hla]
    show _∧VR _ (((A a).cells++B b).getD j .undef) _
    rw [e2];exact this⟩
theorem iW {fs:Array Field} {tot:Nat} {B:β→List AV} {W:β→Prop} (ht:P.underlying t=some (.struct fs)) (hc:P.cellsOf t=tot) (hF:RdF P fs.toList 0 tot B W):Rd P t (fun b=>.agg (B b)) W :=
 ⟨fun b=>(hF.len b).trans hc.symm,fun {H enc w ng base fuel spare held cs x} h hw=>by
  obtain ⟨xs,n,_,rfl,hl,hlen,hf⟩:=DataW.trod_struct ht h
  simp only [DataW.weights,ht] at hw
  obtain ⟨b,k1,k2⟩:=hF.rd (ng:=ng) (xs:=xs) (by simpa using hlen) (fun i f hi=>hf i f (by simpa using hi)) hw (by omega)
  refine ⟨b,k1,hl,fun j hj=>?_⟩
  have:=k2 j (by omega)
  rwa [Nat.zero_add] at this⟩
theorem Rd.mm (h:Rd P t A V) (hc:P.cellsOf t=1) {H:Type} {enc:TypeId × Value→H} {w:World} {ng base:Nat} {spare:Nat→Bool} {held:Bool} {v:Value} {d:DataW H} {ps:List MemPlace} (hone:v.oneCell' = true)
  (hA:∀ a,V a→(A a).cells=[A a]) (hd:DataW.Trod enc P w base spare held t v d ps) (hw:∀ n ∈ d.weights P t,n≤reachBytes):∃ a,V a∧VR (bB ng w) (A a) v:=by
 obtain ⟨fuel,hd⟩:=hd
 obtain ⟨a,k1,k2,k3⟩:=h.rd (ng:=ng) hd hw
 refine ⟨a,k1,?_⟩
 have e:v.cells.toList=[v]:=by cases v<;>first|rfl|(simp [Value.oneCell'] at hone)
 rw [e] at k3
 have:=(k3 0 (by simp)).2
 rwa [hA a k1] at this
theorem Rd.v8 {B:β→List AV} {W:β→Prop} (h:Rd P t (fun b=>.agg (B b)) W) {H:Type} {enc:TypeId × Value→H} {w:World} {ng base:Nat} {spare:Nat→Bool} {held:Bool} {cs:Array Value} {d:DataW H} {ps:List MemPlace}
  (hd:DataW.Trod enc P w base spare held t (.agg cs) d ps) (hw:∀ n ∈ d.weights P t,n≤reachBytes):∃ b,W b∧VR (bB ng w) (.agg (B b)) (.agg cs):=by
 obtain ⟨fuel,hd⟩:=hd
 obtain ⟨b,k1,k2,k3⟩:=h.rd (ng:=ng) hd hw
 refine ⟨b,k1,.agg _ _ ?_ fun j hj=>?_⟩
 ·have:=h.len b
  simp only [Value.cells,Array.length_toList] at k2
  simp only [AV.cells] at this
  omega
 ·have hl:=h.len b
  simp only [AV.cells] at hl
  have:=(k3 j (by rw [k2];omega)).2
  simp only [Value.cells,AV.cells] at this
  simpa [List.getD_eq_getElem?_getD,Array.getD_eq_getD_getElem?] using this
theorem gg {H:Type} {enc:TypeId × Value→H} {w w':World} {base:Nat} {spare':Nat→Bool} (hl:laidOutB P=true) (hz:∀ t e,t < P.types.size→P.underlying t=some (.slice e)→0 < P.cellsOf e) :
  ∀ {ts:List TypeId} {vs:List Value} {ds:List (DataW H)} {ps:List MemPlace},(∀ t ∈ ts,P.readableRec t=true∧t < P.types.size)→DataW.TrodAll enc P w base (fun _=>true) true ts vs ds ps→(∀ p ∈ ps,w.sameAt w' p)→(∀ p ∈ ps,spare' p.block=true) →
   DataW.TrodAll enc P w' base spare' true ts vs ds ps
 | [],[],[],_,_,h,_,_=>h
 | t::ts,v::vs,d::ds,ps,hr,⟨p,q,h1,h2,e⟩,hs,hsp=>by
  have ht:=hr t List.mem_cons_self
  refine ⟨p,q,?_,gg hl hz (fun t ht=>hr t (List.mem_cons_of_mem _ ht)) h2 (fun x hx=>hs x (by rw [e];exact List.mem_append_right _ hx)) (fun x hx=>hsp x (by rw [e];exact List.mem_append_right _ hx)),e⟩
  have h3:DataW.Trod enc P w base spare' true t v d p:=h1.respare (kids_book hl ht.1) (fun u e' hu=>hz u e' hu.1) ⟨ht.2,book_self t⟩ fun x hx=>hsp x (by rw [e];exact List.mem_append_left _ hx)
  obtain ⟨n,hn⟩:=h3
  exact ⟨n,DataW.trod_carry n _ _ _ hn fun x hx=>hs x (by rw [e];exact List.mem_append_left _ hx)⟩
theorem tR {H:Type} {enc:TypeId × Value→H} {f:FuncId} {fn:Func} {s:ChangeSpec} {tb:TypeId} (hl:laidOutB P=true) (hz:∀ t e,t < P.types.size→P.underlying t=some (.slice e)→0 < P.cellsOf e) (hr:∀ t ∈ fn.params.toList,P.readableRec t=true∧t < P.types.size)
  (hrt:fn.resultTypes=#[tb]) (htb:P.underlying tb=some .bool) (hv:s.vars=[]) {W:World} {args:Array Value} {ds gs:List (DataW H)} {before:List MemPlace} (hW:DataW.Whole enc P fn.params.toList s.vars false W args.toList ds gs before)
  (hfn:s.fn H ds={ results:=[.lit (.bool true)],args:=ds }) {avs:List AV} (ha:VRs (bB P.globals.size W) avs args) (hcall:ak P f avs (Oid.under (.root P.globals.size)) ⟨[],.bool true,[]⟩) (hLaid:Laid.facts P (bB P.globals.size W)) :
  Calls P f args W fun e W'=>∃ v,e = .returned v∧s.post enc P fn false true false false W args v W':=by
 refine (hcall.calls ⟨P.globals.size,bB P.globals.size W,W,fun _=>False,.root P.globals.size,none⟩ _ args W Mem.emp (pr _ _) (fun q hq=>by cases hq) ha (fun i hi=>⟨?_,hi⟩) ⟨Nat.le_refl _,hLaid⟩).mono ?_
 ·cases i with
  | root k =>
   simp only [Oid.under,Oid.root.injEq] at hi
   subst hi
   simp [bB]
  | sub=>rfl
  | ty=>rfl
 rintro en W' ⟨g',v,rfl,hle,hloc,hvr,hm⟩
 obtain rfl:=hvr.bn
 refine ⟨_,rfl,?_⟩
 have hW0:=hW
 obtain ⟨p,q,hA,hV,rfl,hfz,hnd⟩:=hW
 rw [hv] at hV
 obtain ⟨rfl,rfl⟩:=trodVars_none hV
 rw [List.append_nil] at hW0 hfz
 have hsame:∀ p' ∈ p,W.sameAt W' p':=fun p' hp'=>by
  have hlt:=hW0.lt p' hp'
  have hh:=hm.kept p'.block hlt (fun h=>h)
  cases p' with
  | cell b o=>simp only [World.sameAt,World.cell?];simp only [MemPlace.block] at hh;rw [hh]
  | map b=>exact hh
 have hargs:∀ sp:Nat→Bool,(∀ p' ∈ p,sp p'.block=true)→DataW.TrodAll enc P W' 0 sp true fn.params.toList args.toList ds p:=fun sp hsp=>gg hl hz hr hA hsame hsp
 have hres:∀ (b:Nat) (sp:Nat→Bool) (hd:Bool),DataW.TrodAll enc P W' b sp hd fn.resultTypes.toList ((Value.bool true).resultList fn.resultTypes.size) [.lit (.bool true)] []:=by
  intro b sp hd
  rw [hrt]
  exact ⟨[],[],RowKit.shut_bool htb _,rfl,rfl⟩
 have hold:∀ p' ∈ p,(fun b=>decide (b < W.heap.size)) p'.block=true:=fun p' hp'=>by simpa using hW0.lt p' hp'
 refine ⟨ds,[],p,[],p,[],hW0,by rw [List.append_nil,hfn];exact hres _ _ _,by rw [List.append_nil,hfn];exact hargs _ hold,by rw [hv,List.append_nil,hfn];exact rfl,?_,fun h=>by cases h⟩
 exact World.keptBut_mono (fun p' hp'=>hp'.elim) (may:=fun _=>False) ⟨hm.os,hm.output.1,fun i hi=>by
  have hk:W'.heap[i]? = W.heap[i]? := hm.kept i hi (fun h=>h)
  rw [hk]
  exact (World.keptBut_refl W (fun _=>False)).2.2 i hi⟩
structure RdA (P:Program) (ts:List TypeId) {β:Type} (B:β→List AV) (W:β→Prop):Prop where
 rd:∀ {H:Type} {enc:TypeId × Value→H} {w:World} {ng base b0:Nat} {r:Reach} {vs:List Value} {ds:List (DataW H)} {ps:List MemPlace},(∀ (j:Nat) t v,ts[j]? = some t→vs[j]? = some v→Value.okWide P w r base t v) →
  DataW.TrodAll enc P w b0 (fun _=>true) true ts vs ds ps→(∀ n ∈ DataW.weightsEach P ts ds,n≤reachBytes)→∃ b,W b∧vs.length=(B b).length∧∀ j,j < vs.length→VR (bB ng w) ((B b).getD j .undef) (vs.getD j undef)
theorem okWide_slice {w:World} {r:Reach} {base:Nat} {e:TypeId} {v:Value} (ht:P.underlying t=some (.slice e)) (h:Value.okWide P w r base t v):v.oneCell' = true:=by
 simp only [Value.okWide,ht,Cell.okWide,Cell.ok] at h
 cases v<;>first|rfl|exact h.elim
theorem okWide_int {w:World} {r:Reach} {base:Nat} {k:IntKind} {v:Value} (ht:P.underlying t=some (.int k)) (h:Value.okWide P w r base t v):v.oneCell' = true:=by
 simp only [Value.okWide,ht,Cell.okWide,Cell.ok] at h
 cases v<;>first|rfl|exact h.elim
theorem pt {w:World} {r:Reach} {base:Nat} {v:Value} (ht:P.underlying t=some .string) (h:Value.okWide P w r base t v):v.oneCell' = true:=by
 simp only [Value.okWide,ht,Cell.okWide,Cell.ok] at h
 cases v<;>first|rfl|exact h.elim
theorem okWide_struct {w:World} {r:Reach} {base:Nat} {fs:Array Field} {v:Value} (ht:P.underlying t=some (.struct fs)) (h:Value.okWide P w r base t v):∃ cs,v = .agg cs:=by
 simp only [Value.okWide,ht] at h
 obtain ⟨cs,h,_⟩:=h
 exact ⟨cs,h⟩
theorem rdA_nil:RdA P [] (fun _:Unit=>[]) (fun _=>True):=⟨fun {H enc w ng base b0 r vs ds ps} _ h _=>by
 obtain ⟨rfl,rfl,rfl⟩:=trodAll_nil h
 exact ⟨(),trivial,rfl,fun j hj=>absurd hj (Nat.not_lt_zero _)⟩⟩
theorem im {ts:List TypeId} {B:β→List AV} {W:β→Prop} (k:∀ {H:Type} {enc:TypeId × Value→H} {w:World} {ng base b0:Nat} {r:Reach} {v:Value} {d:DataW H} {ps:List MemPlace},Value.okWide P w r base t v →
  DataW.Trod enc P w b0 (fun _=>true) true t v d ps→(∀ n ∈ d.weights P t,n≤reachBytes)→∃ a,V a∧VR (bB ng w) (A a) v) (hB:RdA P ts B W):RdA P (t::ts) (fun p:α × β=>A p.1::B p.2) (fun p=>V p.1∧W p.2) :=
 ⟨fun {H enc w ng base b0 r vs ds ps} hok h hw=>by
  obtain ⟨v,vs',d,ds',p,q,rfl,rfl,rfl,h1,h2⟩:=trodAll_cons h
  simp only [DataW.weightsEach,List.mem_append] at hw
  obtain ⟨a,k1,k2⟩:=k (ng:=ng) (hok 0 t v rfl rfl) h1 fun n hn=>hw n (.inl hn)
  obtain ⟨b,k3,k4,k5⟩:=hB.rd (ng:=ng) (fun j t v ht hv=>hok (j+1) t v ht hv) h2 fun n hn=>hw n (.inr hn)
  refine ⟨(a,b),⟨k1,k3⟩,by simp [k4],fun j hj=>?_⟩
  cases j with
  | zero=>exact k2
  | succ j=>simpa using k5 j (by simpa using hj)⟩
theorem rdA_slice {ts:List TypeId} {B:β→List AV} {W:β→Prop} {e:TypeId} (ht:P.underlying t=some (.slice e)) (hc:P.cellsOf t=1) (hA1:∀ a,(A a).cells=[A a]) (hA:Rd P t A V) (hB:RdA P ts B W):RdA P (t::ts) (fun p:α × β=>A p.1::B p.2) (fun p=>V p.1∧W p.2) :=
 im (fun hok hd hw=>hA.mm hc (okWide_slice ht hok) (fun a _=>hA1 a) hd hw) hB
theorem rdA_str {ts:List TypeId} {B:β→List AV} {W:β→Prop} (ht:P.underlying t=some .string) (hc:P.cellsOf t=1) (hA1:∀ a,(A a).cells=[A a]) (hA:Rd P t A V) (hB:RdA P ts B W):RdA P (t::ts) (fun p:α × β=>A p.1::B p.2) (fun p=>V p.1∧W p.2) :=
 im (fun hok hd hw=>hA.mm hc (pt ht hok) (fun a _=>hA1 a) hd hw) hB
theorem rdA_int {ts:List TypeId} {B:β→List AV} {W:β→Prop} {k:IntKind} (ht:P.underlying t=some (.int k)) (hc:P.cellsOf t=1) (hA1:∀ a,(A a).cells=[A a]) (hA:Rd P t A V) (hB:RdA P ts B W):RdA P (t::ts) (fun p:α × β=>A p.1::B p.2) (fun p=>V p.1∧W p.2) :=
 im (fun hok hd hw=>hA.mm hc (okWide_int ht hok) (fun a _=>hA1 a) hd hw) hB
theorem rdA_struct {ts:List TypeId} {B:β→List AV} {W:β→Prop} {fs:Array Field} {D:α→List AV} (ht:P.underlying t=some (.struct fs)) (hA1:∀ a,A a = .agg (D a)) (hA:Rd P t A V) (hB:RdA P ts B W):RdA P (t::ts) (fun p:α × β=>A p.1::B p.2) (fun p=>V p.1∧W p.2) :=
 im (fun hok hd hw=>by
  obtain ⟨cs,rfl⟩:=okWide_struct ht hok
  have e:A=fun a=>.agg (D a):=funext hA1
  subst e
  exact Rd.v8 hA hd hw) hB
theorem fF {H:Type} {enc:TypeId × Value→H} {w:World} {base:Nat} {sp:Nat→Bool} {held:Bool}:∀ {ts:List TypeId} {vs:List Value} {ds:List (DataW H)} {ps:List MemPlace},DataW.TrodAll enc P w base sp held ts vs ds ps→ds.length=ts.length
 | [],[],[],_,_=>rfl
 | _::_,_::_,_::_,_,⟨_,_,_,h,_⟩=>by simp [fF h]
end
end Go.Ab
namespace Go.Ab
attribute [go_sem] Nat.reduceEqDiff Nat.reduceAdd Nat.reduceMul Nat.reduceLT Nat.reduceLeDiff reduceCtorEq Nat.reduceBEq Int.reduceToNat Int.reduceNeg
attribute [go_sem ↓] reduceIte
theorem zb1 {p:Prop} [Decidable p]:(decide p=true)=p:=decide_eq_true_eq
theorem zb2 {p:Prop} [Decidable p]:(decide p=false)=¬ p:=propext decide_eq_false_iff_not
theorem zb3 (b:Bool):((!b)=true)=(b=false):=Bool.not_eq_true' b
theorem zb4 (b:Bool):((!b)=false)=(b=true):=Bool.not_eq_false' b
theorem zb5 (a b:Bool):((a && b)=true)=(a=true∧b=true):=Bool.and_eq_true a b
inductive Ps where
 | at (c:Code)
 | nrm
 | ex (i:Nat)
@[irreducible] def tS (P:Prop):Prop:=P
theorem zl {p:Prop} (h:p):tS p:=by unfold tS;exact h
theorem wa {p:Prop} (h:tS p):p:=by unfold tS at h;exact h
inductive Stp (P:Program) (x:Ctx) (n:Nat) (Q:AX→AS→Prop):Bool→Bool→Ps→List Pc→AS→Prop
 | seq {u v} {a b:Code} {ks s}:Stp P x n Q u true (.at a) (.code b::ks) s→Stp P x n Q u v (.at (.seq a b)) ks s
 | skip {u v ks s}:Stp P x n Q u true .nrm ks s→Stp P x n Q u v (.at .skip) ks s
 | block {v i a ks s}:Stp P x n Q true true (.at a) (.bend i::ks) s→Stp P x n Q true v (.at (.block i a)) ks s
 | exit {u v i ks s}:Stp P x n Q u true (.ex i) ks s→Stp P x n Q u v (.at (.exit i)) ks s
 | next {u v a ks s}:Stp P x n Q u true (.at a) ks s→Stp P x n Q u v .nrm (.code a::ks) s
 | bend {u v i ks s}:Stp P x n Q u true .nrm ks s→Stp P x n Q u v .nrm (.bend i::ks) s
 | lend {u v ts I k ks fr m c ds}:tS (∃ k' m',k' < k∧(∀ i o,m' i=some o→m i=some o)∧I k' ⟨bP ts fr,m',c,ds⟩)→Stp P x n Q u v .nrm (.lend ts I k::ks) ⟨fr,m,c,ds⟩
 | xcode {u v a i ks s}:Stp P x n Q u true (.ex i) ks s→Stp P x n Q u v (.ex i) (.code a::ks) s
 | xlend {u v ts I k i ks s}:Stp P x n Q u true (.ex i) ks s→Stp P x n Q u v (.ex i) (.lend ts I k::ks) s
 | xhere {u v i ks s}:Stp P x n Q u true .nrm ks s→Stp P x n Q u v (.ex i) (.bend i::ks) s
 | xon {u v i j ks s}:Nat.beq i j=false→Stp P x n Q u true (.ex i) ks s→Stp P x n Q u v (.ex i) (.bend j::ks) s
 | ofT {u c ks s}:T P x n c s (after P x n Q ks)→Stp P x n Q u true (.at c) ks s
 | ofN {u ks s}:after P x n Q ks .normal s→Stp P x n Q u true .nrm ks s
 | ofX {u i ks s}:after P x n Q ks (.exit i) s→Stp P x n Q u true (.ex i) ks s
def zX (P:Program) (x:Ctx) (n:Nat) (Q:AX→AS→Prop):Ps→List Pc→AS→Prop
 | .at c,ks,s=>T P x n c s (after P x n Q ks)
 | .nrm,ks,s=>after P x n Q ks .normal s
 | .ex i,ks,s=>after P x n Q ks (.exit i) s
theorem Stp.ok {P:Program} [Laid P] {x:Ctx} {n:Nat} {Q:AX→AS→Prop} {p:Ps} {ks:List Pc} {s:AS} {u v:Bool} (h:Stp P x n Q u v p ks s):zX P x n Q p ks s:=by
 induction h with
 | seq _ ih=>exact zh ih
 | skip _ ih=>exact xJ ih
 | block _ ih=>exact dc ih
 | exit _ ih=>exact xK ih
 | next _ ih=>exact ih
 | bend _ ih=>exact ih
 | lend h=>exact wa h
 | xcode _ ih=>exact ih
 | xlend _ ih=>exact ih
 | xhere _ ih=>exact xI ih
 | xon hb _ ih=>exact zW hb ih
 | ofT h=>exact h
 | ofN h=>exact h
 | ofX h=>exact h
section
variable {P:Program} [Laid P] {x:Ctx} {n:Nat} {Q:AX→AS→Prop} {ks:List Pc} {s:AS}
theorem zk {c:Code} (h:Stp P x n Q true false (.at c) ks s):T P x n c s (after P x n Q ks):=h.ok
theorem zn (h:Stp P x n Q true false .nrm ks s):after P x n Q ks .normal s:=h.ok
theorem ze {i:Nat} (h:Stp P x n Q true false (.ex i) ks s):after P x n Q ks (.exit i) s:=h.ok
theorem zu {c:Code} (h:Stp P x n Q false false (.at c) ks s):T P x n c s (after P x n Q ks):=h.ok
theorem zv (h:Stp P x n Q false false .nrm ks s):after P x n Q ks .normal s:=h.ok
theorem zw {i:Nat} (h:Stp P x n Q false false (.ex i) ks s):after P x n Q ks (.exit i) s:=h.ok
end
end Go.Ab
namespace Go.Ab
structure mn (q:Prop):Prop where
 out:q
theorem ai {a b:Prop} (h:a) (k:b):a∧b:=⟨h,k⟩
structure CC (a b:Prop):Prop where
 a:a
 b:b
theorem cq {a b:Prop} (h:a) (k:b):CC a b:=⟨h,k⟩
structure HD (U gl:List (Nat × Nat)) (ts:List Nat):Prop where
theorem HD.o:HD [] [] []:=⟨⟩
theorem HD.d (U gl:List (Nat × Nat)) (ts:List Nat):HD U gl ts:=⟨⟩
theorem uu {p q:Oid} (h:¬ Oid.under p q):(∀ c i,(q=Oid.sub c i p)=False)∧∀ c i,(Oid.sub c i p=q)=False:=⟨Oid.aa h,Oid.ab h⟩
section
variable {P:Program} [Laid P] {x:Ctx} {n:Nat} {Q:AX→AS→Prop} {ks:List Pc} {s:AS} {fr:List (Nat × AV)} {m:Mem} {c:Nat} {ds:List AD} {id:Nat} {ops:Array Oper}
theorem xT {U gl:List (Nat × Nat)} {ts:List Nat} (_:HD U gl ts) (hmx:P.follows .mixedOrders=true) (hng:Fit P x) (hok:(s5 n P.globals.size ops U && kW ops gl)=true):type_of% (bA (P:=P) (x:=x) (n:=n) (Q:=Q) (ks:=ks) (fr:=fr) (m:=m) (c:=c) (ds:=ds) (id:=id) (ops:=ops) nmd gl U hmx hng hok ts):=bA nmd gl U hmx hng hok ts
theorem zj {U gl:List (Nat × Nat)} {ts:List Nat} (_:HD U gl ts) (hng:Fit P x) (hok:(xl n P.globals.size ops && kW ops gl)=true):type_of% (az (P:=P) (x:=x) (n:=n) (Q:=Q) (ks:=ks) (fr:=fr) (m:=m) (c:=c) (ds:=ds) (id:=id) (ops:=ops) nmd gl hng hok):=az nmd gl hng hok
end
theorem qs {p e:Prop} (e1:e) (h:e→p:=by intro e;simp (disch:=first|omega|assumption) only [go_sem,eq_self,decide_true,decide_false,ne_eq,not_true_eq_false,not_false_eq_true,e];first|done|fail):p:=h e1
theorem qs0 {p:Prop} (h:p:=by simp (disch:=first|omega|assumption) only [go_sem,eq_self,decide_true,decide_false,ne_eq,not_true_eq_false,not_false_eq_true];first|done|fail):p:=h
theorem qt {p q e:Prop} (e1:e) (k:q) (h:e→mn q→p:=by intro e k;simp (disch:=first|omega|assumption) only [go_sem,eq_self,decide_true,decide_false,ne_eq,not_true_eq_false,not_false_eq_true,e];exact k.out):p:=h e1 ⟨k⟩
theorem qt0 {p q:Prop} (k:q) (h:mn q→p:=by intro k;simp (disch:=first|omega|assumption) only [go_sem,eq_self,decide_true,decide_false,ne_eq,not_true_eq_false,not_false_eq_true];exact k.out):p:=h ⟨k⟩
theorem qv {p q:Prop} (k:q) (h:mn q→p:=by intro k;(first|refine zn ?_|refine ze ?_|refine zk ?_);with_reducible (constructor;repeat constructor);(try refine zl ?_);exact k.out):p:=h ⟨k⟩
theorem qn {p e:Prop} (e1:e) (h:e→p:=by intro e;first|(intro _ h;cases h;done)|exact qs e|exact nbu _|(refine nbA ?_ _;simp [hpN,hO.mem];done)|(simp only [List.mem_cons,forall_eq_or_imp];refine ⟨qs e,?_⟩;first|exact nbu _|(refine nbA ?_ _;simp [hpN,hO.mem];done))):p:=h e1
theorem qm {p c:Prop} (c1:c) (h:c→p:=by intro c;first|exact c|exact c (ay rfl hp)|exact c _ (ay rfl hp) (fun h=>hpp (Oid.aj h)) (hO.sub _ _)|exact c _ (ay rfl hp) (hO.sub _ _)):p:=h c1
theorem qr {p q e c:Prop} {U gl:List (Nat × Nat)} {ts:List Nat} (g:HD U gl ts) (e1:e) (c1:c) (k:q) (h:HD U gl ts→e→c→mn q→p:=by
  intro g e c k;(try refine qv ?_)
  refine zj g hng (by kernel_rfl) fun hf C S K hC1 hC hS hK=>?_;refine qt e ?_
  repeat (obtain ⟨c1,c⟩:CC _ _:=c;refine hC1 _ (qm c1) (qn e) ?_;refine qt e ?_)
  refine hK ?_;clear hK hS hC hC1 K S C hf;(try refine qv ?_)
  exact k.out):p:=h g e1 c1 ⟨k⟩
theorem qd {p q e c:Prop} {U gl:List (Nat × Nat)} {ts:List Nat} (g:HD U gl ts) (e1:e) (c1:c) (k:q) (h:HD U gl ts→e→c→mn q→p:=by
  intro g e c k;(try refine qv ?_)
  refine xT g mixed hng (by kernel_rfl) fun hf C S K hC hS hK=>?_;refine qt e ?_
  repeat (obtain ⟨c1,c⟩:CC _ _:=c;refine hC _ (qm c1) (qn e) ?_;refine qt e ?_)
  (first|refine hK (aE rfl) ?_|refine hK (by simp (disch:=first|omega|assumption) only [go_sem,List.reverse_cons,List.reverse_nil,ne_eq,not_false_eq_true,implies_true]) ?_);clear hK hS hC K S C hf;(try refine qv ?_)
  exact k.out):p:=h g e1 c1 ⟨k⟩
theorem qw {p q e:Prop} (e1:e) (k:q) (h:e→mn q→p:=by
  intro e k
  repeat (first|refine aA rfl rfl ?_|refine aB rfl rfl ?_|(refine az nmd [] hng (by kernel_rfl) fun hf C S K hC1 hC hS hK=>?_;refine qt e ?_;refine hK ?_;clear hK hS hC hC1 K S C hf)|refine qv ?_)
  exact k.out):p:=h e1 ⟨k⟩
theorem qw0 {p q:Prop} (k:q) (h:mn q→p:=by
  intro k
  repeat (first|refine aA rfl rfl ?_|refine aB rfl rfl ?_|(refine az nmd [] hng (by kernel_rfl) fun hf C S K hC1 hC hS hK=>?_;refine qt0 ?_;refine hK ?_;clear hK hS hC hC1 K S C hf)|refine qv ?_)
  exact k.out):p:=h ⟨k⟩
theorem qr0 {p q:Prop} (k:q) (h:mn q→p:=by intro k;refine qr .o trivial trivial ?_;exact k.out):p:=h ⟨k⟩
theorem qr1 {p q c:Prop} (c1:c) (k:q) (h:c→mn q→p:=by intro c k;refine qr .o trivial (cq c trivial) ?_;exact k.out):p:=h c1 ⟨k⟩
end Go.Ab
namespace Go.Ab
open Go.RowKit
theorem nV {p q:Oid} (h:Oid.under p q) (hq:q.mono=false):p.mono=false:=by
 cases hp:p.mono with
 | false=>rfl
 | true=>rw [Oid.jH h hp] at hq;cases hq
theorem ao.below {x:Ctx} {g:Gh} {m:Mem} {w w':World} (h:ao x g m w) (hb:Below w.heap.size w w') (hp:x.p.mono=false):ao x g m w' where
 le:=h.le
 locs:=h.locs
 glob:=h.glob
 coms:=h.coms
 obj0 i o hi:=(h.obj0 i o hi).imp id fun ⟨b,h1,h2,h3,h4⟩=>⟨b,h1,h2,h3,bz.block (hb.block b h4.lt) h4⟩
 inj:=h.inj
 com b o v hv:=by
  have h1:=h.com b o v hv
  have hlt:b < w.heap.size:=by
   rcases Nat.lt_or_ge b w.heap.size with h2|h2
   ·exact h2
   ·simp [World.cell?,Array.getElem?_eq_none h2] at h1
  simp only [World.cell?] at h1 ⊢
  rw [hb.block b hlt];exact h1
 one:=h.one
 rows b r hr:=by
  obtain ⟨c,t,fz,h1,h2⟩:=h.rows b r hr
  exact ⟨c,t,fz,by rw [hb.block b (Array.getElem?_eq_some_iff.1 h1).1];exact h1,h2⟩
 os:=hb.os.trans h.os
 tape:=hb.tape.trans h.tape
 output:=⟨hb.output.trans h.output.1,fun hm=>by rw [hp] at hm;cases hm⟩
 size:=Nat.le_trans h.size hb.size
 kept b hlt hm:=(hb.block b (Nat.lt_of_lt_of_le hlt h.size)).trans (h.kept b hlt hm)
 typs t q b hl:=(h.typs t q b hl).imp fun c ⟨fz,h1⟩=>⟨fz,by rw [hb.block b (Array.getElem?_eq_some_iff.1 h1).1];exact h1⟩
structure mq (P:Program) [Laid P] (g:Gh) (w:World):Prop where
 com:∀ b o v,g.com b o=some v→w.cell? ⟨b,o,none⟩=some v
 rows:∀ b r,g.row b=some r→∃ c t fz,w.heap[b]? = some (.cells c t fz)∧c.size=r
 glob:∀ k,k < P.globals.size→g.loc (.root k)=some (some k)
 facts:Laid.facts P g
theorem ao.told {P:Program} [Laid P] {x:Ctx} {g:Gh} {m:Mem} {w:World} (h:ao x g m w) (hx:Fit P x):mq P g w :=
 ⟨h.com,h.rows,fun k hk=>h.glob k (Nat.lt_of_lt_of_le hk hx.1),Laid.mono h.le hx.2⟩
theorem iq {P:Program} [Laid P] {f:FuncId} {xs:List AV} {p:Oid} {val:AV} (he:db P f=true) (hp:p.mono=false)
  (h:∀ (g:Gh) (args:Array Value) (w:World),VRs g xs args→mq P g w→Calls P f args w fun en w'=>∃ v,en = .returned v∧VR g val v∧Below w.heap.size w w'):ak P f xs (Oid.under p) ⟨[],val,[]⟩ :=
 ⟨he,fun x g args w m hm _ ha hs hx=>(h g args w ha (hm.told hx)).mono fun _ _ ⟨v,h1,h2,h3⟩=>⟨g,v,h1,Gh.le_refl g,fun _ _=>rfl,h2,hm.below h3 (nV (hs p (Oid.ah p)).2 hp)⟩⟩
theorem fG {P:Program} [Laid P] {f:FuncId} {xs:List AV} {sp:Oid→Prop} {val:AV} (he:db P f=true)
  (h:∀ (g:Gh) (args:Array Value) (w:World),VRs g xs args→mq P g w→Calls P f args w fun en w'=>∃ v,en = .returned v∧VR g val v∧w' = w):ak P f xs sp ⟨[],val,[]⟩ :=
 ⟨he,fun x g args w m hm _ ha hs hx=>(h g args w ha (hm.told hx)).mono fun _ _ ⟨v,h1,h2,h3⟩=>⟨g,v,h1,Gh.le_refl g,fun _ _=>rfl,h2,by rw [h3];exact hm⟩⟩
theorem VRs.one {g:Gh} {x:AV} {args:Array Value} (h:VRs g [x] args):∃ v,args=#[v]∧VR g x v:=by
 obtain ⟨h1,h2⟩:=h
 refine ⟨args.getD 0 undef,?_,h2 0 (by simp)⟩
 apply Array.ext
 ·rw [h1];rfl
 ·intro i hi hj
  obtain rfl:i=0:=by simp at h1;omega
  simp [Array.getD_eq_getD_getElem?,Array.getElem?_eq_getElem hi]
theorem VRs.two {g:Gh} {x y:AV} {args:Array Value} (h:VRs g [x,y] args):∃ v u,args=#[v,u]∧VR g x v∧VR g y u:=by
 obtain ⟨h1,h2⟩:=h
 refine ⟨args.getD 0 undef,args.getD 1 undef,?_,h2 0 (by simp),h2 1 (by simp)⟩
 apply Array.ext
 ·rw [h1];rfl
 ·intro i hi hj
  have:i < 2:=by simpa using hj
  rcases i with _|_|i
  ·simp [Array.getD_eq_getD_getElem?,Array.getElem?_eq_getElem hi]
  ·simp [Array.getD_eq_getD_getElem?,Array.getElem?_eq_getElem hi]
  ·omega
end Go.Ab
namespace Go.Proofs.YtpficjpdfbiedaaGreatDoor
open Go Go.Ab
theorem zm:tyk Tryz.prog 3=some (TyK.int .i64):=by kernel_rfl
theorem zo:shp Tryz.prog 3=some (false,1):=by kernel_rfl
theorem zp:zer Tryz.prog 3=some [(AV.int .i64 0)]:=by kernel_rfl
theorem zq:cQ Tryz.prog 3=false:=by kernel_rfl
theorem zr:shp Tryz.prog 4=some (false,1):=by kernel_rfl
theorem zt:zer Tryz.prog 4=some [(AV.bool false)]:=by kernel_rfl
theorem zx:cQ Tryz.prog 4=false:=by kernel_rfl
theorem zy:tyk Tryz.prog 5=some (TyK.int .u8):=by kernel_rfl
theorem zA:shp Tryz.prog 5=some (false,1):=by kernel_rfl
theorem zB:zer Tryz.prog 5=some [(AV.int .u8 0)]:=by kernel_rfl
theorem zC:tyk Tryz.prog 9=some TyK.str:=by kernel_rfl
theorem zD:shp Tryz.prog 9=some (false,1):=by kernel_rfl
theorem zE:zer Tryz.prog 9=some [(AV.str [])]:=by kernel_rfl
theorem zF:cQ Tryz.prog 9=false:=by kernel_rfl
theorem xU:tyk Tryz.prog 22=some (TyK.slice 9 false 1 16):=by kernel_rfl
theorem xV:shp Tryz.prog 22=some (false,1):=by kernel_rfl
theorem xW:cQ Tryz.prog 22=false:=by kernel_rfl
theorem xX:tyk Tryz.prog 27=some (TyK.slice 57 true 3 40):=by kernel_rfl
theorem xY:shp Tryz.prog 27=some (false,1):=by kernel_rfl
theorem xZ:zer Tryz.prog 27=some [AV.nilSl]:=by kernel_rfl
theorem x0:cQ Tryz.prog 27=false:=by kernel_rfl
theorem x1:tyk Tryz.prog 29=some (TyK.struct [(0,(false,1)),(1,(false,1)),(2,(false,1))]):=by kernel_rfl
theorem x2:shp Tryz.prog 29=some (true,3):=by kernel_rfl
theorem x3:zer Tryz.prog 29=some [(AV.int .i64 0),(AV.str []),(AV.str [])]:=by kernel_rfl
theorem x4:dm Tryz.prog 10 29=some [(TyS.si .i64),TyS.ss,TyS.ss]:=by kernel_rfl
theorem x5:Tryz.prog.eqGuardType Tryz.prog.depth 29=false:=by kernel_rfl
theorem tT:bO Tryz.prog 29 0=some (0,false,1):=by kernel_rfl
theorem tU:bO Tryz.prog 29 1=some (1,false,1):=by kernel_rfl
theorem tV:bO Tryz.prog 29 2=some (2,false,1):=by kernel_rfl
theorem x6:tyk Tryz.prog 31=some (TyK.struct [(0,(false,1)),(1,(false,1)),(2,(false,1)),(3,(true,3))]):=by kernel_rfl
theorem x7:shp Tryz.prog 31=some (true,6):=by kernel_rfl
theorem x8:zer Tryz.prog 31=some [(AV.str []),AV.nilSl,AV.nilSl,(AV.int .i64 0),(AV.str []),(AV.str [])]:=by kernel_rfl
theorem x9:cQ Tryz.prog 31=false:=by kernel_rfl
theorem tW:bO Tryz.prog 31 0=some (0,false,1):=by kernel_rfl
theorem tX:bO Tryz.prog 31 1=some (1,false,1):=by kernel_rfl
theorem tY:bO Tryz.prog 31 2=some (2,false,1):=by kernel_rfl
theorem tZ:bO Tryz.prog 31 3=some (3,true,3):=by kernel_rfl
theorem ya:tyk Tryz.prog 40=some (TyK.slice 31 true 6 104):=by kernel_rfl
theorem yb:shp Tryz.prog 40=some (false,1):=by kernel_rfl
theorem yc:cQ Tryz.prog 40=false:=by kernel_rfl
theorem yd:tyk Tryz.prog 47=some (TyK.ptr 88):=by kernel_rfl
theorem ye:shp Tryz.prog 47=some (false,1):=by kernel_rfl
theorem yf:cQ Tryz.prog 47=false:=by kernel_rfl
theorem yg:tyk Tryz.prog 55=some (TyK.slice 5 false 1 1):=by kernel_rfl
theorem yh:shp Tryz.prog 55=some (false,1):=by kernel_rfl
theorem yi:tyk Tryz.prog 57=some (TyK.struct [(0,(false,1)),(1,(false,1)),(2,(false,1))]):=by kernel_rfl
theorem yj:shp Tryz.prog 57=some (true,3):=by kernel_rfl
theorem yk:zer Tryz.prog 57=some [(AV.str []),(AV.bool false),(AV.str [])]:=by kernel_rfl
theorem yl:cQ Tryz.prog 57=false:=by kernel_rfl
theorem ym:dm Tryz.prog 10 57=some [TyS.ss,TyS.sb,TyS.ss]:=by kernel_rfl
theorem yn:Tryz.prog.eqGuardType Tryz.prog.depth 57=false:=by kernel_rfl
theorem ua:bO Tryz.prog 57 0=some (0,false,1):=by kernel_rfl
theorem ub:bO Tryz.prog 57 1=some (1,false,1):=by kernel_rfl
theorem uc:bO Tryz.prog 57 2=some (2,false,1):=by kernel_rfl
theorem yo:tyk Tryz.prog 85=some (TyK.map 9 123):=by kernel_rfl
theorem yp:shp Tryz.prog 85=some (false,1):=by kernel_rfl
theorem yq:cQ Tryz.prog 85=false:=by kernel_rfl
theorem yr:o5 Tryz.prog 85=some ([TyS.ss],(false,(AV.agg [(AV.int .i64 0),(AV.int .i64 0),(AV.str [])]))):=by kernel_rfl
theorem yt:jU Tryz.prog 85=some ([TyS.ss],false):=by kernel_rfl
theorem yu:tyk Tryz.prog 88=some (TyK.struct [(0,(false,1)),(1,(false,1))]):=by kernel_rfl
theorem yv:zer Tryz.prog 88=some [AV.nilMap,AV.nilPtr]:=by kernel_rfl
theorem yw:cQ Tryz.prog 88=false:=by kernel_rfl
theorem ud:bO Tryz.prog 88 0=some (0,false,1):=by kernel_rfl
theorem yx:tyk Tryz.prog 89=some (TyK.int .u32):=by kernel_rfl
theorem yy:shp Tryz.prog 89=some (false,1):=by kernel_rfl
theorem yz:zer Tryz.prog 89=some [(AV.int .u32 0)]:=by kernel_rfl
theorem yA:tyk Tryz.prog 91=some (TyK.arr 8 89 false 1):=by kernel_rfl
theorem yB:shp Tryz.prog 91=some (true,8):=by kernel_rfl
theorem yC:zer Tryz.prog 91=some [(AV.int .u32 0),(AV.int .u32 0),(AV.int .u32 0),(AV.int .u32 0),(AV.int .u32 0),(AV.int .u32 0),(AV.int .u32 0),(AV.int .u32 0)]:=by kernel_rfl
theorem yD:cQ Tryz.prog 91=false:=by kernel_rfl
theorem yE:tyk Tryz.prog 97=some (TyK.struct [(0,(false,1)),(1,(false,1))]):=by kernel_rfl
theorem yF:zer Tryz.prog 97=some [AV.nilPtr,AV.nilSl]:=by kernel_rfl
theorem yG:cQ Tryz.prog 97=true:=by kernel_rfl
theorem ue:bO Tryz.prog 97 1=some (1,false,1):=by kernel_rfl
theorem yH:tyk Tryz.prog 99=some (TyK.iface 1):=by kernel_rfl
theorem wb:tyk Tryz.prog 103=some (TyK.slice 89 false 1 4):=by kernel_rfl
theorem wc:tyk Tryz.prog 123=some (TyK.struct [(0,(false,1)),(1,(false,1)),(2,(false,1))]):=by kernel_rfl
theorem we:shp Tryz.prog 123=some (true,3):=by kernel_rfl
theorem wg:zer Tryz.prog 123=some [(AV.int .i64 0),(AV.int .i64 0),(AV.str [])]:=by kernel_rfl
theorem wh:cQ Tryz.prog 123=false:=by kernel_rfl
theorem rA:bO Tryz.prog 123 0=some (0,false,1):=by kernel_rfl
theorem rB:bO Tryz.prog 123 1=some (1,false,1):=by kernel_rfl
theorem rC:bO Tryz.prog 123 2=some (2,false,1):=by kernel_rfl
theorem wi:tyk Tryz.prog 139=some (TyK.struct [(0,(false,1)),(1,(false,1))]):=by kernel_rfl
theorem wj:zer Tryz.prog 139=some [(AV.str []),(AV.bool false)]:=by kernel_rfl
theorem wk:cQ Tryz.prog 139=false:=by kernel_rfl
theorem rD:bO Tryz.prog 139 0=some (0,false,1):=by kernel_rfl
theorem rE:bO Tryz.prog 139 1=some (1,false,1):=by kernel_rfl
theorem wm:tyk Tryz.prog 145=some (TyK.arr 64 89 false 1):=by kernel_rfl
theorem wo:shp Tryz.prog 145=some (true,64):=by kernel_rfl
theorem wq:cQ Tryz.prog 145=false:=by kernel_rfl
theorem wu:tyk Tryz.prog 149=some (TyK.ptr 5):=by kernel_rfl
theorem wv:tyk Tryz.prog 170=some (TyK.int .u64):=by kernel_rfl
attribute [go_sem] zm zo zp zq zr zt zx zy zA zB
attribute [go_sem] zC zD zE zF
attribute [go_sem] xU xV xW xX xY xZ x0 x1
attribute [go_sem] x2 x3 x4 x5 tT tU tV x6 x7 x8 x9 tW tX tY tZ
attribute [go_sem] ya yb yc
attribute [go_sem] yd ye yf
attribute [go_sem] yg yh yi yj yk yl ym yn ua
attribute [go_sem] ub uc
attribute [go_sem] yo yp yq yr yt
attribute [go_sem] yu yv yw ud yx yy yz yA yB yC yD
attribute [go_sem] yE yF yG ue yH wb
attribute [go_sem] wc we wg wh rA rB rC
attribute [go_sem] wi wj wk rD rE
attribute [go_sem] wm wo wq wu
attribute [go_sem] wv
theorem mixed:Tryz.prog.follows .mixedOrders=true:=by kernel_rfl
end Go.Proofs.YtpficjpdfbiedaaGreatDoor
namespace Go.Proofs.YtpficjpdfbiedaaGreatDoor
open Go
set_option maxRecDepth 100000
set_option maxHeartbeats 1000000
theorem qA:((Tryz.prog.info? 97).map (·.size))=some 2:=by kernel_rfl
theorem wx:liesAt Tryz.prog Tryz.prog.depth 97 (2 / Tryz.prog.cellsOf 97) 0 97 1=true:=by kernel_rfl
theorem kd (b:Nat) (w:World) (h0:w.cell? ⟨b,0,none⟩=some (.pointer (some ⟨b,0,none⟩))) :
  Calls Tryz.prog 112 #[.pointer (some ⟨b,0,none⟩)] w fun e w'=>e = .returned (.tuple #[])∧w' = w:=by
 obtain ⟨j,hj,_⟩:=Option.map_eq_some_iff.1 qA
 go_enter Tryz.func112,Tryz.ntmps112
 go_wp2
 rw [Lib.run_neq_ptr_same w _ Tryz.underlying94 hj]
 go_wp2
 go_end0
 exact ⟨rfl,rfl⟩
theorem jz (b:Nat) (w:World) (h0:w.cell? ⟨b,0,none⟩=some (.pointer none)) (hsh:w.shape? b=some (97,2)) (hfz:w.frozen? ⟨b,0,none⟩=false) :
  Calls Tryz.prog 112 #[.pointer (some ⟨b,0,none⟩)] w fun e w'=>e = .returned (.tuple #[])∧w' = w.setCell ⟨b,0,none⟩ (.pointer (some ⟨b,0,none⟩)):=by
 obtain ⟨j,hj,hjs⟩:=Option.map_eq_some_iff.1 qA
 go_enter Tryz.func112,Tryz.ntmps112
 go_wp2
 rw [Lib.run_to_unsafe w ⟨b,0,none⟩ Tryz.underlying94 Tryz.underlying171 hj (by rw [hjs];decide) hsh (Nat.zero_lt_succ 1)]
 simp only [Result.andThen]
 rw [Oper.upon_value]
 go_wp2
 rw [run_callFunc_extern Tryz.func139 (by kernel_rfl) (by kernel_rfl) (by kernel_rfl) (e:=Extern.AbiNoEscape.same) (by kernel_rfl)]
 rw [Lib.run_noEscape]
 simp only [Result.andThen]
 rw [Oper.upon_value]
 go_wp2
 rw [Lib.run_from_unsafe w ⟨b,0,none⟩ Tryz.underlying171 Tryz.underlying94 hj hsh wx]
 simp only [Result.andThen]
 rw [Oper.upon_value]
 go_wp2
 go_end0
 exact ⟨rfl,rfl⟩
end Go.Proofs.YtpficjpdfbiedaaGreatDoor
namespace Go.Proofs
open Go.Shelf
def Tryz.mv:Go.Shelf.Ren:=⟨fun|171=>25|243=>69|246=>113|283=>140|284=>141|285=>142|286=>143|129=>159|317=>158|318=>160|319=>161|320=>162|337=>179|338=>180|n=>n,fun|3=>3|9=>9|2=>2|4=>4|171=>173|0=>0|53=>174|37=>55|5=>5|173=>177|212=>196|51=>89|20=>20|213=>197|46=>170|232=>219|233=>220|n=>n,fun|17=>0|18=>4|19=>5|n=>n⟩
theorem Tryz.uf:Go.Proofs.LaysM.n171 Tryz.prog Tryz.mv:={
 mixed:=by kernel_rfl
 f129:=Tryz.func159.trans (congrArg some (by kernel_rfl))
 f171:=Tryz.func25.trans (congrArg some (by kernel_rfl))
 f243:=Tryz.func69.trans (congrArg some (by kernel_rfl))
 f246:=Tryz.func113.trans (congrArg some (by kernel_rfl))
 f283:=Tryz.func140.trans (congrArg some (by kernel_rfl))
 f284:=Tryz.func141.trans (congrArg some (by kernel_rfl))
 f285:=Tryz.func142.trans (congrArg some (by kernel_rfl))
 f286:=Tryz.func143.trans (congrArg some (by kernel_rfl))
 f317:=Tryz.func158.trans (congrArg some (by kernel_rfl))
 f318:=Tryz.func160.trans (congrArg some (by kernel_rfl))
 f319:=Tryz.func161.trans (congrArg some (by kernel_rfl))
 f320:=Tryz.func162.trans (congrArg some (by kernel_rfl))
 f337:=Tryz.func179.trans (congrArg some (by kernel_rfl))
 f338:=Tryz.func180.trans (congrArg some (by kernel_rfl))
 t0:=Tryz.underlying0
 a0:=Tryz.isAgg0
 z0:=Tryz.sizeOf0
 v0:=Tryz.zeroValue0
 t2:=Tryz.underlying2
 a2:=Tryz.isAgg2
 z2:=Tryz.sizeOf2
 v2:=Tryz.zeroValue2
 t3:=Tryz.underlying3
 a3:=Tryz.isAgg3
 z3:=Tryz.sizeOf3
 v3:=Tryz.zeroValue3
 t4:=Tryz.underlying4
 a4:=Tryz.isAgg4
 z4:=Tryz.sizeOf4
 v4:=Tryz.zeroValue4
 t5:=Tryz.underlying5
 a5:=Tryz.isAgg5
 z5:=Tryz.sizeOf5
 v5:=Tryz.zeroValue5
 t9:=Tryz.underlying9
 a9:=Tryz.isAgg9
 z9:=Tryz.sizeOf9
 v9:=Tryz.zeroValue9
 t20:=Tryz.underlying20
 a20:=Tryz.isAgg20
 z20:=Tryz.sizeOf20
 v20:=Tryz.zeroValue20
 t37:=Tryz.underlying55
 a37:=Tryz.isAgg55
 z37:=Tryz.sizeOf55
 v37:=Tryz.zeroValue55
 t46:=Tryz.underlying170
 a46:=Tryz.isAgg170
 z46:=Tryz.sizeOf170
 v46:=Tryz.zeroValue170
 t51:=Tryz.underlying89
 a51:=Tryz.isAgg89
 z51:=Tryz.sizeOf89
 v51:=Tryz.zeroValue89
 t53:=Tryz.underlying174
 a53:=Tryz.isAgg174
 z53:=Tryz.sizeOf174
 v53:=Tryz.zeroValue174
 t171:=Tryz.underlying173
 a171:=Tryz.isAgg173
 z171:=Tryz.sizeOf173
 v171:=Tryz.zeroValue173
 t173:=Tryz.underlying177
 a173:=Tryz.isAgg177
 z173:=Tryz.sizeOf177
 v173:=Tryz.zeroValue177
 t212:=Tryz.underlying196
 a212:=Tryz.isAgg196
 z212:=Tryz.sizeOf196
 v212:=Tryz.zeroValue196
 t213:=Tryz.underlying197
 a213:=Tryz.isAgg197
 z213:=Tryz.sizeOf197
 t232:=Tryz.underlying219
 a232:=Tryz.isAgg219
 z232:=Tryz.sizeOf219
 v232:=Tryz.zeroValue219
 t233:=Tryz.underlying220
 a233:=Tryz.isAgg220
 z233:=Tryz.sizeOf220
 v233:=Tryz.zeroValue220
 g17:=by kernel_rfl
 g18:=by kernel_rfl
 g19:=by kernel_rfl
 i0:=by kernel_rfl
 i2:=by kernel_rfl
 i3:=by kernel_rfl
 i4:=by kernel_rfl
 i5:=by kernel_rfl
 i9:=by kernel_rfl
 i20:=by kernel_rfl
 i37:=by kernel_rfl
 i46:=by kernel_rfl
 i51:=by kernel_rfl
 i53:=by kernel_rfl
 i171:=by kernel_rfl
 i173:=by kernel_rfl
 i212:=by kernel_rfl
 i232:=by kernel_rfl
 i233:=by kernel_rfl
 m17:=by kernel_rfl
 m18:=by kernel_rfl
 m19:=by kernel_rfl }
open Go.RowKit Go.Sort Go.Lib in
theorem Tryz.strconv_Itoa (n:Int) (h0:-9223372036854775808≤n) (h1:n≤9223372036854775807) (w:World) (htab:Lib.TabIs Tryz.prog w "internal/strconv.uint64pow10" .u64 Lib.pow10Tab) :
  Calls Tryz.prog 25 #[.int .i64 n] w fun e w'=>e = .returned (.string ⟨(Lib.itoa n).toArray⟩)∧∃ k os,w' = grow (w.drewN k) os:=Any.strconv_Itoa Tryz.uf n h0 h1 w htab
def Tryz.mx:Go.Shelf.Ren:=⟨fun|172=>77|244=>119|245=>120|247=>145|279=>146|280=>147|281=>148|282=>149|287=>167|316=>168|171=>25|205=>169|321=>183|322=>184|243=>69|246=>113|283=>140|284=>141|285=>142|286=>143|129=>159|317=>158|318=>160|319=>161|320=>162|337=>179|338=>180|n=>n,fun|9=>9|3=>3|75=>99|76=>100|4=>4|5=>5|167=>180|37=>55|0=>0|85=>181|2=>2|168=>183|53=>174|175=>200|46=>170|210=>203|127=>149|145=>215|143=>213|21=>21|171=>173|173=>177|212=>196|51=>89|20=>20|213=>197|232=>219|233=>220|80=>93|n=>n,fun|15=>2|16=>3|17=>0|18=>4|19=>5|n=>n⟩
theorem Tryz.ke:Go.Proofs.LaysC.n172 Tryz.prog Tryz.mx:={
 mixed:=by kernel_rfl
 f129:=Tryz.func159.trans (congrArg some (by kernel_rfl))
 f171:=Tryz.func25.trans (congrArg some (by kernel_rfl))
 f172:=Tryz.func77.trans (congrArg some (by kernel_rfl))
 f205:=Tryz.func169.trans (congrArg some (by kernel_rfl))
 f243:=Tryz.func69.trans (congrArg some (by kernel_rfl))
 f244:=Tryz.func119.trans (congrArg some (by kernel_rfl))
 f245:=Tryz.func120.trans (congrArg some (by kernel_rfl))
 f246:=Tryz.func113.trans (congrArg some (by kernel_rfl))
 f247:=Tryz.func145.trans (congrArg some (by kernel_rfl))
 f279:=Tryz.func146.trans (congrArg some (by kernel_rfl))
 f280:=Tryz.func147.trans (congrArg some (by kernel_rfl))
 f281:=Tryz.func148.trans (congrArg some (by kernel_rfl))
 f282:=Tryz.func149.trans (congrArg some (by kernel_rfl))
 f283:=Tryz.func140.trans (congrArg some (by kernel_rfl))
 f284:=Tryz.func141.trans (congrArg some (by kernel_rfl))
 f285:=Tryz.func142.trans (congrArg some (by kernel_rfl))
 f286:=Tryz.func143.trans (congrArg some (by kernel_rfl))
 f287:=Tryz.func167.trans (congrArg some (by kernel_rfl))
 f316:=Tryz.func168.trans (congrArg some (by kernel_rfl))
 f317:=Tryz.func158.trans (congrArg some (by kernel_rfl))
 f318:=Tryz.func160.trans (congrArg some (by kernel_rfl))
 f319:=Tryz.func161.trans (congrArg some (by kernel_rfl))
 f320:=Tryz.func162.trans (congrArg some (by kernel_rfl))
 f321:=Tryz.func183.trans (congrArg some (by kernel_rfl))
 f322:=Tryz.func184.trans (congrArg some (by kernel_rfl))
 f337:=Tryz.func179.trans (congrArg some (by kernel_rfl))
 f338:=Tryz.func180.trans (congrArg some (by kernel_rfl))
 t0:=Tryz.underlying0
 a0:=Tryz.isAgg0
 z0:=Tryz.sizeOf0
 v0:=Tryz.zeroValue0
 t2:=Tryz.underlying2
 a2:=Tryz.isAgg2
 z2:=Tryz.sizeOf2
 v2:=Tryz.zeroValue2
 t3:=Tryz.underlying3
 a3:=Tryz.isAgg3
 z3:=Tryz.sizeOf3
 v3:=Tryz.zeroValue3
 t4:=Tryz.underlying4
 a4:=Tryz.isAgg4
 z4:=Tryz.sizeOf4
 v4:=Tryz.zeroValue4
 t5:=Tryz.underlying5
 a5:=Tryz.isAgg5
 z5:=Tryz.sizeOf5
 v5:=Tryz.zeroValue5
 t9:=Tryz.underlying9
 a9:=Tryz.isAgg9
 z9:=Tryz.sizeOf9
 v9:=Tryz.zeroValue9
 t20:=Tryz.underlying20
 a20:=Tryz.isAgg20
 z20:=Tryz.sizeOf20
 v20:=Tryz.zeroValue20
 t21:=Tryz.underlying21
 a21:=Tryz.isAgg21
 z21:=Tryz.sizeOf21
 v21:=Tryz.zeroValue21
 t37:=Tryz.underlying55
 a37:=Tryz.isAgg55
 z37:=Tryz.sizeOf55
 v37:=Tryz.zeroValue55
 t46:=Tryz.underlying170
 a46:=Tryz.isAgg170
 z46:=Tryz.sizeOf170
 v46:=Tryz.zeroValue170
 t51:=Tryz.underlying89
 a51:=Tryz.isAgg89
 z51:=Tryz.sizeOf89
 v51:=Tryz.zeroValue89
 t53:=Tryz.underlying174
 a53:=Tryz.isAgg174
 z53:=Tryz.sizeOf174
 v53:=Tryz.zeroValue174
 t75:=Tryz.underlying99
 a75:=Tryz.isAgg99
 z75:=Tryz.sizeOf99
 v75:=Tryz.zeroValue99
 t76:=Tryz.underlying100
 a76:=Tryz.isAgg100
 z76:=Tryz.sizeOf100
 v76:=Tryz.zeroValue100
 t85:=Tryz.underlying181
 a85:=Tryz.isAgg181
 z85:=Tryz.sizeOf181
 v85:=Tryz.zeroValue181
 t127:=Tryz.underlying149
 a127:=Tryz.isAgg149
 z127:=Tryz.sizeOf149
 v127:=Tryz.zeroValue149
 t143:=Tryz.underlying213
 a143:=Tryz.isAgg213
 z143:=Tryz.sizeOf213
 v143:=Tryz.zeroValue213
 t145:=Tryz.underlying215
 a145:=Tryz.isAgg215
 z145:=Tryz.sizeOf215
 v145:=Tryz.zeroValue215
 t167:=Tryz.underlying180
 a167:=Tryz.isAgg180
 z167:=Tryz.sizeOf180
 v167:=Tryz.zeroValue180
 t168:=Tryz.underlying183
 a168:=Tryz.isAgg183
 z168:=Tryz.sizeOf183
 v168:=Tryz.zeroValue183
 t171:=Tryz.underlying173
 a171:=Tryz.isAgg173
 z171:=Tryz.sizeOf173
 v171:=Tryz.zeroValue173
 t173:=Tryz.underlying177
 a173:=Tryz.isAgg177
 z173:=Tryz.sizeOf177
 v173:=Tryz.zeroValue177
 t175:=Tryz.underlying200
 a175:=Tryz.isAgg200
 z175:=Tryz.sizeOf200
 v175:=Tryz.zeroValue200
 t210:=Tryz.underlying203
 a210:=Tryz.isAgg203
 z210:=Tryz.sizeOf203
 v210:=Tryz.zeroValue203
 t212:=Tryz.underlying196
 a212:=Tryz.isAgg196
 z212:=Tryz.sizeOf196
 v212:=Tryz.zeroValue196
 t213:=Tryz.underlying197
 a213:=Tryz.isAgg197
 z213:=Tryz.sizeOf197
 t232:=Tryz.underlying219
 a232:=Tryz.isAgg219
 z232:=Tryz.sizeOf219
 v232:=Tryz.zeroValue219
 t233:=Tryz.underlying220
 a233:=Tryz.isAgg220
 z233:=Tryz.sizeOf220
 v233:=Tryz.zeroValue220
 g15:=by kernel_rfl
 g16:=by kernel_rfl
 g17:=by kernel_rfl
 g18:=by kernel_rfl
 g19:=by kernel_rfl
 t80:=Tryz.underlying93
 a80:=Tryz.isAgg93
 z80:=Tryz.sizeOf93
 v80:=Tryz.zeroValue93
 i0:=by kernel_rfl
 i2:=by kernel_rfl
 i3:=by kernel_rfl
 i4:=by kernel_rfl
 i5:=by kernel_rfl
 i9:=by kernel_rfl
 i20:=by kernel_rfl
 i21:=by kernel_rfl
 i37:=by kernel_rfl
 i46:=by kernel_rfl
 i51:=by kernel_rfl
 i53:=by kernel_rfl
 i75:=by kernel_rfl
 i76:=by kernel_rfl
 i80:=by kernel_rfl
 i85:=by kernel_rfl
 i127:=by kernel_rfl
 i143:=by kernel_rfl
 i145:=by kernel_rfl
 i167:=by kernel_rfl
 i168:=by kernel_rfl
 i171:=by kernel_rfl
 i173:=by kernel_rfl
 i175:=by kernel_rfl
 i210:=by kernel_rfl
 i212:=by kernel_rfl
 i232:=by kernel_rfl
 i233:=by kernel_rfl
 m15:=by kernel_rfl
 m16:=by kernel_rfl
 m17:=by kernel_rfl
 m18:=by kernel_rfl
 m19:=by kernel_rfl
 c0:=by kernel_rfl
 c2:=by kernel_rfl
 c3:=by kernel_rfl
 c4:=by kernel_rfl
 c5:=by kernel_rfl
 c9:=by kernel_rfl
 c20:=by kernel_rfl
 c21:=by kernel_rfl
 c37:=by kernel_rfl
 c46:=by kernel_rfl
 c51:=by kernel_rfl
 c53:=by kernel_rfl
 c75:=by kernel_rfl
 c76:=by kernel_rfl
 c80:=by kernel_rfl
 c85:=by kernel_rfl
 c127:=by kernel_rfl
 c143:=by kernel_rfl
 c145:=by kernel_rfl
 c167:=by kernel_rfl
 c168:=by kernel_rfl
 c171:=by kernel_rfl
 c173:=by kernel_rfl
 c175:=by kernel_rfl
 c210:=by kernel_rfl
 c212:=by kernel_rfl
 c213:=by kernel_rfl
 c232:=by kernel_rfl
 c233:=by kernel_rfl }
open Go.RowKit in
theorem Tryz.strconv_Atoi_ok (s:ByteArray) (hmax:s.size≤9223372036854775806) (v:Int) (h:Lib.atoiAll s.data.toList = .ok v) (w:World) :
  Calls Tryz.prog 77 #[.string s] w fun e w'=>e = .returned (.tuple #[.int .i64 v,.nilIface])∧(w' = w∨∃ t,w' = Lib.bytesWorld w 5 t):=Any.strconv_Atoi_ok Tryz.ke s hmax v h w
open Go.RowKit in
theorem Tryz.strconv_Atoi_range (s:ByteArray) (hlim:s.size≤281474976710656) (h:Lib.atoiAll s.data.toList = .range) (ev:Value) (w:World) (hv:w.cell? ⟨3,0,none⟩=some ev) (hev:ev = .nilIface∨∃ te pe,ev = .iface te pe) :
  Calls Tryz.prog 77 #[.string s] w fun e w'=>∃ N,e = .returned (.tuple #[.int .i64 (Lib.atoiSat s.data.toList),.iface 183 (.pointer (some ⟨N,0,none⟩))])∧w.heap.size≤N∧w'.heap[N]? = some (.cells #[.string ⟨#[65,116,111,105]⟩,.string s,ev] 203 (0,0))∧Below w.heap.size w w':=Any.strconv_Atoi_range Tryz.ke s hlim h ev w hv hev
def Tryz.nW:Go.Shelf.Ren:=⟨fun|219=>144|217=>163|225=>164|224=>165|267=>166|266=>181|314=>182|n=>n,fun|9=>9|3=>3|4=>4|5=>5|46=>170|146=>210|51=>89|n=>n,fun|1=>1|n=>n⟩
theorem Tryz.wy:Go.Proofs.Lays.n219 Tryz.prog Tryz.nW:={
 mixed:=by kernel_rfl
 f217:=Tryz.func163.trans (congrArg some (by kernel_rfl))
 f219:=Tryz.func144.trans (congrArg some (by kernel_rfl))
 f224:=Tryz.func165.trans (congrArg some (by kernel_rfl))
 f225:=Tryz.func164.trans (congrArg some (by kernel_rfl))
 f266:=Tryz.func181.trans (congrArg some (by kernel_rfl))
 f267:=Tryz.func166.trans (congrArg some (by kernel_rfl))
 f314:=Tryz.func182.trans (congrArg some (by kernel_rfl))
 t3:=Tryz.underlying3
 a3:=Tryz.isAgg3
 z3:=Tryz.sizeOf3
 v3:=Tryz.zeroValue3
 t4:=Tryz.underlying4
 a4:=Tryz.isAgg4
 z4:=Tryz.sizeOf4
 v4:=Tryz.zeroValue4
 t5:=Tryz.underlying5
 a5:=Tryz.isAgg5
 z5:=Tryz.sizeOf5
 v5:=Tryz.zeroValue5
 t9:=Tryz.underlying9
 a9:=Tryz.isAgg9
 z9:=Tryz.sizeOf9
 v9:=Tryz.zeroValue9
 t46:=Tryz.underlying170
 a46:=Tryz.isAgg170
 z46:=Tryz.sizeOf170
 v46:=Tryz.zeroValue170
 t51:=Tryz.underlying89
 a51:=Tryz.isAgg89
 z51:=Tryz.sizeOf89
 v51:=Tryz.zeroValue89
 t146:=Tryz.underlying210
 a146:=Tryz.isAgg210
 z146:=Tryz.sizeOf210
 v146:=Tryz.zeroValue210
 g1:=by kernel_rfl }
open Go.RowKit Go.Lib in
theorem Tryz.stringslite_Index_one (s:ByteArray) (c:UInt8) (w:World) :
  Calls Tryz.prog 144 #[.string s,.string ⟨#[c]⟩] w fun e w'=>e = .returned (.int .i64 (Lib.indexByte s.data.toList c))∧w' = w:=Any.stringslite_Index_one Tryz.wy s c w
def Tryz.nX:Go.Shelf.Ren:=⟨fun|144=>178|143=>187|219=>144|217=>163|225=>164|224=>165|267=>166|266=>181|314=>182|n=>n,fun|9=>9|4=>4|3=>3|5=>5|46=>170|146=>210|51=>89|n=>n,fun|1=>1|n=>n⟩
theorem Tryz.wz:Go.Proofs.Lays.n144 Tryz.prog Tryz.nX:={
 mixed:=by kernel_rfl
 f143:=Tryz.func187.trans (congrArg some (by kernel_rfl))
 f144:=Tryz.func178.trans (congrArg some (by kernel_rfl))
 f217:=Tryz.func163.trans (congrArg some (by kernel_rfl))
 f219:=Tryz.func144.trans (congrArg some (by kernel_rfl))
 f224:=Tryz.func165.trans (congrArg some (by kernel_rfl))
 f225:=Tryz.func164.trans (congrArg some (by kernel_rfl))
 f266:=Tryz.func181.trans (congrArg some (by kernel_rfl))
 f267:=Tryz.func166.trans (congrArg some (by kernel_rfl))
 f314:=Tryz.func182.trans (congrArg some (by kernel_rfl))
 t3:=Tryz.underlying3
 a3:=Tryz.isAgg3
 z3:=Tryz.sizeOf3
 v3:=Tryz.zeroValue3
 t4:=Tryz.underlying4
 a4:=Tryz.isAgg4
 z4:=Tryz.sizeOf4
 v4:=Tryz.zeroValue4
 t5:=Tryz.underlying5
 a5:=Tryz.isAgg5
 z5:=Tryz.sizeOf5
 v5:=Tryz.zeroValue5
 t9:=Tryz.underlying9
 a9:=Tryz.isAgg9
 z9:=Tryz.sizeOf9
 v9:=Tryz.zeroValue9
 t46:=Tryz.underlying170
 a46:=Tryz.isAgg170
 z46:=Tryz.sizeOf170
 v46:=Tryz.zeroValue170
 t51:=Tryz.underlying89
 a51:=Tryz.isAgg89
 z51:=Tryz.sizeOf89
 v51:=Tryz.zeroValue89
 t146:=Tryz.underlying210
 a146:=Tryz.isAgg210
 z146:=Tryz.sizeOf210
 v146:=Tryz.zeroValue210
 g1:=by kernel_rfl }
open Go.RowKit Go.Lib in
theorem Tryz.strings_Contains_one (s:ByteArray) (c:UInt8) (w:World) :
  Calls Tryz.prog 178 #[.string s,.string ⟨#[c]⟩] w fun e w'=>e = .returned (.bool (decide (0≤Lib.indexByte s.data.toList c)))∧w' = w:=Any.strings_Contains_one Tryz.wz s c w
def Tryz.nY:Go.Shelf.Ren:=⟨fun|190=>175|125=>191|258=>190|128=>205|129=>159|302=>196|303=>197|304=>198|305=>199|306=>200|307=>201|308=>202|309=>203|310=>204|333=>207|329=>208|330=>209|334=>210|335=>211|336=>212|344=>213|n=>n,fun|31=>22|9=>9|3=>3|46=>170|0=>0|51=>89|53=>174|4=>4|183=>225|182=>224|131=>67|5=>5|218=>230|222=>234|228=>240|229=>241|n=>n,fun|n=>n⟩
theorem Tryz.qB:Go.Proofs.Lays.n190 Tryz.prog Tryz.nY:={
 mixed:=by kernel_rfl
 f125:=Tryz.func191.trans (congrArg some (by kernel_rfl))
 f128:=Tryz.func205.trans (congrArg some (by kernel_rfl))
 f129:=Tryz.func159.trans (congrArg some (by kernel_rfl))
 f190:=Tryz.func175.trans (congrArg some (by kernel_rfl))
 f258:=Tryz.func190.trans (congrArg some (by kernel_rfl))
 f302:=Tryz.func196.trans (congrArg some (by kernel_rfl))
 f303:=Tryz.func197.trans (congrArg some (by kernel_rfl))
 f304:=Tryz.func198.trans (congrArg some (by kernel_rfl))
 f305:=Tryz.func199.trans (congrArg some (by kernel_rfl))
 f306:=Tryz.func200.trans (congrArg some (by kernel_rfl))
 f307:=Tryz.func201.trans (congrArg some (by kernel_rfl))
 f308:=Tryz.func202.trans (congrArg some (by kernel_rfl))
 f309:=Tryz.func203.trans (congrArg some (by kernel_rfl))
 f310:=Tryz.func204.trans (congrArg some (by kernel_rfl))
 f329:=Tryz.func208.trans (congrArg some (by kernel_rfl))
 f330:=Tryz.func209.trans (congrArg some (by kernel_rfl))
 f333:=Tryz.func207.trans (congrArg some (by kernel_rfl))
 f334:=Tryz.func210.trans (congrArg some (by kernel_rfl))
 f335:=Tryz.func211.trans (congrArg some (by kernel_rfl))
 f336:=Tryz.func212.trans (congrArg some (by kernel_rfl))
 f344:=Tryz.func213.trans (congrArg some (by kernel_rfl))
 t0:=Tryz.underlying0
 a0:=Tryz.isAgg0
 z0:=Tryz.sizeOf0
 v0:=Tryz.zeroValue0
 t3:=Tryz.underlying3
 a3:=Tryz.isAgg3
 z3:=Tryz.sizeOf3
 v3:=Tryz.zeroValue3
 t4:=Tryz.underlying4
 a4:=Tryz.isAgg4
 z4:=Tryz.sizeOf4
 v4:=Tryz.zeroValue4
 t5:=Tryz.underlying5
 a5:=Tryz.isAgg5
 z5:=Tryz.sizeOf5
 v5:=Tryz.zeroValue5
 t9:=Tryz.underlying9
 a9:=Tryz.isAgg9
 z9:=Tryz.sizeOf9
 v9:=Tryz.zeroValue9
 t31:=Tryz.underlying22
 a31:=Tryz.isAgg22
 z31:=Tryz.sizeOf22
 v31:=Tryz.zeroValue22
 t46:=Tryz.underlying170
 a46:=Tryz.isAgg170
 z46:=Tryz.sizeOf170
 v46:=Tryz.zeroValue170
 t51:=Tryz.underlying89
 a51:=Tryz.isAgg89
 z51:=Tryz.sizeOf89
 v51:=Tryz.zeroValue89
 t53:=Tryz.underlying174
 a53:=Tryz.isAgg174
 z53:=Tryz.sizeOf174
 v53:=Tryz.zeroValue174
 t131:=Tryz.underlying67
 a131:=Tryz.isAgg67
 z131:=Tryz.sizeOf67
 v131:=Tryz.zeroValue67
 t182:=Tryz.underlying224
 a182:=Tryz.isAgg224
 z182:=Tryz.sizeOf224
 v182:=Tryz.zeroValue224
 t183:=Tryz.underlying225
 a183:=Tryz.isAgg225
 z183:=Tryz.sizeOf225
 v183:=Tryz.zeroValue225
 t218:=Tryz.underlying230
 a218:=Tryz.isAgg230
 z218:=Tryz.sizeOf230
 v218:=Tryz.zeroValue230
 t222:=Tryz.underlying234
 a222:=Tryz.isAgg234
 z222:=Tryz.sizeOf234
 v222:=Tryz.zeroValue234
 t228:=Tryz.underlying240
 a228:=Tryz.isAgg240
 z228:=Tryz.sizeOf240
 v228:=Tryz.zeroValue240
 t229:=Tryz.underlying241
 a229:=Tryz.isAgg241
 z229:=Tryz.sizeOf241
 v229:=Tryz.zeroValue241 }
open Go.Sort Go.RowKit in
theorem Tryz.slices_Sort_string (blk off cap:Nat) (ss:List (List UInt8)) (w:World) (hH:Holds encStr w blk off ss.toArray) (hblk:blk < w.heap.size) (hsz:ss.length < 4611686018427387904) :
  Calls Tryz.prog 175 #[.slice (some ⟨blk,off,none⟩) ss.length cap] w fun e w' =>
   e = .returned (.tuple #[])∧∃ n os,w' = grow (putRow encStr (Sort.ahead w n) blk off (ss.mergeSort fun x y=>decide (x≤y)).toArray) os:=Any.slices_Sort_string Tryz.qB blk off cap ss w hH hblk hsz
open Go.RowKit Go.Lib in
open Go.RowKit Go.Lib in
open Go.RowKit Go.Sort in
theorem Tryz.slices_Sort_string_none (p:Option Addr) (cap:Nat) (w:World) :
  Calls Tryz.prog 175 #[.slice p 0 cap] w fun e w'=>e = .returned (.tuple #[])∧w' = w:=Any.slices_Sort_string_none Tryz.qB p cap w
end Go.Proofs
namespace Go.Proofs.YtpficjpdfbiedaaGreatDoor
open Go Go.Ab Go.RowKit
def fT (g:Gh):Prop:=(∃ v,g.com 2 0=some v∧(v = .nilIface∨∃ t p,v = .iface t p))∧∃ v,g.com 3 0=some v∧(v = .nilIface∨∃ t p,v = .iface t p)
theorem fT.mono {g g':Gh} (h:Gh.le g g'):fT g→fT g':=fun ⟨⟨v,h3,h4⟩,u,h5,h6⟩=>⟨⟨v,h.2.1 _ _ _ h3,h4⟩,u,h.2.1 _ _ _ h5,h6⟩
instance ug:Laid Tryz.prog where
 facts g:=g.row 0=some 20∧(∀ j z,Lib.pow10Tab[j]? = some z→g.com 0 j=some (.int .u64 z))∧(∃ m,g.com 1 0=some (.int .i64 m))∧fT g
 mono h:=fun ⟨h1,h2,⟨m,h7⟩,h8⟩=>⟨h.2.2 _ _ h1,fun j z hz=>h.2.1 _ _ _ (h2 j z hz),⟨m,h.2.1 _ _ _ h7⟩,fT.mono h h8⟩
theorem yI {g:Gh} {w:World} (h:mq Tryz.prog g w):Lib.TabIs Tryz.prog w "internal/strconv.uint64pow10" .u64 Lib.pow10Tab:=by
 obtain ⟨h1,h2,_⟩:=h.facts
 obtain ⟨c,t,fz,h3,h4⟩:=h.rows 0 20 h1
 have hn:Tryz.prog.globalNamed "internal/strconv.uint64pow10" = some 0:=by kernel_rfl
 simp only [Lib.TabIs,World.var?,hn,Option.bind_some,h3]
 congr 1
 apply Array.ext
 ·rw [h4];rfl
 ·intro j h5 h6
  have h7:j < Lib.pow10Tab.length:=by simpa using h6
  have h8:=h.com 0 j _ (h2 j _ (List.getElem?_eq_getElem h7))
  simp only [World.cell?,h3,Option.isSome_none,Bool.false_eq_true,if_false,Array.getElem?_eq_getElem h5,Option.some.injEq] at h8
  simpa using h8
theorem er (n:Int) (h0:-9223372036854775808≤n) (h1:n≤9223372036854775807) (p:Oid) (hp:p.mono=false):ak Tryz.prog 25 [.int .i64 n] (Oid.under p) ⟨[],.str (Lib.itoa n),[]⟩ :=
 iq (by kernel_rfl) hp fun g args w ha ht=>by
  obtain ⟨v,rfl,hv⟩:=ha.one
  rw [hv.aJ]
  refine (Tryz.strconv_Itoa n h0 h1 w (yI ht)).mono ?_
  rintro e w' ⟨rfl,k,os,rfl⟩
  exact ⟨_,rfl,.str _ _ rfl,⟨rfl,rfl,rfl,by simp [Sort.grow,World.drewN],fun b hb=>by simp only [Sort.grow,World.drewN];rw [Array.getElem?_append_left hb]⟩⟩
theorem uh (q:Oid) (v:AV) (sp:Oid→Prop):ak Tryz.prog 112 [.ptr (.ty 97 q) 0] sp ⟨[(.ty 97 q,.cells [.nilPtr,v])],.tuple [],[(.ty 97 q,some (.cells [.ptr (.ty 97 q) 0,v]))]⟩ :=
 ⟨by kernel_rfl,fun x g args w m hm hn ha hs hx=>by
  obtain ⟨u,rfl,hu⟩:=ha.one
  obtain ⟨b,rfl,hb⟩:=hu.c7
  have hmid:=hn (.ty 97 q,.cells [.nilPtr,v]) (by simp)
  obtain ⟨b',h1,h2,h3,h4⟩:=hm.fj hmid hb
  rw [hb] at h1;simp only [Option.some.injEq] at h1;subst h1
  obtain ⟨c,t,fz,c1,c2,c3,c4⟩:=h4
  obtain ⟨c',fz',h5⟩:=hm.typs 97 q b hb
  rw [c1] at h5;simp only [Option.some.injEq,Obj.cells.injEq] at h5
  obtain ⟨_,rfl,_⟩:=h5
  have hsz:c.size=2:=c2
  have k0:=c4 0 (by simp)
  have k1:=c4 1 (by simp)
  simp only [List.getD_cons_zero,List.getD_cons_succ] at k0 k1
  have k0':=k0.cz
  have hlt:b < w.heap.size:=(Array.getElem?_eq_some_iff.1 c1).1
  have hg0:c[0]? = some (.pointer none):=by
   rw [Array.getD_eq_getD_getElem?] at k0'
   rw [Array.getElem?_eq_getElem (by omega)] at k0' ⊢
   simpa using k0'
  have hf:¬ (fz.1≤0∧0 < fz.2):=c3 0 (by omega)
  refine (jz b w (by simp [World.cell?,c1,hg0]) (by simp [World.shape?,c1,hsz]) (by
   obtain ⟨lo,hi⟩:=fz
   simp only [World.frozen?,c1]
   simp only at hf
   by_cases h:lo≤0
   ·have:¬ 0 < hi:=fun h'=>hf ⟨h,h'⟩
    simp [this]
   ·simp [h])).mono ?_
  rintro e w' ⟨rfl,rfl⟩
  have hnew:(w.setCell ⟨b,0,none⟩ (.pointer (some ⟨b,0,none⟩))).heap[b]? = some (.cells (c.setIfInBounds 0 (.pointer (some ⟨b,0,none⟩))) 97 fz):=by simp [World.setCell,Array.getElem?_modify,c1]
  refine ⟨g,_,rfl,Gh.le_refl g,fun _ _=>rfl,.tuple _ _ rfl (fun j hj=>absurd hj (Nat.not_lt_zero _)),?_⟩
  refine hm.gN (o:=.cells [.ptr (.ty 97 q) 0,v]) (w':=w.setCell ⟨b,0,none⟩ (.pointer (some ⟨b,0,none⟩))) hmid hb rfl rfl ⟨rfl,Nat.le_refl _⟩ (by simp [World.setCell]) (fun k hk _=>Below.heap_setCell w ⟨b,0,none⟩ _ k hk) (fun r hr=>?_) (fun c9 t9 fz9 h9=>?_) ?_
  ·obtain ⟨c',t',fz',h6,h7⟩:=hm.rows b r hr
   rw [c1] at h6;simp only [Option.some.injEq,Obj.cells.injEq] at h6
   obtain ⟨rfl,rfl,rfl⟩:=h6
   exact ⟨_,_,_,hnew,by simp [h7]⟩
  ·rw [c1] at h9;simp only [Option.some.injEq,Obj.cells.injEq] at h9
   obtain ⟨rfl,rfl,rfl⟩:=h9
   exact ⟨_,_,hnew⟩
  ·refine ⟨_,_,_,hnew,by simp [hsz],fun j hj=>c3 j (by simpa using hj),fun j hj=>?_⟩
   have hj2:j < 2:=hj
   match j,hj2 with
   | 0,_ =>
    simp only [List.getD_cons_zero,Array.getD_eq_getD_getElem?]
    rw [Array.getElem?_setIfInBounds_self_of_lt (by omega)]
    exact .ptr _ 0 b hb
   | 1,_ =>
    simp only [List.getD_cons_succ,List.getD_cons_zero,Array.getD_eq_getD_getElem?]
    rw [Array.getElem?_setIfInBounds_ne (by omega),← Array.getD_eq_getD_getElem?]
    exact k1⟩
theorem wA (q:Oid) (v:AV) (sp:Oid→Prop):ak Tryz.prog 112 [.ptr q 0] sp ⟨[(q,.cells [.ptr q 0,v])],.tuple [],[]⟩ :=
 ⟨by kernel_rfl,fun x g args w m hm hn ha hs hx=>by
  obtain ⟨u,rfl,hu⟩:=ha.one
  obtain ⟨b,rfl,hb⟩:=hu.c7
  have hmid:=hn (q,.cells [.ptr q 0,v]) (by simp)
  obtain ⟨b',h1,h2,h3,h4⟩:=hm.fj hmid hb
  rw [hb] at h1;simp only [Option.some.injEq] at h1;subst h1
  obtain ⟨c,t,fz,c1,c2,c3,c4⟩:=h4
  have hsz:c.size=2:=c2
  have k0:=c4 0 (by simp)
  simp only [List.getD_cons_zero] at k0
  obtain ⟨b2,k0',hb2⟩:=k0.c7
  rw [hb] at hb2;simp only [Option.some.injEq] at hb2;subst hb2
  have hg0:c[0]? = some (.pointer (some ⟨b,0,none⟩)):=by
   rw [Array.getD_eq_getD_getElem?] at k0'
   rw [Array.getElem?_eq_getElem (by omega)] at k0' ⊢
   simpa using k0'
  refine (kd b w (by simp [World.cell?,c1,hg0])).mono ?_
  rintro e w' ⟨rfl,rfl⟩
  exact ⟨g,_,rfl,Gh.le_refl g,fun _ _=>rfl,.tuple _ _ rfl (fun j hj=>absurd hj (Nat.not_lt_zero _)),hm⟩⟩
end Go.Proofs.YtpficjpdfbiedaaGreatDoor
namespace Go.Ab
open Go.ChangeShapes Go.WideShapes
section
variable {β:Type}
theorem law_lifted_row {C:Checked} [Laid C.prog] {os:Os} {f:FuncId} {fn:Func} {s:ChangeSpec} {F:Stop.Interp} {conds:List PathCond} {laid:List (String × DataW Unit)} {tb:TypeId} {H:Type} {enc:TypeId × Value→H} {ts:List TypeId} {B:β→List AV} {W:β→Prop}
  (own:ownKnob C.prog.godebug=none) (started:os.Started) (noInit:C.prog.inits.idxOf? f=none) (hfn:C.prog.funcs[f]? = some fn)
  (witness:∃ (w:World) (tape:Tape) (i:Input),w.os=os∧(w.forCall tape i).Shaped C.prog∧i.vars=[]∧Input.okWide C.prog (w.forCall tape i) .any w.heap.size f i ∧
   (OpenSpec.ofChange s).preRow enc C.prog fn conds false laid (w.forCall tape i).memory i.args∧({}:Assume).holds C.prog (lone (Frame.enter C.prog f i.args .normal) [] (w.forCall tape i)))
  (hl:laidOutB C.prog=true) (hz:∀ t e,t < C.prog.types.size→C.prog.underlying t=some (.slice e)→0 < C.prog.cellsOf e) (hp:fn.params.toList=ts) (hrB:(ts.all fun t=>C.prog.readableRec t && decide (t < C.prog.types.size))=true)
  (hrt:fn.resultTypes=#[tb]) (htb:C.prog.underlying tb=some .bool) (hv:s.vars=[]) (hs:∀ ds:List (DataW H),ds.length=ts.length→s.fn H ds={ results:=[.lit (.bool true)],args:=ds })
  (hA:RdA C.prog ts B W) (hc:∀ b,W b→ak C.prog f (B b) (Oid.under (.root C.prog.globals.size)) ⟨[],.bool true,[]⟩) (hLaid:∀ W:World,laidMetH C.prog laid W→W.ShapedOpen C.prog→Laid.facts C.prog (bB C.prog.globals.size W)) :
  ReturnsInHanded {} C os f .any ((OpenSpec.ofChange s).preRow enc C.prog fn conds false laid) (((OpenSpec.ofChange s).at F).post enc C.prog fn false true false false):=by
 have hr:∀ t ∈ ts,C.prog.readableRec t=true∧t < C.prog.types.size:=fun t ht=>by
  have:=List.all_eq_true.1 hrB t ht
  simpa using this
 refine returnsInHanded_of_row own started noInit hfn witness ?_
 intro w base args ds gs before hval hW _ _ hsz hlaid hopen _
 have hW:DataW.Whole enc C.prog fn.params.toList s.vars false w args.toList ds gs before:=hW
 have hsz:(DataW.weightsEach C.prog (fn.params.toList++s.plain.varTypes C.prog) (ds++gs)).all (· ≤ reachBytes)=true:=hsz
 have hW':=hW
 obtain ⟨p,q,hT,hV,rfl,hfz,hnd⟩:=hW
 rw [hv] at hV
 obtain ⟨rfl,rfl⟩:=trodVars_none hV
 have hlen:=fF hT
 rw [hp] at hT hlen
 have hvt:s.plain.varTypes C.prog=[]:=by
  have:s.plain.vars=[]:=hv
  unfold DataSpec.varTypes;rw [this];rfl
 rw [hvt,List.append_nil,List.append_nil,List.all_eq_true,hp] at hsz
 obtain ⟨b,k1,k2,k3⟩:=hA.rd (ng:=C.prog.globals.size) (fun j t v ht hv'=>hval j t v (by rw [← Array.getElem?_toList,hp];exact ht) (by rw [← Array.getElem?_toList];exact hv')) hT fun n hn=>by simpa using hsz n hn
 refine tR hl hz (by rw [hp];exact hr) hrt htb hv hW' (hs ds hlen) (avs:=B b) ⟨by simpa using k2,fun j hj=>?_⟩ (hc b k1) (hLaid _ hlaid hopen)
 have:=k3 j (by rw [k2];exact hj)
 simpa [List.getD_eq_getElem?_getD,Array.getD_eq_getD_getElem?] using this
end
theorem nZ {ng:Nat} {P:Program} {W:World} {name:String} {k:IntKind} {zs:List Int} {g:Nat} (hg:P.globalNamed name=some g) (h:Lib.TabIs P W name k zs) :
  (bB ng W).row g=some zs.length∧∀ j z,zs[j]? = some z→(bB ng W).com g j=some (.int k z):=by
 simp only [Lib.TabIs,World.var?,hg,Option.bind_some] at h
 cases hw:W.heap[g]? with
 | none=>rw [hw] at h;cases h
 | some o =>
  rw [hw] at h
  cases o with
  | cells c t fz =>
   simp only [Option.some.injEq] at h
   subst h
   refine ⟨by simp [bB,hw],fun j z hz=>fS ?_ rfl⟩
   simp [World.cell?,hw,hz]
  | _=>cases h
theorem lC {ng:Nat} {P:Program} {W:World} {name nm:String} {d:DataW Unit} {g:Nat} {ti:TypeId} {ms:Array (String × TypeId)} (hg:P.globalNamed name=some g) (hty:(P.globals[g]?).map (·.type)=some ti) (hi:P.underlying ti=some (.interface ms))
  {l:List (String × DataW Unit)} (hm:(name,.iface nm d) ∈ l) (h:laidMet P l W):∃ v,(bB ng W).com g 0=some v∧(v = .nilIface∨∃ t p,v = .iface t p):=by
 obtain ⟨ps,hl,_,_⟩:=h
 have key:∀ {l:List (String × DataW Unit)} {ps:List MemPlace},DataW.LaidVars P W l ps→(name,.iface nm d) ∈ l→∃ t p,W.cell? ⟨g,0,none⟩=some (.iface t p):=by
  intro l
  induction l with
  | nil=>intro ps _ hm;cases hm
  | cons x r ih =>
   obtain ⟨n,e⟩:=x
   intro ps hl hm
   obtain ⟨g',t,cs,fuel,p,q,h1,h2,h3,h4,h5,_⟩:=hl
   rcases List.mem_cons.1 hm with hm|hm
   ·simp only [Prod.mk.injEq] at hm
    obtain ⟨rfl,rfl⟩:=hm
    rw [hg] at h1;simp only [Option.some.injEq] at h1;subst h1
    rw [hty] at h2;simp only [Option.some.injEq] at h2;subst h2
    obtain ⟨_,u,v,h6,_,_⟩:=iface_of_trod hi h4
    simp only [World.var?,hg,Option.bind_some] at h3
    cases hw:W.heap[g]? with
    | none=>rw [hw] at h3;cases h3
    | some o =>
     rw [hw] at h3
     cases o with
     | cells c t' fz =>
      simp only [Option.some.injEq] at h3
      subst h3
      refine ⟨u,v,?_⟩
      have h7:c[0]? = some (.iface u v):=by rw [← Array.getElem?_toList,h6];rfl
      simp [World.cell?,hw,h7]
     | _=>cases h3
   ·exact ih h5 hm
 obtain ⟨t,p,hc⟩:=key hl hm
 exact ⟨_,fS hc rfl,.inr ⟨t,p,rfl⟩⟩
theorem pw {P:Program} {W:World} {name:String} {k:IntKind} {zs:List Int} {g:Nat} {t e:TypeId} {n:Nat} (hg:P.globalNamed name=some g) (hty:(P.globals[g]?).map (·.type)=some t) (ht:P.underlying t=some (.array n e)) (he:P.underlying e=some (.int k)) (hce:P.cellsOf e=1) (hct:P.cellsOf t=n)
  {l:List (String × DataW Unit)} (hm:(name,Lib.tabData k zs) ∈ l) (h:laidMet P l W):Lib.TabIs P W name k zs:=by
 obtain ⟨ps,hl,h1,h2⟩:=h
 clear h1 h2
 induction l generalizing ps with
 | nil=>cases hm
 | cons x r ih =>
  obtain ⟨n',d⟩:=x
  obtain ⟨g',t',cs,fuel,p,q,h1,h2,h3,h4,h5,_⟩:=hl
  rcases List.mem_cons.1 hm with hm|hm
  ·simp only [Prod.mk.injEq] at hm
   obtain ⟨rfl,rfl⟩:=hm
   rw [hg] at h1;simp only [Option.some.injEq] at h1;subst h1
   rw [hty] at h2;simp only [Option.some.injEq] at h2;subst h2
   have:=Lib.cells_of_tab ht he hce hct h4
   show W.var? P name=_
   rw [h3,← this]
  ·exact ih hm q h5
end Go.Ab
namespace Go.Proofs.YtpficjpdfbiedaaGreatDoor
open Go Go.Ab Go.ChangeShapes Go.WideShapes Go.RowKit
set_option maxRecDepth 100000
def LL:List (String × DataW Unit):=[("math/bits.deBruijn32tab",Rows.laid_math_bits_deBruijn32tab),("math/bits.deBruijn64tab",Rows.laid_math_bits_deBruijn64tab),("internal/strconv.uint64pow10",Rows.laid_internal_strconv_uint64pow10),("strconv.ErrRange",Rows.laid_strconv_ErrRange),("strconv.ErrSyntax",Rows.laid_strconv_ErrSyntax)]
def ui (c:Array Value):Obj→Obj
 | .cells _ t fz=>.cells c t fz
 | o=>o
def uj (h:Array Obj):Array Obj:=(((((h.modify 4 (ui #[.int .u8 0,.int .u8 1,.int .u8 28,.int .u8 2,.int .u8 29,.int .u8 14,.int .u8 24,.int .u8 3,.int .u8 30,.int .u8 22,.int .u8 20,.int .u8 15,.int .u8 25,.int .u8 17,.int .u8 4,.int .u8 8,.int .u8 31,.int .u8 27,.int .u8 13,.int .u8 23,.int .u8 21,.int .u8 19,.int .u8 16,.int .u8 7,.int .u8 26,.int .u8 12,.int .u8 18,.int .u8 6,.int .u8 11,.int .u8 5,.int .u8 10,.int .u8 9])).modify 5 (ui #[.int .u8 0,.int .u8 1,.int .u8 56,.int .u8 2,.int .u8 57,.int .u8 49,.int .u8 28,.int .u8 3,.int .u8 61,.int .u8 58,.int .u8 42,.int .u8 50,.int .u8 38,.int .u8 29,.int .u8 17,.int .u8 4,.int .u8 62,.int .u8 47,.int .u8 59,.int .u8 36,.int .u8 45,.int .u8 43,.int .u8 51,.int .u8 22,.int .u8 53,.int .u8 39,.int .u8 33,.int .u8 30,.int .u8 24,.int .u8 18,.int .u8 12,.int .u8 5,.int .u8 63,.int .u8 55,.int .u8 48,.int .u8 27,.int .u8 60,.int .u8 41,.int .u8 37,.int .u8 16,.int .u8 46,.int .u8 35,.int .u8 44,.int .u8 21,.int .u8 52,.int .u8 32,.int .u8 23,.int .u8 11,.int .u8 54,.int .u8 26,.int .u8 40,.int .u8 15,.int .u8 34,.int .u8 20,.int .u8 31,.int .u8 10,.int .u8 25,.int .u8 14,.int .u8 19,.int .u8 9,.int .u8 13,.int .u8 8,.int .u8 7,.int .u8 6])).modify 0 (ui #[.int .u64 1,.int .u64 10,.int .u64 100,.int .u64 1000,.int .u64 10000,.int .u64 100000,.int .u64 1000000,.int .u64 10000000,.int .u64 100000000,.int .u64 1000000000,.int .u64 10000000000,.int .u64 100000000000,.int .u64 1000000000000,.int .u64 10000000000000,.int .u64 100000000000000,.int .u64 1000000000000000,.int .u64 10000000000000000,.int .u64 100000000000000000,.int .u64 1000000000000000000,.int .u64 10000000000000000000])).modify 3 (ui #[.iface 213 (.pointer (some ⟨13,0,none⟩))])).modify 2 (ui #[.iface 213 (.pointer (some ⟨14,0,none⟩))]))++#[.cells #[.string ⟨#[118,97,108,117,101,32,111,117,116,32,111,102,32,114,97,110,103,101]⟩] 215 (0,0),.cells #[.string ⟨#[105,110,118,97,108,105,100,32,115,121,110,116,97,120]⟩] 215 (0,0)]
noncomputable def laidWorld (os:Os):World:={ World.holding Tryz.prog os ⟨#[],#[],[]⟩ with heap:=uj (World.holding Tryz.prog os ⟨#[],#[],[]⟩).heap }
theorem laid_met (os:Os) (args:Array Value):laidMet Tryz.prog LL ((laidWorld os).forCall (fun _ _=>0) ⟨#[],args,[]⟩).memory :=
 laidMet_of_run' 8 (by kernel_rfl) (by kernel_rfl)
theorem yJ {W:World} (h:laidMetH Tryz.prog LL W):laidMet Tryz.prog LL W:=h
end Go.Proofs.YtpficjpdfbiedaaGreatDoor
namespace Go.Proofs.YtpficjpdfbiedaaGreatDoor
open Go Go.Ab
set_option maxRecDepth 100000
instance xp:Laid Tryz.checked.prog:=ug
theorem own:ownKnob Tryz.prog.godebug=none:=by kernel_rfl
theorem laidOut:laidOutB Tryz.prog=true:=by kernel_rfl
theorem full:∀ t e,t < Tryz.prog.types.size→Tryz.prog.underlying t=some (.slice e)→0 < Tryz.prog.cellsOf e:=slices_full_of _ (by kernel_rfl)
theorem uk {W:World} (h':laidMet Tryz.prog LL W):fT (bB Tryz.prog.globals.size W) :=
 ⟨lC (P:=Tryz.prog) (name := "strconv.ErrSyntax") (ti:=99) (by kernel_rfl) (by kernel_rfl) Tryz.underlying99 (l:=LL) (List.mem_cons_of_mem _ (List.mem_cons_of_mem _ (List.mem_cons_of_mem _ (List.mem_cons_of_mem _ List.mem_cons_self)))) h',
  lC (P:=Tryz.prog) (name := "strconv.ErrRange") (ti:=99) (by kernel_rfl) (by kernel_rfl) Tryz.underlying99 (l:=LL) (List.mem_cons_of_mem _ (List.mem_cons_of_mem _ (List.mem_cons_of_mem _ List.mem_cons_self))) h'⟩
theorem laid_facts {W:World} (h:laidMetH Tryz.prog LL W) (ho:W.ShapedOpen Tryz.prog):Laid.facts Tryz.prog (bB Tryz.prog.globals.size W):=by
 have h':=yJ h
 have ht:Lib.TabIs Tryz.prog W "internal/strconv.uint64pow10" .u64 Lib.pow10Tab :=
  pw (g:=0) (t:=196) (e:=174) (n:=20) (by kernel_rfl) (by kernel_rfl) (by kernel_rfl) (by kernel_rfl) (by kernel_rfl) (by kernel_rfl) (l:=LL) (List.mem_cons_of_mem _ (List.mem_cons_of_mem _ List.mem_cons_self)) h'
 have hn:Tryz.prog.globalNamed "internal/strconv.uint64pow10" = some 0:=by kernel_rfl
 obtain ⟨t1,t2⟩:=nZ (ng:=Tryz.prog.globals.size) hn ht
 obtain ⟨m,hm⟩:=cell_of_shapedOpen_int (P:=Tryz.prog) (g:=1) (zero:=#[.int .i64 0]) (t:=3) ho (of_decide_eq_true (by kernel_rfl)) (by kernel_rfl) rfl (by kernel_rfl) (by kernel_rfl) Tryz.underlying3
 exact ⟨t1,t2,⟨m,fS hm rfl⟩,uk h'⟩
end Go.Proofs.YtpficjpdfbiedaaGreatDoor
namespace Go.Proofs.YtpficjpdfbiedaaGreatDoor
open Go Go.Ab
set_option maxRecDepth 20000
set_option maxHeartbeats 2000000
theorem xq {v:OpR}:gdR True v=v:=if_pos trivial
theorem qC {need:List (Oid × af)} {upd:List (Oid × Option af)} {m:Mem} (h1:∀ q,q ∈ upd→∀ o,q.2=some o→m q.1=some o) (h2:∀ q,q ∈ need→(∀ r,r ∈ upd→¬ r.1=q.1)→m q.1=some q.2) (i:Oid) (o:af)
  (h:((Mem.of need).aG upd) i=some o):m i=some o:=by
 by_cases hk:∃ q ∈ upd,q.1=i
 ·obtain ⟨q',k1,k2,k3⟩:=ib (m:=Mem.of need) hk
  rw [k3] at h
  rw [← k2];exact h1 q' k1 o h
 ·rw [aI fun q hq e=>hk ⟨q,hq,e⟩] at h
  obtain ⟨q,k1,rfl,rfl⟩:=Mem.cF h
  exact h2 q k1 fun r hr e=>hk ⟨r,hr,e⟩
theorem a7 {P:Program} {rs:List ResultVar} {need:List (Oid × af)} {fr:List (Nat × AV)} {m:Mem} {c:Nat} {val:AV} {upd:List (Oid × Option af)} (h1:jZ P m fr rs=some val)
  (h2:∀ q,q ∈ upd→∀ o,q.2=some o→m q.1=some o) (h3:∀ q,q ∈ need→(∀ r,r ∈ upd→¬ r.1=q.1)→m q.1=some q.2):eK P rs need (fun v u=>v=val∧u=upd) (fun _ _=>False) .ret ⟨fr,m,c,[]⟩ :=
 cn val upd h1 ⟨rfl,rfl⟩ (qC h2 h3)
theorem uo (q:Oid) (s:List UInt8) (hl:s.length≤140737488355328) (p:Oid) (hq:¬ Oid.under p (.ty 97 q)) :
  ak Tryz.prog 67 [.ptr (.ty 97 q) 0,.str s] (Oid.under p) ⟨[(.ty 97 q,.cells [.nilPtr,.nilSl])],.tuple [.int .i64 s.length,.nilIface],
   [(.ty 97 q,some (.cells [.ptr (.ty 97 q) 0,.sl (.ty 5 (.sub 2 6 p)) 1 s.length])),(.ty 5 (.sub 2 6 p),some (.arr 1 (s.map byA)))]⟩:=by
 refine aK (n:=19) (rs:=[.tmp 4,.tmp 5]) Tryz.func67 rfl rfl (by decide) rfl rfl rfl ?_;rintro x rfl hrd hng
 (repeat (first|(refine aA rfl rfl ?_)|(refine aB rfl rfl ?_)|(refine az nmd [] hng (by kernel_rfl) fun hf C S K hC1 hC hS hK=>?_;simp (disch:=first|omega|assumption) only [go_sem];(repeat ((first|refine hC1 _ (uh _ .nilSl _) (by simp (disch:=first|omega|assumption) only [go_sem]) ?_);simp (disch:=first|omega|assumption) only [go_sem]));refine hK ?_;clear hK hS hC hC1 K S C hf)|((first|refine zn ?_|refine ze ?_|refine zk ?_);with_reducible (constructor;repeat constructor);try refine zl ?_)))
 refine ar (a7 rfl ?_ ?_)
 all_goals simp only [List.mem_cons,List.not_mem_nil,or_false,forall_eq_or_imp,forall_eq,Option.some.injEq,forall_eq',Mem.al,eq_self,if_true,↓reduceIte,reduceCtorEq,implies_true,not_true_eq_false,false_imp_iff,true_and,and_true,false_and,and_false,imp_self,Oid.cS hq,Oid.dC hq]
 rfl
theorem wB (q r:Oid) (s0 s:List UInt8) (hl:s0.length+s.length≤140737488355328) (p:Oid) (hq:¬ Oid.under p (.ty 97 q)) (hr:¬ Oid.under p (.ty 5 r)) :
  ak Tryz.prog 67 [.ptr (.ty 97 q) 0,.str s] (Oid.under p) ⟨[(.ty 97 q,.cells [.ptr (.ty 97 q) 0,.sl (.ty 5 r) 1 s0.length]),(.ty 5 r,.arr 1 (s0.map byA))],.tuple [.int .i64 s.length,.nilIface],
   [(.ty 97 q,some (.cells [.ptr (.ty 97 q) 0,.sl (.ty 5 (.sub 2 6 p)) 1 (s0++s).length])),(.ty 5 r,none),(.ty 5 (.sub 2 6 p),some (.arr 1 ((s0++s).map byA)))]⟩:=by
 have hr':(Oid.ty 5 r=Oid.ty 5 (.sub 2 6 p))=False:=Oid.cS hr _ _ _
 refine aK (n:=19) (rs:=[.tmp 4,.tmp 5]) Tryz.func67 rfl rfl (by decide) rfl rfl rfl ?_;rintro x rfl hrd hng
 (repeat (first|(refine aA rfl rfl ?_)|(refine aB rfl rfl ?_)|(refine az nmd [] hng (by kernel_rfl) fun hf C S K hC1 hC hS hK=>?_;simp (disch:=first|omega|assumption) only [go_sem];(repeat ((first|refine hC1 _ (wA _ (.sl (.ty 5 r) 1 s0.length) _) (by simp (disch:=first|omega|assumption) only [go_sem]) ?_);simp (disch:=first|omega|assumption) only [go_sem]));refine hK ?_;clear hK hS hC hC1 K S C hf)|((first|refine zn ?_|refine ze ?_|refine zk ?_);with_reducible (constructor;repeat constructor);try refine zl ?_)))
 refine ar (a7 rfl ?_ ?_)
 all_goals simp only [List.mem_cons,List.not_mem_nil,or_false,forall_eq_or_imp,forall_eq,Option.some.injEq,forall_eq',Mem.al,eq_self,if_true,↓reduceIte,reduceCtorEq,implies_true,not_true_eq_false,false_imp_iff,true_and,and_true,false_and,and_false,imp_self,Oid.cS hq,Oid.dC hq,Oid.cS hr,Oid.dC hr,List.length_append,List.map_append]
 rfl
theorem rF (q r:Oid) (s:List UInt8) (h0:0 < s.length) (hl:s.length≤140737488355328) (p:Oid) :
  ak Tryz.prog 68 [.ptr (.ty 97 q) 0] (Oid.under p) ⟨[(.ty 97 q,.cells [.ptr (.ty 97 q) 0,.sl (.ty 5 r) 1 s.length]),(.ty 5 r,.arr 1 (s.map byA))],.str s,[(.ty 5 r,none)]⟩:=by
 refine aK (n:=14) (rs:=[.tmp 2]) Tryz.func68 rfl rfl (by decide) rfl rfl rfl ?_;rintro x rfl hrd hng
 refine qw0 ?_
 refine qd (.d [] [] [0,2]) trivial trivial ?_
 refine ar (a7 rfl ?_ ?_)
 all_goals simp only [List.mem_cons,List.not_mem_nil,or_false,forall_eq_or_imp,forall_eq,Option.some.injEq,forall_eq',Mem.al,eq_self,if_true,↓reduceIte,reduceCtorEq,implies_true,not_true_eq_false,false_imp_iff,true_and,and_true,false_and,and_false,imp_self]
theorem px (q:Oid) (p:Oid) :
  ak Tryz.prog 68 [.ptr (.ty 97 q) 0] (Oid.under p) ⟨[(.ty 97 q,.cells [.nilPtr,.nilSl])],.str [],[]⟩:=by
 refine aK (n:=14) (rs:=[.tmp 2]) Tryz.func68 rfl rfl (by decide) rfl rfl rfl ?_;rintro x rfl hrd hng
 refine qw0 ?_
 refine bA nmd [] [] mixed hng (by kernel_rfl) [0,2] fun hf C S K hC hS hK=>?_;simp (disch:=first|omega|assumption) only [go_sem,xq]
 (first|refine hK (aE rfl) ?_|refine hK (by simp (disch:=first|omega|assumption) only [go_sem,List.reverse_cons,List.reverse_nil,ne_eq,not_false_eq_true,implies_true]) ?_);clear hK hS hC K S C hf
 refine ar (a7 rfl ?_ ?_)
 all_goals simp only [List.mem_cons,List.not_mem_nil,or_false,forall_eq_or_imp,forall_eq,Option.some.injEq,forall_eq',Mem.al,eq_self,if_true,↓reduceIte,reduceCtorEq,implies_true,not_true_eq_false,false_imp_iff,true_and,and_true,false_and,and_false,imp_self]
end Go.Proofs.YtpficjpdfbiedaaGreatDoor
namespace Go.Proofs.YtpficjpdfbiedaaGreatDoor
open Go Go.Ab Go.RowKit
set_option maxRecDepth 20000
set_option maxHeartbeats 2000000
abbrev Str:=List UInt8
theorem ay {c i:Nat} {p:Oid} (hi:(i == 999983)=false) (hp:p.mono=false):(Oid.sub c i p).mono=false:=by rw [Oid.mU,hi,hp];rfl
def aX (s:Str):Int:=match Lib.atoiAll s with | .ok v=>v | .range=>Lib.atoiSat s|_=>0
def ir (s:Str):Bool:=match Lib.atoiAll s with | .ok _=>true|_=>false
def lD (s:Str):AV:=if ir s=true then .nilIface else .iface 183 .undef
theorem n9 (w:World) (e:TypeId) (s:ByteArray):Below w.heap.size w (Lib.bytesWorld w e s):=by
 unfold Lib.bytesWorld
 exact Lib.below_freeze ((Below.drew (Below.refl _ w)).alloc (Nat.le_refl _) _) (p:=⟨w.heap.size,_,none⟩) (Nat.le_refl _) _
theorem qD (s:Str) (hl:s.length≤281474976710656) (p:Oid) (hp:p.mono=false):ak Tryz.prog 77 [.str s] (Oid.under p) ⟨[],.tuple [.int .i64 (aX s),lD s],[]⟩ :=
 iq (by kernel_rfl) hp fun g args w ha ht=>by
  obtain ⟨v,rfl,hv⟩:=ha.one
  obtain ⟨b,rfl,hb⟩:=hv.bg
  obtain ⟨_,_,_,⟨v1,h1,h2⟩,v2,h3,h4⟩:=ht.facts
  have hsz:b.size=s.length:=by rw [← hb];simp
  have pair:∀ (x y:AV) (u v:Value),VR g x u→VR g y v→VR g (.tuple [x,y]) (.tuple #[u,v]):=fun x y u v hx hy=>.tuple _ _ rfl (fun j hj=>by
   match j,hj with
   | 0,_=>exact hx
   | 1,_=>exact hy)
  cases hc:Lib.atoiAll s with
  | ok n =>
   refine (Tryz.strconv_Atoi_ok b (by omega) n (by rw [hb];exact hc) w).mono ?_
   rintro e w' ⟨rfl,hw⟩
   refine ⟨_,rfl,pair _ _ _ _ ?_ ?_,?_⟩
   ·simp only [aX,hc];exact .int _ _
   ·simp only [lD,ir,hc,if_true];exact .nilIface
   ·rcases hw with rfl|⟨t,rfl⟩
    ·exact Below.refl _ _
    ·exact n9 _ _ _
  | range =>
   refine (Tryz.strconv_Atoi_range b (by omega) (by rw [hb];exact hc) v2 w (ht.com 3 0 _ h3) h4).mono ?_
   rintro e w' ⟨N,rfl,_,_,hw⟩
   refine ⟨_,rfl,pair _ _ _ _ ?_ ?_,hw⟩
   ·simp only [aX,hc,hb];exact .int _ _
   ·simp only [lD,ir,hc,Bool.false_eq_true,if_false];exact .iface _ _ _ (.unk _)
  | _ =>
   refine (Any.strconv_Atoi_syntax Tryz.ke b (by omega) (by rw [hb];exact hc) v1 w (ht.com 2 0 _ h1) h2).mono ?_
   rintro e w' ⟨N,rfl,_,_,hw⟩
   refine ⟨_,rfl,pair _ _ _ _ ?_ ?_,hw⟩
   ·simp only [aX,hc];exact .int _ _
   ·simp only [lD,ir,hc,Bool.false_eq_true,if_false];exact .iface _ _ _ (.unk _)
def cv (s:Str):Bool:=ir s && decide (0≤aX s) && decide (s.length≤9) && decide (Lib.itoa (aX s)=s)
theorem my (s:Str):-9223372036854775808≤aX s∧aX s≤9223372036854775807:=by
 unfold aX
 split
 ·exact Lib.atoiAll_bounds (by assumption)
 ·unfold Lib.atoiSat;split<;>omega
 ·omega
theorem yK {s:Str} (h:ir s=false):cv s=false:=by simp [cv,h]
theorem yL {s:Str} (h:¬ 0≤aX s):cv s=false:=by simp [cv,h]
theorem uq {s:Str} (h:¬ s.length≤9):cv s=false:=by simp only [cv,decide_eq_false h,Bool.and_false,Bool.false_and]
theorem yM {s:Str} (h:ir s=true) (h2:0≤aX s) (h3:s.length≤9):cv s=decide (Lib.itoa (aX s)=s):=by simp only [cv,h,decide_eq_true h2,decide_eq_true h3,Bool.true_and]
theorem fU (s:Str) (hl:s.length≤281474976710656) (p:Oid) (hp:p.mono=false):ak Tryz.prog 31 [.str s] (Oid.under p) ⟨[],.tuple [.int .i64 (aX s),.bool (cv s)],[]⟩:=by
 obtain ⟨hb1,hb2⟩:=my s
 cases hg:ir s with
 | true =>
  have hZ:∀ p:Oid,p.mono=false→ak Tryz.prog 77 [.str s] (Oid.under p) ⟨[],.tuple [.int .i64 (aX s),.nilIface],[]⟩:=fun p hp=>by have:=qD s hl p hp;rwa [lD,if_pos hg] at this
  refine aK (n:=29) (rs:=[.tmp 2,.tmp 3]) Tryz.func31 rfl rfl (by decide) rfl rfl rfl ?_;rintro x rfl hrd hng
  (repeat (first|(refine aA rfl rfl ?_)|(refine aB rfl rfl ?_)|(refine az nmd [] hng (by kernel_rfl) fun hf C S K hC1 hC hS hK=>?_;simp (disch:=first|omega|assumption) only [go_sem];(repeat ((first|refine hC1 _ (hZ _ (ay rfl hp)) (by simp (disch:=first|omega|assumption) only [go_sem]) ?_);simp (disch:=first|omega|assumption) only [go_sem]));refine hK ?_;clear hK hS hC hC1 K S C hf)|((first|refine zn ?_|refine ze ?_|refine zk ?_);with_reducible (constructor;repeat constructor);try refine zl ?_)))
  refine az nmd [(3,14),(7,18),(12,23)] hng (by kernel_rfl) fun hf C S K hC1 hC hS hK=>?_;simp (disch:=first|omega|assumption) only [go_sem]
  (repeat' (first|(refine bG (fun hv=>?_) (fun hv=>?_)<;>(try simp only [zb1,zb2,zb3,zb4,zb5] at hv)<;>simp (disch:=first|omega|assumption) only [go_sem,hv])|(refine hC1 _ (er (aX s) hb1 hb2 _ (ay rfl hp)) (by simp (disch:=first|omega|assumption) only [go_sem]) ?_;simp (disch:=first|omega|assumption) only [go_sem])|(refine hK ?_;clear hK hS hC hC1 K S C hf)))
  ·(try ((first|refine zn ?_|refine ze ?_|refine zk ?_);with_reducible (constructor;repeat constructor));try refine zl ?_)
   exact ar (aq (by rw [yM hg (by omega) (by omega)];rfl))
  ·(try ((first|refine zn ?_|refine ze ?_|refine zk ?_);with_reducible (constructor;repeat constructor));try refine zl ?_)
   exact ar (aq (by rw [uq (by omega)];rfl))
  ·(try ((first|refine zn ?_|refine ze ?_|refine zk ?_);with_reducible (constructor;repeat constructor));try refine zl ?_)
   exact ar (aq (by rw [yL hv];rfl))
 | false =>
  have hZ:∀ p:Oid,p.mono=false→ak Tryz.prog 77 [.str s] (Oid.under p) ⟨[],.tuple [.int .i64 (aX s),.iface 183 .undef],[]⟩:=fun p hp=>by have:=qD s hl p hp;rwa [lD,if_neg (by rw [hg];decide)] at this
  refine aK (n:=29) (rs:=[.tmp 2,.tmp 3]) Tryz.func31 rfl rfl (by decide) rfl rfl rfl ?_;rintro x rfl hrd hng
  (repeat (first|(refine aA rfl rfl ?_)|(refine aB rfl rfl ?_)|(refine az nmd [] hng (by kernel_rfl) fun hf C S K hC1 hC hS hK=>?_;simp (disch:=first|omega|assumption) only [go_sem];(repeat ((first|refine hC1 _ (hZ _ (ay rfl hp)) (by simp (disch:=first|omega|assumption) only [go_sem]) ?_);simp (disch:=first|omega|assumption) only [go_sem]));refine hK ?_;clear hK hS hC hC1 K S C hf)|((first|refine zn ?_|refine ze ?_|refine zk ?_);with_reducible (constructor;repeat constructor);try refine zl ?_)))
  refine az nmd [(3,14),(7,18),(12,23)] hng (by kernel_rfl) fun hf C S K hC1 hC hS hK=>?_;simp (disch:=first|omega|assumption) only [go_sem]
  (repeat' (first|(refine bG (fun hv=>?_) (fun hv=>?_)<;>(try simp only [zb1,zb2,zb3,zb4,zb5] at hv)<;>simp (disch:=first|omega|assumption) only [go_sem,hv])|(refine hC1 _ (er (aX s) hb1 hb2 _ (ay rfl hp)) (by simp (disch:=first|omega|assumption) only [go_sem]) ?_;simp (disch:=first|omega|assumption) only [go_sem])|(refine hK ?_;clear hK hS hC hC1 K S C hf)))
  (try ((first|refine zn ?_|refine ze ?_|refine zk ?_);with_reducible (constructor;repeat constructor));try refine zl ?_)
  exact ar (aq (by rw [yK hg];rfl))
theorem oa {s:Str} (h:cv s=true):0≤aX s:=by
 simp only [cv,Bool.and_eq_true,decide_eq_true_eq] at h;exact h.1.1.2
end Go.Proofs.YtpficjpdfbiedaaGreatDoor
namespace Go.Proofs.YtpficjpdfbiedaaGreatDoor
open Go Go.Ab
set_option maxRecDepth 20000
set_option maxHeartbeats 4000000
theorem kY (n:Nat) (h:(n:Int)≤9223372036854775807):(Lib.decDigits n).length≤21:=by
 have:=Lib.itoa_length_le n (by omega) h;rwa [Lib.itoa_nonneg] at this
theorem zY (v:Option AV):gd True v=v:=if_pos trivial
theorem cT (a b:Nat):(a:Int).tmod b=((a % b:Nat):Int):=by
 rw [Int.tmod_eq_emod_of_nonneg (by omega)];rfl
theorem rG (n:Nat) (hn:(n:Int)≤9223372036854775807):∀ p:Oid,ak Tryz.prog 73 [.int .i64 n] (Oid.under p) ⟨[],.str (Lib.decDigits n),[]⟩:=by
 induction n using Nat.strongRecOn with
 | ind n ih =>
  intro p
  have h10:(n:Int).tmod 10=((n % 10:Nat):Int):=cT n 10
  have h11:(n:Int).tdiv 10=((n / 10:Nat):Int):=ka n 10
  have hw:(48+((n % 10:Nat):Int))≤57:=by omega
  have hd:IntKind.u8.wrap (48+((n % 10:Nat):Int))=((UInt8.ofNat (48+n % 10)).toNat:Int):=by
   rw [w8 (by omega) (by omega),UInt8.toNat_ofNat'];omega
  have hlen:=kY (n / 10) (by omega)
  refine aK (n:=18) (rs:=[.tmp 2]) Tryz.func73 rfl rfl (by decide) rfl rfl rfl ?_;rintro x rfl hrd hng
  refine qr0 ?_
  refine az nmd [] hng (by kernel_rfl) fun hf C S K hC1 hC hS hK=>?_;simp (disch:=first|omega|assumption) only [go_sem,h10,hd,zY]
  refine hK ?_;clear hK hS hC hC1 K S C hf
  refine qw0 ?_
  refine aY rfl rfl (fun hb=>?_) (fun hb=>?_)
  ·refine qw0 ?_
   exact ar (a6 (congrArg AV.str (by rw [Lib.decDigits,dif_pos (by omega)];congr 2;rw [Nat.mod_eq_of_lt (by omega)])))
  ·(try ((first|refine zn ?_|refine ze ?_|refine zk ?_);with_reducible (constructor;repeat constructor));try refine zl ?_)
   refine qr .o h11 (cq (ih (n / 10) (by omega) (by omega) _) trivial) ?_
   refine qw0 ?_
   exact ar (a6 (congrArg AV.str (by rw [Lib.decDigits.eq_def n,dif_neg (by omega)])))
end Go.Proofs.YtpficjpdfbiedaaGreatDoor
namespace Go.Proofs.YtpficjpdfbiedaaGreatDoor
open Go Go.Ab
theorem kf (b:UInt8):∀ (t:Str) (a:Nat),Lib.decFrom a (t++[b])=(Lib.decFrom a t).bind fun v=>(Lib.digitVal b).map fun d=>v * 10+d
 | [],a=>by
  simp only [List.nil_append,Lib.decFrom,Option.bind_some]
  cases Lib.digitVal b<;>rfl
 | c::t,a=>by
  simp only [List.cons_append,Lib.decFrom]
  cases Lib.digitVal c with
  | none=>rfl
  | some d=>exact kf b t _
theorem oc {d:Nat} (h:d < 10):Lib.digitVal (UInt8.ofNat (48+d))=some d:=by
 have h1:(UInt8.ofNat (48+d)).toNat=48+d:=by rw [UInt8.toNat_ofNat'];omega
 rw [Lib.digitVal,h1,if_pos (by omega)];congr 1;omega
theorem lE {b:UInt8} {d:Nat} (h:Lib.digitVal b=some d):d < 10∧b=UInt8.ofNat (48+d):=by
 unfold Lib.digitVal at h
 split at h
 ·simp only [Option.some.injEq] at h
  refine ⟨by omega,UInt8.toNat_inj.1 ?_⟩
  rw [UInt8.toNat_ofNat'];omega
 ·cases h
theorem cf {n:Nat} (h:n < 10):Lib.decDigits n=[UInt8.ofNat (48+n)]:=by rw [Lib.decDigits,dif_pos h]
theorem eY {n:Nat} (h:¬ n < 10):Lib.decDigits n=Lib.decDigits (n / 10)++[UInt8.ofNat (48+n % 10)]:=by rw [Lib.decDigits.eq_def n,dif_neg h]
theorem lF (n:Nat):¬ Lib.decDigits n=[]:=by
 by_cases h:n < 10
 ·rw [cf h];simp
 ·rw [eY h];simp
theorem py (n:Nat):Lib.decFrom 0 (Lib.decDigits n)=some n:=by
 induction n using Nat.strongRecOn with
 | ind n ih =>
  by_cases h:n < 10
  ·rw [cf h,Lib.decFrom,oc h];simp [Lib.decFrom]
  ·rw [eY h,kf,ih _ (by omega),oc (by omega)]
   simp only [Option.bind_some,Option.map_some];congr 1;omega
theorem lG {t u:Str} (h:¬ t=[]):(t++u).getD 0 0=t.getD 0 0:=by
 cases t with
 | nil=>exact absurd rfl h
 | cons=>rfl
theorem od (n:Nat):(Lib.decDigits n).getD 0 0=48→n=0:=by
 induction n using Nat.strongRecOn with
 | ind n ih =>
  intro h
  by_cases hs:n < 10
  ·rw [cf hs] at h
   have h1:=congrArg UInt8.toNat h
   simp only [List.getD_cons_zero] at h1
   rw [UInt8.toNat_ofNat'] at h1
   have:(48:UInt8).toNat=48:=rfl
   omega
  ·rw [eY hs,lG (lF _)] at h
   have:=ih (n / 10) (by omega) h
   omega
theorem rH:∀ (k:Nat) (s:Str) (n:Nat),s.length=k→¬ s=[]→¬ (s.getD 0 0=48∧1 < s.length)→Lib.decFrom 0 s=some n→Lib.decDigits n=s:=by
 intro k
 induction k with
 | zero=>intro s n hk hs;exact absurd (List.eq_nil_of_length_eq_zero hk) hs
 | succ k ih =>
  intro s n hk hs hc hd
  rcases List.eq_nil_or_concat s with rfl|⟨t,b,rfl⟩
  ·exact absurd rfl hs
  rw [List.concat_eq_append] at hk hs hc hd ⊢
  rw [kf] at hd
  simp only [Option.bind_eq_some_iff,Option.map_eq_some_iff] at hd
  obtain ⟨v,hv,d,hb,rfl⟩:=hd
  obtain ⟨hd10,rfl⟩:=lE hb
  by_cases ht:t=[]
  ·subst ht
   simp only [Lib.decFrom,Option.some.injEq] at hv
   subst hv
   rw [Nat.zero_mul,Nat.zero_add,cf hd10];rfl
  ·rw [lG ht] at hc
   simp only [List.length_append,List.length_cons,List.length_nil] at hc hk
   have hlt:=List.length_pos_iff.2 ht
   have:=ih t v (by omega) ht (fun h=>hc ⟨h.1,by omega⟩) hv
   have hv1:¬ v=0:=fun e=>by
    subst e
    rw [cf (by decide)] at this
    exact hc ⟨by rw [← this];rfl,by omega⟩
   rw [eY (by omega),show (v * 10+d) / 10=v by omega,show (v * 10+d) % 10=d by omega,this]
def bW (s:Str):Int:=if s=[]∨9 < s.length∨s.getD 0 0=48∧1 < s.length then -1 else match Lib.decFrom 0 s with|some n=>n|none=>-1
theorem iu (s:Str):cv s=decide (0≤bW s)∧(cv s=true→aX s=bW s):=by
 by_cases hl:s.length≤9
 ·have hsh:=Lib.atoiAll_short s (by omega)
  by_cases hg:cv s=true
  ·have h:=hg
   simp only [cv,Bool.and_eq_true,decide_eq_true_eq] at h
   obtain ⟨⟨⟨h1,h2⟩,_⟩,h4⟩:=h
   obtain ⟨n,hn⟩:=Int.eq_ofNat_of_zero_le h2
   rw [hn,Lib.itoa_nonneg] at h4
   have hR:bW s=n:=by
    rw [bW,if_neg,← h4,py]
    rintro (h|h|⟨h,h'⟩)
    ·exact lF n (h4.trans h)
    ·omega
    ·rw [← h4] at h h'
     have:=od n h
     subst this
     rw [cf (by decide)] at h'
     simp at h'
   rw [hg,hR]
   exact ⟨by simp,fun _=>hn⟩
  ·refine ⟨?_,fun h=>absurd h hg⟩
   have hgf:cv s=false:=by simpa using hg
   rw [hgf]
   symm
   rw [decide_eq_false_iff_not]
   intro h0
   apply hg
   unfold bW at h0
   split at h0
   ·omega
   ·rename_i hc
    split at h0
    ·rename_i n hd
     have hs:¬ s=[]:=fun e=>hc (.inl e)
     have hcan:=rH _ s n rfl hs (fun h=>hc (.inr (.inr h))) hd
     have hat:Lib.atoi s=some (n:Int):=by
      cases s with
      | nil=>exact absurd rfl hs
      | cons b r =>
       have hb:∃ d,Lib.digitVal b=some d:=by
        simp only [Lib.decFrom] at hd
        split at hd
        ·exact ⟨_,by assumption⟩
        ·cases hd
       obtain ⟨d,hbd⟩:=hb
       unfold Lib.digitVal at hbd
       split at hbd
       ·rename_i hr
        have h45:(b == 45)=false:=by rw [beq_eq_false_iff_ne];rintro rfl;exact absurd hr.1 (by decide)
        have h43:(b == 43)=false:=by rw [beq_eq_false_iff_ne];rintro rfl;exact absurd hr.1 (by decide)
        simp only [Lib.atoi,h45,h43,Lib.decNat,List.isEmpty_cons,hd,Bool.false_eq_true,if_false,Option.map_some]
       ·cases hbd
     rw [hat] at hsh
     have h1:Lib.atoiAll s = .ok (n:Int):=hsh
     have h2:aX s=n:=by simp only [aX,h1]
     simp only [cv,h2,ir,h1,Lib.itoa_nonneg,hcan,Bool.and_eq_true,decide_eq_true_eq]
     exact ⟨⟨⟨trivial,by omega⟩,hl⟩,trivial⟩
    ·omega
 ·have hR:bW s = -1:=by rw [bW,if_pos (.inr (.inl (by omega)))]
  rw [hR,uq hl]
  exact ⟨by decide,fun h=>by cases h⟩
end Go.Proofs.YtpficjpdfbiedaaGreatDoor
namespace Go.Proofs.YtpficjpdfbiedaaGreatDoor
open Go Go.Ab
set_option maxRecDepth 20000
set_option maxHeartbeats 4000000
theorem mz (u:Str):∀ (t:Str) (a:Nat),Lib.decFrom a (t++u)=(Lib.decFrom a t).bind fun v=>Lib.decFrom v u
 | [],a=>rfl
 | c::t,a=>by
  simp only [List.cons_append,Lib.decFrom]
  cases Lib.digitVal c with
  | none=>rfl
  | some d=>exact mz u t _
theorem gF {l:Str} {i:Nat} (h:i < l.length):l.drop i=l.getD i 0::l.drop (i+1):=by
 rw [List.drop_eq_getElem_cons h,List.getD_eq_getElem?_getD,List.getElem?_eq_getElem h];rfl
theorem kg (s:Str) (hl:s.length≤4000000000) (p:Oid):ak Tryz.prog 34 [.str s] (Oid.under p) ⟨[],.int .i64 (bW s),[]⟩:=by
 by_cases hs:s=[]
 ·subst hs
  refine aK (n:=47) (rs:=[.tmp 2]) Tryz.func34 rfl rfl (by decide) rfl rfl rfl ?_;rintro x rfl hrd hng
  refine qr0 ?_
  refine az nmd [(2,7),(7,12),(11,16)] hng (by kernel_rfl) fun hf C S K hC1 hC hS hK=>?_;simp (disch:=first|omega|assumption) only [go_sem]
  (repeat' (first|(refine bG (fun hv=>?_) (fun hv=>?_)<;>(try simp only [zb1,zb2,zb3,zb4,zb5] at hv)<;>simp (disch:=first|omega|assumption) only [go_sem,hv,Int.reduceEq,Int.reduceNe,ne_eq,not_true_eq_false,not_false_eq_true,decide_true,decide_false])|(refine hK ?_;clear hK hS hC hC1 K S C hf)))
  refine qw0 ?_
  exact ar (a6 rfl)
 have hpos:=List.length_pos_iff.2 hs
 refine aK (n:=47) (rs:=[.tmp 2]) Tryz.func34 rfl rfl (by decide) rfl rfl rfl ?_;rintro x rfl hrd hng
 refine qr0 ?_
 refine xn [0,21] (fun s'=>∃ b,s' = ⟨[(0,.str s),(21,.bool b)],Mem.of [],2,[]⟩∧(b=true↔(s=[]∨9 < s.length∨s.getD 0 0=48∧1 < s.length))) ?_ ?_
 ·refine az nmd [(2,7),(7,12),(11,16)] hng (by kernel_rfl) fun hf C S K hC1 hC hS hK=>?_;simp (disch:=first|omega|assumption) only [go_sem]
  (repeat' (first|(refine bG (fun hv=>?_) (fun hv=>?_)<;>(try simp only [zb1,zb2,zb3,zb4,zb5] at hv)<;>simp (disch:=first|omega|assumption) only [go_sem,hv,Int.reduceEq,Int.reduceNe,ne_eq,not_true_eq_false,not_false_eq_true,decide_true,decide_false])|(refine hK ?_;clear hK hS hC hC1 K S C hf)))
  ·refine j6 ⟨_,rfl,?_⟩
   have h4:s.getD 0 0=48:=UInt8.toNat_inj.1 (by have:(48:UInt8).toNat=48:=rfl;omega)
   simp only [decide_eq_true_eq,h4,hs,true_and,false_or];omega
  ·refine j6 ⟨_,rfl,?_⟩
   have h4:¬ s.getD 0 0=48:=fun e=>hv (by rw [e];rfl)
   simp only [h4,hs,false_and,false_or,or_false,Bool.false_eq_true,false_iff];omega
  ·refine j6 ⟨_,rfl,?_⟩
   exact ⟨fun _=>.inr (.inl (by omega)),fun _=>rfl⟩
  ·exact absurd hv hs
 rintro s' ⟨b,rfl,hbad⟩
 refine qw0 ?_
 refine rp rfl rfl (fun hb=>?_) (fun hb=>?_)
 ·refine qw0 ?_
  exact ar (a6 (congrArg (AV.int .i64) (by rw [bW,if_pos (hbad.1 hb)])))
 ·have hok:¬ (s=[]∨9 < s.length∨s.getD 0 0=48∧1 < s.length):=fun h=>by rw [hbad.2 h] at hb;cases hb
  have hl9:s.length≤9:=by omega
  refine qw0 ?_
  refine aT [0,3,4] (fun k s'=>∃ (i n c:Nat),k=s.length - i∧i≤s.length∧Lib.decFrom 0 (s.take i)=some n∧n < 10 ^ i∧s' = ⟨[(0,.str s),(3,.int .i64 n),(4,.int .i64 i)],Mem.of [],c,[]⟩) _ ⟨0,0,_,rfl,Nat.zero_le _,rfl,by decide,rfl⟩ ?_
  rintro k s' ⟨i,n,c,rfl,hi,hd,hn,rfl⟩
  refine qw0 ?_
  refine aY rfl rfl (fun hb=>?_) (fun hb=>?_)
  ·have hi8:10 ^ i≤10 ^ 8:=Nat.pow_le_pow_right (by decide) (by omega)
   have hn8:n < 100000000:=Nat.lt_of_lt_of_le hn hi8
   have hby:=(s.getD i 0).toNat_lt
   have hdr:=gF (l:=s) (i:=i) (by omega)
   have hfull:Lib.decFrom 0 s=Lib.decFrom n (s.getD i 0::s.drop (i+1)):=by
    conv=>lhs;rw [← List.take_append_drop i s,mz,hd,Option.bind_some,hdr]
   (try ((first|refine zn ?_|refine ze ?_|refine zk ?_);with_reducible (constructor;repeat constructor));try refine zl ?_)
   refine az nmd [(4,32)] hng (by kernel_rfl) fun hf C S K hC1 hC hS hK=>?_;simp (disch:=first|omega|assumption) only [go_sem]
   (repeat' (first|(refine bG (fun hv=>?_) (fun hv=>?_)<;>(try simp only [zb1,zb2,zb3,zb4,zb5] at hv)<;>simp (disch:=first|omega|assumption) only [go_sem,hv,Int.reduceEq,Int.reduceNe,ne_eq,not_true_eq_false,not_false_eq_true,decide_true,decide_false])|(refine hK ?_;clear hK hS hC hC1 K S C hf)))
   ·refine qw0 ?_
    refine aY rfl rfl (fun hb=>?_) (fun hb=>?_)
    ·have hR:bW s = -1:=by
      rw [bW,if_neg hok,hfull,Lib.decFrom,Lib.digitVal,if_neg (by omega)]
     rw [hR]
     refine qw0 ?_
     exact ar (a6 rfl)
    ·have hdv:Lib.digitVal (s.getD i 0)=some ((s.getD i 0).toNat - 48):=by rw [Lib.digitVal,if_pos (by omega)]
     have hnx:Lib.decFrom 0 (s.take (i+1))=some (n * 10+((s.getD i 0).toNat - 48)):=by
      rw [List.take_add_one,mz,hd,Option.bind_some,List.getElem?_eq_getElem (by omega:i < s.length)]
      have he:s[i]'(by omega)=s.getD i 0:=by rw [List.getD_eq_getElem?_getD,List.getElem?_eq_getElem (by omega:i < s.length)];rfl
      rw [he];simp only [Option.toList,Lib.decFrom,hdv]
     have hsum:((n:Int) * 10+((s.getD i 0).toNat:Int) - 48)=((n * 10+((s.getD i 0).toNat - 48):Nat):Int):=by omega
     refine qw0 ?_
     rw [hsum]
     exact ⟨_,_,by omega,fun _ _ h=>h,i+1,_,c+1+1+1+1,rfl,by omega,hnx,by rw [Nat.pow_succ];omega,rfl⟩
   ·have hR:bW s = -1:=by
     rw [bW,if_neg hok,hfull,Lib.decFrom,Lib.digitVal,if_neg (by omega)]
    rw [hR]
    refine qw0 ?_
    exact ar (a6 rfl)
  ·obtain rfl:i=s.length:=by omega
   rw [List.take_length] at hd
   refine qw0 ?_
   exact ar (a6 (congrArg (AV.int .i64) (by rw [bW,if_neg hok,hd])))
end Go.Proofs.YtpficjpdfbiedaaGreatDoor
namespace Go.Proofs.YtpficjpdfbiedaaGreatDoor
open Go Go.Ab
set_option maxRecDepth 20000
set_option maxHeartbeats 2000000
def chunk (s:Str):Str:=Lib.itoa s.length++[58]++s++[44]
def aC:List Str→Str
 | []=>[]
 | s::l=>chunk s++aC l
theorem jl (a b:List Str):aC (a++b)=aC a++aC b:=by
 induction a with
 | nil=>rfl
 | cons s a ih=>simp only [List.cons_append,aC,ih,List.append_assoc]
theorem iX {l:List Str} {i:Nat} (h:i < l.length):aC (l.take (i+1))=aC (l.take i)++chunk (l.getD i default):=by
 rw [List.take_add_one,jl,List.getElem?_eq_getElem h,List.getD_eq_getElem?_getD,List.getElem?_eq_getElem h]
 simp [aC]
theorem eZ {l:List Str} (i:Nat):(aC (l.take i)).length≤(aC l).length:=by
 conv=>rhs;rw [← List.take_append_drop i l,jl,List.length_append]
 omega
theorem bs (s:Str):(Lib.itoa s.length).length+1+s.length+1=(chunk s).length:=by simp only [chunk,List.length_append,List.length_cons,List.length_nil]
theorem pz (q:Oid) (s:Str) (hl:(chunk s).length≤140737488355328) (p:Oid) (hp:p.mono=false) (hq:¬ Oid.under p (.ty 97 q)) :
  ak Tryz.prog 66 [.ptr (.ty 97 q) 0,.str s] (Oid.under p) ⟨[(.ty 97 q,.cells [.nilPtr,.nilSl])],.ptr (.ty 97 q) 0,
   [(.ty 97 q,some (.cells [.ptr (.ty 97 q) 0,.sl (.ty 5 (.sub 2 6 (.sub 1 8 p))) 1 (chunk s).length])),(.ty 5 (.sub 2 6 (.sub 1 8 p)),some (.arr 1 ((chunk s).map byA)))]⟩:=by
 have hs:=bs s
 have hq':∀ c i,¬ Oid.under (.sub c i p) (.ty 97 q):=fun c i h=>hq (Oid.aj h)
 refine aK (n:=15) (rs:=[.tmp 4]) Tryz.func66 rfl rfl (by decide) rfl rfl rfl ?_;rintro x rfl hrd hng
 (repeat (first|(refine aA rfl rfl ?_)|(refine aB rfl rfl ?_)|(refine az nmd [] hng (by kernel_rfl) fun hf C S K hC1 hC hS hK=>?_;simp (disch:=first|omega|assumption) only [go_sem];(repeat ((first|refine hC1 _ (er s.length (by omega) (by omega) _ (ay rfl hp)) (by simp (disch:=first|omega|assumption) only [go_sem]) ?_|refine hC1 _ (uo q (chunk s) hl _ (hq' _ _)) (by simp (disch:=first|omega|assumption) only [go_sem]) ?_);simp (disch:=first|omega|assumption) only [go_sem]));refine hK ?_;clear hK hS hC hC1 K S C hf)|((first|refine zn ?_|refine ze ?_|refine zk ?_);with_reducible (constructor;repeat constructor);try refine zl ?_)))
 refine ar (a7 rfl ?_ ?_)
 all_goals simp only [List.mem_cons,List.not_mem_nil,or_false,forall_eq_or_imp,forall_eq,Option.some.injEq,forall_eq',Mem.al,eq_self,if_true,↓reduceIte,reduceCtorEq,implies_true,not_true_eq_false,false_imp_iff,true_and,and_true,false_and,and_false,imp_self,Oid.ty.injEq,Nat.reduceEqDiff]
theorem rI (q r:Oid) (s0 s:Str) (hl:s0.length+(chunk s).length≤140737488355328) (p:Oid) (hp:p.mono=false) (hq:¬ Oid.under p (.ty 97 q)) (hr:¬ Oid.under p (.ty 5 r)) :
  ak Tryz.prog 66 [.ptr (.ty 97 q) 0,.str s] (Oid.under p) ⟨[(.ty 97 q,.cells [.ptr (.ty 97 q) 0,.sl (.ty 5 r) 1 s0.length]),(.ty 5 r,.arr 1 (s0.map byA))],.ptr (.ty 97 q) 0,
   [(.ty 97 q,some (.cells [.ptr (.ty 97 q) 0,.sl (.ty 5 (.sub 2 6 (.sub 1 8 p))) 1 (s0++chunk s).length])),(.ty 5 r,none),(.ty 5 (.sub 2 6 (.sub 1 8 p)),some (.arr 1 ((s0++chunk s).map byA)))]⟩:=by
 have hs:=bs s
 have hq':∀ c i,¬ Oid.under (.sub c i p) (.ty 97 q):=fun c i h=>hq (Oid.aj h)
 have hr':∀ c i,¬ Oid.under (.sub c i p) (.ty 5 r):=fun c i h=>hr (Oid.aj h)
 have hn:¬ Oid.sub 2 6 (.sub 1 8 p)=r:=fun e=>hr (by subst e;simp [Oid.under,Oid.ah])
 have hn':¬ r=Oid.sub 2 6 (.sub 1 8 p):=fun e=>hn e.symm
 refine aK (n:=15) (rs:=[.tmp 4]) Tryz.func66 rfl rfl (by decide) rfl rfl rfl ?_;rintro x rfl hrd hng
 (repeat (first|(refine aA rfl rfl ?_)|(refine aB rfl rfl ?_)|(refine az nmd [] hng (by kernel_rfl) fun hf C S K hC1 hC hS hK=>?_;simp (disch:=first|omega|assumption) only [go_sem];(repeat ((first|refine hC1 _ (er s.length (by omega) (by omega) _ (ay rfl hp)) (by simp (disch:=first|omega|assumption) only [go_sem]) ?_|refine hC1 _ (wB q r s0 (chunk s) hl _ (hq' _ _) (hr' _ _)) (by simp (disch:=first|omega|assumption) only [go_sem]) ?_);simp (disch:=first|omega|assumption) only [go_sem]));refine hK ?_;clear hK hS hC hC1 K S C hf)|((first|refine zn ?_|refine ze ?_|refine zk ?_);with_reducible (constructor;repeat constructor);try refine zl ?_)))
 refine ar (a7 rfl ?_ ?_)
 all_goals simp only [List.mem_cons,List.not_mem_nil,or_false,forall_eq_or_imp,forall_eq,Option.some.injEq,forall_eq',Mem.al,eq_self,if_true,↓reduceIte,reduceCtorEq,implies_true,not_true_eq_false,false_imp_iff,true_and,and_true,false_and,and_false,imp_self,Oid.ty.injEq,Nat.reduceEqDiff,hn,hn',List.length_append]
def mA (n:Nat) (p:Oid):Oid:=.sub 2 6 (.sub 1 8 (.sub (4 * n) 3 p))
theorem pA {c n:Nat} {p:Oid} (h:4 * n < c):¬ Oid.under (.sub c 3 p) (.ty 5 (mA n p)):=by
 have hself:¬ Oid.under (.sub c 3 p) p:=fun h=>by have:=Oid.cH h;simp [Oid.depth] at this;omega
 simp only [mA,Oid.under,reduceCtorEq,false_or,Oid.sub.injEq,Nat.reduceEqDiff,false_and,and_false,hself,or_false]
 omega
theorem wC (l:List Str) (hne:¬ l=[]) (hl:(aC l).length≤140737488355328) (hn:l.length≤140737488355328) (q:Oid) (p:Oid) (hp:p.mono=false) (hq:¬ Oid.under p (.ty 97 q)) :
  ak Tryz.prog 65 [.list 1 (l.map AV.str),.ptr (.ty 97 q) 0,.fn (.func 66) [] []] (Oid.under p) ⟨[(.ty 97 q,.cells [.nilPtr,.nilSl])],.ptr (.ty 97 q) 0,
   [(.ty 97 q,some (.cells [.ptr (.ty 97 q) 0,.sl (.ty 5 (mA l.length p)) 1 (aC l).length])),(.ty 5 (mA l.length p),some (.arr 1 ((aC l).map byA)))]⟩:=by
 have hq':∀ c i,¬ Oid.under (.sub c i p) (.ty 97 q):=fun c i h=>hq (Oid.aj h)
 refine aK (n:=21) (rs:=[.tmp 6]) Tryz.func65 rfl rfl (by decide) rfl rfl rfl ?_;rintro x rfl hrd hng
 refine qw0 ?_
 refine aT [1,2,9,10,11] (fun k s'=>∃ (i:Nat) (M:List (Oid × af)),k=l.length - i∧i≤l.length∧(i=0∧M=[(.ty 97 q,.cells [.nilPtr,.nilSl])] ∨
   ¬ i=0∧M=[(.ty 97 q,.cells [.ptr (.ty 97 q) 0,.sl (.ty 5 (mA i x.p)) 1 (aC (l.take i)).length]),(.ty 5 (mA i x.p),.arr 1 ((aC (l.take i)).map byA))]) ∧
   s' = ⟨[(1,.ptr (.ty 97 q) 0),(2,.fn (.func 66) [] []),(9,.list 1 (l.map AV.str)),(10,.int .i64 l.length),(11,.int .i64 i)],Mem.of M,2+4 * i,[]⟩) _ ⟨0,_,rfl,Nat.zero_le _,.inl ⟨rfl,rfl⟩,rfl⟩ ?_
 rintro k s' ⟨i,M,rfl,hi,hM,rfl⟩
 rcases hM with ⟨rfl,rfl⟩|⟨h0,rfl⟩
 ·refine qw0 ?_
  refine aY rfl rfl (fun hb=>?_) (fun hb=>?_)
  ·have hi0:0 < l.length:=by omega
   have ht:=iX (l:=l) hi0
   have hle:=eZ (l:=l) 1
   rw [List.take_zero] at ht
   simp only [Nat.zero_add] at ht
   (repeat (first|(refine aA rfl rfl ?_)|(refine aB rfl rfl ?_)|(refine az nmd [] hng (by kernel_rfl) fun hf C S K hC1 hC hS hK=>?_;simp (disch:=first|omega|assumption) only [go_sem];(repeat ((first|refine hC1 _ (pz q (l.getD 0 default) (by rw [ht] at hle;simp only [aC,List.nil_append] at hle;omega) _ (ay rfl hp) (hq' _ _)) (by simp (disch:=first|omega|assumption) only [go_sem]) ?_);simp (disch:=first|omega|assumption) only [go_sem]));refine hK ?_;clear hK hS hC hC1 K S C hf)|((first|refine zn ?_|refine ze ?_|refine zk ?_);with_reducible (constructor;repeat constructor);try refine zl ?_)))
   refine ⟨_,_,?_,fun _ _ h=>h,1,_,rfl,by omega,.inr ⟨by omega,rfl⟩,?_⟩
   ·omega
   ·rw [ht];rfl
  ·exact absurd (List.eq_nil_of_length_eq_zero (by omega)) hne
 ·refine qw0 ?_
  refine aY rfl rfl (fun hb=>?_) (fun hb=>?_)
  ·have ht:=iX (l:=l) (i:=i) (by omega)
   have hle:=eZ (l:=l) (i+1)
   (repeat (first|(refine aA rfl rfl ?_)|(refine aB rfl rfl ?_)|(refine az nmd [] hng (by kernel_rfl) fun hf C S K hC1 hC hS hK=>?_;simp (disch:=first|omega|assumption) only [go_sem];(repeat ((first|refine hC1 _ (rI q (mA i x.p) (aC (l.take i)) (l.getD i default) (by rw [ht,List.length_append] at hle;omega) _ (ay rfl hp) (hq' _ _) (pA (by omega))) (by simp (disch:=first|omega|assumption) only [go_sem]) ?_);simp (disch:=first|omega|assumption) only [go_sem]));refine hK ?_;clear hK hS hC hC1 K S C hf)|((first|refine zn ?_|refine ze ?_|refine zk ?_);with_reducible (constructor;repeat constructor);try refine zl ?_)))
   refine ⟨_,_,?_,fun _ _ h=>h,i+1,_,rfl,by omega,.inr ⟨by omega,rfl⟩,?_⟩
   ·omega
   ·have hc:4 * (i+1)=2+4 * i+1+1:=by omega
    rw [ht,List.length_append,mA,hc,show 2+4 * i+1+1+1+1=2+(2+4 * i+1+1) by omega];rfl
  ·obtain rfl:i=l.length:=by omega
   refine qw0 ?_
   refine ar (a7 rfl ?_ ?_)
   all_goals simp only [List.mem_cons,List.not_mem_nil,or_false,forall_eq_or_imp,forall_eq,Option.some.injEq,forall_eq',Mem.al,eq_self,if_true,↓reduceIte,reduceCtorEq,implies_true,not_true_eq_false,false_imp_iff,true_and,and_true,false_and,and_false,imp_self,Oid.ty.injEq,Nat.reduceEqDiff,List.take_length]
theorem ur (q:Oid) (p:Oid) :
  ak Tryz.prog 65 [.list 1 [],.ptr q 0,.fn (.func 66) [] []] (Oid.under p) ⟨[(q,.cells [.nilPtr,.nilSl])],.ptr q 0,[]⟩:=by
 refine aK (n:=21) (rs:=[.tmp 6]) Tryz.func65 rfl rfl (by decide) rfl rfl rfl ?_;rintro x rfl hrd hng
 refine qw0 ?_
 refine aT [1,2,9,10,11] (fun k s'=>k=0∧s' = ⟨[(1,.ptr q 0),(2,.fn (.func 66) [] []),(9,.list 1 []),(10,.int .i64 0),(11,.int .i64 0)],Mem.of [(q,.cells [.nilPtr,.nilSl])],2,[]⟩) _ ⟨rfl,rfl⟩ ?_
 rintro k s' ⟨rfl,rfl⟩
 refine qw0 ?_
 refine ar (a7 rfl ?_ ?_)
 all_goals simp only [List.mem_cons,List.not_mem_nil,or_false,forall_eq_or_imp,forall_eq,Option.some.injEq,forall_eq',Mem.al,eq_self,if_true,↓reduceIte,reduceCtorEq,implies_true,not_true_eq_false,false_imp_iff,true_and,and_true,false_and,and_false,imp_self,Oid.ty.injEq,Nat.reduceEqDiff]
theorem pB {c i j:Nat} {t:Nat} {p:Oid} (h:¬ j=i):¬ Oid.under (.sub c j p) (.ty t (.sub c i p)):=by
 have hself:¬ Oid.under (.sub c j p) p:=fun h=>by have:=Oid.cH h;simp [Oid.depth] at this;omega
 simp only [Oid.under,reduceCtorEq,false_or,Oid.sub.injEq,h,false_and,and_false,hself,or_false,not_false_eq_true]
theorem cZ (l:List Str) (hl:(aC l).length≤140737488355328) (hn:l.length≤140737488355328) (p:Oid) (hp:p.mono=false) :
  ak Tryz.prog 24 [.list 1 (l.map AV.str)] (Oid.under p) ⟨[],.str (aC l),[]⟩:=by
 by_cases hne:l=[]
 ·subst hne
  refine aK (n:=8) (rs:=[.tmp 2]) Tryz.func24 rfl rfl (by decide) rfl rfl rfl ?_;rintro x rfl hrd hng
  refine qw0 ?_
  refine az nmd [] hng (by kernel_rfl) fun hf C S K hC1 hC hS hK=>?_;simp (disch:=first|omega|assumption) only [go_sem]
  refine hC1 _ (ur (.ty 97 (.sub 1 2 _)) _) qs0 ?_
  simp (disch:=first|omega|assumption) only [go_sem]
  refine hC1 _ (px (.sub 1 2 _) _) qs0 ?_
  simp (disch:=first|omega|assumption) only [go_sem]
  refine hK ?_;clear hK hS hC hC1 K S C hf
  refine qw0 ?_
  exact ar (a6 rfl)
 ·have h0:0 < (aC l).length:=by
   cases l with
   | nil=>exact absurd rfl hne
   | cons s l =>
    have:=bs s
    simp only [aC,List.length_append];omega
  refine aK (n:=8) (rs:=[.tmp 2]) Tryz.func24 rfl rfl (by decide) rfl rfl rfl ?_;rintro x rfl hrd hng
  refine qw0 ?_
  refine az nmd [] hng (by kernel_rfl) fun hf C S K hC1 hC hS hK=>?_;simp (disch:=first|omega|assumption) only [go_sem]
  refine hC1 _ (wC l hne hl hn (.sub 1 2 _) _ (ay rfl hp) (pB (by decide))) qs0 ?_
  simp (disch:=first|omega|assumption) only [go_sem]
  refine hC1 _ (rF (.sub 1 2 _) (mA l.length (.sub 1 3 x.p)) _ h0 hl _) qs0 ?_
  simp (disch:=first|omega|assumption) only [go_sem]
  refine hK ?_;clear hK hS hC hC1 K S C hf
  refine qw0 ?_
  exact ar (a6 rfl)
end Go.Proofs.YtpficjpdfbiedaaGreatDoor
namespace Go.Proofs.YtpficjpdfbiedaaGreatDoor
open Go Go.Ab Go.RowKit
set_option maxRecDepth 20000
set_option maxHeartbeats 2000000
theorem uv (s:Str) (c:UInt8) (sp:Oid→Prop):ak Tryz.prog 144 [.str s,.str [c]] sp ⟨[],.int .i64 (Lib.indexByte s c),[]⟩ :=
 fG (by kernel_rfl) fun g args w ha _=>by
  obtain ⟨v,u,rfl,hv,hu⟩:=ha.two
  obtain ⟨b,rfl,hb⟩:=hv.bg
  obtain ⟨d,rfl,hd⟩:=hu.bg
  obtain rfl:d=⟨#[c]⟩:=by cases d with|mk a=>cases a with|mk l=>simp only at hd;rw [hd]
  refine (Tryz.stringslite_Index_one b c w).mono ?_
  rintro e w' ⟨rfl,rfl⟩
  exact ⟨_,rfl,by rw [hb];exact .int _ _,rfl⟩
theorem iv (c:UInt8):∀ l:Str,l=[]∧Lib.indexByte l c = -1∨Lib.indexByte l c < l.length
 | []=>.inl ⟨rfl,rfl⟩
 | b::l=>.inr (by
  have ih:=iv c l
  simp only [Lib.indexByte,List.length_cons]
  split
  ·omega
  ·split
   ·omega
   ·rcases ih with ⟨rfl,h⟩|h
    ·rw [h];simp
    ·omega)
def og (s:Str) (c:UInt8):AV:=if 0≤Lib.indexByte s c then .tuple [.str (s.take (Lib.indexByte s c).toNat),.str (s.drop ((Lib.indexByte s c).toNat+1)),.bool true] else .tuple [.str s,.str [],.bool false]
theorem qE (s:Str) (hl:s.length≤281474976710656) (c:UInt8) (p:Oid):ak Tryz.prog 117 [.str s,.str [c]] (Oid.under p) ⟨[],og s c,[]⟩:=by
 have hlt:=iv c s
 refine aK (n:=23) (rs:=[.tmp 4,.tmp 5,.tmp 6]) Tryz.func117 rfl rfl (by decide) rfl rfl rfl ?_;rintro x rfl hrd hng
 (repeat (first|(refine aA rfl rfl ?_)|(refine aB rfl rfl ?_)|(refine az nmd [] hng (by kernel_rfl) fun hf C S K hC1 hC hS hK=>?_;simp (disch:=first|omega|assumption) only [go_sem];(repeat ((first|refine hC1 _ (uv s c _) (by simp (disch:=first|omega|assumption) only [go_sem]) ?_);simp (disch:=first|omega|assumption) only [go_sem]));refine hK ?_;clear hK hS hC hC1 K S C hf)|((first|refine zn ?_|refine ze ?_|refine zk ?_);with_reducible (constructor;repeat constructor);try refine zl ?_)))
 refine aY rfl rfl (fun hb=>?_) (fun hb=>?_)
 ·(try ((first|refine zn ?_|refine ze ?_|refine zk ?_);with_reducible (constructor;repeat constructor));try refine zl ?_)
  refine qd (.d [] [] [4,5,6]) trivial trivial ?_
  refine qw0 ?_
  have h1:(Lib.indexByte s c+((1:Nat):Int)).toNat=(Lib.indexByte s c).toNat+1:=by omega
  rw [og,if_pos hb,h1]
  exact ar (aq rfl)
 ·refine qw0 ?_
  rw [og,if_neg hb]
  exact ar (aq rfl)
theorem uw (s:Str) (hl:s.length≤281474976710656) (c:UInt8) (p:Oid):ak Tryz.prog 75 [.str s,.str [c]] (Oid.under p) ⟨[],og s c,[]⟩:=by
 by_cases hb:0≤Lib.indexByte s c
 ·have hZ:=fun p=>qE s hl c p
  simp only [og,if_pos hb] at hZ ⊢
  refine aK (n:=13) (rs:=[.tmp 4,.tmp 5,.tmp 6]) Tryz.func75 rfl rfl (by decide) rfl rfl rfl ?_;rintro x rfl hrd hng
  (repeat (first|(refine aA rfl rfl ?_)|(refine aB rfl rfl ?_)|(refine az nmd [] hng (by kernel_rfl) fun hf C S K hC1 hC hS hK=>?_;simp (disch:=first|omega|assumption) only [go_sem];(repeat ((first|refine hC1 _ (hZ _) (by simp (disch:=first|omega|assumption) only [go_sem]) ?_);simp (disch:=first|omega|assumption) only [go_sem]));refine hK ?_;clear hK hS hC hC1 K S C hf)|((first|refine zn ?_|refine ze ?_|refine zk ?_);with_reducible (constructor;repeat constructor);try refine zl ?_)))
  exact ar (aq rfl)
 ·have hZ:=fun p=>qE s hl c p
  simp only [og,if_neg hb] at hZ ⊢
  refine aK (n:=13) (rs:=[.tmp 4,.tmp 5,.tmp 6]) Tryz.func75 rfl rfl (by decide) rfl rfl rfl ?_;rintro x rfl hrd hng
  (repeat (first|(refine aA rfl rfl ?_)|(refine aB rfl rfl ?_)|(refine az nmd [] hng (by kernel_rfl) fun hf C S K hC1 hC hS hK=>?_;simp (disch:=first|omega|assumption) only [go_sem];(repeat ((first|refine hC1 _ (hZ _) (by simp (disch:=first|omega|assumption) only [go_sem]) ?_);simp (disch:=first|omega|assumption) only [go_sem]));refine hK ?_;clear hK hS hC hC1 K S C hf)|((first|refine zn ?_|refine ze ?_|refine zk ?_);with_reducible (constructor;repeat constructor);try refine zl ?_)))
  exact ar (aq rfl)
def colon (s:Str):Nat:=(Lib.indexByte s 58).toNat
def bJ (s:Str):Str:=s.take (colon s)
def bl (s:Str):Str:=s.drop (colon s+1)
def bQ (s:Str):Nat:=(aX (bJ s)).toNat
def okS (s:Str):Prop:=0≤Lib.indexByte s 58∧cv (bJ s)=true∧aX (bJ s) < (bl s).length∧(bl s).getD (bQ s) 0=44
instance (s:Str):Decidable (okS s):=by unfold okS;infer_instance
def mB:Nat→Str→Option (List Str)
 | 0,_=>none
 | k+1,s=>if s=[] then some [] else if okS s then (mB k ((bl s).drop (bQ s+1))).map ((bl s).take (bQ s)::·) else none
def kZ:Option (List Str)→AV
 | some l=>.tuple [.list 1 (l.map AV.str),.int .i64 0]
 | none=>.tuple [.nilSl,.int .i64 20]
theorem iw {s:Str} (h:¬ s=[]):((bl s).drop (bQ s+1)).length < s.length:=by
 have:=List.length_pos_iff.2 h;simp only [bl,List.length_drop];omega
theorem lH:∀ (k k':Nat) (s:Str),s.length < k→s.length < k'→mB k s=mB k' s
 | 0,_,_,h,_=>absurd h (Nat.not_lt_zero _)
 | _+1,0,_,_,h=>absurd h (Nat.not_lt_zero _)
 | k+1,k' + 1,s,h,h'=>by
  simp only [mB]
  by_cases h0:s=[]
  ·rw [if_pos h0,if_pos h0]
  rw [if_neg h0,if_neg h0]
  split
  ·rw [lH k k' _ (by have:=iw h0;omega) (by have:=iw h0;omega)]
  ·rfl
def dD (s:Str):Option (List Str):=mB (s.length+1) s
theorem ix:dD []=some []:=rfl
theorem cM {s:Str} (h0:¬ s=[]) (h:¬ okS s):dD s=none:=by
 rw [dD,mB,if_neg h0,if_neg h]
theorem iY {s:Str} (h0:¬ s=[]) (h:okS s):dD s=(dD ((bl s).drop (bQ s+1))).map ((bl s).take (bQ s)::·):=by
 rw [dD,mB,if_neg h0,if_pos h]
 exact congrArg _ (lH _ _ _ (iw h0) (Nat.lt_succ_self _))
theorem lI (s:Str) (hl:s.length≤4000000000) (p:Oid) (hp:p.mono=false):ak Tryz.prog 29 [.str s] (Oid.under p) ⟨[],kZ (dD s),[]⟩:=by
 refine aK (n:=51) (rs:=[.tmp 2,.tmp 3]) Tryz.func29 rfl rfl (by decide) rfl rfl rfl ?_;rintro x rfl hrd hng
 refine qw0 ?_
 refine fD 2 1 rfl ?_
 simp (disch:=first|omega|assumption) only [go_sem]
 refine aT [0,2] (fun k s'=>∃ (done:List Str) (r:Str) (d j c:Nat),k=r.length∧d < c∧done.length+r.length≤s.length∧dD s=(dD r).map (done++·) ∧
   s' = ⟨[(0,.str r),(2,.sl (.sub d j x.p) 1 done.length)],Mem.of [(.sub d j x.p,.arr 1 (done.map AV.str))],c,[]⟩) _ ⟨[],s,1,0,2,rfl,by omega,by simp,by cases dD s<;>rfl,rfl⟩ ?_
 rintro k s' ⟨done,r,d,j,c,rfl,hdc,hlen,hdec,rfl⟩
 refine qw0 ?_
 refine rp rfl rfl (fun hb=>?_) (fun hb=>?_)
 ·have hb':¬ r=[]:=by simpa using hb
  by_cases hi:0≤Lib.indexByte r 58
  ·have hcut:∀ p,ak Tryz.prog 75 [.str r,.str [58]] (Oid.under p) ⟨[],.tuple [.str (bJ r),.str (bl r),.bool true],[]⟩:=fun p=>by
    have:=uw r (by omega) 58 p;rwa [og,if_pos hi] at this
   cases hn:cv (bJ r) with
   | true =>
    have hnum:∀ p:Oid,p.mono=false→ak Tryz.prog 31 [.str (bJ r)] (Oid.under p) ⟨[],.tuple [.int .i64 (aX (bJ r)),.bool true],[]⟩:=fun p hp=>by
     have:=fU (bJ r) (by simp only [bJ,List.length_take];omega) p hp;rwa [hn] at this
    have hnn:=oa hn
    (repeat (first|(refine aA rfl rfl ?_)|(refine aB rfl rfl ?_)|(refine az nmd [] hng (by kernel_rfl) fun hf C S K hC1 hC hS hK=>?_;simp (disch:=first|omega|assumption) only [go_sem];(repeat ((first|refine hC1 _ (hcut _) (by simp (disch:=first|omega|assumption) only [go_sem]) ?_|refine hC1 _ (hnum _ (ay rfl hp)) (by simp (disch:=first|omega|assumption) only [go_sem]) ?_);simp (disch:=first|omega|assumption) only [go_sem]));refine hK ?_;clear hK hS hC hC1 K S C hf)|((first|refine zn ?_|refine ze ?_|refine zk ?_);with_reducible (constructor;repeat constructor);try refine zl ?_)))
    refine az nmd [(2,24),(6,28),(12,34)] hng (by kernel_rfl) fun hf C S K hC1 hC hS hK=>?_;simp (disch:=first|omega|assumption) only [go_sem]
    (repeat' (first|(refine bG (fun hv=>?_) (fun hv=>?_)<;>(try simp only [zb1,zb2,zb3,zb4,zb5] at hv)<;>simp (disch:=first|omega|assumption) only [go_sem,hv])|(refine hK ?_;clear hK hS hC hC1 K S C hf)))
    ·refine qw0 ?_
     refine aY rfl rfl (fun hb=>?_) (fun hb=>?_)
     ·rw [cM hb' (fun h=>hb (by have:=h.2.2.2;rw [show (bl r).getD (aX (bJ r)).toNat 0=44 from this];rfl))] at hdec
      refine qw0 ?_
      exact ar (aq (by rw [hdec];rfl))
     ·have h44:(bl r).getD (bQ r) 0=44:=by
       have:((bl r).getD (aX (bJ r)).toNat 0).toNat=44:=by omega
       exact UInt8.toNat_inj.1 this
      rw [iY hb' ⟨hi,hn,by omega,h44⟩] at hdec
      have hrl:=iw hb'
      have hrs:(bl r).length≤4000000000:=by simp only [bl,List.length_drop];omega
      refine qw0 ?_
      have hcc:(aX (bJ r)+1).toNat=bQ r+1:=by simp only [bQ];omega
      refine ⟨_,_,?_,fun _ _ h=>h,done++[(bl r).take (bQ r)],(bl r).drop (bQ r+1),c+1+1+1+1,5,c+1+1+1+1+1+1,rfl,by omega,?_,?_,?_⟩
      ·exact hrl
      ·simp only [List.length_append,List.length_cons,List.length_nil];omega
      ·rw [hdec,Option.map_map];congr 1;funext l;simp
      ·rw [hcc,List.length_append,List.map_append];rfl
    ·refine qw0 ?_
     rw [cM hb' (fun h=>by have:=h.2.2.1;omega)] at hdec
     exact ar (aq (by rw [hdec];rfl))
   | false =>
    have hnum:∀ p:Oid,p.mono=false→ak Tryz.prog 31 [.str (bJ r)] (Oid.under p) ⟨[],.tuple [.int .i64 (aX (bJ r)),.bool false],[]⟩:=fun p hp=>by
     have:=fU (bJ r) (by simp only [bJ,List.length_take];omega) p hp;rwa [hn] at this
    rw [cM hb' (fun h=>by rw [h.2.1] at hn;cases hn)] at hdec
    (repeat (first|(refine aA rfl rfl ?_)|(refine aB rfl rfl ?_)|(refine az nmd [] hng (by kernel_rfl) fun hf C S K hC1 hC hS hK=>?_;simp (disch:=first|omega|assumption) only [go_sem];(repeat ((first|refine hC1 _ (hcut _) (by simp (disch:=first|omega|assumption) only [go_sem]) ?_|refine hC1 _ (hnum _ (ay rfl hp)) (by simp (disch:=first|omega|assumption) only [go_sem]) ?_);simp (disch:=first|omega|assumption) only [go_sem]));refine hK ?_;clear hK hS hC hC1 K S C hf)|((first|refine zn ?_|refine ze ?_|refine zk ?_);with_reducible (constructor;repeat constructor);try refine zl ?_)))
    refine az nmd [(2,24),(6,28),(12,34)] hng (by kernel_rfl) fun hf C S K hC1 hC hS hK=>?_;simp (disch:=first|omega|assumption) only [go_sem]
    (repeat' (first|(refine bG (fun hv=>?_) (fun hv=>?_)<;>(try simp only [zb1,zb2,zb3,zb4,zb5] at hv)<;>simp (disch:=first|omega|assumption) only [go_sem,hv])|(refine hK ?_;clear hK hS hC hC1 K S C hf)))
    refine qw0 ?_
    exact ar (aq (by rw [hdec];rfl))
  ·have hcut:∀ p,ak Tryz.prog 75 [.str r,.str [58]] (Oid.under p) ⟨[],.tuple [.str r,.str [],.bool false],[]⟩:=fun p=>by
    have:=uw r (by omega) 58 p;rwa [og,if_neg hi] at this
   rw [cM hb' (fun h=>hi h.1)] at hdec
   (repeat (first|(refine aA rfl rfl ?_)|(refine aB rfl rfl ?_)|(refine az nmd [] hng (by kernel_rfl) fun hf C S K hC1 hC hS hK=>?_;simp (disch:=first|omega|assumption) only [go_sem];(repeat ((first|refine hC1 _ (hcut _) (by simp (disch:=first|omega|assumption) only [go_sem]) ?_|refine hC1 _ (fU r (by omega) _ (ay rfl hp)) (by simp (disch:=first|omega|assumption) only [go_sem]) ?_);simp (disch:=first|omega|assumption) only [go_sem]));refine hK ?_;clear hK hS hC hC1 K S C hf)|((first|refine zn ?_|refine ze ?_|refine zk ?_);with_reducible (constructor;repeat constructor);try refine zl ?_)))
   refine az nmd [(2,24),(6,28),(12,34)] hng (by kernel_rfl) fun hf C S K hC1 hC hS hK=>?_;simp (disch:=first|omega|assumption) only [go_sem]
   (repeat' (first|(refine bG (fun hv=>?_) (fun hv=>?_)<;>(try simp only [zb1,zb2,zb3,zb4,zb5] at hv)<;>simp (disch:=first|omega|assumption) only [go_sem,hv])|(refine hK ?_;clear hK hS hC hC1 K S C hf)))
   refine qw0 ?_
   exact ar (aq (by rw [hdec];rfl))
 ·have hb':r=[]:=by simpa using hb
  subst hb'
  refine qw0 ?_
  rw [ix,Option.map_some,List.append_nil] at hdec
  rw [hdec]
  (refine cm (.sub d j x.p) _ _ (by simp (disch:=first|omega|assumption) only [go_sem];rfl) ?_;simp (disch:=first|omega|assumption) only [go_sem])
  exact ar (aq rfl)
end Go.Proofs.YtpficjpdfbiedaaGreatDoor
namespace Go.Proofs.YtpficjpdfbiedaaGreatDoor
open Go Go.Ab
set_option maxRecDepth 20000
set_option maxHeartbeats 4000000
structure Bits where
 k:Int
 m:Int
 l:Str
deriving DecidableEq
def Bits.av (b:Bits):AV:=.agg [.int .i64 b.k,.int .i64 b.m,.str b.l]
def Bits.no:Bits:=⟨0,0,[]⟩
def Bits.ok (b:Bits):Prop:=(-9223372036854775808≤b.k∧b.k≤9223372036854775807)∧(-9223372036854775808≤b.m∧b.m≤9223372036854775807)∧b.l.length≤4000000000
def pC (b:Bits):Str:=if b.k=0 then [] else aC [Lib.itoa b.k,Lib.itoa b.m,b.l]
theorem kh {s:Str} (h:s.length≤4000000000):(chunk s).length≤4000000100:=by
 have h1:=bs s
 have h2:=Lib.itoa_length_le s.length (by omega) (by omega)
 omega
theorem ux (b:Bits) (hb:b.ok) (p:Oid) (hp:p.mono=false):ak Tryz.prog 135 [b.av] (Oid.under p) ⟨[],.str (pC b),[]⟩:=by
 obtain ⟨k,m,l⟩:=b
 obtain ⟨⟨k1,k2⟩,⟨m1,m2⟩,hl⟩:=hb
 simp only at k1 k2 m1 m2 hl
 have hk:=Lib.itoa_length_le k k1 k2
 have hm:=Lib.itoa_length_le m m1 m2
 have h1:=kh (s:=Lib.itoa k) (by omega)
 have h2:=kh (s:=Lib.itoa m) (by omega)
 have h3:=kh hl
 have hE:(aC [Lib.itoa k,Lib.itoa m,l]).length≤140737488355328:=by simp only [aC,List.length_append,List.length_nil];omega
 simp only [Bits.av]
 refine aK (n:=16) (rs:=[.tmp 2]) Tryz.func135 rfl rfl (by decide) rfl rfl rfl ?_;rintro x rfl hrd hng
 refine qw0 ?_
 refine aY rfl rfl (fun hb=>?_) (fun hb=>?_)
 ·refine qw0 ?_
  exact ar (a6 (congrArg AV.str (by rw [pC,if_pos hb])))
 ·(try ((first|refine zn ?_|refine ze ?_|refine zk ?_);with_reducible (constructor;repeat constructor));try refine zl ?_)
  refine bA nmd [] [(2,4),(2,7),(5,7)] mixed hng (by kernel_rfl) [2] fun hf C S K hC hS hK=>?_;simp (disch:=first|omega|assumption) only [go_sem]
  (repeat ((first|refine hC _ (er k k1 k2 _ (ay rfl hp)) (by simp (disch:=first|omega|assumption) only [go_sem]) ?_|refine hC _ (er m m1 m2 _ (ay rfl hp)) (by simp (disch:=first|omega|assumption) only [go_sem]) ?_|refine hC _ (cZ [Lib.itoa k,Lib.itoa m,l] hE (by simp) _ (ay rfl hp)) (by simp (disch:=first|omega|assumption) only [go_sem]) ?_);simp (disch:=first|omega|assumption) only [go_sem]))
  (first|refine hK (aE rfl) ?_|refine hK (by simp (disch:=first|omega|assumption) only [go_sem,List.reverse_cons,List.reverse_nil,ne_eq,not_false_eq_true,implies_true]) ?_);clear hK hS hC K S C hf
  refine qw0 ?_
  exact ar (a6 (congrArg AV.str (by rw [pC,if_neg hb])))
theorem oh:∀ (k:Nat) (s:Str) (l:List Str),mB k s=some l→∀ e ∈ l,e.length≤s.length
 | 0,_,_,h=>by cases h
 | k+1,s,l,h=>by
  simp only [mB] at h
  split at h
  ·cases h;intro e he;cases he
  ·split at h
   ·simp only [Option.map_eq_some_iff] at h
    obtain ⟨l',h1,rfl⟩:=h
    have ih:=oh k _ l' h1
    intro e he
    rcases List.mem_cons.1 he with rfl|he
    ·simp only [bl,List.length_take,List.length_drop];omega
    ·have:=ih e he;simp only [bl,List.length_drop] at this;omega
   ·cases h
theorem ki {s:Str} {l:List Str} (h:dD s=some l):∀ e ∈ l,e.length≤s.length:=oh _ _ _ h
def zZ (s a b c:Str):Bool:=cv a && cv b && decide (1≤aX a) && decide (aX a≤3) && decide (aX b≤7) && !(decide (aX a=2) && decide (c≠[])) && decide (pC ⟨aX a,aX b,c⟩=s)
def wD (s:Str):Bits × Int:=if s=[] then (Bits.no,0) else match dD s with
 | some [a,b,c]=>if zZ s a b c=true then (⟨aX a,aX b,c⟩,0) else (Bits.no,20)
 | _=>(Bits.no,20)
end Go.Proofs.YtpficjpdfbiedaaGreatDoor
namespace Go.Proofs.YtpficjpdfbiedaaGreatDoor
open Go Go.Ab
set_option maxRecDepth 20000
set_option maxHeartbeats 4000000
theorem dU (l:List Str) (hl:(aC l).length≤140737488355328) (hn:l.length≤140737488355328) (p:Oid):ak Tryz.prog 27 [.list 1 (l.map AV.str)] (Oid.under p) ⟨[],.str (aC l),[]⟩:=by
 refine aK (n:=27) (rs:=[.tmp 2]) Tryz.func27 rfl rfl (by decide) rfl rfl rfl ?_;rintro x rfl hrd hng
 refine qw0 ?_
 refine aT [0,3,4] (fun k s'=>∃ (i c:Nat),k=l.length - i∧i≤l.length∧s' = ⟨[(0,.list 1 (l.map AV.str)),(3,.str (aC (l.take i))),(4,.int .i64 i)],Mem.of [],c,[]⟩) _ ⟨0,_,rfl,Nat.zero_le _,rfl⟩ ?_
 rintro k s' ⟨i,c,rfl,hi,rfl⟩
 refine qw0 ?_
 refine aY rfl rfl (fun hb=>?_) (fun hb=>?_)
 ·have ht:=iX (l:=l) (i:=i) (by omega)
  have hle:=eZ (l:=l) (i+1)
  have hch:=bs (l.getD i default)
  have hdl:=Lib.itoa_nonneg (l.getD i default).length
  rw [hdl] at hch
  rw [ht,List.length_append] at hle
  (try ((first|refine zn ?_|refine ze ?_|refine zk ?_);with_reducible (constructor;repeat constructor));try refine zl ?_)
  refine bA nmd [] [(6,12)] mixed hng (by kernel_rfl) [0,3,4] fun hf C S K hC hS hK=>?_;simp (disch:=first|omega|assumption) only [go_sem]
  (repeat ((first|refine hC _ (rG (l.getD i default).length (by omega) _) (by simp (disch:=first|omega|assumption) only [go_sem]) ?_);simp (disch:=first|omega|assumption) only [go_sem]))
  (first|refine hK (aE rfl) ?_|refine hK (by simp (disch:=first|omega|assumption) only [go_sem,List.reverse_cons,List.reverse_nil,ne_eq,not_false_eq_true,implies_true]) ?_);clear hK hS hC K S C hf
  refine qw0 ?_
  have hs:aC (l.take i)++Lib.decDigits (l.getD i default).length++[58]++l.getD i default++[44]=aC (l.take (i+1)):=by rw [ht,chunk,hdl];simp only [List.append_assoc]
  rw [hs]
  exact ⟨_,_,by omega,fun _ _ h=>h,i+1,c+1+1+1,rfl,by omega,rfl⟩
 ·obtain rfl:i=l.length:=by omega
  refine qw0 ?_
  exact ar (a6 (congrArg AV.str (by rw [List.take_length])))
end Go.Proofs.YtpficjpdfbiedaaGreatDoor
namespace Go.Proofs.YtpficjpdfbiedaaGreatDoor
open Go Go.Ab
set_option maxRecDepth 20000
set_option maxHeartbeats 4000000
theorem kj (c:UInt8):∀ r:Str,(Lib.indexByte r c = -1∧∀ j,j < r.length→¬ r.getD j 0=c)∨∃ i:Nat,Lib.indexByte r c=i∧i < r.length∧r.getD i 0=c∧∀ j,j < i→¬ r.getD j 0=c
 | []=>.inl ⟨rfl,fun j hj=>absurd hj (Nat.not_lt_zero _)⟩
 | b::r=>by
  by_cases hb:b=c
  ·refine .inr ⟨0,by simp [Lib.indexByte,hb],by simp,by simp [hb],fun j hj=>absurd hj (Nat.not_lt_zero _)⟩
  have hb':(b == c)=false:=by simpa using hb
  rcases kj c r with ⟨h1,h2⟩|⟨i,h1,h2,h3,h4⟩
  ·refine .inl ⟨by simp [Lib.indexByte,hb',h1],fun j hj=>?_⟩
   cases j with
   | zero=>simpa using hb
   | succ j=>simpa using h2 j (by simpa using hj)
  ·refine .inr ⟨i+1,?_,by simpa using h2,by simpa using h3,fun j hj=>?_⟩
   ·have:¬ Lib.indexByte r c = -1:=by omega
    simp only [Lib.indexByte,hb',Bool.false_eq_true,if_false,beq_iff_eq,this,h1];omega
   ·cases j with
    | zero=>simpa using hb
    | succ j=>simpa using h4 j (by omega)
def aF (r:Str):Nat:=if 0≤Lib.indexByte r 58 then colon r else r.length
theorem fH (r:Str):aF r≤r.length∧(∀ j,j < aF r→¬ r.getD j 0=58)∧(aF r < r.length→r.getD (aF r) 0=58∧0≤Lib.indexByte r 58∧aF r=colon r)∧(0≤Lib.indexByte r 58→aF r < r.length):=by
 rcases kj 58 r with ⟨h1,h2⟩|⟨i,h1,h2,h3,h4⟩
 ·have:aF r=r.length:=by rw [aF,if_neg (by omega)]
  rw [this];exact ⟨Nat.le_refl _,h2,fun h=>absurd h (Nat.lt_irrefl _),fun h=>by omega⟩
 ·have hc:colon r=i:=by rw [colon,h1];rfl
  have:aF r=i:=by rw [aF,if_pos (by omega),hc]
  rw [this,hc];exact ⟨by omega,h4,fun _=>⟨h3,by omega,rfl⟩,fun _=>h2⟩
theorem mC {r:Str}:okS r↔0≤bW (r.take (aF r))∧bW (r.take (aF r))+aF r+2≤r.length∧r.getD ((bW (r.take (aF r))).toNat+aF r+1) 0=44:=by
 obtain ⟨h1,h2,h3,h4⟩:=fH r
 by_cases hi:0≤Lib.indexByte r 58
 ·have hlt:=h4 hi
  obtain ⟨_,_,h5⟩:=h3 hlt
  obtain ⟨n1,n2⟩:=iu (bJ r)
  have hh:r.take (aF r)=bJ r:=by rw [h5];rfl
  rw [hh]
  have hlen:(bl r).length=r.length - (aF r+1):=by rw [bl,List.length_drop,h5]
  constructor
  ·rintro ⟨_,g1,g2,g3⟩
   have hv:=n2 g1
   rw [n1,decide_eq_true_eq] at g1
   refine ⟨g1,by rw [hv] at g2;omega,?_⟩
   rw [bQ,hv,bl,List.getD_eq_getElem?_getD,List.getElem?_drop,← List.getD_eq_getElem?_getD,← h5] at g3
   rw [← g3];congr 1;omega
  ·rintro ⟨g1,g2,g3⟩
   have hg:cv (bJ r)=true:=by rw [n1];simpa using g1
   have hv:=n2 hg
   refine ⟨hi,hg,by rw [hv];omega,?_⟩
   rw [bQ,hv,bl,List.getD_eq_getElem?_getD,List.getElem?_drop,← List.getD_eq_getElem?_getD,← h5]
   rw [← g3];congr 1;omega
 ·have:aF r=r.length:=by rw [aF,if_neg hi]
  constructor
  ·rintro ⟨g,_⟩;exact absurd g hi
  ·rintro ⟨_,g,_⟩;omega
theorem rJ {r:Str} (h:okS r):(bl r).take (bQ r)=(r.take ((bW (r.take (aF r))).toNat+aF r+1)).drop (aF r+1)∧(bl r).drop (bQ r+1)=r.drop ((bW (r.take (aF r))).toNat+aF r+2):=by
 obtain ⟨h1,h2,h3,h4⟩:=fH r
 have hlt:=h4 h.1
 obtain ⟨_,_,h5⟩:=h3 hlt
 have hh:r.take (aF r)=bJ r:=by rw [h5];rfl
 have hv:=(iu (bJ r)).2 h.2.1
 rw [hh,← hv,bl,← h5,bQ]
 constructor
 ·rw [List.drop_take];congr 1;omega
 ·rw [List.drop_drop];congr 1;omega
theorem lJ:∀ (t:Str) (a n:Nat),Lib.decFrom a t=some n→n < (a+1) * 10 ^ t.length
 | [],a,n,h=>by simp only [Lib.decFrom,Option.some.injEq] at h;subst h;simp
 | b::t,a,n,h=>by
  simp only [Lib.decFrom] at h
  split at h
  ·rename_i d hd
   have h1:=lJ t _ n h
   have h2:=(lE hd).1
   refine Nat.lt_of_lt_of_le h1 ?_
   rw [List.length_cons,Nat.pow_succ,Nat.mul_comm (10 ^ t.length) 10,← Nat.mul_assoc]
   exact Nat.mul_le_mul_right _ (by omega)
  ·cases h
theorem om (s:Str):-1≤bW s∧bW s < 1000000000:=by
 unfold bW
 split
 ·omega
 ·rename_i hc
  split
  ·rename_i n hd
   have h1:=lJ s 0 n hd
   have h2:10 ^ s.length≤10 ^ 9:=Nat.pow_le_pow_right (by decide) (by omega)
   omega
  ·omega
theorem kl (s:Str) (hl:s.length≤4000000000) (p:Oid):ak Tryz.prog 32 [.str s] (Oid.under p) ⟨[],kZ (dD s),[]⟩:=by
 refine aK (n:=64) (rs:=[.tmp 2,.tmp 3]) Tryz.func32 rfl rfl (by decide) rfl rfl rfl ?_;rintro x rfl hrd hng
 refine qw0 ?_
 refine fD 4 1 rfl ?_
 simp (disch:=first|omega|assumption) only [go_sem]
 refine aT [0,4] (fun k s'=>∃ (done:List Str) (r:Str) (d j c:Nat),k=r.length∧d < c∧done.length+r.length≤s.length∧dD s=(dD r).map (done++·) ∧
   s' = ⟨[(0,.str r),(4,.sl (.sub d j x.p) 1 done.length)],Mem.of [(.sub d j x.p,.arr 1 (done.map AV.str))],c,[]⟩) _ ⟨[],s,2,0,3,rfl,by omega,by simp,by cases dD s<;>rfl,rfl⟩ ?_
 rintro k s' ⟨done,r,d,j,c,rfl,hdc,hlen,hdec,rfl⟩
 refine qw0 ?_
 refine aY rfl rfl (fun hb=>?_) (fun hb=>?_)
 ·have hb':¬ r=[]:=fun e=>by subst e;simp at hb
  obtain ⟨f1,f2,f3,f4⟩:=fH r
  (repeat (first|(refine aA rfl rfl ?_)|(refine aB rfl rfl ?_)|(refine az nmd [] hng (by kernel_rfl) fun hf C S K hC1 hC hS hK=>?_;simp (disch:=first|omega|assumption) only [go_sem];refine hK ?_;clear hK hS hC hC1 K S C hf)|((first|refine zv ?_|refine zw ?_|refine zu ?_);with_reducible (constructor;repeat constructor);try refine zl ?_)))
  refine dc ?_
  (repeat (first|(refine aA rfl rfl ?_)|(refine aB rfl rfl ?_)|(refine az nmd [] hng (by kernel_rfl) fun hf C S K hC1 hC hS hK=>?_;simp (disch:=first|omega|assumption) only [go_sem];refine hK ?_;clear hK hS hC hC1 K S C hf)|((first|refine zv ?_|refine zw ?_|refine zu ?_);with_reducible (constructor;repeat constructor);try refine zl ?_)))
  refine xn [0,4,5] (fun s'=>∃ c':Nat,d < c'∧s' = ⟨[(0,.str r),(4,.sl (.sub d j x.p) 1 done.length),(5,.int .i64 (aF r))],Mem.of [(.sub d j x.p,.arr 1 (done.map AV.str))],c',[]⟩) ?_ ?_
  ·refine qw0 ?_
   refine aT [0,4,5] (fun k s'=>∃ i c':Nat,k=r.length - i∧i≤aF r∧d < c'∧s' = ⟨[(0,.str r),(4,.sl (.sub d j x.p) 1 done.length),(5,.int .i64 i)],Mem.of [(.sub d j x.p,.arr 1 (done.map AV.str))],c',[]⟩) _ ⟨0,_,rfl,Nat.zero_le _,by omega,rfl⟩ ?_
   rintro k s' ⟨i,c',rfl,hi,hdc',rfl⟩
   (try ((first|refine zn ?_|refine ze ?_|refine zk ?_);with_reducible (constructor;repeat constructor));try refine zl ?_)
   refine az nmd [(4,14)] hng (by kernel_rfl) fun hf C S K hC1 hC hS hK=>?_;simp (disch:=first|omega|assumption) only [go_sem]
   (repeat' (first|(refine bG (fun hv=>?_) (fun hv=>?_)<;>(try simp only [zb1,zb2,zb3,zb4,zb5] at hv)<;>simp (disch:=first|omega|assumption) only [go_sem,hv,Int.reduceEq,Int.reduceNe,ne_eq,not_true_eq_false,not_false_eq_true,decide_true,decide_false])|(refine hK ?_;clear hK hS hC hC1 K S C hf)))
   ·(try ((first|refine zn ?_|refine ze ?_|refine zk ?_);with_reducible (constructor;repeat constructor));try refine zl ?_)
    refine aY rfl rfl (fun hb=>?_) (fun hb=>?_)
    ·refine qw0 ?_
     have hne:¬ i=aF r:=fun e=>by
      have:=(f3 (by omega)).1
      rw [← e] at this
      exact hb (by rw [this];rfl)
     exact ⟨_,_,by omega,fun _ _ h=>h,i+1,_,rfl,by omega,by omega,rfl⟩
    ·refine qw0 ?_
     have h58:r.getD i 0=58:=UInt8.toNat_inj.1 (by have:(58:UInt8).toNat=58:=rfl;omega)
     have he:i=aF r:=by
      rcases Nat.lt_or_ge i (aF r) with h|h
      ·exact absurd h58 (f2 i h)
      ·omega
     subst he
     exact j6 ⟨_,by omega,rfl⟩
   ·refine qw0 ?_
    have he:i=aF r:=by omega
    subst he
    exact j6 ⟨_,by omega,rfl⟩
  rintro s' ⟨c',hdc',rfl⟩
  obtain ⟨b1,b2⟩:=om (r.take (aF r))
  (repeat (first|(refine aA rfl rfl ?_)|(refine aB rfl rfl ?_)|(refine az nmd [] hng (by kernel_rfl) fun hf C S K hC1 hC hS hK=>?_;simp (disch:=first|omega|assumption) only [go_sem];(repeat ((first|refine hC1 _ (kg (r.take (aF r)) (by simp only [List.length_take];omega) _) (by simp (disch:=first|omega|assumption) only [go_sem]) ?_);simp (disch:=first|omega|assumption) only [go_sem]));refine hK ?_;clear hK hS hC hC1 K S C hf)|((first|refine zn ?_|refine ze ?_|refine zk ?_);with_reducible (constructor;repeat constructor);try refine zl ?_)))
  refine az nmd [(2,28),(11,37)] hng (by kernel_rfl) fun hf C S K hC1 hC hS hK=>?_;simp (disch:=first|omega|assumption) only [go_sem]
  (repeat' (first|(refine bG (fun hv=>?_) (fun hv=>?_)<;>(try simp only [zb1,zb2,zb3,zb4,zb5] at hv)<;>simp (disch:=first|omega|assumption) only [go_sem,hv,Int.reduceEq,Int.reduceNe,ne_eq,not_true_eq_false,not_false_eq_true,decide_true,decide_false])|(refine hK ?_;clear hK hS hC hC1 K S C hf)))
  ·have hn1:(bW (r.take (aF r))+(aF r:Int)+1).toNat=(bW (r.take (aF r))).toNat+aF r+1:=by omega
   have hn2:(bW (r.take (aF r))+(aF r:Int)+2).toNat=(bW (r.take (aF r))).toNat+aF r+2:=by omega
   have hn3:((aF r:Int)+1).toNat=aF r+1:=by omega
   refine qw0 ?_
   refine aY rfl rfl (fun hb=>?_) (fun hb=>?_)
   ·rw [cM hb' (fun h=>hb (by have:=(mC.1 h).2.2;rw [hn1,this];rfl))] at hdec
    refine qw0 ?_
    exact ar (aq (by rw [hdec];rfl))
   ·have h44:r.getD ((bW (r.take (aF r))).toNat+aF r+1) 0=44:=UInt8.toNat_inj.1 (by
     rw [hn1] at hb;have:(44:UInt8).toNat=44:=rfl;omega)
    have hok:okS r:=mC.2 ⟨by omega,by omega,h44⟩
    obtain ⟨q1,q2⟩:=rJ hok
    rw [iY hb' hok,q1,q2] at hdec
    refine qw0 ?_
    have hdl:(r.drop ((bW (r.take (aF r))).toNat+aF r+2)).length < r.length:=by
     have:=List.length_pos_iff.2 hb';simp only [List.length_drop];omega
    rw [hn1,hn2,hn3]
    refine ⟨_,_,hdl,fun _ _ h=>h,done++[(r.take ((bW (r.take (aF r))).toNat+aF r+1)).drop (aF r+1)],r.drop ((bW (r.take (aF r))).toNat+aF r+2),c' + 1+1,10,c' + 1+1+1+1,rfl,by omega,?_,?_,?_⟩
    ·simp only [List.length_append,List.length_cons,List.length_nil];omega
    ·rw [hdec,Option.map_map];congr 1;funext l;simp
    ·rw [List.length_append,List.map_append];rfl
  ·refine qw0 ?_
   rw [cM hb' (fun h=>by have:=(mC.1 h).2.1;omega)] at hdec
   exact ar (aq (by rw [hdec];rfl))
  ·refine qw0 ?_
   rw [cM hb' (fun h=>by have:=(mC.1 h).1;omega)] at hdec
   exact ar (aq (by rw [hdec];rfl))
 ·have hb':r=[]:=List.eq_nil_of_length_eq_zero (by omega)
  subst hb'
  refine qw0 ?_
  rw [ix,Option.map_some,List.append_nil] at hdec
  rw [hdec]
  (refine cm (.sub d j x.p) _ _ (by simp (disch:=first|omega|assumption) only [go_sem];rfl) ?_;simp (disch:=first|omega|assumption) only [go_sem])
  exact ar (aq rfl)
end Go.Proofs.YtpficjpdfbiedaaGreatDoor
namespace Go.Proofs.YtpficjpdfbiedaaGreatDoor
open Go Go.Ab
set_option maxRecDepth 20000
set_option maxHeartbeats 4000000
end Go.Proofs.YtpficjpdfbiedaaGreatDoor
namespace Go.Proofs.YtpficjpdfbiedaaGreatDoor
open Go Go.Ab
set_option maxRecDepth 20000
set_option maxHeartbeats 4000000
end Go.Proofs.YtpficjpdfbiedaaGreatDoor
namespace Go.Proofs.YtpficjpdfbiedaaGreatDoor
open Go Go.Ab
set_option maxRecDepth 20000
set_option maxHeartbeats 4000000
theorem yN (p:Oid):ak Tryz.prog 22 [] (Oid.under p) ⟨[],.ptr (.sub 1 2 p) 0,[(.sub 1 2 p,some (.cells [.map (.sub 1 0 p),.nilPtr])),(.sub 1 0 p,some (.map [.ss] false [] 0))]⟩:=by
 refine aK (n:=4) (rs:=[.tmp 0]) Tryz.func22 rfl rfl (by decide) rfl rfl rfl ?_;rintro x rfl hrd hng
 refine qw0 ?_
 refine ar (a7 rfl ?_ ?_)
 all_goals simp [Mem.al]
end Go.Proofs.YtpficjpdfbiedaaGreatDoor
namespace Go.Proofs.YtpficjpdfbiedaaGreatDoor
open Go Go.Ab
end Go.Proofs.YtpficjpdfbiedaaGreatDoor
namespace Go.Proofs.YtpficjpdfbiedaaGreatDoor
open Go Go.Ab
set_option maxRecDepth 20000
set_option maxHeartbeats 4000000
theorem rK {P:Program} {rs:List ResultVar} {need:List (Oid × af)} {fr:List (Nat × AV)} {m:Mem} {c:Nat} {val:AV} {upd:List (Oid × Option af)} (h1:jZ P m fr rs=some val)
  (h2:∀ q,q ∈ upd→∀ o,q.2=some o→m q.1=some o) (h3:∀ q,q ∈ need→(∀ r,r ∈ upd→¬ r.1=q.1)→m q.1=some q.2):eK P rs need (fun v u=>v=val∧u=upd) (fun _ _=>False) .normal ⟨fr,m,c,[]⟩ :=
 eo val upd h1 ⟨rfl,rfl⟩ (qC h2 h3)
variable (st t:Oid) (es:List ME) (clock:Nat) (hts:¬ t=st) (p:Oid) (hs:¬ Oid.under p st) (ht:¬ Oid.under p t)
include hts hs ht
omit hts in
theorem zG (n:Str) (b:Bits) (hv:gX (.str n) (.agg [.int .i64 0,.int .i64 0,.str []]) es=b.av):ak Tryz.prog 136 [.map t,.str n] (Oid.under p) ⟨[(t,.map [.ss] false es clock)],(if n=[] then (⟨2,7,[]⟩:Bits) else b).av,[]⟩:=by
 simp only [Bits.av] at hv
 refine aK (n:=11) (rs:=[.cell 4 123]) Tryz.func136 rfl rfl (by decide) rfl rfl rfl ?_;rintro x rfl hrd hng
 refine qw (uu ht) ?_
 refine aY rfl rfl (fun hb'=>?_) (fun hb'=>?_)
 ·rw [if_pos hb']
  refine qw (uu ht) ?_
  refine ar (a7 (by simp (disch:=first|omega|assumption) only [go_sem,Bits.av,Oid.aa ht,Oid.ab ht]) ?_ ?_)
  all_goals simp only [List.mem_cons,List.not_mem_nil,or_false,forall_eq_or_imp,forall_eq,Option.some.injEq,forall_eq',Mem.al,eq_self,if_true,↓reduceIte,reduceCtorEq,implies_true,not_true_eq_false,false_imp_iff,true_and,and_true,false_and,and_false,imp_self,Oid.aa ht,Oid.ab ht]
 ·rw [if_neg hb']
  refine qw (ai (uu ht) hv) ?_
  refine ar (a7 (by simp (disch:=first|omega|assumption) only [go_sem,Bits.av,Oid.aa ht,Oid.ab ht]) ?_ ?_)
  all_goals simp only [List.mem_cons,List.not_mem_nil,or_false,forall_eq_or_imp,forall_eq,Option.some.injEq,forall_eq',Mem.al,eq_self,if_true,↓reduceIte,reduceCtorEq,implies_true,not_true_eq_false,false_imp_iff,true_and,and_true,false_and,and_false,imp_self,Oid.aa ht,Oid.ab ht]
end Go.Proofs.YtpficjpdfbiedaaGreatDoor
namespace Go.Proofs.YtpficjpdfbiedaaGreatDoor
open Go Go.Ab
set_option maxRecDepth 20000
set_option maxHeartbeats 4000000
theorem jm (s:Str) (c:UInt8) (sp:Oid→Prop):ak Tryz.prog 178 [.str s,.str [c]] sp ⟨[],.bool (decide (0≤Lib.indexByte s c)),[]⟩ :=
 fG (by kernel_rfl) fun g args w ha _=>by
  obtain ⟨v,u,rfl,hv,hu⟩:=ha.two
  obtain ⟨b,rfl,hb⟩:=hv.bg
  obtain ⟨d,rfl,hd⟩:=hu.bg
  obtain rfl:d=⟨#[c]⟩:=by cases d with|mk a=>cases a with|mk l=>simp only at hd;rw [hd]
  refine (Tryz.strings_Contains_one b c w).mono ?_
  rintro e w' ⟨rfl,rfl⟩
  exact ⟨_,rfl,by rw [hb];exact .bool _,rfl⟩
def iy (s t:Str):Bool:=decide (t.length≤s.length) && decide (s.take t.length=t)
theorem mD (s t:Str) (hl:s.length≤140737488355328) (hl2:t.length≤140737488355328) (p:Oid):ak Tryz.prog 188 [.str s,.str t] (Oid.under p) ⟨[],.bool (iy s t),[]⟩:=by
 refine aK (n:=18) (rs:=[.tmp 4]) Tryz.func188 rfl rfl (by decide) rfl rfl rfl ?_;rintro x rfl hrd hng
 refine qr0 ?_
 refine az nmd [(5,10)] hng (by kernel_rfl) fun hf C S K hC1 hC hS hK=>?_;simp (disch:=first|omega|assumption) only [go_sem]
 (repeat' (first|(refine bG (fun hv=>?_) (fun hv=>?_)<;>(try simp only [zb1,zb2,zb3,zb4,zb5] at hv)<;>simp (disch:=first|omega|assumption) only [go_sem,hv])|(refine hK ?_;clear hK hS hC hC1 K S C hf)))
 ·refine qw0 ?_
  exact ar (a6 (congrArg AV.bool (by rw [iy,decide_eq_true (by omega:t.length≤s.length),Bool.true_and])))
 ·refine qw0 ?_
  exact ar (a6 (congrArg AV.bool (by rw [iy,decide_eq_false (by omega:¬ t.length≤s.length),Bool.false_and])))
theorem k7 (s t:Str) (hl:s.length≤140737488355328) (hl2:t.length≤140737488355328) (p:Oid):ak Tryz.prog 192 [.str s,.str t] (Oid.under p) ⟨[],.tuple [.str (if iy s t=true then s.drop t.length else s),.bool (iy s t)],[]⟩:=by
 have hpre:iy s t=true→t.length≤s.length:=fun h=>by simp only [iy,Bool.and_eq_true,decide_eq_true_eq] at h;exact h.1
 refine aK (n:=15) (rs:=[.tmp 4,.tmp 5]) Tryz.func192 rfl rfl (by decide) rfl rfl rfl ?_;rintro x rfl hrd hng
 (repeat (first|(refine aA rfl rfl ?_)|(refine aB rfl rfl ?_)|(refine az nmd [] hng (by kernel_rfl) fun hf C S K hC1 hC hS hK=>?_;simp (disch:=first|omega|assumption) only [go_sem];(repeat ((first|refine hC1 _ (mD s t hl hl2 _) (by simp (disch:=first|omega|assumption) only [go_sem]) ?_);simp (disch:=first|omega|assumption) only [go_sem]));refine hK ?_;clear hK hS hC hC1 K S C hf)|((first|refine zn ?_|refine ze ?_|refine zk ?_);with_reducible (constructor;repeat constructor);try refine zl ?_)))
 cases hp:iy s t with
 | true =>
  have:=hpre hp
  refine qw0 ?_
  exact ar (aq rfl)
 | false =>
  refine qw0 ?_
  exact ar (aq rfl)
theorem mE (s t:Str) (hl:s.length≤140737488355328) (hl2:t.length≤140737488355328) (p:Oid):ak Tryz.prog 177 [.str s,.str t] (Oid.under p) ⟨[],.tuple [.str (if iy s t=true then s.drop t.length else s),.bool (iy s t)],[]⟩:=by
 refine aK (n:=11) (rs:=[.tmp 4,.tmp 5]) Tryz.func177 rfl rfl (by decide) rfl rfl rfl ?_;rintro x rfl hrd hng
 (repeat (first|(refine aA rfl rfl ?_)|(refine aB rfl rfl ?_)|(refine az nmd [] hng (by kernel_rfl) fun hf C S K hC1 hC hS hK=>?_;simp (disch:=first|omega|assumption) only [go_sem];(repeat ((first|refine hC1 _ (k7 s t hl hl2 _) (by simp (disch:=first|omega|assumption) only [go_sem]) ?_);simp (disch:=first|omega|assumption) only [go_sem]));refine hK ?_;clear hK hS hC hC1 K S C hf)|((first|refine zn ?_|refine ze ?_|refine zk ?_);with_reducible (constructor;repeat constructor);try refine zl ?_)))
 exact ar (aq rfl)
end Go.Proofs.YtpficjpdfbiedaaGreatDoor
namespace Go.Proofs.YtpficjpdfbiedaaGreatDoor
open Go Go.Ab
theorem rL (a b:Str):cP (.str a) (.str b)=decide (a=b):=by
 by_cases h:a=b<;>simp [cP,AV.cells,a8,eqS,h]
abbrev Ent:=Str × Bits × Nat
def km (n:Str):List Ent→List Ent
 | []=>[]
 | q::L=>if n=q.1 then L else q::km n L
theorem mF (n:Str):∀ L:List Ent,(km n L).Sublist L
 | []=>.slnil
 | q::L=>by
  simp only [km]
  split
  ·exact (List.Sublist.refl L).cons q
  ·exact (mF n L).cons_cons q
end Go.Proofs.YtpficjpdfbiedaaGreatDoor
namespace Go.Proofs.YtpficjpdfbiedaaGreatDoor
open Go Go.Ab
set_option maxRecDepth 20000
end Go.Proofs.YtpficjpdfbiedaaGreatDoor
namespace Go.Proofs.YtpficjpdfbiedaaGreatDoor
open Go Go.Ab
open Go.Sort Go.RowKit
set_option maxRecDepth 20000
set_option maxHeartbeats 4000000
def bY (l:List Str):List Str:=l.mergeSort fun x y=>decide (x≤y)
theorem uy {w:World} {b n:Nat} {d:Array Str} {os:Array Obj} {b':Nat} (hb:b'≠b) (hlt:b' < w.heap.size):(grow (putRow encStr (Sort.ahead w n) b 0 d) os).heap[b']? = w.heap[b']? := by
 unfold putRow mapBlock
 rw [heap_grow_old _ _ (by simpa [ahead] using hlt)]
 simp [Array.getElem?_modify,Ne.symm hb,ahead]
theorem mG {w:World} {b n:Nat} {d:Array Str} {os:Array Obj} {c:Array Value} {t:TypeId} {fz:Nat × Nat} (hb:w.heap[b]? = some (.cells c t fz)) :
  (grow (putRow encStr (Sort.ahead w n) b 0 d) os).heap[b]? = some (.cells (putCells encStr 0 d c) t fz):=by
 have hlt:=(Array.getElem?_eq_some_iff.1 hb).1
 unfold putRow mapBlock
 rw [heap_grow_old _ _ (by simpa [ahead] using hlt)]
 simp [Array.getElem?_modify,hb,ahead,onCells]
theorem wE {w:World} {b n:Nat} {d:Array Str} {os:Array Obj}:w.heap.size≤(grow (putRow encStr (Sort.ahead w n) b 0 d) os).heap.size:=by
 unfold putRow mapBlock
 simp [grow,ahead]
theorem mH (d:Array Str) (c:Array Value):(putCells encStr 0 d c).size=c.size:=by simp [putCells]
theorem e5 (l:List Str):(bY l).Perm l:=List.mergeSort_perm _ _
theorem iz (l:List Str):(bY l).length=l.length:=(e5 l).length_eq
theorem wF {g:Gh} {s:Str} {v:Value}:VR g (.str s) v↔v=encStr s:=by
 constructor
 ·intro h
  obtain ⟨b,rfl,hb⟩:=h.bg
  show Value.string b=Value.string _
  congr 1
  cases b
  simp only at hb
  congr 1
  rw [← hb]
 ·rintro rfl
  exact .str _ _ rfl
theorem pD (l:List Str) (hl:¬ l=[]) (hsz:l.length < 4611686018427387904) (id p:Oid) :
  ak Tryz.prog 175 [.sl id 1 l.length] (Oid.under p) ⟨[(id,.arr 1 (l.map .str))],.tuple [],[(id,some (.arr 1 ((bY l).map .str)))]⟩:=by
 refine ⟨by kernel_rfl,fun x g args w m hm hn hargs hsp hng=>?_⟩
 have hmi:=hn _ List.mem_cons_self
 simp only at hmi
 obtain ⟨v,rfl,a0⟩:=hargs.one
 have hne:l.length≠0:=fun e=>hl (List.eq_nil_of_length_eq_zero e)
 obtain ⟨b,cap,rfl,hloc,hcap,hrow⟩:=a0.cN.resolve_left fun h=>hne h.1
 obtain ⟨b0,hb0,hcom,hmay,hobj⟩:=hm.fj hmi hloc
 rw [hloc] at hb0;simp only [Option.some.injEq] at hb0;subst hb0
 obtain ⟨c,t,fz,hh,hcs,hfz,hxl,hone,hv⟩:=hobj
 have hlt:=(Array.getElem?_eq_some_iff.1 hh).1
 simp only [List.length_map,Nat.mul_one] at hcs hxl hone hv
 have hav:∀ (l:List Str) i,i < l.length→(l.map AV.str).getD i .undef = .str (l.getD i []):=fun l i hi=>by simp [List.getD_eq_getElem?_getD,List.getElem?_map,List.getElem?_eq_getElem hi]
 have hcell:∀ i,i < l.length→c.getD i undef=encStr (l.getD i []):=fun i hi=>by
  have:=hv i 0 hi (by omega)
  rw [hav l i hi] at this
  simp only [AV.cells,List.getD_cons_zero,Nat.mul_one,Nat.add_zero] at this
  exact wF.1 this
 have hH:Holds encStr w b 0 l.toArray:=by
  intro j hj
  have hj':j < l.length:=by simpa using hj
  have hjc:j < c.size:=by omega
  constructor
  ·have h3:=hcell j hj'
   simp only [World.cell?,hh,Nat.zero_add,Option.isSome_none,Bool.false_eq_true,if_false,Array.getElem?_eq_getElem hjc,Option.some.injEq]
   rw [Array.getD_eq_getD_getElem?,Array.getElem?_eq_getElem hjc,Option.getD_some] at h3
   rw [h3]
   have h5:l.toArray[j]! = l.getD j []:=by simp [List.getElem?_eq_getElem hj',hj']
   rw [h5]
  ·simp only [World.frozen?,hh,Nat.zero_add]
   have:=hfz j hjc
   by_cases h:fz.1≤j
   ·have:¬ j < fz.2:=fun h'=>this ⟨h,h'⟩
    simp [this]
   ·simp [h]
 refine (Tryz.slices_Sort_string b 0 cap l w hH hlt hsz).mono ?_
 rintro en w' ⟨rfl,n,os,rfl⟩
 have hlen:=iz l
 show ∃ _ _,_
 refine ⟨g,_,rfl,Gh.le_refl g,fun _ _=>rfl,.tuple _ _ rfl (fun j hj=>absurd hj (Nat.not_lt_zero _)),?_⟩
 have hfold:(l.mergeSort fun x y=>decide (x≤y))=bY l:=rfl
 rw [hfold]
 refine hm.gN (o:=.arr 1 ((bY l).map .str)) hmi hloc rfl rfl ⟨rfl,Nat.le_add_right _ _⟩ wE (fun b' hb' hlt'=>uy hb' hlt') (fun r hr=>?_) ?_ ?_
 ·obtain ⟨c',t',fz',h2,h3⟩:=hm.rows b r hr
  exact ⟨_,_,_,mG h2,by rw [mH];exact h3⟩
 ·intro c9 t9 fz9 h9;exact ⟨_,_,mG h9⟩
 ·have hget:∀ i,i < (bY l).length→(putCells encStr 0 (bY l).toArray c).getD i undef=encStr ((bY l).getD i []):=fun i hi=>by
   have hc2:i < c.size:=by omega
   simp only [putCells,Array.getD_eq_getD_getElem?,Array.getElem?_mapIdx,Array.getElem?_eq_getElem hc2,Option.map_some,Option.getD_some,Nat.zero_le,true_and,Nat.zero_add,Nat.sub_zero,List.size_toArray,hi,if_true]
   congr 1
   simp [List.getElem?_eq_getElem hi,hi]
  refine ⟨_,t,fz,mG hh,?_,?_,?_,?_,?_⟩
  ·rw [mH,List.length_map,Nat.mul_one,hlen];exact hcs
  ·rw [mH];exact hfz
  ·intro i hi
   rw [hav _ i (by simpa using hi)];rfl
  ·intro j hj
   have hj':j < (bY l).length:=by simpa using hj
   rw [hget j hj'];rfl
  ·intro i j hi hj
   have hi':i < (bY l).length:=by simpa using hi
   obtain rfl:j=0:=by omega
   rw [hav _ i hi',Nat.mul_one,Nat.add_zero,hget i hi']
   exact .str _ _ rfl
theorem oq (p:Oid):ak Tryz.prog 175 [.nilSl] (Oid.under p) ⟨[],.tuple [],[]⟩ :=
 fG (by kernel_rfl) fun g args w ha _=>by
  obtain ⟨v,rfl,hv⟩:=ha.one
  rw [hv.bh]
  refine (Tryz.slices_Sort_string_none none 0 w).mono ?_
  rintro e w' ⟨rfl,rfl⟩
  exact ⟨_,rfl,.tuple _ _ rfl (fun j hj=>absurd hj (Nat.not_lt_zero _)),rfl⟩
theorem kn {l l':List Str} (hp:l.Perm l') (h1:l.Pairwise (· ≤ ·)) (h2:l'.Pairwise (· ≤ ·)):l=l':=by
 exact List.Perm.eq_of_pairwise (le:=(· ≤ ·)) (fun a b _ _ h3 h4=>List.le_antisymm h3 h4) h1 h2 hp
theorem ko (l:List Str):(bY l).Pairwise (· ≤ ·):=by
 have:=List.pairwise_mergeSort (le:=fun (x y:Str)=>decide (x≤y)) (fun a b c h1 h2=>by
  simp only [decide_eq_true_eq] at h1 h2 ⊢;exact List.le_trans h1 h2) (fun a b=>by
  simp only [Bool.or_eq_true,decide_eq_true_eq];exact List.le_total a b) l
 exact this.imp fun h=>by simpa using h
theorem uz {l l':List Str} (hp:l.Perm l') (h:l'.Pairwise (· ≤ ·)):bY l=l':=kn ((e5 l).trans hp) (ko l) h
theorem k8 {l l':List Str} (hp:l.Perm l'):bY l=bY l':=kn ((e5 l).trans (hp.trans (e5 l').symm)) (ko l) (ko l')
end Go.Proofs.YtpficjpdfbiedaaGreatDoor
