/- A part of the proof: the texts FwD, FwE, Ty, S0, Shelf, S1, FwL, Laid, SX, S2, S2b, S6a, S7, S8, S3, S4, S5, S6, S9, S10, S11, S12, S13, S14, FwP, FwM, K0, S16, S17, S23, Del, one behind the other. -/
import Derived.Test.YtmoaidkglldhcaaGreatDoorPHb
import Derived.ProofKit
import Derived.SizedLaws
import Derived.ReadAgain
import Derived.Below
import Derived.Deep.Draws
import Derived.Test.YtmoaidkglldhcaaGreatDoorProg
import Derived.KernelRfl
import Derived.Lib.Builder
import Derived.WalkKit
import Derived.Laws.Externs
import Derived.Laws.BitsLemmas
import Derived.Shelf.Strings.Builder1
import Derived.Shelf.Small.Bits
import Derived.Shelf.Strconv.Itoa0
import Derived.Shelf.Strconv.Itoa1
import Derived.Shelf.LaysM
import Derived.Shelf.Strconv.Itoa2
import Derived.Shelf.Strconv.Itoa3
import Derived.Shelf.Strings.Search1
import Derived.Shelf.Strings.Search2
import Derived.Shelf.Strings.Search3
import Derived.Shelf.Strings.Count
import Derived.Shelf.Strings.Shaped
import Derived.Shelf.Sort.Plain
import Derived.Shelf.Strings.LastIndex
import Derived.Shelf.Strings.Prefix
import Derived.Shelf.Strings.Split
import Derived.Shelf.Strings.SplitShaped
import Derived.Shelf.Unicode.Decode
import Derived.Shelf.Strings.RuneCount
import Derived.Shelf.Unicode.DecodeSlow
import Derived.Shelf.Slices.In.SortNone
import Derived.Ground.SlgfProg
import Derived.Shelf.SlicesE.IndexFunc
import Derived.Shelf.SlicesE.DeleteFunc
import Derived.Lib.LaidTab
import Derived.Deep.DeepHandedRow
import Derived.Test.YtmoaidkglldhcaaGreatDoorRows
import Derived.Test.YtmoaidkglldhcaaGreatDoorCards
import Derived.Test.YtmoaidkglldhcaaGreatDoorTie
import Derived.Lib.AtoiAllCases
import Derived.Shelf.Strconv.AtoiAll
import Derived.Lib.ItoaMem
import Derived.Lib.ItoaLen
import Derived.Lib.AtoiTie
import Derived.Sort.Row
set_option linter.unusedVariables false
set_option linter.unusedSimpArgs false
set_option linter.unusedSectionVars false
namespace Go.Ab
universe u
def both (b:Bool) (A B:Prop):Prop:=(b=true→A)∧(b=false→B)
theorem pH (A B:Prop):both true A B=A:=by simp [both]
theorem ub (A B:Prop):both false A B=B:=by simp [both]
structure LOp where
 dst:Option Nat
 op:Op
 guard:Option (Nat × Bool)
def nL (o:Oper):LOp:=⟨o.dst,o.op,o.guard⟩
def dH:List Oper→List LOp
 | []=>[]
 | o::l=>nL o::dH l
def prs (ρ:Operand→AV):List (Nat × Operand)→List (Nat × AV)
 | []=>[]
 | q::l=>(q.1,ρ q.2)::prs ρ l
theorem Cg (ρ:Operand→AV) (l:List (Nat × Operand)):l.map (fun q=>(q.1,ρ q.2))=prs ρ l:=by
 induction l with
 | nil=>rfl
 | cons q l ih=>simp only [List.map_cons,prs,ih]
def opL (P:Program) (m:Mem) (nid:Oid) (md:Nat→Bool) (ρ:Operand→AV) (dst:Option Nat) (op:Op):OpR :=
 match op with
 | .move x=>b8 (ρ x)
 | .assign x=>b8 (ρ x)
 | .pick c a b=>match ρ c with
  | .bool v=>b8 (if v then ρ a else ρ b)
  | _=>.no
 | .alloc t=>match zer P t with
  | some z=>.eff ⟨[],.ptr (gC P t nid) 0,[(gC P t nid,some (.cells z))]⟩
  | none=>.no
 | .box t x=>if (ρ x).known=true then .eff ⟨[],.ptr (gC P t nid) 0,[(gC P t nid,some (.cells (ρ x).cells))]⟩ else .no
 | .build t ps=>eE (nB P t (prs ρ ps.toList))
 | .buildSlice t n ps=>match nC P (tyk P t) n (prs ρ ps.toList) with
  | some (sz,vs)=>if (match dst with|some d=>md d|none=>false)=true then .eff ⟨[],.sl nid sz n,[(nid,some (.arr sz vs))]⟩ else b8 (.list sz vs)
  | none=>.no
 | .load t a=>iR (shp P t) m (ρ a)
 | .store t a v=>ka (shp P t) m (ρ a) (ρ v)
 | .nilCheck x=>if nt (ρ x)=true then b8 (ρ x) else .no
 | .binOp op t x y _=>eE (Cd P op t (isC y) (ρ x) (ρ y))
 | .unOp op _ x=>eE (unA op (ρ x))
 | .convert s d x=>eE (vA P s d (ρ x))
 | .fieldAddr t x k=>eE (gA (bp P t k) (ρ x))
 | .field t x k=>eE (nw (bp P t k) (ρ x))
 | .indexAddr t x i=>eE (eD (tyk P t) (ρ x) (ρ i))
 | .index t x i=>eE (ny (tyk P t) (ρ x) (ρ i))
 | .extract x i=>eE (jd (ρ x) i)
 | .makeFunc f xs ys=>b8 (.fn f (xs.toList.map ρ) (ys.toList.map ρ))
 | .makeInterface t x=>eE (lA (tyk P t) t (ρ x))
 | .slice t x lo hi none=>eE (eT (tyk P t) (ρ x) (lo.map ρ) (hi.map ρ))
 | .makeMap t none=>match je P t with
  | some (ks,ag)=>.eff ⟨[],.map nid,[(nid,some (.map ks ag [] 0))]⟩
  | none=>.no
 | .lookup t x k ok=>fY P m t (ρ x) (ρ k) ok
 | .mapUpdate t x k v=>cB P m t (ρ x) (ρ k) (ρ v)
 | .insert t x k v=>cB P m t (ρ x) (ρ k) (ρ v)
 | .mapEntry t x k=>fg P m t (ρ x) (ρ k)
 | .entryStore _ x k v=>dF m (ρ x) (ρ k) (ρ v)
 | .range t x=>kh (tyk P t) m nid (ρ x)
 | .entry x=>ki m (ρ x)
 | .call c=>kQ P m nid ρ c
 | _=>.no
theorem uc (P:Program) (m:Mem) (nid:Oid) (md:Nat→Bool) (ρ:Operand→AV) (o:Oper):opF P m nid md ρ o=opL P m nid md ρ o.dst o.op:=by
 unfold opF opL;simp only [Cg];rfl
def pI:List (Nat × Nat)→Nat→Option Nat
 | [],_=>none
 | q::l,j=>if j=q.1 then some q.2 else pI l j
def ma (gl:List (Nat × Nat)) (g:Option (Nat × Bool)) (f:Nat→AV):Option Bool :=
 match g with
 | none=>some true
 | some (j,want)=>match pI gl j with
  | none=>none
  | some d=>match f d with
   | .bool b=>some (b == want)
   | .tuple []=>some false
   | _=>none
def o7 (ops:Array Oper) (gl:List (Nat × Nat)):Bool:=gl.all fun q=>match ops[q.1]? with
 | some o=>o.dst == some q.2
 | none=>false
theorem sB {ops:Array Oper}:∀ {gl:List (Nat × Nat)},o7 ops gl=true→∀ {j d:Nat},pI gl j=some d→(ops[j]?).bind (·.dst)=some d
 | [],_,_,_,h=>by cases h
 | q::l,hg,j,d,h=>by
  simp only [o7,List.all_cons,Bool.and_eq_true] at hg
  simp only [pI] at h
  split at h
  ·rename_i e
   simp only [Option.some.injEq] at h;subst h;subst e
   have:=hg.1
   split at this
   ·rename_i o ho;rw [ho];simpa using this
   ·cases this
  ·exact sB (by simpa [o7] using hg.2) h
theorem sC {ops:Array Oper} {gl:List (Nat × Nat)} (hg:o7 ops gl=true) {o:Oper} {f:Nat→AV} {b:Bool} (h:ma gl o.guard f=some b):hZ ops o f=some b:=by
 unfold ma at h
 unfold hZ
 split at h
 ·rename_i e;rw [e];exact h
 ·rename_i j want e
  rw [e];simp only
  cases hl:pI gl j with
  | none=>rw [hl] at h;cases h
  | some d =>
   rw [hl] at h
   rw [sB hg hl]
   exact h
structure LE where
 need:List Oid
 upd:List Oid
def LE.none:LE:=⟨[],[]⟩
def qL {α β:Type}:List (α × β)→List α
 | []=>[]
 | q::l=>q.1::qL l
theorem ij {α β:Type} {l:List (α × β)} {q:α × β} (h:q ∈ l):q.1 ∈ qL l:=by
 induction l with
 | nil=>cases h
 | cons a l ih =>
  rcases List.mem_cons.1 h with rfl|h
  ·exact List.mem_cons_self
  ·exact List.mem_cons_of_mem _ (ih h)
def kj (e:Eff):LE:=⟨qL e.need,qL e.upd⟩
def sD (lg:Bool) (e:LE) (log:List LE):List LE:=if lg then e::log else log
def ev (P:Program) (md:Nat→Bool) (gl:List (Nat × Nat)) (p:Oid) (c:Nat) (lg:Bool) (C:Nat→List LOp→FuncId→List AV→List (Nat × AV)→Mem→List LE→Prop) (S:Nat→List LOp→List (Nat × AV)→Mem→List LE→Prop)
    (K:List (Nat × AV)→Mem→List LE→Prop):Nat→List LOp→List (Nat × AV)→Mem→List LE→Prop
 | _,[],fr,m,log=>K fr m log
 | i,o::rest,fr,m,log =>
  match ma gl o.guard (F fr) with
  | some b=>both b
    (match opL P m (.sub c i p) md (evA fr) o.dst o.op with
     | .eff e=>ev P md gl p c lg C S K (i+1) rest (put o.dst e.val fr) (m.aJ e.upd) (sD lg (kj e) log)
     | .call f xs=>C i (o::rest) f xs fr m log
     | .no=>S i (o::rest) fr m log)
    (ev P md gl p c lg C S K (i+1) rest (put o.dst (.tuple []) fr) m (sD lg LE.none log))
  | none=>False
section
variable (P:Program) (md:Nat→Bool) (gl:List (Nat × Nat)) (p:Oid) (c:Nat) (lg:Bool) (C:Nat→List LOp→FuncId→List AV→List (Nat × AV)→Mem→List LE→Prop) (S:Nat→List LOp→List (Nat × AV)→Mem→List LE→Prop)
  (K:List (Nat × AV)→Mem→List LE→Prop) (i:Nat) (o:LOp) (rest:List LOp) (fr:List (Nat × AV)) (m:Mem) (log:List LE)
def evR (r:OpR):Prop:=match r with
 | .eff e=>ev P md gl p c lg C S K (i+1) rest (put o.dst e.val fr) (m.aJ e.upd) (sD lg (kj e) log)
 | .call f xs=>C i (o::rest) f xs fr m log
 | .no=>S i (o::rest) fr m log
def evG (b:Option Bool):Prop:=match b with
 | some b=>both b (evR P md gl p c lg C S K i o rest fr m log (opL P m (.sub c i p) md (evA fr) o.dst o.op)) (ev P md gl p c lg C S K (i+1) rest (put o.dst (.tuple []) fr) m (sD lg LE.none log))
 | none=>False
theorem nr {α:Sort u} {a b:α} (h:a=b):a=b:=h
theorem Eo:ev P md gl p c lg C S K i [] fr m log=K fr m log:=nr (by rw [ev])
theorem Ep (dst:Option Nat) (op:Op):ev P md gl p c lg C S K i (⟨dst,op,none⟩::rest) fr m log=evR P md gl p c lg C S K i ⟨dst,op,none⟩ rest fr m log (opL P m (.sub c i p) md (evA fr) dst op):=nr (by
 rw [ev];simp only [ma,pH];rfl)
theorem y4 (dst:Option Nat) (op:Op) (j:Nat) (w:Bool):ev P md gl p c lg C S K i (⟨dst,op,some (j,w)⟩::rest) fr m log=evG P md gl p c lg C S K i ⟨dst,op,some (j,w)⟩ rest fr m log (ma gl (some (j,w)) (F fr)):=nr (by
 rw [ev];rfl)
theorem Ch (e:Eff):evR P md gl p c lg C S K i o rest fr m log (.eff e)=ev P md gl p c lg C S K (i+1) rest (put o.dst e.val fr) (m.aJ e.upd) (sD lg (kj e) log):=nr (by rw [evR])
theorem y5 (f:FuncId) (xs:List AV):evR P md gl p c lg C S K i o rest fr m log (.call f xs)=C i (o::rest) f xs fr m log:=nr (by rw [evR])
theorem Er:evR P md gl p c lg C S K i o rest fr m log .no=S i (o::rest) fr m log:=nr (by rw [evR])
theorem y6:evG P md gl p c lg C S K i o rest fr m log (some true)=evR P md gl p c lg C S K i o rest fr m log (opL P m (.sub c i p) md (evA fr) o.dst o.op):=nr (by rw [evG];simp only [pH])
theorem wW:evG P md gl p c lg C S K i o rest fr m log (some false)=ev P md gl p c lg C S K (i+1) rest (put o.dst (.tuple []) fr) m (sD lg LE.none log):=nr (by rw [evG];simp only [ub])
variable {P md gl p c lg C S K i o rest fr m log}
theorem dw {b:Bool} (h1:b=true→evR P md gl p c lg C S K i o rest fr m log (opL P m (.sub c i p) md (evA fr) o.dst o.op)) (h2:b=false→ev P md gl p c lg C S K (i+1) rest (put o.dst (.tuple []) fr) m (sD lg LE.none log)) :
  evG P md gl p c lg C S K i o rest fr m log (some b):=⟨h1,h2⟩
end
section
variable {P:Program} [Laid P] {md:Nat→Bool} {ops:Array Oper} {p:Oid} {c:Nat} {gl:List (Nat × Nat)}
theorem ik {i:Nat} {o:Oper} {rest:List Oper} (h:ops.toList.drop i=o::rest):ops.toList.drop (i+1)=rest:=by
 have:(ops.toList.drop i).drop 1=rest:=by rw [h];rfl
 rwa [List.drop_drop] at this
def Ci (P:Program) [Laid P] (md:Nat→Bool) (ops:Array Oper) (p:Oid) (c:Nat) (K:List (Nat × AV)→Mem→Prop) (Kp:AV→List (Nat × AV)→Mem→Prop):Nat→List LOp→FuncId→List AV→List (Nat × AV)→Mem→List LE→Prop :=
 fun i L f xs fr m _=>∀ o rest,ops.toList.drop i=o::rest→dH (o::rest)=L→∃ need R Rp,bT P f xs (Oid.under (.sub c i p)) need R Rp∧(∀ q,q ∈ need→m q.1=some q.2)∧(∀ val upd,R val upd→gE P md ops p c (i+1) rest (put o.dst val fr) (m.aJ upd) K Kp)∧∀ pv upd,Rp pv upd→Kp pv fr (m.aJ upd)
def GM (P:Program) [Laid P] (dst:Option Nat) (op:Op) (ρ:Operand→AV) (sp:Oid→Prop) (need:List (Oid × ao)) (R Rp:AV→List (Oid × Option ao)→Prop):Prop :=
 ∀ o:Oper,o.dst=dst→o.op=op→kT P o ρ sp need R Rp
def GN (P:Program) [Laid P] (dst:Option Nat) (op:Op) (ρ:Operand→AV) (sp:Oid→Prop) (e:Eff):Prop:=∀ o:Oper,o.dst=dst→o.op=op→aG P o ρ sp e
def Gf (P:Program) [Laid P] (md:Nat→Bool) (ops:Array Oper) (p:Oid) (c:Nat) (K:List (Nat × AV)→Mem→Prop) (Kp:AV→List (Nat × AV)→Mem→Prop):Nat→List LOp→List (Nat × AV)→Mem→List LE→Prop :=
 fun i L fr m _=>∀ o rest,ops.toList.drop i=o::rest→dH (o::rest)=L→∃ need R Rp,kT P o (evA fr) (Oid.under (.sub c i p)) need R Rp∧(∀ q,q ∈ need→m q.1=some q.2)∧(∀ val upd,R val upd→gE P md ops p c (i+1) rest (put o.dst val fr) (m.aJ upd) K Kp)∧∀ pv upd,Rp pv upd→Kp pv fr (m.aJ upd)
theorem il {K:List (Nat × AV)→Mem→Prop} {Kp:AV→List (Nat × AV)→Mem→Prop} {lg:Bool} (hg:o7 ops gl=true):∀ (rest:List Oper) (i:Nat) (fr:List (Nat × AV)) (m:Mem) (log:List LE),ops.toList.drop i=rest →
  ev P md gl p c lg (Ci P md ops p c K Kp) (Gf P md ops p c K Kp) (fun fr m _=>K fr m) i (dH rest) fr m log→gE P md ops p c i rest fr m K Kp
 | [],_,_,_,_,_,h=>h
 | o::rest,i,fr,m,log,hd,h=>by
  simp only [dH,ev] at h
  simp only [gE]
  cases hw:ma gl (nL o).guard (F fr) with
  | none=>simp only [hw] at h
  | some b =>
   simp only [hw] at h
   rw [sC (o:=o) hg hw]
   cases b with
   | true =>
    have h:=h.1 rfl
    rw [uc]
    simp only [nL] at h
    simp only
    cases ho:opL P m (.sub c i p) md (evA fr) o.dst o.op with
    | eff e=>simp only [ho] at h;exact il hg rest _ _ _ _ (ik hd) h
    | call f xs=>simp only [ho] at h;exact .inr (h o rest hd rfl)
    | no=>simp only [ho] at h;exact h o rest hd rfl
   | false=>exact il hg rest _ _ _ _ (ik hd) (h.2 rfl)
def mb (ops:Array Oper) (i:Nat) (rest:List Oper) (log:List Eff):Prop:=(∀ j,rest[j]? = ops[i+j]?)∧log.length=i∧∀ (k:Nat) o e,ops[k]? = some o→log.reverse[k]? = some e→wT o e
def KT (ops:Array Oper) (K:List (Nat × AV)→Mem→List Eff→Prop) (fr:List (Nat × AV)) (m:Mem) (log:List Eff):Prop:=K fr m log∧∀ (k:Nat) o e,ops[k]? = some o→log.reverse[k]? = some e→wT o e
theorem mb.step {i:Nat} {o:Oper} {rest:List Oper} {log:List Eff} (h:mb ops i (o::rest) log) {e:Eff} (he:wT o e):mb ops (i+1) rest (e::log):=by
 obtain ⟨hl,hn,ht⟩:=h
 have h0:ops[i]? = some o:=by simpa using (hl 0).symm
 refine ⟨fun j=>by have:=hl (j+1);simpa [Nat.add_assoc,Nat.add_comm 1 j] using this,by simp [hn],?_⟩
 intro k o' e' ho' he'
 rw [List.reverse_cons] at he'
 by_cases hk:k < log.reverse.length
 ·rw [List.getElem?_append_left hk] at he';exact ht k o' e' ho' he'
 ·rw [List.getElem?_append_right (by omega)] at he'
  have hk0:k - log.reverse.length=0:=by
   cases hz:k - log.reverse.length with
   | zero=>rfl
   | succ z=>rw [hz] at he';simp at he'
  have hki:k=i:=by rw [List.length_reverse,hn] at hk0 hk;omega
  subst hki
  rw [hk0] at he'
  simp only [List.getElem?_cons_zero,Option.some.injEq] at he'
  rw [h0] at ho';simp only [Option.some.injEq] at ho'
  subst ho';subst he';exact he
theorem mb.drop {i:Nat} {rest:List Oper} {log:List Eff} (h:mb ops i rest log):ops.toList.drop i=rest:=by
 apply List.ext_getElem?
 intro j
 rw [List.getElem?_drop,h.1 j];simp
def vB (P:Program) [Laid P] (ops:Array Oper) (p:Oid) (c:Nat) (K:List (Nat × AV)→Mem→List LE→Prop):Nat→List LOp→FuncId→List AV→List (Nat × AV)→Mem→List LE→Prop :=
 fun i L f xs fr m lg=>∀ o rest log,mb ops i (o::rest) log→log.map kj=lg→dH (o::rest)=L→(fM o.op=false∧gD o.op=false)→∃ e,ah P f xs (Oid.under (.sub c i p)) e∧(∀ q,q ∈ e.need→m q.1=some q.2) ∧
     dP P ops p c (i+1) rest (put o.dst e.val fr) (m.aJ e.upd) (e::log) (KT ops fun fr m log=>K fr m (log.map kj))
def DW (P:Program) [Laid P] (ops:Array Oper) (p:Oid) (c:Nat) (K:List (Nat × AV)→Mem→List LE→Prop):Nat→List LOp→List (Nat × AV)→Mem→List LE→Prop :=
 fun i L fr m lg=>∀ o rest log,mb ops i (o::rest) log→log.map kj=lg→dH (o::rest)=L→∃ e,aG P o (evA fr) (Oid.under (.sub c i p)) e∧(∀ q,q ∈ e.need→m q.1=some q.2) ∧
     dP P ops p c (i+1) rest (put o.dst e.val fr) (m.aJ e.upd) (e::log) (KT ops fun fr m log=>K fr m (log.map kj))
theorem gF {K:List (Nat × AV)→Mem→List LE→Prop} (hg:o7 ops gl=true):∀ (rest:List Oper) (i:Nat) (fr:List (Nat × AV)) (m:Mem) (log:List Eff),mb ops i rest log →
  ev P md gl p c true (vB P ops p c K) (DW P ops p c K) K i (dH rest) fr m (log.map kj)→dP P ops p c i rest fr m log (KT ops fun fr m log=>K fr m (log.map kj))
 | [],_,_,_,_,hL,h=>⟨h,hL.2.2⟩
 | o::rest,i,fr,m,log,hL,h=>by
  simp only [dH,ev] at h
  simp only [dP]
  cases hw:ma gl (nL o).guard (F fr) with
  | none=>simp only [hw] at h
  | some b =>
   simp only [hw] at h
   rw [sC (o:=o) hg hw]
   cases b with
   | true =>
    have h:=h.1 rfl
    simp only [nL] at h
    simp only
    cases ho:opL P m (.sub c i p) md (evA fr) o.dst o.op with
    | eff e =>
     simp only [ho] at h
     rw [← uc] at ho
     obtain ⟨h1,h2⟩:=yS (sp:=Oid.under (.sub c i p)) (Oid.aq _) (fun t=>Oid.rP t _) rfl ho
     exact ⟨e,h1,h2,gF hg rest _ _ _ (e::log) (hL.step ⟨fun hi=>yU hi ho,fun hi=>yV hi ho⟩) h⟩
    | call f xs =>
     simp only [ho] at h
     rw [← uc] at ho
     have i1:fM o.op=false:=by
      cases hi:fM o.op with
      | false=>rfl
      | true=>exact (oZ hi ho).elim
     have i2:gD o.op=false:=by
      cases hi:gD o.op with
      | false=>rfl
      | true=>exact (o5 hi ho).elim
     obtain ⟨e,h1,h2,h3⟩:=h o rest log hL rfl rfl ⟨i1,i2⟩
     exact ⟨e,sn ho h1,h2,h3⟩
    | no =>
     simp only [ho] at h
     exact h o rest log hL rfl rfl
   | false=>exact gF hg rest _ _ _ (Eff.none::log) (hL.step ⟨fun _=>⟨rfl,rfl⟩,fun _=>rfl⟩) (h.2 rfl)
def vC (a b:LE):Prop:=(∀ i,i ∈ a.upd→∀ j,j ∈ b.need→i≠j)∧(∀ i,i ∈ a.upd→∀ j,j ∈ b.upd→i≠j)∧(∀ i,i ∈ a.need→∀ j,j ∈ b.upd→i≠j)
def sE (E:List LE):List (Nat × Nat)→Prop
 | []=>True
 | (i,j)::r=>vC (E.getD i LE.none) (E.getD j LE.none)∧sE E r
theorem sF {a b:LE} (ha:a.upd=[]) (hb:b.upd=[]):vC a b:=by
 unfold vC;rw [ha,hb]
 refine ⟨?_,?_,?_⟩<;>intro i h j k<;>first|(cases h;done)|(cases k;done)
theorem aT {E:List LE} (h:(E.all fun e=>e.upd.isEmpty)=true):∀ {U:List (Nat × Nat)},sE E U
 | []=>trivial
 | (i,j)::r=>by
  have hget:∀ k,(E.getD k LE.none).upd=[]:=fun k=>by
   rw [List.getD_eq_getElem?_getD]
   cases hk:E[k]? with
   | none=>rfl
   | some e =>
    rw [List.all_eq_true] at h
    exact List.isEmpty_iff.1 (h e (List.mem_of_getElem? hk))
  exact ⟨sF (hget i) (hget j),aT h⟩
theorem pJ {E:List Eff}:∀ {U:List (Nat × Nat)},sE (E.map kj) U→yW E U
 | [],_=>trivial
 | (i,j)::r,h=>by
  have hget:∀ k,(E.map kj).getD k LE.none=kj (E.getD k Eff.none):=fun k=>by
   simp only [List.getD_eq_getElem?_getD,List.getElem?_map]
   cases E[k]? <;> rfl
  simp only [sE,hget] at h
  obtain ⟨⟨h1,h2,h3⟩,h4⟩:=h
  exact ⟨⟨fun q hq q' hq'=>h1 _ (ij hq) _ (ij hq'),fun q hq q' hq'=>h2 _ (ij hq) _ (ij hq'),fun q hq q' hq'=>h3 _ (ij hq) _ (ij hq')⟩,pJ h4⟩
end
end Go.Ab
namespace Go.Ab
inductive Pc where
 | code (c:Code)
 | bend (id:Nat)
 | lend (ts:List Nat) (I:Nat→AS→Prop) (k:Nat)
def after (P:Program) (x:Ctx) (n:Nat) (Q:AX→AS→Prop):List Pc→AX→AS→Prop
 | [],e,s=>Q e s
 | k::ks,e,s=>match k,e with
  | .code c,.normal=>T P x n c s (after P x n Q ks)
  | .lend ts I k,.normal=>∃ k' m',k' < k∧(∀ i o,m' i=some o→s.mem i=some o)∧I k' ⟨cJ ts s.fr,m',s.c,s.ds⟩
  | .bend j,.exit i=>if i=j then after P x n Q ks .normal s else after P x n Q ks (.exit i) s
  | _,e=>after P x n Q ks e s
section
variable {P:Program} [Laid P] {x:Ctx} {n:Nat} {Q:AX→AS→Prop} {ks:List Pc} {s:AS} {fr:List (Nat × AV)} {m:Mem} {c:Nat} {ds:List AD}
theorem nO {a:Code} (h:T P x n a s (after P x n Q ks)):after P x n Q (.code a::ks) .normal s:=h
theorem cK {e:AX} (h:Q e s):after P x n Q [] e s:=h
theorem Es {i:Nat} (h:after P x n Q ks .normal s):after P x n Q (.bend i::ks) (.exit i) s:=by simp only [after,if_true];exact h
theorem GO {i j:Nat} (hj:(Nat.beq i j)=false) (h:after P x n Q ks (.exit i) s):after P x n Q (.bend j::ks) (.exit i) s:=by
 have:¬ i=j:=fun e=>by subst e;simp at hj
 simp only [after,if_neg this];exact h
theorem jE:∀ {ks:List Pc},Q .ret s→after P x n Q ks .ret s
 | [],h=>h
 | .code _::ks,h=>jE (ks:=ks) h
 | .bend _::ks,h=>jE (ks:=ks) h
 | .lend .. :: ks,h=>jE (ks:=ks) h
theorem fF {v:AV}:∀ {ks:List Pc},Q (.panic v) s→after P x n Q ks (.panic v) s
 | [],h=>h
 | .code _::ks,h=>fF (ks:=ks) h
 | .bend _::ks,h=>fF (ks:=ks) h
 | .lend .. :: ks,h=>fF (ks:=ks) h
theorem nP {a b:Code} (h:T P x n a s (after P x n Q (.code b::ks))):T P x n (.seq a b) s (after P x n Q ks) :=
 Gb (j6 h fun e s h=>by cases e<;>exact h)
theorem Et (h:after P x n Q ks .normal s):T P x n .skip s (after P x n Q ks):=Ef h
theorem ay (h:Q .ret s):T P x n .ret s (after P x n Q ks):=F9 (jE h)
theorem Eu {i:Nat} (h:after P x n Q ks (.exit i) s):T P x n (.exit i) s (after P x n Q ks):=Eg h
theorem gM {id:Nat} {a:Code} (h:T P x n a s (after P x n Q (.bend id::ks))):T P x n (.block id a) s (after P x n Q ks) :=
 BW (j6 h fun e s h=>by cases e<;>first|exact h|(simp only [after] at h;simp only [AX.inBlock];split<;>simp_all))
theorem bK (ts:List Nat) {a:Code} (I:Nat→AS→Prop) (k:Nat) (h0:I k ⟨cJ ts fr,m,c,ds⟩)
  (round:∀ k s,I k s→T P x n a s (after P x n Q (.lend ts I k::ks))):T P x n (.loop a) ⟨fr,m,c,ds⟩ (after P x n Q ks):=by
 refine Ei (fun k s=>∃ m',(∀ i o,m' i=some o→s.mem i=some o)∧I k ⟨cJ ts s.fr,m',s.c,s.ds⟩) k ⟨m,fun _ _ h=>h,h0⟩ ?_
 rintro k ⟨fr',m1,c',ds'⟩ ⟨m',hm,hi⟩
 refine kF (s:=⟨fr',m1,c',ds'⟩) (cJ ts fr') (fun t _=>mN ts fr' t) ?_
 refine qy (s:=⟨cJ ts fr',m1,c',ds'⟩) m' hm ?_
 refine j6 (round k _ hi) fun e s h=>?_
 cases e with
 | normal=>obtain ⟨k',m',h1,h2,h3⟩:=h;exact ⟨k',h1,m',h2,h3⟩
 | _=>exact h
theorem lE {t:Nat} {a b:Code} {v:Bool} (ht:(decide (t < n))=true) (hv:F fr t = .bool v) (h1:v=true→T P x n a ⟨fr,m,c,ds⟩ (after P x n Q ks)) (h2:v=false→T P x n b ⟨fr,m,c,ds⟩ (after P x n Q ks)) :
  T P x n (.cond (.tmp t) a b) ⟨fr,m,c,ds⟩ (after P x n Q ks):=Gd ht hv h1 h2
theorem aS {t:Nat} {a b:Code} {p:Prop} {i:Decidable p} (ht:(decide (t < n))=true) (hv:F fr t = .bool (decide p)) (h1:p→T P x n a ⟨fr,m,c,ds⟩ (after P x n Q ks)) (h2:¬ p→T P x n b ⟨fr,m,c,ds⟩ (after P x n Q ks)) :
  T P x n (.cond (.tmp t) a b) ⟨fr,m,c,ds⟩ (after P x n Q ks):=Gd ht hv (fun h=>h1 (of_decide_eq_true h)) (fun h=>h2 (of_decide_eq_false h))
theorem aA {t:Nat} {a b:Code} (ht:(decide (t < n))=true) (hv:F fr t = .bool true) (h1:T P x n a ⟨fr,m,c,ds⟩ (after P x n Q ks)):T P x n (.cond (.tmp t) a b) ⟨fr,m,c,ds⟩ (after P x n Q ks):=lE ht hv (fun _=>h1) (fun h=>by cases h)
theorem az {t:Nat} {a b:Code} (ht:(decide (t < n))=true) (hv:F fr t = .bool false) (h1:T P x n b ⟨fr,m,c,ds⟩ (after P x n Q ks)):T P x n (.cond (.tmp t) a b) ⟨fr,m,c,ds⟩ (after P x n Q ks):=lE ht hv (fun h=>by cases h) (fun _=>h1)
def Cut (P:Program) (x:Ctx) (n:Nat) (Q:AX→AS→Prop) (ks:List Pc) (ts:List Nat) (R:AS→Prop):AX→AS→Prop
 | .normal,s=>∃ m',(∀ i o,m' i=some o→s.mem i=some o)∧R ⟨cJ ts s.fr,m',s.c,s.ds⟩
 | e,s=>after P x n Q ks e s
theorem cL {a b:Code} (ts:List Nat) (R:AS→Prop) (h:T P x n a s (after P x n (Cut P x n Q ks ts R) [])) (h2:∀ s,R s→T P x n b s (after P x n Q ks)):T P x n a s (after P x n Q (.code b::ks)) :=
 j6 h fun e s h=>by
  cases e with
  | normal =>
   obtain ⟨m',h1,h3⟩:=h
   obtain ⟨fr',m1,c',ds'⟩:=s
   refine kF (s:=⟨fr',m1,c',ds'⟩) (cJ ts fr') (fun t _=>mN ts fr' t) ?_
   exact qy (s:=⟨cJ ts fr',m1,c',ds'⟩) m' h1 (h2 _ h3)
  | _=>exact h
theorem aQ {ts:List Nat} {R:AS→Prop} (h:R ⟨cJ ts fr,m,c,ds⟩):after P x n (Cut P x n Q ks ts R) [] .normal ⟨fr,m,c,ds⟩:=⟨m,fun _ _ h=>h,h⟩
theorem GP {a:Code} (fr':List (Nat × AV)) (hk:fr'.all (fun q=>decide (q.1 < n))=true) (hv:∀ q,q ∈ fr'→q.2=F fr q.1) (h:T P x n a ⟨fr',m,c,ds⟩ Q):T P x n a ⟨fr,m,c,ds⟩ Q:=by
 refine kF (s:=⟨fr,m,c,ds⟩) fr' (fun t _=>?_) h
 clear hk h
 induction fr' with
 | nil=>exact .inl rfl
 | cons q l ih =>
  simp only [F]
  split
  ·rename_i h;right;rw [hv q List.mem_cons_self,h]
  ·exact ih fun q' hq'=>hv q' (List.mem_cons_of_mem _ hq')
theorem eK {a:Code} (t sz:Nat) (ht:F fr t = .nilSl) (h:T P x n a ⟨(t,.list sz [])::fr,m,c,ds⟩ Q):T P x n a ⟨fr,m,c,ds⟩ Q:=by
 refine jz (s:=⟨fr,m,c,ds⟩) (s':=⟨(t,.list sz [])::fr,m,c,ds⟩) (fun g b w hr=>⟨g,hr.mr,hr.tm,hr.df,fun u hu=>?_,hr.young⟩) h
 simp only [F]
 split
 ·rename_i e;subst e
  have:=hr.fr u hu
  simp only [ht] at this
  rw [this.bS];exact .listNil _
 ·exact hr.fr u hu
theorem ko {a:Code} (t sz:Nat) (ht:F fr t = .nilSl) (h:T P x n a ⟨(t,.sl (.sub c 0 x.p) sz 0)::fr,m.set (.sub c 0 x.p) (some (.arr sz [])),c+1,ds⟩ Q):T P x n a ⟨fr,m,c,ds⟩ Q:=by
 refine jz (s:=⟨fr,m,c,ds⟩) _ (fun g b w hr=>?_) h
 have hl:g.loc (.sub c 0 x.p)=none:=hr.young _ ⟨c,0,Nat.le_refl _,Oid.aq _⟩
 have hle:=Gh.kc hl
 refine ⟨g.cR (.sub c 0 x.p),hr.mr.vx sz hl (Oid.ae (Oid.aq _)),hr.tm,hr.df.mono hle,fun u hu=>?_,fun i hi=>?_⟩
 ·simp only [F]
  split
  ·rename_i e;subst e
   have:=hr.fr u hu
   simp only [ht] at this
   rw [this.bS]
   exact .slNil _ _ (by simp [Gh.cR])
  ·exact (hr.fr u hu).mono hle
 ·simp only [Gh.cR]
  split
  ·rename_i e;subst e
   obtain ⟨c',i',h1,h2⟩:=hi
   have:=(Oid.apart (Oid.aq _) h2).1
   simp only at h1
   omega
  ·exact hr.young i (hi.mono (Nat.le_succ _))
def o8 (i:Oid) (sz:Nat) (xs:List AV):AV→AV
 | .sl j s n=>if j=i∧s=sz∧n=xs.length then .list sz xs else .sl j s n
 | v=>v
def frz (i:Oid) (sz:Nat) (xs:List AV):List (Nat × AV)→List (Nat × AV)
 | []=>[]
 | q::l=>(q.1,o8 i sz xs q.2)::frz i sz xs l
theorem vD (i:Oid) (sz:Nat) (xs:List AV) (t:Nat):∀ fr,F (frz i sz xs fr) t=o8 i sz xs (F fr t)
 | []=>rfl
 | q::l=>by
  simp only [frz,F]
  split
  ·rfl
  ·exact vD i sz xs t l
theorem gG {a:Code} (i:Oid) (sz:Nat) (xs:List AV) (hi:m i=some (.arr sz xs)) (h:T P x n a ⟨frz i sz xs fr,m.set i none,c,ds⟩ Q):T P x n a ⟨fr,m,c,ds⟩ Q:=by
 refine yT (s:=⟨fr,m,c,ds⟩) i (frz i sz xs fr) hi (fun t _=>?_) h
 rw [vD]
 generalize F fr t=v
 unfold o8
 split
 ·split
  ·rename_i h;obtain ⟨rfl,rfl,rfl⟩:=h;exact .inr (.inr ⟨rfl,rfl⟩)
  ·exact .inr (.inl rfl)
 ·exact .inr (.inl rfl)
theorem kp {a:Code} (m':Mem) (hm:∀ i o,m' i=some o→m i=some o) (h:T P x n a ⟨fr,m',c,ds⟩ Q):T P x n a ⟨fr,m,c,ds⟩ Q:=qy (s:=⟨fr,m,c,ds⟩) m' hm h
theorem ar {id:Nat} {ops:Array Oper} (md:Nat→Bool) (gl:List (Nat × Nat)) (hng:Fit P x) (hok:(DV n P.globals.size ops && o7 ops gl)=true)
  (h:rR x.p c m→∀ C S (K:List (Nat × AV)→Mem→List LE→Prop),
   (∀ {i o rest f xs fr m log} e,ah P f xs (Oid.under (.sub c i x.p)) e→(∀ q,q ∈ e.need→m q.1=some q.2)→ev P md gl x.p c false C S K (i+1) rest (put o.dst e.val fr) (m.aJ e.upd) log→C i (o::rest) f xs fr m log) →
   (∀ {i o rest f xs fr m log} need R Rp,bT P f xs (Oid.under (.sub c i x.p)) need R Rp→(∀ q,q ∈ need→m q.1=some q.2)→(∀ val upd,R val upd→ev P md gl x.p c false C S K (i+1) rest (put o.dst val fr) (m.aJ upd) log) →
    (∀ pv upd,Rp pv upd→Q (.panic pv) ⟨fr,m.aJ upd,c+1,ds⟩)→C i (o::rest) f xs fr m log) →
   (∀ {i o rest fr m log} need R Rp,GM P o.dst o.op (evA fr) (Oid.under (.sub c i x.p)) need R Rp→(∀ q,q ∈ need→m q.1=some q.2)→(∀ val upd,R val upd→ev P md gl x.p c false C S K (i+1) rest (put o.dst val fr) (m.aJ upd) log) →
    (∀ pv upd,Rp pv upd→Q (.panic pv) ⟨fr,m.aJ upd,c+1,ds⟩)→S i (o::rest) fr m log) →
   (∀ {fr m log},after P x n Q ks .normal ⟨fr,m,c+1,ds⟩→K fr m log) →
   ev P md gl x.p c false C S K 0 (dH ops.toList) fr m []):T P x n (.region id ops false) ⟨fr,m,c,ds⟩ (after P x n Q ks):=by
 simp only [Bool.and_eq_true] at hok
 obtain ⟨hok,hgl⟩:=hok
 refine sv md hng hok fun hf=>?_
 let K0:List (Nat × AV)→Mem→Prop:=fun fr m=>after P x n Q ks .normal ⟨fr,m,c+1,ds⟩
 let Kp:AV→List (Nat × AV)→Mem→Prop:=fun pv fr m=>after P x n Q ks (.panic pv) ⟨fr,m,c+1,ds⟩
 refine il (md:=md) (lg:=false) (K:=K0) (Kp:=Kp) hgl _ _ _ _ [] (by simp) ?_
 refine h hf _ _ _ ?_ ?_ ?_ ?_
 ·intro i o rest f xs fr m log e h1 h2 h3 o' rest' hd hl
  simp only [dH,List.cons.injEq] at hl
  obtain ⟨rfl,rfl⟩:=hl
  exact ⟨_,_,_,h1.nd,h2,fun val upd ⟨hv,hu⟩=>by subst hv;subst hu;exact il hgl _ _ _ _ log (ik hd) h3,fun _ _ h=>h.elim⟩
 ·intro i o rest f xs fr m log need R Rp h1 h2 h3 h4 o' rest' hd hl
  simp only [dH,List.cons.injEq] at hl
  obtain ⟨rfl,rfl⟩:=hl
  exact ⟨need,R,Rp,h1,h2,fun val upd hr=>il hgl _ _ _ _ log (ik hd) (h3 val upd hr),fun pv upd hr=>fF (h4 pv upd hr)⟩
 ·intro i o rest fr m log need R Rp h1 h2 h3 h4 o' rest' hd hl
  simp only [dH,List.cons.injEq] at hl
  obtain ⟨rfl,rfl⟩:=hl
  exact ⟨need,R,Rp,h1 o' rfl rfl,h2,fun val upd hr=>il hgl _ _ _ _ log (ik hd) (h3 val upd hr),fun pv upd hr=>fF (h4 pv upd hr)⟩
 ·intro fr m log h
  exact h
theorem cV {id:Nat} {ops:Array Oper} (md:Nat→Bool) (gl:List (Nat × Nat)) (U:List (Nat × Nat)) (hmx:P.follows .mixedOrders=true) (hng:Fit P x) (hok:(yY n P.globals.size ops U && o7 ops gl)=true) (ts:List Nat)
  (h:rR x.p c m→∀ C S (K:List (Nat × AV)→Mem→List LE→Prop),
   (∀ {i o rest f xs fr m log} e,ah P f xs (Oid.under (.sub c i x.p)) e→(∀ q,q ∈ e.need→m q.1=some q.2)→ev P md gl x.p c true C S (fun fr m log=>K (cJ ts fr) m log) (i+1) rest (put o.dst e.val fr) (m.aJ e.upd) (kj e::log)→C i (o::rest) f xs fr m log) →
   (∀ {i o rest fr m log} e,GN P o.dst o.op (evA fr) (Oid.under (.sub c i x.p)) e→fM o.op=false→gD o.op=false→(∀ q,q ∈ e.need→m q.1=some q.2)→ev P md gl x.p c true C S (fun fr m log=>K (cJ ts fr) m log) (i+1) rest (put o.dst e.val fr) (m.aJ e.upd) (kj e::log)→S i (o::rest) fr m log) →
   (∀ {fr m log},sE log.reverse U→after P x n Q ks .normal ⟨fr,m,c+1,ds⟩→K fr m log) →
   ev P md gl x.p c true C S (fun fr m log=>K (cJ ts fr) m log) 0 (dH ops.toList) fr m []):T P x n (.region id ops true) ⟨fr,m,c,ds⟩ (after P x n Q ks):=by
 simp only [Bool.and_eq_true] at hok
 obtain ⟨hok,hgl⟩:=hok
 simp only [yY,Bool.and_eq_true] at hok
 obtain ⟨⟨k1,k2⟩,k3⟩:=hok
 have key:=oV (P:=P) (x:=x) (n:=n) (s:=⟨fr,m,c,ds⟩) (Q:=fun e s=>e = .normal∧after P x n Q ks .normal ⟨cJ ts s.fr,s.mem,s.c,s.ds⟩) (id:=id) hmx hng k1 k2 fun hf=>by
  have h1:=gF (P:=P) (md:=md) (ops:=ops) (p:=x.p) (c:=c) (K:=fun fr m log=>sE log.reverse U∧after P x n Q ks .normal ⟨cJ ts fr,m,c+1,ds⟩) hgl ops.toList 0 fr m [] ⟨fun j=>by simp,rfl,fun k o e _ he=>by simp at he⟩
   (h hf (vB P ops x.p c _) (DW P ops x.p c _) (fun fr m log=>sE log.reverse U∧after P x n Q ks .normal ⟨fr,m,c+1,ds⟩)
    (fun {i o rest f xs fr m log} e h1 h2 h3=>fun o' rest' log' hL hlg hl hi=>by
     simp only [dH,List.cons.injEq] at hl
     obtain ⟨rfl,rfl⟩:=hl
     subst hlg
     exact ⟨e,h1,h2,gF hgl _ _ _ _ (e::log') (hL.step (show wT o' e from ⟨fun h=>absurd h (by simp [hi.1]),fun h=>absurd h (by simp [hi.2])⟩)) h3⟩)
    (fun {i o rest fr m log} e h1 i1 i2 h2 h3=>fun o' rest' log' hL hlg hl=>by
     simp only [dH,List.cons.injEq] at hl
     obtain ⟨rfl,rfl⟩:=hl
     subst hlg
     simp only [nL] at i1 i2
     exact ⟨e,h1 o' rfl rfl,h2,gF hgl _ _ _ _ (e::log') (hL.step (show wT o' e from ⟨fun h=>absurd h (by simp [i1]),fun h=>absurd h (by simp [i2])⟩)) h3⟩)
    (fun {fr m log} h1 h2=>⟨h1,h2⟩))
  refine gV (N:=ops.size) ?_ _ _ _ _ _ (by simp) h1
  rintro fr1 m1 log hlen ⟨⟨hd,hq⟩,ht⟩
  refine ⟨wU k3 (by simpa using hlen) ht (pJ (by rw [List.map_reverse];exact hd)),fun fr' hF=>⟨rfl,?_⟩⟩
  have:cJ ts fr' = cJ ts fr1:=by simp only [wS,hF]
  rw [this];exact hq
 intro g a w hr
 refine wpIn_mono (key g a w hr) fun e a' w' ⟨g',ex,s',h1,h2,h4,h5⟩=>?_
 subst h4
 exact ⟨g',.normal,⟨cJ ts s'.fr,s'.mem,s'.c,s'.ds⟩,h1.forget _ (fun t _=>mN ts s'.fr t),h2,h5⟩
end
theorem gH {P:Program} [Laid P] {f:FuncId} {fn:Func} {n:Nat} {rs:List ResultVar} {c:Code} {xs:List AV} {p:Oid} {need:List (Oid × ao)} {R Rp:AV→List (Oid × Option ao)→Prop} (hf:P.funcs[f]? = some fn) (hn:fn.ntmps=n) (hr:fn.results.toList=rs)
  (hnm:(fn.name != "runtime.NumGoroutine")=true) (hl:(Nat.ble xs.length n)=true) (hok:fO n rs=true) (hb:fn.body=some c)
  (hT:∀ x:Ctx,x.p=p→x.rd=none→Fit P x→T P x n c ⟨cU 0 xs,Mem.of need,0,[]⟩ (after P x n (dG P rs need R Rp) [])):bT P f xs (Oid.under p) need R Rp :=
 wV hf hn hr hnm hl hok hb fun x h1 h2 h3=>j6 (hT x h1 h2 h3) fun _ _ h=>h
theorem aD {P:Program} [Laid P] {f:FuncId} {fn:Func} {n:Nat} {rs:List ResultVar} {c:Code} {xs:List AV} {p:Oid} {e:Eff} (hf:P.funcs[f]? = some fn) (hn:fn.ntmps=n) (hr:fn.results.toList=rs)
  (hnm:(fn.name != "runtime.NumGoroutine")=true) (hl:(Nat.ble xs.length n)=true) (hok:fO n rs=true) (hb:fn.body=some c)
  (hT:∀ x:Ctx,x.p=p→x.rd=none→Fit P x→T P x n c ⟨cU 0 xs,Mem.of e.need,0,[]⟩ (after P x n (dG P rs e.need (fun v u=>v=e.val∧u=e.upd) fun _ _=>False) [])):ah P f xs (Oid.under p) e :=
 (gH hf hn hr hnm hl hok hb hT).ok
theorem bw {P:Program} {rs:List ResultVar} {need:List (Oid × ao)} {R Rp:AV→List (Oid × Option ao)→Prop} {fr:List (Nat × AV)} {m:Mem} {c:Nat} (val:AV) (upd:List (Oid × Option ao)) (h1:fh P m fr rs=some val) (h2:R val upd)
  (h3:∀ i o,((Mem.of need).aJ upd) i=some o→m i=some o):dG P rs need R Rp .ret ⟨fr,m,c,[]⟩:=⟨val,upd,h1,h2,h3⟩
theorem eL {P:Program} {rs:List ResultVar} {need:List (Oid × ao)} {R Rp:AV→List (Oid × Option ao)→Prop} {fr:List (Nat × AV)} {m:Mem} {c:Nat} (val:AV) (upd:List (Oid × Option ao)) (h1:fh P m fr rs=some val) (h2:R val upd)
  (h3:∀ i o,((Mem.of need).aJ upd) i=some o→m i=some o):dG P rs need R Rp .normal ⟨fr,m,c,[]⟩:=⟨val,upd,h1,h2,h3⟩
theorem dI {P:Program} {rs:List ResultVar} {val:AV} {fr:List (Nat × AV)} {m:Mem} {c:Nat} (h1:fh P m fr rs=some val):dG P rs [] (fun v u=>v=val∧u=[]) (fun _ _=>False) .ret ⟨fr,m,c,[]⟩ :=
 bw val [] h1 ⟨rfl,rfl⟩ fun i o h=>by cases h
theorem bt {P:Program} {t:Nat} {val:AV} {fr:List (Nat × AV)} {m:Mem} {c:Nat} (h1:F fr t=val):dG P [.tmp t] [] (fun v u=>v=val∧u=[]) (fun _ _=>False) .ret ⟨fr,m,c,[]⟩ :=
 dI (by simp only [fh,o6,h1,yZ])
theorem Ev {P:Program} [Laid P] {x:Ctx} {n:Nat} {ks:List Pc} {t sz k c:Nat} {id:Oid} {xs ys:List AV} {fr:List (Nat × AV)} {m:Mem} (hv:F fr t = .sl id sz k) (hi:m id=some (.arr sz xs)) (hk:k=xs.length) (hx:xs=ys) :
  T P x n .ret ⟨fr,m,c,[]⟩ (after P x n (dG P [.tmp t] [] (fun v u=>v = .list sz ys∧u=[]) (fun _ _=>False)) ks):=by
 subst hx
 refine gG id sz xs hi (ay (bt ?_))
 rw [vD,hv,o8,if_pos ⟨rfl,rfl,hk⟩]
end Go.Ab
namespace Go.Ab
def gd (p:Prop) [Decidable p] (v:Option AV):Option AV:=if p then v else none
theorem Ew {p:Prop} [Decidable p] {v:Option AV} (h:p):gd p v=v:=if_pos h
def gdR (p:Prop) [Decidable p] (v:OpR):OpR:=if p then v else .no
theorem Cj {p:Prop} [Decidable p] {v:OpR} (h:p):gdR p v=v:=if_pos h
theorem ud (s:List UInt8) (k:IntKind) (n:Int):ny (some .str) (.str s) (.int k n)=gd (0≤n∧n < s.length) (some (.int .u8 (s.getD n.toNat 0).toNat)):=rfl
theorem mD (el:TypeId) (ag:Bool) (sz by' sz':Nat) (xs:List AV) (k:IntKind) (n:Int):eD (some (.slice el ag sz by')) (.list sz' xs) (.int k n)=gd (sz' = sz∧0≤n∧n < xs.length) (some (.eptr (xs.getD n.toNat .undef))):=rfl
theorem o9 (el:TypeId) (ag:Bool) (sz by' sz' len:Nat) (id:Oid) (k:IntKind) (n:Int):eD (some (.slice el ag sz by')) (.sl id sz' len) (.int k n)=gd (sz' = sz∧0≤n∧n < len) (some (.aptr id sz n.toNat 0)):=rfl
theorem nQ (el:TypeId) (ag:Bool) (sz len off:Nat) (id:Oid) (k:IntKind) (n:Int):eD (some (.arr len el ag sz)) (.ptr id off) (.int k n)=gd (0≤n∧n < len) (some (.ptr id (off+n.toNat * sz))):=rfl
theorem sG (s:List UInt8) (k:IntKind) (l:Int):eT (some .str) (.str s) (some (.int k l)) none=gd (0≤l∧l≤s.length) (some (.str (s.drop l.toNat))):=by
 simp only [eT,dU,gd]
 by_cases h:0≤l∧l≤s.length
 ·rw [if_pos h,if_pos ⟨h.1,h.2,Int.le_refl _⟩];simp
 ·rw [if_neg h,if_neg (fun h'=>h ⟨h'.1,h'.2.1⟩)]
theorem sH (s:List UInt8) (k:IntKind) (h:Int):eT (some .str) (.str s) none (some (.int k h))=gd (0≤h∧h≤s.length) (some (.str (s.take h.toNat))):=by
 simp only [eT,dU,gd]
 by_cases hc:0≤h∧h≤s.length
 ·rw [if_pos hc,if_pos ⟨Int.le_refl _,hc.1,hc.2⟩];simp
 ·rw [if_neg hc,if_neg (fun h'=>hc ⟨h'.2.1,h'.2.2⟩)]
theorem sI (s:List UInt8) (k k':IntKind) (l h:Int):eT (some .str) (.str s) (some (.int k l)) (some (.int k' h))=gd (0≤l∧l≤h∧h≤s.length) (some (.str ((s.take h.toNat).drop l.toNat))):=rfl
theorem qO (el:TypeId) (ag:Bool) (sz by' sz':Nat) (xs:List AV) (k:IntKind) (l:Int):eT (some (.slice el ag sz by')) (.list sz' xs) (some (.int k l)) none=gd (sz' = sz∧0≤l∧l≤xs.length) (some (.list sz (xs.drop l.toNat))):=by
 simp only [eT,dU,gd]
 by_cases h:sz' = sz∧0≤l∧l≤xs.length
 ·rw [if_pos h,if_pos ⟨h.1,h.2.1,h.2.2,Int.le_refl _⟩];simp
 ·rw [if_neg h,if_neg (fun h'=>h ⟨h'.1,h'.2.1,h'.2.2.1⟩)]
theorem qP (el:TypeId) (ag:Bool) (sz by' sz':Nat) (xs:List AV) (k:IntKind) (h:Int):eT (some (.slice el ag sz by')) (.list sz' xs) none (some (.int k h))=gd (sz' = sz∧0≤h∧h≤xs.length) (some (.list sz (xs.take h.toNat))):=by
 simp only [eT,dU,gd]
 by_cases hc:sz' = sz∧0≤h∧h≤xs.length
 ·rw [if_pos hc,if_pos ⟨hc.1,Int.le_refl _,hc.2.1,hc.2.2⟩];simp
 ·rw [if_neg hc,if_neg (fun h'=>hc ⟨h'.1,h'.2.2.1,h'.2.2.2⟩)]
theorem qQ (el:TypeId) (ag:Bool) (sz by' sz':Nat) (xs:List AV) (k k':IntKind) (l h:Int):eT (some (.slice el ag sz by')) (.list sz' xs) (some (.int k l)) (some (.int k' h))=gd (sz' = sz∧0≤l∧l≤h∧h≤xs.length) (some (.list sz ((xs.take h.toNat).drop l.toNat))):=rfl
theorem y7 (k:IntKind) (a b:Int):gJ .add k a b=some (.int k (k.wrap (a+b))):=rfl
theorem y8 (k:IntKind) (a b:Int):gJ .sub k a b=some (.int k (k.wrap (a - b))):=rfl
theorem y9 (k:IntKind) (a b:Int):gJ .mul k a b=some (.int k (k.wrap (a * b))):=rfl
theorem za (k:IntKind) (a b:Int):gJ .quo k a b=gd (b≠0) (some (.int k (k.wrap (a.tdiv b)))):=rfl
theorem zb (k:IntKind) (a b:Int):gJ .rem k a b=gd (b≠0) (some (.int k (a.tmod b))):=rfl
theorem zc (k:IntKind) (a b:Int):gJ .and k a b=some (.int k (k.wrap (BitVec.ofInt k.bits a &&& BitVec.ofInt k.bits b).toNat)):=rfl
theorem Ck (k:IntKind) (a b:Int):gJ .or k a b=some (.int k (k.wrap (BitVec.ofInt k.bits a ||| BitVec.ofInt k.bits b).toNat)):=rfl
theorem zd (k:IntKind) (a b:Int):gJ .xor k a b=some (.int k (k.wrap (BitVec.ofInt k.bits a ^^^ BitVec.ofInt k.bits b).toNat)):=rfl
theorem sJ (k:IntKind) (a b:Int):gJ .andNot k a b=some (.int k (k.wrap (BitVec.ofInt k.bits a &&& ~~~ BitVec.ofInt k.bits b).toNat)):=rfl
theorem mP {α:Type} [BEq α] [LawfulBEq α] [DecidableEq α] (a b:α):(a == b)=decide (a=b):=by
 rw [Bool.eq_iff_iff];simp
theorem vE {α:Type} [BEq α] [LawfulBEq α] [DecidableEq α] (a b:α):(a != b)=decide (a≠b):=by
 rw [Bool.eq_iff_iff];simp
theorem zf (k:IntKind) (a b:Int):gJ .eql k a b=some (.bool (decide (a=b))):=by
 simp only [gJ,mP]
theorem zg (k:IntKind) (a b:Int):gJ .neq k a b=some (.bool (decide (a≠b))):=by
 simp only [gJ,vE]
theorem zh (k:IntKind) (a b:Int):gJ .lss k a b=some (.bool (decide (a < b))):=rfl
theorem zi (k:IntKind) (a b:Int):gJ .leq k a b=some (.bool (decide (a≤b))):=rfl
theorem zj (k:IntKind) (a b:Int):gJ .gtr k a b=some (.bool (decide (b < a))):=rfl
theorem zm (k:IntKind) (a b:Int):gJ .geq k a b=some (.bool (decide (b≤a))):=rfl
theorem ue (k:IntKind) (a b:Int):jb .shl k a b=gd (0≤b) (some (.int k (k.wrap (a * 2 ^ (min b.toNat k.bits))))):=by
 unfold jb gd
 by_cases h:0≤b
 ·rw [if_neg (by omega),if_pos h]
 ·rw [if_pos (by omega),if_neg h]
theorem uf (k:IntKind) (a b:Int):jb .shr k a b=gd (0≤b) (some (.int k (a.fdiv (2 ^ (min b.toNat k.bits))))):=by
 unfold jb gd
 by_cases h:0≤b
 ·rw [if_neg (by omega),if_pos h]
 ·rw [if_pos (by omega),if_neg h]
theorem zo (a b:List UInt8):kH .add a b=gd (a.length+b.length≤9223372036854775807) (some (.str (a++b))):=rfl
theorem zp (a b:List UInt8):kH .eql a b=some (.bool (decide (a=b))):=by
 simp only [kH,mP]
theorem zq (a b:List UInt8):kH .neq a b=some (.bool (decide (a≠b))):=by
 simp only [kH,vE]
def ltS (a b:List UInt8):Bool:=Op.bytesLess a b
theorem zr (a b:List UInt8):kH .lss a b=some (.bool (ltS a b)):=rfl
theorem zx (a b:List UInt8):kH .leq a b=some (.bool (ltS a b || decide (a=b))):=by
 simp only [kH,ltS,mP]
theorem zy (a b:List UInt8):kH .gtr a b=some (.bool (!(ltS a b || decide (a=b)))):=by
 simp only [kH,ltS,mP]
theorem zA (a b:List UInt8):kH .geq a b=some (.bool (!ltS a b)):=rfl
def wX (P:Program) (m:Mem) (nid:Oid) (k:Option TyK) (s:AV) (x:Option (List (Oid × ao) × List AV)):OpR :=
 match k,s,x with
 | some (.slice el _ sz by'),.nilSl,some (nd,ys)=>gdR (nD P el sz=true∧0 < by'∧ys.length * by'≤140737488355328) (.eff ⟨nd,.sl nid sz ys.length,[(nid,some (.arr sz ys))]⟩)
 | some (.slice el _ sz by'),.sl id sz' len,some (nd,ys)=>match m id with
  | some (.arr s' xs)=>gdR (nD P el sz=true∧sz' = sz∧s' = sz∧xs.length=len∧0 < by'∧(len+ys.length) * by'≤140737488355328)
     (.eff ⟨(id,.arr s' xs)::nd,.sl nid sz (len+ys.length),[(id,none),(nid,some (.arr sz (xs++ys)))]⟩)
  | _=>.no
 | _,_,_=>.no
def zB:Option TyK→Nat
 | some (.slice _ _ sz _)=>sz
 | _=>0
theorem Cl (P:Program) (m:Mem) (nid:Oid) (t:TypeId) (s x:AV):tV P m nid t s x=wX P m nid (tyk P t) s (rZ m (zB (tyk P t)) x):=by
 unfold tV wX
 cases tyk P t with
 | none=>rfl
 | some k =>
  cases k<;>try rfl
  simp only [zB]
  generalize rZ m _ x=r
  cases r with
  | none=>cases s<;>rfl
  | some r =>
   obtain ⟨nd,ys⟩:=r
   cases s<;>rfl
def bI (i:Oid) (x:Option ao):List (Oid × ao)→List (Oid × ao)
 | []=>match x with
  | some o=>[(i,o)]
  | none=>[]
 | q::l=>if i=q.1 then (match x with
     | some o=>(i,o)::l
     | none=>bI i none l) else q::bI i x l
def br:List (Oid × Option ao)→List (Oid × ao)→List (Oid × ao)
 | [],l=>l
 | q::u,l=>br u (bI q.1 q.2 l)
theorem Mem.aR (i:Oid) (x:Option ao):∀ l,(Mem.of l).set i x=Mem.of (bI i x l)
 | []=>by cases x<;>(funext k;simp [Mem.of,Mem.set,bI,Mem.emp])
 | q::l=>by
  have ih:=fun x=>Mem.aR i x l
  simp only [bI]
  by_cases h:i=q.1
  ·rw [if_pos h]
   cases x with
   | some o=>funext k;simp only [Mem.of,Mem.set];subst h;split<;>rfl
   | none=>rw [← ih];funext k;simp only [Mem.of,Mem.set];subst h;split<;>rfl
  ·rw [if_neg h];funext k;simp only [Mem.of];rw [← ih];simp only [Mem.set]
   by_cases h1:k=i
   ·rw [if_pos h1,if_pos h1,if_neg (fun h2=>h (h1.symm.trans h2))]
   ·rw [if_neg h1,if_neg h1]
theorem Mem.aO:∀ (u:List (Oid × Option ao)) (l:List (Oid × ao)),(Mem.of l).aJ u=Mem.of (br u l)
 | [],_=>rfl
 | q::u,l=>by
  show ((Mem.of l).set q.1 q.2).aJ u=_
  rw [Mem.aR,Mem.aO u];rfl
theorem Mem.Ex:Mem.emp=Mem.of []:=rfl
theorem Mem.aH (i:Oid):Mem.of [] i=none:=rfl
theorem Mem.af (q:Oid × ao) (l:List (Oid × ao)) (i:Oid):Mem.of (q::l) i=if i=q.1 then some q.2 else Mem.of l i:=rfl
theorem bc {α:Type} (p:α→Prop):(∀ q,q ∈ ([]:List α)→p q)=True:=by simp
theorem aW {α:Type} (p:α→Prop) (a:α) (l:List α):(∀ q,q ∈ (a::l)→p q)=(p a∧∀ q,q ∈ l→p q):=by simp
theorem Oid.sK (c i:Nat) (p:Oid):(Oid.sub c i p=p)=False:=by
 apply eq_false
 intro h
 have:(Oid.sub c i p).depth=p.depth:=by rw [h]
 simp only [Oid.depth] at this;omega
theorem Oid.sL (c i:Nat) (p:Oid):(p=Oid.sub c i p)=False:=by
 apply eq_false
 intro h
 have:p.depth=(Oid.sub c i p).depth:=by rw [← h]
 simp only [Oid.depth] at this;omega
theorem Oid.ug {c c' i i':Nat} {p p':Oid} (h:c≠c'):(Oid.sub c i p=Oid.sub c' i' p')=False:=by
 apply eq_false;intro e;injection e with h1 _ _;exact h h1
theorem Oid.ab {p q:Oid} (h:¬ Oid.under p q) (c i:Nat):(q=Oid.sub c i p)=False:=by
 apply eq_false;intro e;subst e;exact h (Oid.ae (Oid.aq _))
theorem Oid.aa {p q:Oid} (h:¬ Oid.under p q) (c i:Nat):(Oid.sub c i p=q)=False:=by
 apply eq_false;intro e;subst e;exact h (Oid.ae (Oid.aq _))
theorem Oid.nR {p q:Oid} (h:¬ Oid.under p q):(q=p)=False:=by
 apply eq_false;intro e;subst e;exact h (Oid.aq _)
theorem Oid.nS {p q:Oid} (h:¬ Oid.under p q):(p=q)=False:=by
 apply eq_false;intro e;subst e;exact h (Oid.aq _)
theorem wY:sf .nilSl=some .nilPtr:=rfl
theorem zC (id:Oid) (sz n:Nat):sf (.sl id sz n)=gd (0 < n) (some (.aptr id sz 0 0)):=rfl
theorem zD (P:Program) (m:Mem) (t:TypeId) (n:Int):sg P m t .nilPtr (.int .i64 n)=gdR (n=0) (.eff ⟨[],.str [],[]⟩):=rfl
def Gg (P:Program) (id:Oid) (sz i off:Nat) (n:Int) (o:Option ao) (k:Option TyK):OpR :=
 match o,k with
 | some (.arr s xs),some (.ptr e)=>gdR (sz=1∧i=0∧off=0∧s=1∧id.tyd=some e∧shp P e=some (false,1)∧0 < xs.length∧n=xs.length∧xs.length≤140737488355328∧xs.all jf=true)
   (.eff ⟨[(id,.arr s xs)],.str (xs.map byteOf),[(id,none)]⟩)
 | _,_=>.no
theorem zF (P:Program) (m:Mem) (t:TypeId) (id:Oid) (sz i off:Nat) (n:Int):sg P m t (.aptr id sz i off) (.int .i64 n)=Gg P id sz i off n (m id) (tyk P t):=by
 simp only [sg]
 generalize m id=a
 generalize tyk P t=b
 cases a with
 | none=>rfl
 | some a=>cases a<;>first|rfl|(cases b with
  | none=>rfl
  | some b=>cases b<;>rfl)
def byA (b:UInt8):AV:=.int .u8 b.toNat
theorem uh (l:List UInt8):(l.map byA).all jf=true:=by
 rw [List.all_eq_true];intro v hv
 obtain ⟨b,_,rfl⟩:=List.mem_map.1 hv
 have:=b.toNat_lt
 show decide (b.toNat < 256)=true
 simp;omega
theorem ui (l:List UInt8):(l.map byA).map byteOf=l:=by
 rw [List.map_map]
 have:byteOf ∘ byA=id:=by funext b;simp [byteOf,byA,Int.toNat_natCast]
 rw [this,List.map_id]
def DX (P:Program) (sz:Nat) (xs:List AV) (a b:Option TyK):Option AV :=
 match a,b with
 | some (.slice el _ _ _),some .str=>gd (sz=1∧u8K (tyk P el)=true∧0 < xs.length∧xs.all jf=true) (some (.str (xs.map byteOf)))
 | _,_=>none
theorem uj (P:Program) (src dst:TypeId) (sz:Nat) (xs:List AV):sh P src dst (.list sz xs)=DX P sz xs (tyk P src) (tyk P dst):=by
 simp only [sh]
 generalize tyk P src=a
 generalize tyk P dst=b
 cases a with
 | none=>rfl
 | some a=>cases a<;>first|rfl|(cases b with
  | none=>rfl
  | some b=>cases b<;>rfl)
theorem uk (b:UInt8):jf (.int .u8 (b.toNat:Int))=true:=by
 have:=b.toNat_lt
 show decide (b.toNat < 256)=true
 simp;omega
theorem uo (b:UInt8):byteOf (.int .u8 (b.toNat:Int))=b:=by simp [byteOf,Int.toNat_natCast]
attribute [go_sem] uj DX uk uo
attribute [go_sem] wY zC zD zF Gg uh ui jC
def vF:Bool→Nat→Oid→Oid
 | true,t,nid=>.ty t nid
 | false,_,nid=>nid
theorem zG (P:Program) (t:TypeId) (nid:Oid):gC P t nid=vF (dZ P t) t nid:=by
 unfold gC;cases dZ P t<;>rfl
def vG:Bool→Option Nat→Nat→Oid→Oid
 | true,some t',t,nid=>if t' = t then .ty t nid else nid
 | _,_,_,nid=>nid
def zH (P:Program) (k:Option TyK) (nid:Oid) (s:AV):Oid :=
 match k,s with
 | some (.slice el _ _ _),.nilSl=>vF (qI (tyk P el)) el nid
 | some (.slice el _ _ _),.sl id _ _=>vG (qI (tyk P el)) id.tyd el nid
 | _,_=>nid
theorem zI (P:Program) (t:TypeId) (nid:Oid) (s:AV):l9 P t nid s=zH P (tyk P t) nid s:=by
 unfold l9 zH
 split
 ·rename_i el _ _ _ h
  try rw [h]
  show _=vF (qI (tyk P el)) el nid
  cases qI (tyk P el)<;>rfl
 ·rename_i el _ _ _ id _ _ h
  try rw [h]
  show _=vG (qI (tyk P el)) id.tyd el nid
  cases qI (tyk P el)<;>cases id.tyd<;>simp [vG]
 ·rename_i h1 h2
  first
   | rfl
   | (split
      ·rename_i h;exact (h1 _ _ _ _ h rfl).elim
      ·rename_i h;exact (h2 _ _ _ _ _ _ _ h rfl).elim
      ·rfl)
theorem zJ (n:Nat):(Oid.root n).tyd=none:=rfl
theorem Cm (c i:Nat) (p:Oid):(Oid.sub c i p).tyd=none:=rfl
theorem Ey (t:Nat) (p:Oid):(Oid.ty t p).tyd=some t:=rfl
theorem Oid.eV {p q:Oid} (h:¬ Oid.under p q) (t c i:Nat):(q=Oid.ty t (Oid.sub c i p))=False:=by
 apply eq_false;intro e;subst e;exact h (.inr (Oid.ae (Oid.aq _)))
theorem Oid.ga {p q:Oid} (h:¬ Oid.under p q) (t c i:Nat):(Oid.ty t (Oid.sub c i p)=q)=False:=by
 apply eq_false;intro e;subst e;exact h (.inr (Oid.ae (Oid.aq _)))
attribute [go_sem] zG vF vG zH zI zJ Cm Ey qI Oid.eV Oid.ga Oid.ty.injEq
theorem mc {α:Type} [Inhabited α] (f:α→AV) {l:List α} {i:Nat} (h:i < l.length) (d:AV):(l.map f).getD i d=f (l.getD i default):=by
 simp [List.getD_eq_getElem?_getD,List.getElem?_map,List.getElem?_eq_getElem h]
attribute [go_sem] Ew Cj ud mD o9 nQ sG sH sI qO qP qQ
 y7 y8 y9 za zb zc Ck zd sJ zf zg zh zi zj zm ue uf zo zp zq zr zx zy zA
 Cl wX zB nC nD Eo Ep y4 Ch y5 Er y6 wW sD kj qL opL prs ma pI nL dH sE vC bI br Mem.aO Mem.Ex Mem.aH Mem.af Oid.ug Oid.ab Oid.aa Oid.nR Oid.nS Oid.sK Oid.sL Oid.sub.injEq
 mc w64 Option.isSome_some Option.isSome_none beq_self_eq_true Option.bind_some Option.bind_none Option.map_some Option.map_none Int.toNat_natCast List.length_map List.length_take List.length_drop List.length_append List.length_cons List.length_nil List.map_cons List.map_nil List.getD_cons_zero List.getD_cons_succ List.getD_nil
 List.take_succ_cons List.take_zero List.take_nil List.drop_succ_cons List.drop_zero List.drop_nil List.cons_append List.nil_append List.all_cons List.all_nil Bool.and_true Bool.true_and Bool.and_false Bool.false_and Bool.or_true Bool.true_or Bool.or_false Bool.false_or Bool.not_true Bool.not_false
 true_and and_true and_self or_true true_or or_false false_or false_and and_false eq_self List.getElem?_cons_zero List.getElem?_cons_succ List.getElem?_toArray bc aW o6 fh yZ fO
theorem bt1 (b:Bool):(b == true)=b:=by cases b<;>rfl
theorem bt2 (b:Bool):(b == false) = !b:=by cases b<;>rfl
attribute [go_sem] frz o8 Mem.aR
attribute [go_sem] bt1 bt2 decide_true decide_false
attribute [go_sem] decide_eq_true_eq decide_eq_false_iff_not Bool.and_eq_true Bool.or_eq_true Bool.not_eq_true' Bool.not_eq_false'
def nmd:Nat→Bool:=fun _=>false
theorem Ez (d:Nat):nmd d=false:=rfl
attribute [go_sem] Ez List.contains_cons List.contains_nil
theorem b9 {α:Type} {l:List α} {i:Nat} (h:i < l.length) (d:α):l.getD i d=l[i]:=by
 simp [List.getD_eq_getElem?_getD,List.getElem?_eq_getElem h]
theorem EA {x:UInt8} {n:Nat} (hn:n < 256):((x.toNat:Int)=(n:Int))↔x=UInt8.ofNat n:=by
 constructor
 ·intro h
  apply UInt8.toNat_inj.1
  rw [UInt8.toNat_ofNat',Nat.mod_eq_of_lt (by omega)];omega
 ·rintro rfl
  rw [UInt8.toNat_ofNat',Nat.mod_eq_of_lt (by omega)]
theorem drop_cons {α:Type} [Inhabited α] {l:List α} {i:Nat} (h:i < l.length):l.drop i=l.getD i default::l.drop (i+1):=by
 rw [List.drop_eq_getElem_cons h,b9 h]
theorem fw {α β:Type} [Inhabited α] (f:α→β) {l:List α} {i:Nat} (h:i < l.length):(l.take (i+1)).map f=(l.take i).map f++[f (l.getD i default)]:=by
 rw [List.take_succ_eq_append_getElem h,List.map_append,b9 h];rfl
theorem EB (x:UInt8):IntKind.i64.wrap (x.toNat:Int)=x.toNat:=by
 have:=x.toNat_lt;exact w64 (by omega) (by omega)
attribute [go_sem] EB
theorem ef (a b:Nat):(a:Int).tmod b=((a % b:Nat):Int):=by
 rw [Int.tmod_eq_emod_of_nonneg (by omega)];rfl
theorem zK (a b:Nat):(a:Int).tdiv b=((a / b:Nat):Int):=by
 rw [Int.tdiv_eq_ediv_of_nonneg (by omega)];rfl
theorem w8 {n:Int} (h1:0≤n) (h2:n≤255):IntKind.u8.wrap n=n:=by
 simp [IntKind.wrap,IntKind.bits,IntKind.signed];omega
end Go.Ab
namespace Go.Ab
variable {α:Type} [DecidableEq α]
def jY (enc:α→AV):Prop:=∀ a b,eJ (enc a) (enc b)=decide (a=b)
variable {enc:α→AV}
end Go.Ab
namespace Go.Ab
theorem eM {P:Program} [Laid P] {f:FuncId} {xs:List AV} {sp:Oid→Prop} {L:List (Oid × ao)} {R Rp:AV→List (Oid × Option ao)→Prop} (he:cE P f=true)
  (h:(∀ q ∈ L,Mem.of L q.1=some q.2)→bT P f xs sp L R Rp):bT P f xs sp L R Rp:=by
 by_cases hc:∀ q ∈ L,Mem.of L q.1=some q.2
 ·exact h hc
 ·refine ⟨he,fun x g args w m hm hn _ _ _=>absurd (fun q hq=>?_) hc⟩
  obtain ⟨o,ho⟩:=Mem.kS hq
  obtain ⟨q',h1,h2,h3⟩:=Mem.dV ho
  have h4:=hn q hq
  have h5:=hn q' h1
  rw [h2,h4,h3] at h5
  rw [ho];exact h5.symm
theorem lF {B L L':List (Oid × ao)} {m:Mem} {upd:List (Oid × Option ao)} {sp:Oid→Prop} (hU:pE L sp upd L') (hL:∀ q ∈ L,m q.1=some q.2) (hB:∀ q ∈ B,m q.1=some q.2)
  (hd:∀ q ∈ B,(∀ q' ∈ L,¬ q'.1=q.1)∧¬ sp q.1):∀ q,q ∈ B++L'→(m.aJ upd) q.1=some q.2:=by
 intro q hq
 rcases List.mem_append.1 hq with hq|hq
 ·rw [bg fun q' hq' e=>?_]
  ·exact hB q hq
  ·obtain ⟨h1,h2⟩:=hd q hq
   rcases hU.tou q' hq' with ⟨q2,h3,h4⟩|h3
   ·exact h1 q2 h3 (h4.trans e)
   ·exact h2 (e ▸ h3)
 ·exact sy hL (hU.got q hq)
theorem eW {B L:List (Oid × ao)} (hB:∀ q ∈ B,Mem.of (B++L) q.1=some q.2) (hd:∀ q ∈ L,∀ q' ∈ B,¬ q.1=q'.1) (hL:∀ q ∈ L,Mem.of L q.1=some q.2):∀ q ∈ B++L,Mem.of (B++L) q.1=some q.2:=by
 intro q hq
 rcases List.mem_append.1 hq with hq|hq
 ·exact hB q hq
 ·have:∀ (B:List (Oid × ao)),(∀ q' ∈ B,¬ q.1=q'.1)→Mem.of (B++L) q.1=Mem.of L q.1:=by
   intro B h
   induction B with
   | nil=>rfl
   | cons b B ih=>rw [List.cons_append,Mem.af,if_neg (h b List.mem_cons_self)];exact ih fun q' hq'=>h q' (List.mem_cons_of_mem _ hq')
  rw [this B (hd q hq)];exact hL q hq
theorem jZ {P:Program} [Laid P] {x:Ctx} {n:Nat} {a:Code} {Q:AX→AS→Prop} {fr:List (Nat × AV)} {m:Mem} {c:Nat} {ds:List AD} (L:List (Oid × ao)) (hm:∀ q,q ∈ L→m q.1=some q.2) (h:T P x n a ⟨fr,Mem.of L,c,ds⟩ Q):T P x n a ⟨fr,m,c,ds⟩ Q :=
 kp (Mem.of L) (fun i o hi=>by obtain ⟨q,h1,rfl,rfl⟩:=Mem.dV hi;exact hm q h1) h
theorem iH {L:List (Oid × ao)} {m:Mem} (hm:∀ q,q ∈ L→m q.1=some q.2):∀ i o,Mem.of L i=some o→m i=some o:=fun i o hi=>by
 obtain ⟨q,h1,rfl,rfl⟩:=Mem.dV hi;exact hm q h1
theorem aM (i:Oid) (x:Option ao) (l:List (Oid × ao)) (j:Oid):Mem.of (bI i x l) j=if j=i then x else Mem.of l j:=by rw [← Mem.aR];rfl
end Go.Ab
namespace Go.Ab
open Go.ChangeShapes Go.WideShapes
def mE (a b:AV):Prop:=∀ g v,VR g a v→VR g b v
theorem mE.refl (a:AV):mE a a:=fun _ _ h=>h
theorem mE.nil (sz:Nat):mE .nilSl (.list sz []):=fun _ _ h=>by rw [h.bS];exact .listNil sz
inductive fR:List AV→List AV→Prop
 | nil:fR [] []
 | cons {a b:AV} {l m:List AV} (h:mE a b) (t:fR l m):fR (a::l) (b::m)
theorem fR.length {l m:List AV} (h:fR l m):l.length=m.length:=by
 induction h with
 | nil=>rfl
 | cons _ _ ih=>simp [ih]
theorem fR.at {l m:List AV} (h:fR l m):∀ j,mE (l.getD j .undef) (m.getD j .undef):=by
 induction h with
 | nil=>exact fun j=>.refl _
 | cons h _ ih =>
  intro j
  cases j with
  | zero=>exact h
  | succ j=>simpa using ih j
theorem mE.agg {l m:List AV} (h:fR l m):mE (.agg l) (.agg m):=fun g v hv=>by
 obtain ⟨a,rfl,h1,h2⟩:=hv.fU
 exact .agg _ _ (h1.trans h.length) fun j hj=>h.at j _ _ (h2 j (by rw [h.length];exact hj))
def Cn (a b:AV):Prop:=fR a.cells b.cells
theorem Cn.agg {l m:List AV} (h:fR l m):Cn (.agg l) (.agg m):=h
inductive mg:List AV→List AV→Prop
 | nil:mg [] []
 | cons {a b:AV} {l m:List AV} (h:Cn a b) (t:mg l m):mg (a::l) (b::m)
theorem mg.length {l m:List AV} (h:mg l m):l.length=m.length:=by
 induction h with
 | nil=>rfl
 | cons _ _ ih=>simp [ih]
theorem mg.at {l m:List AV} (h:mg l m):∀ j,Cn (l.getD j .undef) (m.getD j .undef):=by
 induction h with
 | nil=>exact fun j=>.cons (.refl _) .nil
 | cons h _ ih =>
  intro j
  cases j with
  | zero=>exact h
  | succ j=>simpa using ih j
theorem mE.list {sz:Nat} {l m:List AV} (h:mg l m):mE (.list sz l) (.list sz m):=fun g v hv=>by
 rcases hv.gw with ⟨rfl,hu|⟨a,cap,hu⟩⟩|⟨b,o,cap,cs,hu,h1,h2,h3,h4⟩
 ·cases h;rw [hu];exact .listNil _
 ·cases h;rw [hu];exact .listAny _ _ _
 ·rw [hu,h.length]
  have hl:=h.length
  exact .list sz m b o cap cs (by omega) (fun i hi=>by have:=(h.at i).length;have:=h2 i (by omega);omega) (fun i j hi hj=>h3 i j (by omega) hj) fun i j hi hj=>(h.at i).at j _ _ (h4 i j (by omega) hj)
def cW (ng:Nat) (w:World):Gh :=
 ⟨fun i=>match i with | .root k=>if k < ng then some (some k) else none | .sub .. => none | .ty .. => none,
  fun b o=>match w.cell? ⟨b,o,none⟩ with|some v=>if v.oneCell' = true then some v else none|none=>none,fun b=>match w.heap[b]? with|some (.cells c _ _)=>some c.size|_=>none⟩
theorem lG {ng:Nat} {w:World} {b o:Nat} {v:Value} (h:w.cell? ⟨b,o,none⟩=some v) (hv:v.oneCell' = true):(cW ng w).com b o=some v:=by
 simp only [cW,h,hv,if_true]
theorem nT {ng:Nat} {w:World} {b o:Nat} {v:Value} (h:(cW ng w).com b o=some v):w.cell? ⟨b,o,none⟩=some v∧v.oneCell' = true:=by
 simp only [cW] at h
 split at h
 ·rename_i u hu
  split at h
  ·rename_i h1;cases h;exact ⟨hu,h1⟩
  ·cases h
 ·cases h
theorem uq (ng:Nat) (w:World):ax ⟨ng,cW ng w,w,fun _=>False,.root ng,none⟩ (cW ng w) Mem.emp w where
 le:=Gh.le_refl _
 locs _ _:=rfl
 glob k hk:=by simp [cW,hk]
 coms _ _ _ h:=.inl h
 obj0 _ _ h:=by cases h
 inj _ _ _ _ _ h:=by cases h
 com _ _ _ h:=(nT h).1
 one _ _ _ h:=(nT h).2
 rows b r h:=by
  simp only [cW] at h
  split at h
  ·rename_i c t fz hc;simp only [Option.some.injEq] at h;exact ⟨c,t,fz,hc,h⟩
  ·cases h
 os:=rfl
 tape:=rfl
 output:=⟨rfl,fun _=>Nat.le_refl _⟩
 size:=Nat.le_refl _
 kept _ _ _:=rfl
 typs _ _ _ h:=by cases h
structure Rd (P:Program) (t:TypeId) {α:Type} (A:α→AV) (V:α→Prop):Prop where
 len:∀ a,(A a).cells.length=P.cellsOf t
 rd:∀ {H:Type} {enc:TypeId × Value→H} {w:World} {ng base fuel:Nat} {spare:Nat→Bool} {held:Bool} {cs:List Value} {x:DataW H × List MemPlace},DataW.trod enc P w base spare held fuel t cs=some x →
  (∀ n ∈ x.1.weights P t,n≤reachBytes)→∃ a:α,V a∧cs.length=P.cellsOf t∧∀ j,j < cs.length→(cs.getD j undef).oneCell' = true∧VR (cW ng w) ((A a).cells.getD j .undef) (cs.getD j undef)
section
variable {P:Program} [Laid P] {t:TypeId} {α β:Type} {A:α→AV} {V:α→Prop}
theorem Rd.map {B:β→AV} {W:β→Prop} (h:Rd P t A V) (f:α→β) (hA:∀ a,V a→A a=B (f a)) (hl:∀ b,(B b).cells.length=P.cellsOf t) (hV:∀ a,V a→W (f a)):Rd P t B W :=
 ⟨hl,fun {H enc w ng base fuel spare held cs x} h1 h2=>by
  obtain ⟨a,k1,k2,k3⟩:=h.rd (ng:=ng) h1 h2
  exact ⟨f a,hV a k1,k2,by rw [← hA a k1];exact k3⟩⟩
theorem qR {a:AV} {v:Value} {g:Gh} (hc:a.cells=[a]) (hv:VR g a v) (h1:v.oneCell' = true):∀ j,j < [v].length→(([v]:List Value).getD j undef).oneCell' = true∧VR g (a.cells.getD j .undef) (([v]:List Value).getD j undef):=by
 intro j hj
 obtain rfl:j=0:=by simp at hj;exact hj
 rw [hc];exact ⟨h1,hv⟩
theorem ur {k:IntKind} (ht:P.underlying t=some (.int k)) (hc:P.cellsOf t=1):Rd P t (AV.int k) (fun n=>(Lit.int k n).wf=true) :=
 ⟨fun _=>hc.symm,fun h _=>by
  obtain ⟨n,rfl,rfl,hw⟩:=DataW.trod_int ht h
  exact ⟨n,hw,hc.symm,qR rfl (.int k n) rfl⟩⟩
theorem rd_u8 (ht:P.underlying t=some (.int .u8)) (hc:P.cellsOf t=1):Rd P t (fun b:UInt8=>AV.int .u8 b.toNat) (fun _=>True) :=
 (ur ht hc).map (fun n=>UInt8.ofNat n.toNat) (fun n hn=>by
  have h1:0≤n∧n≤255:=by simpa [Lit.wf,IntKind.min,IntKind.max,IntKind.signed,IntKind.bits] using hn
  show AV.int .u8 n=AV.int .u8 _
  congr 1
  rw [UInt8.toNat_ofNat',Nat.mod_eq_of_lt (by omega)];omega) (fun _=>hc.symm) (fun _ _=>trivial)
theorem zM (ht:P.underlying t=some .string) (hc:P.cellsOf t=1):Rd P t AV.str (fun s=>s.length≤reachBytes) :=
 ⟨fun _=>hc.symm,fun h hw=>by
  obtain ⟨s,rfl,rfl,_⟩:=DataW.trod_string ht h
  exact ⟨s.data.toList,hw _ (by simp [DataW.weights]),hc.symm,qR rfl (.str _ _ rfl) rfl⟩⟩
theorem ji {H:Type} {e:TypeId} {n:Nat}:∀ {l:List (DataW H)} {d:DataW H},d ∈ l→n ∈ d.weights P e→n ∈ DataW.weightsAll P e l
 | [],_,h,_=>by cases h
 | x::l,d,h,hn=>by
  rw [DataW.weightsAll]
  rcases List.mem_cons.1 h with rfl|h
  ·exact List.mem_append_left _ hn
  ·exact List.mem_append_right _ (ji h hn)
theorem mh {p:Nat→α→Prop}:∀ (n:Nat),(∀ i,i < n→∃ a,p i a)→∃ l:List α,l.length=n∧∀ i,i < n→∃ a,l[i]? = some a∧p i a
 | 0,_=>⟨[],rfl,fun i hi=>absurd hi (Nat.not_lt_zero _)⟩
 | n+1,h=>by
  obtain ⟨l,h1,h2⟩:=mh n fun i hi=>h i (Nat.lt_succ_of_lt hi)
  obtain ⟨a,ha⟩:=h n (Nat.lt_succ_self _)
  refine ⟨l++[a],by simp [h1],fun i hi=>?_⟩
  by_cases e:i < n
  ·obtain ⟨b,hb,hp⟩:=h2 i e
   exact ⟨b,by rw [List.getElem?_append_left (by omega)];exact hb,hp⟩
  ·obtain rfl:i=n:=by omega
   exact ⟨a,by rw [List.getElem?_append_right (by omega),h1,Nat.sub_self];rfl,ha⟩
theorem mapM_at {β:Type} {f:Nat→Option β}:∀ {l:List Nat} {r:List β},l.mapM f=some r→r.length=l.length∧∀ i,i < l.length→f (l.getD i 0)=r[i]?
 | [],r,h=>by simp at h;subst h;exact ⟨rfl,fun i hi=>absurd hi (Nat.not_lt_zero _)⟩
 | x::l,r,h=>by
  simp only [List.mapM_cons,Option.bind_eq_bind,Option.bind_eq_some_iff] at h
  obtain ⟨y,hy,ys,hys,e⟩:=h
  cases e
  obtain ⟨h1,h2⟩:=mapM_at hys
  refine ⟨by simp [h1],fun i hi=>?_⟩
  cases i with
  | zero=>simpa using hy
  | succ i=>simpa using h2 i (by simpa using hi)
theorem wZ {w:World} {base n:Nat} {a:Addr} {cs:List Value} (h:w.cells? base a n=some cs):cs.length=n∧∀ j,j < n→w.cell? (a.add j)=cs[j]? := by
 unfold World.cells? at h
 split at h
 ·obtain ⟨h1,h2⟩:=mapM_at h
  rw [List.length_range] at h1
  refine ⟨h1,fun j hj=>?_⟩
  have:=h2 j (by simpa using hj)
  rwa [List.getD_eq_getElem?_getD,List.getElem?_range hj] at this
 ·cases h
theorem w5 {w:World} {a:Addr} {v:Value} (h:w.cell? a=some v):a.spot=none:=by
 unfold World.cell? at h
 split at h
 ·split at h
  ·cases h
  ·rename_i e;simpa using e
 ·cases h
theorem pK {a:Addr} (h:a.spot=none) (n:Nat):a.add n=⟨a.block,a.off+n,none⟩:=by
 unfold Addr.add
 split
 ·rename_i e;subst e;cases a;simp_all
 ·rfl
theorem zN {e:TypeId} (ht:P.underlying t=some (.slice e)) (hc:P.cellsOf t=1) (hp:0 < P.cellsOf e) (hE:Rd P e A V):Rd P t (fun l:List α=>.list (P.cellsOf e) (l.map A)) (fun l=>l.length * P.bytesOf e≤reachBytes∧∀ a ∈ l,V a) :=
 ⟨fun _=>hc.symm,fun {H enc w ng base fuel spare held cs x} h hw=>by
  rcases DataW.trod_slice ht h with ⟨rfl,rfl⟩|⟨a,len,cap,elems,rest,n,_,rfl,rfl,hb,hl,hm,hlen,hel,_,_⟩
  ·exact ⟨[],⟨by simp,fun _ h=>by cases h⟩,hc.symm,qR rfl (.listNil _) rfl⟩
  simp only [DataW.weights,ht,List.mem_cons,List.mem_append] at hw
  have hwt:=hw _ (.inl rfl)
  simp only [List.length_map] at hwt
  have key:∀ i,i < len→∃ (y:α × (Nat→Value)),V y.1∧∀ j,j < P.cellsOf e→w.cell? ((a.add (i * P.cellsOf e)).add j)=some (y.2 j)∧(y.2 j).oneCell' = true∧VR (cW ng w) ((A y.1).cells.getD j .undef) (y.2 j):=by
   intro i hi
   have h1:=hel i hi
   rw [List.getElem?_eq_getElem (by omega)] at h1
   simp only [Option.bind_eq_some_iff] at h1
   obtain ⟨cs',h2,h3⟩:=h1
   obtain ⟨h4,h5⟩:=wZ h2
   obtain ⟨y,k1,k2,k3⟩:=hE.rd (ng:=ng) h3 fun m hm=>hw m (.inr (.inl (ji (List.mem_map.2 ⟨_,List.getElem_mem (by omega:i < elems.length),rfl⟩) hm)))
   refine ⟨(y,fun j=>cs'.getD j undef),k1,fun j hj=>⟨?_,k3 j (by omega)⟩⟩
   show _=some (cs'.getD j undef)
   rw [h5 j hj,List.getD_eq_getElem?_getD,List.getElem?_eq_getElem (by omega)];rfl
  obtain ⟨l,hl1,hl2⟩:=mh len key
  have hsp:0 < len→a.spot=none:=fun h0=>by
   obtain ⟨y,_,_,h2⟩:=hl2 0 h0
   have h3:=w5 (h2 0 hp).1
   simpa [Addr.add] using h3
  refine ⟨l.map (·.1),⟨?_,fun b hb=>?_⟩,hc.symm,qR rfl ?_ rfl⟩
  ·rw [List.length_map,hl1]
   exact Nat.le_trans (Nat.mul_le_mul_right _ (by omega)) hwt
  ·obtain ⟨y,hy,rfl⟩:=List.mem_map.1 hb
   obtain ⟨i,hi,e1⟩:=List.getElem_of_mem hy
   obtain ⟨z,hz,h1,_⟩:=hl2 i (by omega)
   rw [List.getElem?_eq_getElem hi,e1] at hz
   cases hz;exact h1
  ·by_cases h0:len=0
   ·subst h0
    obtain rfl:=List.eq_nil_of_length_eq_zero hl1
    exact .listAny _ _ _
   have hs:=hsp (by omega)
   have e1:((l.map (·.1)).map A).length=len:=by simp [hl1]
   have hat:∀ i,i < len→∃ y:α × (Nat→Value),((l.map (·.1)).map A).getD i .undef=A y.1∧(l.getD i (y.1,fun _=>undef)).2=y.2∧(∀ j,j < P.cellsOf e→w.cell? ((a.add (i * P.cellsOf e)).add j)=some (y.2 j)∧(y.2 j).oneCell' = true∧VR (cW ng w) ((A y.1).cells.getD j .undef) (y.2 j)):=by
    intro i hi
    obtain ⟨y,hy,_,h2⟩:=hl2 i hi
    refine ⟨y,?_,?_,h2⟩
    ·simp [List.getD_eq_getElem?_getD,hy]
    ·simp [List.getD_eq_getElem?_getD,hy]
   have:=VR.list (g:=cW ng w) (P.cellsOf e) ((l.map (·.1)).map A) a.block a.off cap (fun i j=>(match l[i]? with|some y=>y.2|none=>fun _=>undef) j) (by omega)
    (fun i hi=>by
     obtain ⟨y,h1,_⟩:=hat i (by omega)
     rw [h1];exact hE.len _)
    (fun i j hi hj=>by
     obtain ⟨y,hy,_,h2⟩:=hl2 i (by omega)
     simp only [hy]
     obtain ⟨h3,h4,_⟩:=h2 j hj
     rw [pK hs,pK rfl] at h3
     exact lG h3 h4)
    (fun i j hi hj=>by
     obtain ⟨y,hy,_,h2⟩:=hl2 i (by omega)
     simp only [hy,List.getD_eq_getElem?_getD,List.getElem?_map,Option.map_some,Option.getD_some]
     have h5:=(h2 j hj).2.2
     rwa [List.getD_eq_getElem?_getD] at h5)
   rw [e1] at this
   have ea:a=⟨a.block,a.off,none⟩:=by cases a;simp_all
   rw [ea];exact this⟩
end
structure RdF (P:Program) (fs:List Field) (off tot:Nat) {β:Type} (B:β→List AV) (W:β→Prop):Prop where
 len:∀ b,(B b).length=tot
 rd:∀ {H:Type} {enc:TypeId × Value→H} {w:World} {ng base fuel:Nat} {spare:Nat→Bool} {held:Bool} {cs:List Value} {xs:List (DataW H × List MemPlace)},xs.length=fs.length →
  (∀ (i:Nat) (f:Field),fs[i]? = some f→DataW.trod enc P w base spare held fuel f.type ((cs.drop f.offset).take (P.cellsOf f.type))=xs[i]?)→(∀ n ∈ DataW.weightsEach P (fs.map (·.type)) (xs.map (·.1)),n≤reachBytes)→cs.length=off+tot →
  ∃ b:β,W b∧∀ j,j < tot→(cs.getD (off+j) undef).oneCell' = true∧VR (cW ng w) ((B b).getD j .undef) (cs.getD (off+j) undef)
section
variable {P:Program} [Laid P] {t:TypeId} {α β:Type} {A:α→AV} {V:α→Prop}
theorem vH (off:Nat):RdF P [] off 0 (fun _:Unit=>[]) (fun _=>True):=⟨fun _=>rfl,fun _ _ _ _=>⟨(),trivial,fun j hj=>absurd hj (Nat.not_lt_zero _)⟩⟩
theorem fG {f:Field} {fs:List Field} {off tot:Nat} {B:β→List AV} {W:β→Prop} (ho:f.offset=off) (hA:Rd P f.type A V) (hB:RdF P fs (off+P.cellsOf f.type) tot B W) :
  RdF P (f::fs) off (P.cellsOf f.type+tot) (fun p:α × β=>(A p.1).cells++B p.2) (fun p=>V p.1∧W p.2) :=
 ⟨fun p=>by rw [List.length_append,hA.len,hB.len],fun {H enc w ng base fuel spare held cs xs} hx hf hw hl=>by
  match xs,hx with
  | x::xs,hx =>
   have h0:=hf 0 f rfl
   simp only [List.getElem?_cons_zero] at h0
   simp only [List.map_cons,DataW.weightsEach,List.mem_append] at hw
   obtain ⟨a,k1,k2,k3⟩:=hA.rd (ng:=ng) h0 fun n hn=>hw n (.inl hn)
   obtain ⟨b,k4,k5⟩:=hB.rd (ng:=ng) (cs:=cs) (xs:=xs) (by simpa using hx) (fun i f' hi=>by simpa using hf (i+1) f' (by simpa using hi)) (fun n hn=>hw n (.inr hn)) (by omega)
   refine ⟨(a,b),⟨k1,k4⟩,fun j hj=>?_⟩
   have hla:=hA.len a
   by_cases e:j < P.cellsOf f.type
   ·have:=k3 j (by rw [k2];exact e)
    have e1:((cs.drop f.offset).take (P.cellsOf f.type)).getD j undef=cs.getD (off+j) undef:=by
     simp [List.getD_eq_getElem?_getD,List.getElem?_take,e,List.getElem?_drop,ho]
    rw [e1] at this
    have e2:((A a).cells++B b).getD j .undef=(A a).cells.getD j .undef:=by
     simp [List.getD_eq_getElem?_getD,List.getElem?_append_left (by omega:j < (A a).cells.length)]
    show _∧VR _ (((A a).cells++B b).getD j .undef) _
    rw [e2];exact this
   ·have:=k5 (j - P.cellsOf f.type) (by omega)
    rw [show off+P.cellsOf f.type+(j - P.cellsOf f.type)=off+j by omega] at this
    have e2:((A a).cells++B b).getD j .undef=(B b).getD (j - P.cellsOf f.type) .undef:=by
     simp [List.getD_eq_getElem?_getD,List.getElem?_append_right (by omega:(A a).cells.length≤j),hla]
    show _∧VR _ (((A a).cells++B b).getD j .undef) _
    rw [e2];exact this⟩
theorem pL {fs:Array Field} {tot:Nat} {B:β→List AV} {W:β→Prop} (ht:P.underlying t=some (.struct fs)) (hc:P.cellsOf t=tot) (hF:RdF P fs.toList 0 tot B W):Rd P t (fun b=>.agg (B b)) W :=
 ⟨fun b=>(hF.len b).trans hc.symm,fun {H enc w ng base fuel spare held cs x} h hw=>by
  obtain ⟨xs,n,_,rfl,hl,hlen,hf⟩:=DataW.trod_struct ht h
  simp only [DataW.weights,ht] at hw
  obtain ⟨b,k1,k2⟩:=hF.rd (ng:=ng) (xs:=xs) (by simpa using hlen) (fun i f hi=>hf i f (by simpa using hi)) hw (by omega)
  refine ⟨b,k1,hl,fun j hj=>?_⟩
  have:=k2 j (by omega)
  rwa [Nat.zero_add] at this⟩
theorem Rd.vI (h:Rd P t A V) (hc:P.cellsOf t=1) {H:Type} {enc:TypeId × Value→H} {w:World} {ng base:Nat} {spare:Nat→Bool} {held:Bool} {v:Value} {d:DataW H} {ps:List MemPlace} (hone:v.oneCell' = true)
  (hA:∀ a,V a→(A a).cells=[A a]) (hd:DataW.Trod enc P w base spare held t v d ps) (hw:∀ n ∈ d.weights P t,n≤reachBytes):∃ a,V a∧VR (cW ng w) (A a) v:=by
 obtain ⟨fuel,hd⟩:=hd
 obtain ⟨a,k1,k2,k3⟩:=h.rd (ng:=ng) hd hw
 refine ⟨a,k1,?_⟩
 have e:v.cells.toList=[v]:=by cases v<;>first|rfl|(simp [Value.oneCell'] at hone)
 rw [e] at k3
 have:=(k3 0 (by simp)).2
 rwa [hA a k1] at this
theorem Rd.Co {B:β→List AV} {W:β→Prop} (h:Rd P t (fun b=>.agg (B b)) W) {H:Type} {enc:TypeId × Value→H} {w:World} {ng base:Nat} {spare:Nat→Bool} {held:Bool} {cs:Array Value} {d:DataW H} {ps:List MemPlace}
  (hd:DataW.Trod enc P w base spare held t (.agg cs) d ps) (hw:∀ n ∈ d.weights P t,n≤reachBytes):∃ b,W b∧VR (cW ng w) (.agg (B b)) (.agg cs):=by
 obtain ⟨fuel,hd⟩:=hd
 obtain ⟨b,k1,k2,k3⟩:=h.rd (ng:=ng) hd hw
 refine ⟨b,k1,.agg _ _ ?_ fun j hj=>?_⟩
 ·have:=h.len b
  simp only [Value.cells,Array.length_toList] at k2
  simp only [AV.cells] at this
  omega
 ·have hl:=h.len b
  simp only [AV.cells] at hl
  have:=(k3 j (by rw [k2];omega)).2
  simp only [Value.cells,AV.cells] at this
  simpa [List.getD_eq_getElem?_getD,Array.getD_eq_getD_getElem?] using this
theorem j0 {H:Type} {enc:TypeId × Value→H} {w w':World} {base:Nat} {spare':Nat→Bool} (hl:laidOutB P=true) (hz:∀ t e,t < P.types.size→P.underlying t=some (.slice e)→0 < P.cellsOf e) :
  ∀ {ts:List TypeId} {vs:List Value} {ds:List (DataW H)} {ps:List MemPlace},(∀ t ∈ ts,P.readableRec t=true∧t < P.types.size)→DataW.TrodAll enc P w base (fun _=>true) true ts vs ds ps→(∀ p ∈ ps,w.sameAt w' p)→(∀ p ∈ ps,spare' p.block=true) →
   DataW.TrodAll enc P w' base spare' true ts vs ds ps
 | [],[],[],_,_,h,_,_=>h
 | t::ts,v::vs,d::ds,ps,hr,⟨p,q,h1,h2,e⟩,hs,hsp=>by
  have ht:=hr t List.mem_cons_self
  refine ⟨p,q,?_,j0 hl hz (fun t ht=>hr t (List.mem_cons_of_mem _ ht)) h2 (fun x hx=>hs x (by rw [e];exact List.mem_append_right _ hx)) (fun x hx=>hsp x (by rw [e];exact List.mem_append_right _ hx)),e⟩
  have h3:DataW.Trod enc P w base spare' true t v d p:=h1.respare (kids_book hl ht.1) (fun u e' hu=>hz u e' hu.1) ⟨ht.2,book_self t⟩ fun x hx=>hsp x (by rw [e];exact List.mem_append_left _ hx)
  obtain ⟨n,hn⟩:=h3
  exact ⟨n,DataW.trod_carry n _ _ _ hn fun x hx=>hs x (by rw [e];exact List.mem_append_left _ hx)⟩
theorem zO {H:Type} {enc:TypeId × Value→H} {f:FuncId} {fn:Func} {s:ChangeSpec} {tb:TypeId} (hl:laidOutB P=true) (hz:∀ t e,t < P.types.size→P.underlying t=some (.slice e)→0 < P.cellsOf e) (hr:∀ t ∈ fn.params.toList,P.readableRec t=true∧t < P.types.size)
  (hrt:fn.resultTypes=#[tb]) (htb:P.underlying tb=some .bool) (hv:s.vars=[]) {W:World} {args:Array Value} {ds gs:List (DataW H)} {before:List MemPlace} (hW:DataW.Whole enc P fn.params.toList s.vars false W args.toList ds gs before)
  (hfn:s.fn H ds={ results:=[.lit (.bool true)],args:=ds }) {avs:List AV} (ha:VRs (cW P.globals.size W) avs args) (hcall:ah P f avs (Oid.under (.root P.globals.size)) ⟨[],.bool true,[]⟩) (hLaid:Laid.facts P (cW P.globals.size W)) :
  Calls P f args W fun e W'=>∃ v,e = .returned v∧s.post enc P fn false true false false W args v W':=by
 refine (hcall.calls ⟨P.globals.size,cW P.globals.size W,W,fun _=>False,.root P.globals.size,none⟩ _ args W Mem.emp (uq _ _) (fun q hq=>by cases hq) ha (fun i hi=>⟨?_,hi⟩) ⟨Nat.le_refl _,hLaid⟩).mono ?_
 ·cases i with
  | root k =>
   simp only [Oid.under,Oid.root.injEq] at hi
   subst hi
   simp [cW]
  | sub=>rfl
  | ty=>rfl
 rintro en W' ⟨g',v,rfl,hle,hloc,hvr,hm⟩
 obtain rfl:=hvr.bZ
 refine ⟨_,rfl,?_⟩
 have hW0:=hW
 obtain ⟨p,q,hA,hV,rfl,hfz,hnd⟩:=hW
 rw [hv] at hV
 obtain ⟨rfl,rfl⟩:=trodVars_none hV
 rw [List.append_nil] at hW0 hfz
 have hsame:∀ p' ∈ p,W.sameAt W' p':=fun p' hp'=>by
  have hlt:=hW0.lt p' hp'
  have hh:=hm.kept p'.block hlt (fun h=>h)
  cases p' with
  | cell b o=>simp only [World.sameAt,World.cell?];simp only [MemPlace.block] at hh;rw [hh]
  | map b=>exact hh
 have hargs:∀ sp:Nat→Bool,(∀ p' ∈ p,sp p'.block=true)→DataW.TrodAll enc P W' 0 sp true fn.params.toList args.toList ds p:=fun sp hsp=>j0 hl hz hr hA hsame hsp
 have hres:∀ (b:Nat) (sp:Nat→Bool) (hd:Bool),DataW.TrodAll enc P W' b sp hd fn.resultTypes.toList ((Value.bool true).resultList fn.resultTypes.size) [.lit (.bool true)] []:=by
  intro b sp hd
  rw [hrt]
  exact ⟨[],[],RowKit.shut_bool htb _,rfl,rfl⟩
 have hold:∀ p' ∈ p,(fun b=>decide (b < W.heap.size)) p'.block=true:=fun p' hp'=>by simpa using hW0.lt p' hp'
 refine ⟨ds,[],p,[],p,[],hW0,by rw [List.append_nil,hfn];exact hres _ _ _,by rw [List.append_nil,hfn];exact hargs _ hold,by rw [hv,List.append_nil,hfn];exact rfl,?_,fun h=>by cases h⟩
 exact World.keptBut_mono (fun p' hp'=>hp'.elim) (may:=fun _=>False) ⟨hm.os,hm.output.1,fun i hi=>by
  have hk:W'.heap[i]? = W.heap[i]? := hm.kept i hi (fun h=>h)
  rw [hk]
  exact (World.keptBut_refl W (fun _=>False)).2.2 i hi⟩
structure RdA (P:Program) (ts:List TypeId) {β:Type} (B:β→List AV) (W:β→Prop):Prop where
 rd:∀ {H:Type} {enc:TypeId × Value→H} {w:World} {ng base b0:Nat} {r:Reach} {vs:List Value} {ds:List (DataW H)} {ps:List MemPlace},(∀ (j:Nat) t v,ts[j]? = some t→vs[j]? = some v→Value.okWide P w r base t v) →
  DataW.TrodAll enc P w b0 (fun _=>true) true ts vs ds ps→(∀ n ∈ DataW.weightsEach P ts ds,n≤reachBytes)→∃ b,W b∧vs.length=(B b).length∧∀ j,j < vs.length→VR (cW ng w) ((B b).getD j .undef) (vs.getD j undef)
theorem okWide_slice {w:World} {r:Reach} {base:Nat} {e:TypeId} {v:Value} (ht:P.underlying t=some (.slice e)) (h:Value.okWide P w r base t v):v.oneCell' = true:=by
 simp only [Value.okWide,ht,Cell.okWide,Cell.ok] at h
 cases v<;>first|rfl|exact h.elim
theorem okWide_int {w:World} {r:Reach} {base:Nat} {k:IntKind} {v:Value} (ht:P.underlying t=some (.int k)) (h:Value.okWide P w r base t v):v.oneCell' = true:=by
 simp only [Value.okWide,ht,Cell.okWide,Cell.ok] at h
 cases v<;>first|rfl|exact h.elim
theorem okWide_struct {w:World} {r:Reach} {base:Nat} {fs:Array Field} {v:Value} (ht:P.underlying t=some (.struct fs)) (h:Value.okWide P w r base t v):∃ cs,v = .agg cs:=by
 simp only [Value.okWide,ht] at h
 obtain ⟨cs,h,_⟩:=h
 exact ⟨cs,h⟩
theorem rdA_nil:RdA P [] (fun _:Unit=>[]) (fun _=>True):=⟨fun {H enc w ng base b0 r vs ds ps} _ h _=>by
 obtain ⟨rfl,rfl,rfl⟩:=trodAll_nil h
 exact ⟨(),trivial,rfl,fun j hj=>absurd hj (Nat.not_lt_zero _)⟩⟩
theorem nU {ts:List TypeId} {B:β→List AV} {W:β→Prop} (k:∀ {H:Type} {enc:TypeId × Value→H} {w:World} {ng base b0:Nat} {r:Reach} {v:Value} {d:DataW H} {ps:List MemPlace},Value.okWide P w r base t v →
  DataW.Trod enc P w b0 (fun _=>true) true t v d ps→(∀ n ∈ d.weights P t,n≤reachBytes)→∃ a,V a∧VR (cW ng w) (A a) v) (hB:RdA P ts B W):RdA P (t::ts) (fun p:α × β=>A p.1::B p.2) (fun p=>V p.1∧W p.2) :=
 ⟨fun {H enc w ng base b0 r vs ds ps} hok h hw=>by
  obtain ⟨v,vs',d,ds',p,q,rfl,rfl,rfl,h1,h2⟩:=trodAll_cons h
  simp only [DataW.weightsEach,List.mem_append] at hw
  obtain ⟨a,k1,k2⟩:=k (ng:=ng) (hok 0 t v rfl rfl) h1 fun n hn=>hw n (.inl hn)
  obtain ⟨b,k3,k4,k5⟩:=hB.rd (ng:=ng) (fun j t v ht hv=>hok (j+1) t v ht hv) h2 fun n hn=>hw n (.inr hn)
  refine ⟨(a,b),⟨k1,k3⟩,by simp [k4],fun j hj=>?_⟩
  cases j with
  | zero=>exact k2
  | succ j=>simpa using k5 j (by simpa using hj)⟩
theorem rdA_slice {ts:List TypeId} {B:β→List AV} {W:β→Prop} {e:TypeId} (ht:P.underlying t=some (.slice e)) (hc:P.cellsOf t=1) (hA1:∀ a,(A a).cells=[A a]) (hA:Rd P t A V) (hB:RdA P ts B W):RdA P (t::ts) (fun p:α × β=>A p.1::B p.2) (fun p=>V p.1∧W p.2) :=
 nU (fun hok hd hw=>hA.vI hc (okWide_slice ht hok) (fun a _=>hA1 a) hd hw) hB
theorem rdA_int {ts:List TypeId} {B:β→List AV} {W:β→Prop} {k:IntKind} (ht:P.underlying t=some (.int k)) (hc:P.cellsOf t=1) (hA1:∀ a,(A a).cells=[A a]) (hA:Rd P t A V) (hB:RdA P ts B W):RdA P (t::ts) (fun p:α × β=>A p.1::B p.2) (fun p=>V p.1∧W p.2) :=
 nU (fun hok hd hw=>hA.vI hc (okWide_int ht hok) (fun a _=>hA1 a) hd hw) hB
theorem rdA_struct {ts:List TypeId} {B:β→List AV} {W:β→Prop} {fs:Array Field} {D:α→List AV} (ht:P.underlying t=some (.struct fs)) (hA1:∀ a,A a = .agg (D a)) (hA:Rd P t A V) (hB:RdA P ts B W):RdA P (t::ts) (fun p:α × β=>A p.1::B p.2) (fun p=>V p.1∧W p.2) :=
 nU (fun hok hd hw=>by
  obtain ⟨cs,rfl⟩:=okWide_struct ht hok
  have e:A=fun a=>.agg (D a):=funext hA1
  subst e
  exact Rd.Co hA hd hw) hB
theorem jj {H:Type} {enc:TypeId × Value→H} {w:World} {base:Nat} {sp:Nat→Bool} {held:Bool}:∀ {ts:List TypeId} {vs:List Value} {ds:List (DataW H)} {ps:List MemPlace},DataW.TrodAll enc P w base sp held ts vs ds ps→ds.length=ts.length
 | [],[],[],_,_=>rfl
 | _::_,_::_,_::_,_,⟨_,_,_,h,_⟩=>by simp [jj h]
end
end Go.Ab
namespace Go.Ab
attribute [go_sem] Nat.reduceEqDiff Nat.reduceAdd Nat.reduceMul Nat.reduceLT Nat.reduceLeDiff reduceCtorEq Nat.reduceBEq Int.reduceToNat Int.reduceNeg
attribute [go_sem ↓] reduceIte
theorem zb1 {p:Prop} [Decidable p]:(decide p=true)=p:=decide_eq_true_eq
theorem zb2 {p:Prop} [Decidable p]:(decide p=false)=¬ p:=propext decide_eq_false_iff_not
theorem zb3 (b:Bool):((!b)=true)=(b=false):=Bool.not_eq_true' b
theorem zb4 (b:Bool):((!b)=false)=(b=true):=Bool.not_eq_false' b
theorem zb5 (a b:Bool):((a && b)=true)=(a=true∧b=true):=Bool.and_eq_true a b
inductive Ps where
 | at (c:Code)
 | nrm
 | ex (i:Nat)
@[irreducible] def zP (P:Prop):Prop:=P
theorem zl {p:Prop} (h:p):zP p:=by unfold zP;exact h
theorem Cp {p:Prop} (h:zP p):p:=by unfold zP at h;exact h
inductive Stp (P:Program) (x:Ctx) (n:Nat) (Q:AX→AS→Prop):Bool→Bool→Ps→List Pc→AS→Prop
 | seq {u v} {a b:Code} {ks s}:Stp P x n Q u true (.at a) (.code b::ks) s→Stp P x n Q u v (.at (.seq a b)) ks s
 | skip {u v ks s}:Stp P x n Q u true .nrm ks s→Stp P x n Q u v (.at .skip) ks s
 | block {v i a ks s}:Stp P x n Q true true (.at a) (.bend i::ks) s→Stp P x n Q true v (.at (.block i a)) ks s
 | exit {u v i ks s}:Stp P x n Q u true (.ex i) ks s→Stp P x n Q u v (.at (.exit i)) ks s
 | next {u v a ks s}:Stp P x n Q u true (.at a) ks s→Stp P x n Q u v .nrm (.code a::ks) s
 | bend {u v i ks s}:Stp P x n Q u true .nrm ks s→Stp P x n Q u v .nrm (.bend i::ks) s
 | lend {u v ts I k ks fr m c ds}:zP (∃ k' m',k' < k∧(∀ i o,m' i=some o→m i=some o)∧I k' ⟨cJ ts fr,m',c,ds⟩)→Stp P x n Q u v .nrm (.lend ts I k::ks) ⟨fr,m,c,ds⟩
 | xcode {u v a i ks s}:Stp P x n Q u true (.ex i) ks s→Stp P x n Q u v (.ex i) (.code a::ks) s
 | xlend {u v ts I k i ks s}:Stp P x n Q u true (.ex i) ks s→Stp P x n Q u v (.ex i) (.lend ts I k::ks) s
 | xhere {u v i ks s}:Stp P x n Q u true .nrm ks s→Stp P x n Q u v (.ex i) (.bend i::ks) s
 | xon {u v i j ks s}:Nat.beq i j=false→Stp P x n Q u true (.ex i) ks s→Stp P x n Q u v (.ex i) (.bend j::ks) s
 | ofT {u c ks s}:T P x n c s (after P x n Q ks)→Stp P x n Q u true (.at c) ks s
 | ofN {u ks s}:after P x n Q ks .normal s→Stp P x n Q u true .nrm ks s
 | ofX {u i ks s}:after P x n Q ks (.exit i) s→Stp P x n Q u true (.ex i) ks s
def GQ (P:Program) (x:Ctx) (n:Nat) (Q:AX→AS→Prop):Ps→List Pc→AS→Prop
 | .at c,ks,s=>T P x n c s (after P x n Q ks)
 | .nrm,ks,s=>after P x n Q ks .normal s
 | .ex i,ks,s=>after P x n Q ks (.exit i) s
theorem Stp.ok {P:Program} [Laid P] {x:Ctx} {n:Nat} {Q:AX→AS→Prop} {p:Ps} {ks:List Pc} {s:AS} {u v:Bool} (h:Stp P x n Q u v p ks s):GQ P x n Q p ks s:=by
 induction h with
 | seq _ ih=>exact nP ih
 | skip _ ih=>exact Et ih
 | block _ ih=>exact gM ih
 | exit _ ih=>exact Eu ih
 | next _ ih=>exact ih
 | bend _ ih=>exact ih
 | lend h=>exact Cp h
 | xcode _ ih=>exact ih
 | xlend _ ih=>exact ih
 | xhere _ ih=>exact Es ih
 | xon hb _ ih=>exact GO hb ih
 | ofT h=>exact h
 | ofN h=>exact h
 | ofX h=>exact h
section
variable {P:Program} [Laid P] {x:Ctx} {n:Nat} {Q:AX→AS→Prop} {ks:List Pc} {s:AS}
theorem zk {c:Code} (h:Stp P x n Q true false (.at c) ks s):T P x n c s (after P x n Q ks):=h.ok
theorem zn (h:Stp P x n Q true false .nrm ks s):after P x n Q ks .normal s:=h.ok
theorem ze {i:Nat} (h:Stp P x n Q true false (.ex i) ks s):after P x n Q ks (.exit i) s:=h.ok
theorem zu {c:Code} (h:Stp P x n Q false false (.at c) ks s):T P x n c s (after P x n Q ks):=h.ok
theorem zv (h:Stp P x n Q false false .nrm ks s):after P x n Q ks .normal s:=h.ok
theorem zw {i:Nat} (h:Stp P x n Q false false (.ex i) ks s):after P x n Q ks (.exit i) s:=h.ok
end
end Go.Ab
namespace Go.Ab
structure gb (q:Prop):Prop where
 out:q
theorem ai {a b:Prop} (h:a) (k:b):a∧b:=⟨h,k⟩
structure CC (a b:Prop):Prop where
 a:a
 b:b
theorem cq {a b:Prop} (h:a) (k:b):CC a b:=⟨h,k⟩
structure HD (U gl:List (Nat × Nat)) (ts:List Nat):Prop where
theorem HD.o:HD [] [] []:=⟨⟩
theorem HD.d (U gl:List (Nat × Nat)) (ts:List Nat):HD U gl ts:=⟨⟩
theorem uu {p q:Oid} (h:¬ Oid.under p q):(∀ c i,(q=Oid.sub c i p)=False)∧∀ c i,(Oid.sub c i p=q)=False:=⟨Oid.ab h,Oid.aa h⟩
section
variable {P:Program} [Laid P] {x:Ctx} {n:Nat} {Q:AX→AS→Prop} {ks:List Pc} {s:AS} {fr:List (Nat × AV)} {m:Mem} {c:Nat} {ds:List AD} {id:Nat} {ops:Array Oper}
theorem qS {U gl:List (Nat × Nat)} {ts:List Nat} (_:HD U gl ts) (hmx:P.follows .mixedOrders=true) (hng:Fit P x) (hok:(yY n P.globals.size ops U && o7 ops gl)=true):type_of% (cV (P:=P) (x:=x) (n:=n) (Q:=Q) (ks:=ks) (fr:=fr) (m:=m) (c:=c) (ds:=ds) (id:=id) (ops:=ops) nmd gl U hmx hng hok ts):=cV nmd gl U hmx hng hok ts
theorem vJ {U gl:List (Nat × Nat)} {ts:List Nat} (_:HD U gl ts) (hng:Fit P x) (hok:(DV n P.globals.size ops && o7 ops gl)=true):type_of% (ar (P:=P) (x:=x) (n:=n) (Q:=Q) (ks:=ks) (fr:=fr) (m:=m) (c:=c) (ds:=ds) (id:=id) (ops:=ops) nmd gl hng hok):=ar nmd gl hng hok
end
theorem qs {p e:Prop} (e1:e) (h:e→p:=by intro e;simp (disch:=first|omega|assumption) only [go_sem,eq_self,decide_true,decide_false,ne_eq,not_true_eq_false,not_false_eq_true,e];done):p:=h e1
theorem qs0 {p:Prop} (h:p:=by simp (disch:=first|omega|assumption) only [go_sem,eq_self,decide_true,decide_false,ne_eq,not_true_eq_false,not_false_eq_true];done):p:=h
theorem qt {p q e:Prop} (e1:e) (k:q) (h:e→gb q→p:=by intro e k;simp (disch:=first|omega|assumption) only [go_sem,eq_self,decide_true,decide_false,ne_eq,not_true_eq_false,not_false_eq_true,e];exact k.out):p:=h e1 ⟨k⟩
theorem qt0 {p q:Prop} (k:q) (h:gb q→p:=by intro k;simp (disch:=first|omega|assumption) only [go_sem,eq_self,decide_true,decide_false,ne_eq,not_true_eq_false,not_false_eq_true];exact k.out):p:=h ⟨k⟩
theorem qv {p q:Prop} (k:q) (h:gb q→p:=by intro k;(first|refine zn ?_|refine ze ?_|refine zk ?_);with_reducible (constructor;repeat constructor);(try refine zl ?_);exact k.out):p:=h ⟨k⟩
theorem qn {p e:Prop} (e1:e) (h:e→p:=by intro e;first|(intro _ h;cases h;done)|exact qs e|exact nbu _|(refine nbA ?_ _;simp [hpN,hO.mem];done)|(simp only [List.mem_cons,forall_eq_or_imp];refine ⟨qs e,?_⟩;first|exact nbu _|(refine nbA ?_ _;simp [hpN,hO.mem];done))):p:=h e1
theorem qm {p c:Prop} (c1:c) (h:c→p:=by intro c;first|exact c|exact c (aw rfl hp)|exact c _ (aw rfl hp) (fun h=>hpp (Oid.ae h)) (hO.sub _ _)|exact c _ (aw rfl hp) (hO.sub _ _)):p:=h c1
theorem qr {p q e c:Prop} {U gl:List (Nat × Nat)} {ts:List Nat} (g:HD U gl ts) (e1:e) (c1:c) (k:q) (h:HD U gl ts→e→c→gb q→p:=by
  intro g e c k;(try refine qv ?_)
  refine vJ g hng (by kernel_rfl) fun hf C S K hC1 hC hS hK=>?_;refine qt e ?_
  repeat (obtain ⟨c1,c⟩:CC _ _:=c;refine hC1 _ (qm c1) (qn e) ?_;refine qt e ?_)
  refine hK ?_;clear hK hS hC hC1 K S C hf;(try refine qv ?_)
  exact k.out):p:=h g e1 c1 ⟨k⟩
theorem qd {p q e c:Prop} {U gl:List (Nat × Nat)} {ts:List Nat} (g:HD U gl ts) (e1:e) (c1:c) (k:q) (h:HD U gl ts→e→c→gb q→p:=by
  intro g e c k;(try refine qv ?_)
  refine qS g mixed hng (by kernel_rfl) fun hf C S K hC hS hK=>?_;refine qt e ?_
  repeat (obtain ⟨c1,c⟩:CC _ _:=c;refine hC _ (qm c1) (qn e) ?_;refine qt e ?_)
  (first|refine hK (aT rfl) ?_|refine hK (by simp (disch:=first|omega|assumption) only [go_sem,List.reverse_cons,List.reverse_nil,ne_eq,not_false_eq_true,implies_true]) ?_);clear hK hS hC K S C hf;(try refine qv ?_)
  exact k.out):p:=h g e1 c1 ⟨k⟩
theorem qw {p q e:Prop} (e1:e) (k:q) (h:e→gb q→p:=by
  intro e k
  repeat (first|refine aA rfl rfl ?_|refine az rfl rfl ?_|(refine ar nmd [] hng (by kernel_rfl) fun hf C S K hC1 hC hS hK=>?_;refine qt e ?_;refine hK ?_;clear hK hS hC hC1 K S C hf)|refine qv ?_)
  exact k.out):p:=h e1 ⟨k⟩
theorem qw0 {p q:Prop} (k:q) (h:gb q→p:=by
  intro k
  repeat (first|refine aA rfl rfl ?_|refine az rfl rfl ?_|(refine ar nmd [] hng (by kernel_rfl) fun hf C S K hC1 hC hS hK=>?_;refine qt0 ?_;refine hK ?_;clear hK hS hC hC1 K S C hf)|refine qv ?_)
  exact k.out):p:=h ⟨k⟩
theorem qr0 {p q:Prop} (k:q) (h:gb q→p:=by intro k;refine qr .o trivial trivial ?_;exact k.out):p:=h ⟨k⟩
theorem qr1 {p q c:Prop} (c1:c) (k:q) (h:c→gb q→p:=by intro c k;refine qr .o trivial (cq c trivial) ?_;exact k.out):p:=h c1 ⟨k⟩
end Go.Ab
namespace Go.Ab
open Go.RowKit
theorem sM {p q:Oid} (h:Oid.under p q) (hq:q.mono=false):p.mono=false:=by
 cases hp:p.mono with
 | false=>rfl
 | true=>rw [Oid.nb h hp] at hq;cases hq
theorem ax.below {x:Ctx} {g:Gh} {m:Mem} {w w':World} (h:ax x g m w) (hb:Below w.heap.size w w') (hp:x.p.mono=false):ax x g m w' where
 le:=h.le
 locs:=h.locs
 glob:=h.glob
 coms:=h.coms
 obj0 i o hi:=(h.obj0 i o hi).imp id fun ⟨b,h1,h2,h3,h4⟩=>⟨b,h1,h2,h3,cO.block (hb.block b h4.lt) h4⟩
 inj:=h.inj
 com b o v hv:=by
  have h1:=h.com b o v hv
  have hlt:b < w.heap.size:=by
   rcases Nat.lt_or_ge b w.heap.size with h2|h2
   ·exact h2
   ·simp [World.cell?,Array.getElem?_eq_none h2] at h1
  simp only [World.cell?] at h1 ⊢
  rw [hb.block b hlt];exact h1
 one:=h.one
 rows b r hr:=by
  obtain ⟨c,t,fz,h1,h2⟩:=h.rows b r hr
  exact ⟨c,t,fz,by rw [hb.block b (Array.getElem?_eq_some_iff.1 h1).1];exact h1,h2⟩
 os:=hb.os.trans h.os
 tape:=hb.tape.trans h.tape
 output:=⟨hb.output.trans h.output.1,fun hm=>by rw [hp] at hm;cases hm⟩
 size:=Nat.le_trans h.size hb.size
 kept b hlt hm:=(hb.block b (Nat.lt_of_lt_of_le hlt h.size)).trans (h.kept b hlt hm)
 typs t q b hl:=(h.typs t q b hl).imp fun c ⟨fz,h1⟩=>⟨fz,by rw [hb.block b (Array.getElem?_eq_some_iff.1 h1).1];exact h1⟩
structure lH (P:Program) [Laid P] (g:Gh) (w:World):Prop where
 com:∀ b o v,g.com b o=some v→w.cell? ⟨b,o,none⟩=some v
 rows:∀ b r,g.row b=some r→∃ c t fz,w.heap[b]? = some (.cells c t fz)∧c.size=r
 glob:∀ k,k < P.globals.size→g.loc (.root k)=some (some k)
 facts:Laid.facts P g
theorem ax.told {P:Program} [Laid P] {x:Ctx} {g:Gh} {m:Mem} {w:World} (h:ax x g m w) (hx:Fit P x):lH P g w :=
 ⟨h.com,h.rows,fun k hk=>h.glob k (Nat.lt_of_lt_of_le hk hx.1),Laid.mono h.le hx.2⟩
theorem qT {P:Program} [Laid P] {f:FuncId} {xs:List AV} {p:Oid} {val:AV} (he:cE P f=true) (hp:p.mono=false)
  (h:∀ (g:Gh) (args:Array Value) (w:World),VRs g xs args→lH P g w→Calls P f args w fun en w'=>∃ v,en = .returned v∧VR g val v∧Below w.heap.size w w'):ah P f xs (Oid.under p) ⟨[],val,[]⟩ :=
 ⟨he,fun x g args w m hm _ ha hs hx=>(h g args w ha (hm.told hx)).mono fun _ _ ⟨v,h1,h2,h3⟩=>⟨g,v,h1,Gh.le_refl g,fun _ _=>rfl,h2,hm.below h3 (sM (hs p (Oid.aq p)).2 hp)⟩⟩
theorem gN {P:Program} [Laid P] {f:FuncId} {xs:List AV} {sp:Oid→Prop} {val:AV} (he:cE P f=true)
  (h:∀ (g:Gh) (args:Array Value) (w:World),VRs g xs args→lH P g w→Calls P f args w fun en w'=>∃ v,en = .returned v∧VR g val v∧w' = w):ah P f xs sp ⟨[],val,[]⟩ :=
 ⟨he,fun x g args w m hm _ ha hs hx=>(h g args w ha (hm.told hx)).mono fun _ _ ⟨v,h1,h2,h3⟩=>⟨g,v,h1,Gh.le_refl g,fun _ _=>rfl,h2,by rw [h3];exact hm⟩⟩
theorem VRs.one {g:Gh} {x:AV} {args:Array Value} (h:VRs g [x] args):∃ v,args=#[v]∧VR g x v:=by
 obtain ⟨h1,h2⟩:=h
 refine ⟨args.getD 0 undef,?_,h2 0 (by simp)⟩
 apply Array.ext
 ·rw [h1];rfl
 ·intro i hi hj
  obtain rfl:i=0:=by simp at h1;omega
  simp [Array.getD_eq_getD_getElem?,Array.getElem?_eq_getElem hi]
theorem VRs.two {g:Gh} {x y:AV} {args:Array Value} (h:VRs g [x,y] args):∃ v u,args=#[v,u]∧VR g x v∧VR g y u:=by
 obtain ⟨h1,h2⟩:=h
 refine ⟨args.getD 0 undef,args.getD 1 undef,?_,h2 0 (by simp),h2 1 (by simp)⟩
 apply Array.ext
 ·rw [h1];rfl
 ·intro i hi hj
  have:i < 2:=by simpa using hj
  rcases i with _|_|i
  ·simp [Array.getD_eq_getD_getElem?,Array.getElem?_eq_getElem hi]
  ·simp [Array.getD_eq_getD_getElem?,Array.getElem?_eq_getElem hi]
  ·omega
end Go.Ab
namespace Go.Proofs.YtmoaidkglldhcaaGreatDoor
open Go Go.Ab
theorem Gi:tyk Tryz.prog 3=some (TyK.int .i64):=by kernel_rfl
theorem Gj:shp Tryz.prog 3=some (false,1):=by kernel_rfl
theorem Gk:zer Tryz.prog 3=some [(AV.int .i64 0)]:=by kernel_rfl
theorem Gl:tyk Tryz.prog 4=some TyK.bool:=by kernel_rfl
theorem Gm:shp Tryz.prog 4=some (false,1):=by kernel_rfl
theorem Gn:tyk Tryz.prog 5=some (TyK.int .u8):=by kernel_rfl
theorem Gp:shp Tryz.prog 5=some (false,1):=by kernel_rfl
theorem Gq:zer Tryz.prog 5=some [(AV.int .u8 0)]:=by kernel_rfl
theorem Gr:tyk Tryz.prog 9=some TyK.str:=by kernel_rfl
theorem Gs:shp Tryz.prog 9=some (false,1):=by kernel_rfl
theorem Gt:zer Tryz.prog 9=some [(AV.str [])]:=by kernel_rfl
theorem Gu:dZ Tryz.prog 9=false:=by kernel_rfl
theorem EC:tyk Tryz.prog 20=some (TyK.iface 0):=by kernel_rfl
theorem ED:tyk Tryz.prog 23=some (TyK.ptr 32):=by kernel_rfl
theorem EE:tyk Tryz.prog 25=some (TyK.slice 9 false 1 16):=by kernel_rfl
theorem EF:shp Tryz.prog 25=some (false,1):=by kernel_rfl
theorem EH:dZ Tryz.prog 25=false:=by kernel_rfl
theorem EI:tyk Tryz.prog 26=some (TyK.int .i64):=by kernel_rfl
theorem EJ:shp Tryz.prog 26=some (false,1):=by kernel_rfl
theorem EL:zer Tryz.prog 26=some [(AV.int .i64 0)]:=by kernel_rfl
theorem EM:dZ Tryz.prog 26=false:=by kernel_rfl
theorem EN:tyk Tryz.prog 27=some (TyK.ptr 96):=by kernel_rfl
theorem EO:shp Tryz.prog 27=some (false,1):=by kernel_rfl
theorem EP:dZ Tryz.prog 27=false:=by kernel_rfl
theorem ER:tyk Tryz.prog 28=some (TyK.ptr 84):=by kernel_rfl
theorem ES:shp Tryz.prog 28=some (false,1):=by kernel_rfl
theorem ET:shp Tryz.prog 29=some (false,1):=by kernel_rfl
theorem EU:shp Tryz.prog 30=some (false,1):=by kernel_rfl
theorem EV:tyk Tryz.prog 32=some (TyK.struct [(0,(false,1)),(1,(false,1)),(2,(false,1)),(3,(false,1))]):=by kernel_rfl
theorem EW:zer Tryz.prog 32=some [AV.nilPtr,AV.nilPtr,AV.nilPtr,AV.nilPtr]:=by kernel_rfl
theorem EX:dZ Tryz.prog 32=false:=by kernel_rfl
theorem zQ:bp Tryz.prog 32 0=some (0,false,1):=by kernel_rfl
theorem zR:bp Tryz.prog 32 1=some (1,false,1):=by kernel_rfl
theorem zS:bp Tryz.prog 32 2=some (2,false,1):=by kernel_rfl
theorem zT:bp Tryz.prog 32 3=some (3,false,1):=by kernel_rfl
theorem EY:tyk Tryz.prog 39=some (TyK.slice 41 true 5 24):=by kernel_rfl
theorem EZ:shp Tryz.prog 41=some (true,5):=by kernel_rfl
theorem E0:dZ Tryz.prog 41=false:=by kernel_rfl
theorem zU:bp Tryz.prog 41 0=some (0,false,1):=by kernel_rfl
theorem zV:bp Tryz.prog 41 1=some (1,false,1):=by kernel_rfl
theorem zW:bp Tryz.prog 41 2=some (2,false,1):=by kernel_rfl
theorem zX:bp Tryz.prog 41 3=some (3,false,1):=by kernel_rfl
theorem zY:bp Tryz.prog 41 4=some (4,false,1):=by kernel_rfl
theorem E3:tyk Tryz.prog 50=some (TyK.struct [(0,(false,1)),(1,(false,1)),(2,(false,1))]):=by kernel_rfl
theorem E4:shp Tryz.prog 50=some (true,3):=by kernel_rfl
theorem E5:zer Tryz.prog 50=some [(AV.int .i64 0),(AV.int .i64 0),(AV.str [])]:=by kernel_rfl
theorem E6:dZ Tryz.prog 50=false:=by kernel_rfl
theorem E7:fE Tryz.prog 10 50=some [(TyS.si .i64),(TyS.si .i64),TyS.ss]:=by kernel_rfl
theorem E8:Tryz.prog.eqGuardType Tryz.prog.depth 50=false:=by kernel_rfl
theorem zZ:bp Tryz.prog 50 0=some (0,false,1):=by kernel_rfl
theorem z6:bp Tryz.prog 50 1=some (1,false,1):=by kernel_rfl
theorem z8:bp Tryz.prog 50 2=some (2,false,1):=by kernel_rfl
theorem E9:tyk Tryz.prog 55=some (TyK.slice 5 false 1 1):=by kernel_rfl
theorem Fa:shp Tryz.prog 55=some (false,1):=by kernel_rfl
theorem Fb:tyk Tryz.prog 59=some (TyK.slice 115 true 3 40):=by kernel_rfl
theorem Fe:shp Tryz.prog 59=some (false,1):=by kernel_rfl
theorem Ff:tyk Tryz.prog 84=some (TyK.struct [(0,(false,1)),(1,(false,1)),(2,(false,1))]):=by kernel_rfl
theorem Fg:zer Tryz.prog 84=some [AV.nilPtr,(AV.str []),(AV.int .i64 0)]:=by kernel_rfl
theorem Fh:dZ Tryz.prog 84=false:=by kernel_rfl
theorem Aa:bp Tryz.prog 84 0=some (0,false,1):=by kernel_rfl
theorem Ac:bp Tryz.prog 84 1=some (1,false,1):=by kernel_rfl
theorem Ad:bp Tryz.prog 84 2=some (2,false,1):=by kernel_rfl
theorem Fi:tyk Tryz.prog 86=some (TyK.struct [(0,(false,1)),(1,(false,1)),(2,(false,1))]):=by kernel_rfl
theorem Fj:zer Tryz.prog 86=some [AV.nilPtr,(AV.str []),(AV.int .i64 0)]:=by kernel_rfl
theorem Fk:dZ Tryz.prog 86=false:=by kernel_rfl
theorem Ae:bp Tryz.prog 86 0=some (0,false,1):=by kernel_rfl
theorem Af:bp Tryz.prog 86 1=some (1,false,1):=by kernel_rfl
theorem Ag:bp Tryz.prog 86 2=some (2,false,1):=by kernel_rfl
theorem Fl:tyk Tryz.prog 93=some (TyK.map 9 50):=by kernel_rfl
theorem Fm:shp Tryz.prog 93=some (false,1):=by kernel_rfl
theorem Fo:dZ Tryz.prog 93=false:=by kernel_rfl
theorem Fp:qG Tryz.prog 93=some ([TyS.ss],(false,(AV.agg [(AV.int .i64 0),(AV.int .i64 0),(AV.str [])]))):=by kernel_rfl
theorem Fq:je Tryz.prog 93=some ([TyS.ss],false):=by kernel_rfl
theorem Fs:tyk Tryz.prog 94=some (TyK.ptr 113):=by kernel_rfl
theorem Ft:shp Tryz.prog 94=some (false,1):=by kernel_rfl
theorem Fu:tyk Tryz.prog 96=some (TyK.struct [(0,(false,1)),(1,(false,1))]):=by kernel_rfl
theorem Fv:zer Tryz.prog 96=some [AV.nilMap,AV.nilPtr]:=by kernel_rfl
theorem Fw:dZ Tryz.prog 96=false:=by kernel_rfl
theorem Ah:bp Tryz.prog 96 0=some (0,false,1):=by kernel_rfl
theorem Ai:bp Tryz.prog 96 1=some (1,false,1):=by kernel_rfl
theorem Fx:tyk Tryz.prog 97=some (TyK.slice 102 true 4 48):=by kernel_rfl
theorem Fy:shp Tryz.prog 97=some (false,1):=by kernel_rfl
theorem Fz:tyk Tryz.prog 99=some (TyK.struct [(0,(false,1)),(1,(false,1)),(2,(false,1)),(3,(false,1)),(4,(false,1))]):=by kernel_rfl
theorem FA:zer Tryz.prog 99=some [AV.nilSl,AV.nilSl,AV.nilSl,AV.nilSl,(AV.bool false)]:=by kernel_rfl
theorem FB:dZ Tryz.prog 99=false:=by kernel_rfl
theorem Aj:bp Tryz.prog 99 0=some (0,false,1):=by kernel_rfl
theorem Ak:bp Tryz.prog 99 1=some (1,false,1):=by kernel_rfl
theorem Al:bp Tryz.prog 99 2=some (2,false,1):=by kernel_rfl
theorem Am:bp Tryz.prog 99 3=some (3,false,1):=by kernel_rfl
theorem Ao:bp Tryz.prog 99 4=some (4,false,1):=by kernel_rfl
theorem Cq:tyk Tryz.prog 102=some (TyK.struct [(0,(false,1)),(1,(true,3))]):=by kernel_rfl
theorem Cr:shp Tryz.prog 102=some (true,4):=by kernel_rfl
theorem Ct:zer Tryz.prog 102=some [(AV.str []),(AV.int .i64 0),(AV.int .i64 0),(AV.str [])]:=by kernel_rfl
theorem w6:bp Tryz.prog 102 0=some (0,false,1):=by kernel_rfl
theorem w7:bp Tryz.prog 102 1=some (1,true,3):=by kernel_rfl
theorem Cu:tyk Tryz.prog 105=some (TyK.struct [(0,(false,1)),(1,(false,1))]):=by kernel_rfl
theorem Cv:shp Tryz.prog 105=some (true,2):=by kernel_rfl
theorem Cw:zer Tryz.prog 105=some [(AV.str []),(AV.bool false)]:=by kernel_rfl
theorem Cx:dZ Tryz.prog 105=false:=by kernel_rfl
theorem w9:bp Tryz.prog 105 0=some (0,false,1):=by kernel_rfl
theorem xa:bp Tryz.prog 105 1=some (1,false,1):=by kernel_rfl
theorem Cy:tyk Tryz.prog 110=some (TyK.map 105 9):=by kernel_rfl
theorem Cz:shp Tryz.prog 110=some (false,1):=by kernel_rfl
theorem CA:qG Tryz.prog 110=some ([TyS.ss,TyS.sb],(true,(AV.str []))):=by kernel_rfl
theorem CB:je Tryz.prog 110=some ([TyS.ss,TyS.sb],true):=by kernel_rfl
theorem CD:tyk Tryz.prog 111=some (TyK.map 9 4):=by kernel_rfl
theorem CE:shp Tryz.prog 111=some (false,1):=by kernel_rfl
theorem CF:dZ Tryz.prog 111=false:=by kernel_rfl
theorem CG:qG Tryz.prog 111=some ([TyS.ss],(false,(AV.bool false))):=by kernel_rfl
theorem CH:je Tryz.prog 111=some ([TyS.ss],false):=by kernel_rfl
theorem CI:tyk Tryz.prog 113=some (TyK.struct [(0,(false,1)),(1,(false,1)),(2,(false,1))]):=by kernel_rfl
theorem CJ:zer Tryz.prog 113=some [AV.nilMap,AV.nilMap,AV.nilMap]:=by kernel_rfl
theorem CK:dZ Tryz.prog 113=false:=by kernel_rfl
theorem xb:bp Tryz.prog 113 0=some (0,false,1):=by kernel_rfl
theorem xc:bp Tryz.prog 113 1=some (1,false,1):=by kernel_rfl
theorem xd:bp Tryz.prog 113 2=some (2,false,1):=by kernel_rfl
theorem CL:tyk Tryz.prog 115=some (TyK.struct [(0,(false,1)),(1,(false,1)),(2,(false,1))]):=by kernel_rfl
theorem CM:shp Tryz.prog 115=some (true,3):=by kernel_rfl
theorem CN:zer Tryz.prog 115=some [(AV.str []),(AV.bool false),(AV.str [])]:=by kernel_rfl
theorem CO:dZ Tryz.prog 115=false:=by kernel_rfl
theorem CP:fE Tryz.prog 10 115=some [TyS.ss,TyS.sb,TyS.ss]:=by kernel_rfl
theorem CQ:Tryz.prog.eqGuardType Tryz.prog.depth 115=false:=by kernel_rfl
theorem xe:bp Tryz.prog 115 0=some (0,false,1):=by kernel_rfl
theorem xf:bp Tryz.prog 115 1=some (1,false,1):=by kernel_rfl
theorem xg:bp Tryz.prog 115 2=some (2,false,1):=by kernel_rfl
theorem CR:tyk Tryz.prog 127=some (TyK.struct [(0,(false,1)),(1,(false,1)),(2,(false,1)),(3,(false,1)),(4,(false,1)),(5,(false,1))]):=by kernel_rfl
theorem CS:zer Tryz.prog 127=some [AV.nilPtr,(AV.str []),AV.nilSl,(AV.int .i64 0),(AV.bool false),(AV.bool false)]:=by kernel_rfl
theorem CT:dZ Tryz.prog 127=false:=by kernel_rfl
theorem xh:bp Tryz.prog 127 0=some (0,false,1):=by kernel_rfl
theorem xi:bp Tryz.prog 127 1=some (1,false,1):=by kernel_rfl
theorem xj:bp Tryz.prog 127 2=some (2,false,1):=by kernel_rfl
theorem xk:bp Tryz.prog 127 3=some (3,false,1):=by kernel_rfl
theorem xl:bp Tryz.prog 127 4=some (4,false,1):=by kernel_rfl
theorem xm:bp Tryz.prog 127 5=some (5,false,1):=by kernel_rfl
theorem CU:tyk Tryz.prog 136=some (TyK.int .u64):=by kernel_rfl
theorem CV:tyk Tryz.prog 162=some (TyK.slice 3 false 1 8):=by kernel_rfl
theorem CW:tyk Tryz.prog 167=some (TyK.struct [(0,(false,1)),(1,(false,1))]):=by kernel_rfl
theorem CX:zer Tryz.prog 167=some [AV.nilPtr,AV.nilSl]:=by kernel_rfl
theorem CY:dZ Tryz.prog 167=true:=by kernel_rfl
theorem xn:bp Tryz.prog 167 1=some (1,false,1):=by kernel_rfl
theorem CZ:tyk Tryz.prog 187=some (TyK.ptr 5):=by kernel_rfl
attribute [go_sem] Gi Gj Gk Gl Gm Gn Gp Gq
attribute [go_sem] Gr Gs Gt Gu
attribute [go_sem] EC
attribute [go_sem] ED EE EF EH EI EJ EL EM EN EO EP ER ES ET
attribute [go_sem] EU EV EW EX zQ zR zS zT
attribute [go_sem] EY EZ E0 zU zV zW zX zY
attribute [go_sem] E3 E4 E5 E6 E7 E8 zZ z6 z8
attribute [go_sem] E9 Fa Fb Fe
attribute [go_sem] Ff Fg Fh Aa Ac Ad Fi Fj Fk Ae Af Ag
attribute [go_sem] Fl Fm Fo Fp Fq Fs Ft Fu Fv Fw Ah Ai
attribute [go_sem] Fx Fy Fz FA FB Aj Ak Al Am Ao Cq Cr Ct
attribute [go_sem] w6 w7 Cu Cv Cw Cx w9 xa Cy Cz
attribute [go_sem] CA CB CD CE CF CG CH CI CJ CK xb xc xd CL CM CN CO CP CQ xe
attribute [go_sem] xf xg
attribute [go_sem] CR CS CT xh xi xj xk xl xm
attribute [go_sem] CU
attribute [go_sem] CV CW CX CY xn
attribute [go_sem] CZ
theorem mixed:Tryz.prog.follows .mixedOrders=true:=by kernel_rfl
end Go.Proofs.YtmoaidkglldhcaaGreatDoor
namespace Go.Proofs.YtmoaidkglldhcaaGreatDoor
open Go
set_option maxRecDepth 100000
set_option maxHeartbeats 1000000
theorem vK:((Tryz.prog.info? 167).map (·.size))=some 2:=by kernel_rfl
theorem C0:liesAt Tryz.prog Tryz.prog.depth 167 (2 / Tryz.prog.cellsOf 167) 0 167 1=true:=by kernel_rfl
theorem nV (b:Nat) (w:World) (h0:w.cell? ⟨b,0,none⟩=some (.pointer (some ⟨b,0,none⟩))) :
  Calls Tryz.prog 162 #[.pointer (some ⟨b,0,none⟩)] w fun e w'=>e = .returned (.tuple #[])∧w' = w:=by
 obtain ⟨j,hj,_⟩:=Option.map_eq_some_iff.1 vK
 go_enter Tryz.func162,Tryz.ntmps162
 go_wp2
 rw [Lib.run_neq_ptr_same w _ Tryz.underlying164 hj]
 go_wp2
 go_end0
 exact ⟨rfl,rfl⟩
theorem mF (b:Nat) (w:World) (h0:w.cell? ⟨b,0,none⟩=some (.pointer none)) (hsh:w.shape? b=some (167,2)) (hfz:w.frozen? ⟨b,0,none⟩=false) :
  Calls Tryz.prog 162 #[.pointer (some ⟨b,0,none⟩)] w fun e w'=>e = .returned (.tuple #[])∧w' = w.setCell ⟨b,0,none⟩ (.pointer (some ⟨b,0,none⟩)):=by
 obtain ⟨j,hj,hjs⟩:=Option.map_eq_some_iff.1 vK
 go_enter Tryz.func162,Tryz.ntmps162
 go_wp2
 rw [Lib.run_to_unsafe w ⟨b,0,none⟩ Tryz.underlying164 Tryz.underlying196 hj (by rw [hjs];decide) hsh (Nat.zero_lt_succ 1)]
 simp only [Result.andThen]
 rw [Oper.upon_value]
 go_wp2
 rw [run_callFunc_extern Tryz.func175 (by kernel_rfl) (by kernel_rfl) (by kernel_rfl) (e:=Extern.AbiNoEscape.same) (by kernel_rfl)]
 rw [Lib.run_noEscape]
 simp only [Result.andThen]
 rw [Oper.upon_value]
 go_wp2
 rw [Lib.run_from_unsafe w ⟨b,0,none⟩ Tryz.underlying196 Tryz.underlying164 hj hsh C0]
 simp only [Result.andThen]
 rw [Oper.upon_value]
 go_wp2
 go_end0
 exact ⟨rfl,rfl⟩
end Go.Proofs.YtmoaidkglldhcaaGreatDoor
namespace Go.Proofs
open Go.Shelf
def Tryz.qU:Go.Shelf.Ren:=⟨fun|171=>112|243=>142|246=>163|283=>176|284=>177|285=>178|286=>179|129=>135|317=>186|318=>187|319=>188|320=>189|337=>195|338=>196|n=>n,fun|3=>3|9=>9|2=>2|4=>4|171=>198|0=>0|53=>161|37=>55|5=>5|173=>200|212=>207|51=>159|20=>20|213=>208|46=>136|232=>215|233=>216|n=>n,fun|17=>1|18=>4|19=>5|n=>n⟩
theorem Tryz.Ap:Go.Proofs.LaysM.n171 Tryz.prog Tryz.qU:={
 mixed:=by kernel_rfl
 f129:=Tryz.func135.trans (congrArg some (by kernel_rfl))
 f171:=Tryz.func112.trans (congrArg some (by kernel_rfl))
 f243:=Tryz.func142.trans (congrArg some (by kernel_rfl))
 f246:=Tryz.func163.trans (congrArg some (by kernel_rfl))
 f283:=Tryz.func176.trans (congrArg some (by kernel_rfl))
 f284:=Tryz.func177.trans (congrArg some (by kernel_rfl))
 f285:=Tryz.func178.trans (congrArg some (by kernel_rfl))
 f286:=Tryz.func179.trans (congrArg some (by kernel_rfl))
 f317:=Tryz.func186.trans (congrArg some (by kernel_rfl))
 f318:=Tryz.func187.trans (congrArg some (by kernel_rfl))
 f319:=Tryz.func188.trans (congrArg some (by kernel_rfl))
 f320:=Tryz.func189.trans (congrArg some (by kernel_rfl))
 f337:=Tryz.func195.trans (congrArg some (by kernel_rfl))
 f338:=Tryz.func196.trans (congrArg some (by kernel_rfl))
 t0:=Tryz.underlying0
 a0:=Tryz.isAgg0
 z0:=Tryz.sizeOf0
 v0:=Tryz.zeroValue0
 t2:=Tryz.underlying2
 a2:=Tryz.isAgg2
 z2:=Tryz.sizeOf2
 v2:=Tryz.zeroValue2
 t3:=Tryz.underlying3
 a3:=Tryz.isAgg3
 z3:=Tryz.sizeOf3
 v3:=Tryz.zeroValue3
 t4:=Tryz.underlying4
 a4:=Tryz.isAgg4
 z4:=Tryz.sizeOf4
 v4:=Tryz.zeroValue4
 t5:=Tryz.underlying5
 a5:=Tryz.isAgg5
 z5:=Tryz.sizeOf5
 v5:=Tryz.zeroValue5
 t9:=Tryz.underlying9
 a9:=Tryz.isAgg9
 z9:=Tryz.sizeOf9
 v9:=Tryz.zeroValue9
 t20:=Tryz.underlying20
 a20:=Tryz.isAgg20
 z20:=Tryz.sizeOf20
 v20:=Tryz.zeroValue20
 t37:=Tryz.underlying55
 a37:=Tryz.isAgg55
 z37:=Tryz.sizeOf55
 v37:=Tryz.zeroValue55
 t46:=Tryz.underlying136
 a46:=Tryz.isAgg136
 z46:=Tryz.sizeOf136
 v46:=Tryz.zeroValue136
 t51:=Tryz.underlying159
 a51:=Tryz.isAgg159
 z51:=Tryz.sizeOf159
 v51:=Tryz.zeroValue159
 t53:=Tryz.underlying161
 a53:=Tryz.isAgg161
 z53:=Tryz.sizeOf161
 v53:=Tryz.zeroValue161
 t171:=Tryz.underlying198
 a171:=Tryz.isAgg198
 z171:=Tryz.sizeOf198
 v171:=Tryz.zeroValue198
 t173:=Tryz.underlying200
 a173:=Tryz.isAgg200
 z173:=Tryz.sizeOf200
 v173:=Tryz.zeroValue200
 t212:=Tryz.underlying207
 a212:=Tryz.isAgg207
 z212:=Tryz.sizeOf207
 v212:=Tryz.zeroValue207
 t213:=Tryz.underlying208
 a213:=Tryz.isAgg208
 z213:=Tryz.sizeOf208
 t232:=Tryz.underlying215
 a232:=Tryz.isAgg215
 z232:=Tryz.sizeOf215
 v232:=Tryz.zeroValue215
 t233:=Tryz.underlying216
 a233:=Tryz.isAgg216
 z233:=Tryz.sizeOf216
 v233:=Tryz.zeroValue216
 g17:=by kernel_rfl
 g18:=by kernel_rfl
 g19:=by kernel_rfl
 i0:=by kernel_rfl
 i2:=by kernel_rfl
 i3:=by kernel_rfl
 i4:=by kernel_rfl
 i5:=by kernel_rfl
 i9:=by kernel_rfl
 i20:=by kernel_rfl
 i37:=by kernel_rfl
 i46:=by kernel_rfl
 i51:=by kernel_rfl
 i53:=by kernel_rfl
 i171:=by kernel_rfl
 i173:=by kernel_rfl
 i212:=by kernel_rfl
 i232:=by kernel_rfl
 i233:=by kernel_rfl
 m17:=by kernel_rfl
 m18:=by kernel_rfl
 m19:=by kernel_rfl }
open Go.RowKit Go.Sort Go.Lib in
theorem Tryz.strconv_Itoa (n:Int) (h0:-9223372036854775808≤n) (h1:n≤9223372036854775807) (w:World) (htab:Lib.TabIs Tryz.prog w "internal/strconv.uint64pow10" .u64 Lib.pow10Tab) :
  Calls Tryz.prog 112 #[.int .i64 n] w fun e w'=>e = .returned (.string ⟨(Lib.itoa n).toArray⟩)∧∃ k os,w' = grow (w.drewN k) os:=Any.strconv_Itoa Tryz.Ap n h0 h1 w htab
open Go.RowKit Go.Lib in
def Tryz.sN:Go.Shelf.Ren:=⟨fun|144=>166|143=>169|219=>184|217=>191|225=>192|224=>193|267=>194|266=>197|314=>198|n=>n,fun|9=>9|4=>4|3=>3|5=>5|46=>136|146=>213|51=>159|n=>n,fun|1=>0|n=>n⟩
theorem Tryz.C2:Go.Proofs.Lays.n144 Tryz.prog Tryz.sN:={
 mixed:=by kernel_rfl
 f143:=Tryz.func169.trans (congrArg some (by kernel_rfl))
 f144:=Tryz.func166.trans (congrArg some (by kernel_rfl))
 f217:=Tryz.func191.trans (congrArg some (by kernel_rfl))
 f219:=Tryz.func184.trans (congrArg some (by kernel_rfl))
 f224:=Tryz.func193.trans (congrArg some (by kernel_rfl))
 f225:=Tryz.func192.trans (congrArg some (by kernel_rfl))
 f266:=Tryz.func197.trans (congrArg some (by kernel_rfl))
 f267:=Tryz.func194.trans (congrArg some (by kernel_rfl))
 f314:=Tryz.func198.trans (congrArg some (by kernel_rfl))
 t3:=Tryz.underlying3
 a3:=Tryz.isAgg3
 z3:=Tryz.sizeOf3
 v3:=Tryz.zeroValue3
 t4:=Tryz.underlying4
 a4:=Tryz.isAgg4
 z4:=Tryz.sizeOf4
 v4:=Tryz.zeroValue4
 t5:=Tryz.underlying5
 a5:=Tryz.isAgg5
 z5:=Tryz.sizeOf5
 v5:=Tryz.zeroValue5
 t9:=Tryz.underlying9
 a9:=Tryz.isAgg9
 z9:=Tryz.sizeOf9
 v9:=Tryz.zeroValue9
 t46:=Tryz.underlying136
 a46:=Tryz.isAgg136
 z46:=Tryz.sizeOf136
 v46:=Tryz.zeroValue136
 t51:=Tryz.underlying159
 a51:=Tryz.isAgg159
 z51:=Tryz.sizeOf159
 v51:=Tryz.zeroValue159
 t146:=Tryz.underlying213
 a146:=Tryz.isAgg213
 z146:=Tryz.sizeOf213
 v146:=Tryz.zeroValue213
 g1:=by kernel_rfl }
open Go.RowKit Go.Lib in
theorem Tryz.strings_Contains_one (s:ByteArray) (c:UInt8) (w:World) :
  Calls Tryz.prog 166 #[.string s,.string ⟨#[c]⟩] w fun e w'=>e = .returned (.bool (decide (0≤Lib.indexByte s.data.toList c)))∧w' = w:=Any.strings_Contains_one Tryz.C2 s c w
def Tryz.sO:Go.Shelf.Ren:=⟨fun|190=>101|125=>105|258=>125|128=>134|129=>135|302=>148|303=>149|304=>150|305=>151|306=>152|307=>153|308=>154|309=>155|310=>156|333=>171|329=>158|330=>159|334=>172|335=>173|336=>136|344=>185|n=>n,fun|31=>25|9=>9|3=>3|46=>136|0=>0|51=>159|53=>161|4=>4|183=>152|182=>151|131=>156|5=>5|218=>181|222=>185|228=>193|229=>194|n=>n,fun|n=>n⟩
theorem Tryz.vL:Go.Proofs.Lays.n190 Tryz.prog Tryz.sO:={
 mixed:=by kernel_rfl
 f125:=Tryz.func105.trans (congrArg some (by kernel_rfl))
 f128:=Tryz.func134.trans (congrArg some (by kernel_rfl))
 f129:=Tryz.func135.trans (congrArg some (by kernel_rfl))
 f190:=Tryz.func101.trans (congrArg some (by kernel_rfl))
 f258:=Tryz.func125.trans (congrArg some (by kernel_rfl))
 f302:=Tryz.func148.trans (congrArg some (by kernel_rfl))
 f303:=Tryz.func149.trans (congrArg some (by kernel_rfl))
 f304:=Tryz.func150.trans (congrArg some (by kernel_rfl))
 f305:=Tryz.func151.trans (congrArg some (by kernel_rfl))
 f306:=Tryz.func152.trans (congrArg some (by kernel_rfl))
 f307:=Tryz.func153.trans (congrArg some (by kernel_rfl))
 f308:=Tryz.func154.trans (congrArg some (by kernel_rfl))
 f309:=Tryz.func155.trans (congrArg some (by kernel_rfl))
 f310:=Tryz.func156.trans (congrArg some (by kernel_rfl))
 f329:=Tryz.func158.trans (congrArg some (by kernel_rfl))
 f330:=Tryz.func159.trans (congrArg some (by kernel_rfl))
 f333:=Tryz.func171.trans (congrArg some (by kernel_rfl))
 f334:=Tryz.func172.trans (congrArg some (by kernel_rfl))
 f335:=Tryz.func173.trans (congrArg some (by kernel_rfl))
 f336:=Tryz.func136.trans (congrArg some (by kernel_rfl))
 f344:=Tryz.func185.trans (congrArg some (by kernel_rfl))
 t0:=Tryz.underlying0
 a0:=Tryz.isAgg0
 z0:=Tryz.sizeOf0
 v0:=Tryz.zeroValue0
 t3:=Tryz.underlying3
 a3:=Tryz.isAgg3
 z3:=Tryz.sizeOf3
 v3:=Tryz.zeroValue3
 t4:=Tryz.underlying4
 a4:=Tryz.isAgg4
 z4:=Tryz.sizeOf4
 v4:=Tryz.zeroValue4
 t5:=Tryz.underlying5
 a5:=Tryz.isAgg5
 z5:=Tryz.sizeOf5
 v5:=Tryz.zeroValue5
 t9:=Tryz.underlying9
 a9:=Tryz.isAgg9
 z9:=Tryz.sizeOf9
 v9:=Tryz.zeroValue9
 t31:=Tryz.underlying25
 a31:=Tryz.isAgg25
 z31:=Tryz.sizeOf25
 v31:=Tryz.zeroValue25
 t46:=Tryz.underlying136
 a46:=Tryz.isAgg136
 z46:=Tryz.sizeOf136
 v46:=Tryz.zeroValue136
 t51:=Tryz.underlying159
 a51:=Tryz.isAgg159
 z51:=Tryz.sizeOf159
 v51:=Tryz.zeroValue159
 t53:=Tryz.underlying161
 a53:=Tryz.isAgg161
 z53:=Tryz.sizeOf161
 v53:=Tryz.zeroValue161
 t131:=Tryz.underlying156
 a131:=Tryz.isAgg156
 z131:=Tryz.sizeOf156
 v131:=Tryz.zeroValue156
 t182:=Tryz.underlying151
 a182:=Tryz.isAgg151
 z182:=Tryz.sizeOf151
 v182:=Tryz.zeroValue151
 t183:=Tryz.underlying152
 a183:=Tryz.isAgg152
 z183:=Tryz.sizeOf152
 v183:=Tryz.zeroValue152
 t218:=Tryz.underlying181
 a218:=Tryz.isAgg181
 z218:=Tryz.sizeOf181
 v218:=Tryz.zeroValue181
 t222:=Tryz.underlying185
 a222:=Tryz.isAgg185
 z222:=Tryz.sizeOf185
 v222:=Tryz.zeroValue185
 t228:=Tryz.underlying193
 a228:=Tryz.isAgg193
 z228:=Tryz.sizeOf193
 v228:=Tryz.zeroValue193
 t229:=Tryz.underlying194
 a229:=Tryz.isAgg194
 z229:=Tryz.sizeOf194
 v229:=Tryz.zeroValue194 }
open Go.Sort Go.RowKit in
theorem Tryz.slices_Sort_string (blk off cap:Nat) (ss:List (List UInt8)) (w:World) (hH:Holds encStr w blk off ss.toArray) (hblk:blk < w.heap.size) (hsz:ss.length < 4611686018427387904) :
  Calls Tryz.prog 101 #[.slice (some ⟨blk,off,none⟩) ss.length cap] w fun e w' =>
   e = .returned (.tuple #[])∧∃ n os,w' = grow (putRow encStr (Sort.ahead w n) blk off (ss.mergeSort fun x y=>decide (x≤y)).toArray) os:=Any.slices_Sort_string Tryz.vL blk off cap ss w hH hblk hsz
def Tryz.sP:Go.Shelf.Ren:=⟨fun|149=>122|222=>147|n=>n,fun|9=>9|5=>5|3=>3|4=>4|n=>n,fun|n=>n⟩
theorem Tryz.C3:Go.Proofs.Lays.n149 Tryz.prog Tryz.sP:={
 mixed:=by kernel_rfl
 f149:=Tryz.func122.trans (congrArg some (by kernel_rfl))
 f222:=Tryz.func147.trans (congrArg some (by kernel_rfl))
 t3:=Tryz.underlying3
 a3:=Tryz.isAgg3
 z3:=Tryz.sizeOf3
 v3:=Tryz.zeroValue3
 t4:=Tryz.underlying4
 a4:=Tryz.isAgg4
 z4:=Tryz.sizeOf4
 v4:=Tryz.zeroValue4
 t5:=Tryz.underlying5
 a5:=Tryz.isAgg5
 z5:=Tryz.sizeOf5
 v5:=Tryz.zeroValue5
 t9:=Tryz.underlying9
 a9:=Tryz.isAgg9
 z9:=Tryz.sizeOf9
 v9:=Tryz.zeroValue9 }
open Go.RowKit Go.Lib in
theorem Tryz.strings_LastIndexByte (s:ByteArray) (c:Int) (hs:s.size < 4611686018427387904) (w:World) :
  Calls Tryz.prog 122 #[.string s,.int .u8 c] w fun e w'=>e = .returned (.int .i64 (Lib.lastIndexByte s c))∧w' = w:=Any.strings_LastIndexByte Tryz.C3 s c hs w
def Tryz.sQ:Go.Shelf.Ren:=⟨fun|146=>118|221=>145|268=>167|138=>168|143=>169|195=>181|197=>182|218=>183|219=>184|260=>190|217=>191|225=>192|224=>193|267=>194|266=>197|314=>198|n=>n,fun|9=>9|31=>25|3=>3|4=>4|0=>0|105=>203|21=>21|5=>5|46=>136|119=>209|139=>212|138=>211|146=>213|51=>159|n=>n,fun|1=>0|3=>2|4=>3|n=>n⟩
theorem Tryz.C4:Go.Proofs.Lays.n146 Tryz.prog Tryz.sQ:={
 mixed:=by kernel_rfl
 f138:=Tryz.func168.trans (congrArg some (by kernel_rfl))
 f143:=Tryz.func169.trans (congrArg some (by kernel_rfl))
 f146:=Tryz.func118.trans (congrArg some (by kernel_rfl))
 f195:=Tryz.func181.trans (congrArg some (by kernel_rfl))
 f197:=Tryz.func182.trans (congrArg some (by kernel_rfl))
 f217:=Tryz.func191.trans (congrArg some (by kernel_rfl))
 f218:=Tryz.func183.trans (congrArg some (by kernel_rfl))
 f219:=Tryz.func184.trans (congrArg some (by kernel_rfl))
 f221:=Tryz.func145.trans (congrArg some (by kernel_rfl))
 f224:=Tryz.func193.trans (congrArg some (by kernel_rfl))
 f225:=Tryz.func192.trans (congrArg some (by kernel_rfl))
 f260:=Tryz.func190.trans (congrArg some (by kernel_rfl))
 f266:=Tryz.func197.trans (congrArg some (by kernel_rfl))
 f267:=Tryz.func194.trans (congrArg some (by kernel_rfl))
 f268:=Tryz.func167.trans (congrArg some (by kernel_rfl))
 f314:=Tryz.func198.trans (congrArg some (by kernel_rfl))
 t0:=Tryz.underlying0
 a0:=Tryz.isAgg0
 z0:=Tryz.sizeOf0
 v0:=Tryz.zeroValue0
 t3:=Tryz.underlying3
 a3:=Tryz.isAgg3
 z3:=Tryz.sizeOf3
 v3:=Tryz.zeroValue3
 t4:=Tryz.underlying4
 a4:=Tryz.isAgg4
 z4:=Tryz.sizeOf4
 v4:=Tryz.zeroValue4
 t5:=Tryz.underlying5
 a5:=Tryz.isAgg5
 z5:=Tryz.sizeOf5
 v5:=Tryz.zeroValue5
 t9:=Tryz.underlying9
 a9:=Tryz.isAgg9
 z9:=Tryz.sizeOf9
 v9:=Tryz.zeroValue9
 t21:=Tryz.underlying21
 a21:=Tryz.isAgg21
 z21:=Tryz.sizeOf21
 v21:=Tryz.zeroValue21
 t31:=Tryz.underlying25
 a31:=Tryz.isAgg25
 z31:=Tryz.sizeOf25
 v31:=Tryz.zeroValue25
 t46:=Tryz.underlying136
 a46:=Tryz.isAgg136
 z46:=Tryz.sizeOf136
 v46:=Tryz.zeroValue136
 t51:=Tryz.underlying159
 a51:=Tryz.isAgg159
 z51:=Tryz.sizeOf159
 v51:=Tryz.zeroValue159
 t105:=Tryz.underlying203
 a105:=Tryz.isAgg203
 z105:=Tryz.sizeOf203
 v105:=Tryz.zeroValue203
 t119:=Tryz.underlying209
 a119:=Tryz.isAgg209
 z119:=Tryz.sizeOf209
 t138:=Tryz.underlying211
 a138:=Tryz.isAgg211
 z138:=Tryz.sizeOf211
 v138:=Tryz.zeroValue211
 t139:=Tryz.underlying212
 a139:=Tryz.isAgg212
 z139:=Tryz.sizeOf212
 v139:=Tryz.zeroValue212
 t146:=Tryz.underlying213
 a146:=Tryz.isAgg213
 z146:=Tryz.sizeOf213
 v146:=Tryz.zeroValue213
 g1:=by kernel_rfl
 g3:=by kernel_rfl
 g4:=by kernel_rfl }
open Go.RowKit Go.Lib in
theorem Tryz.strings_Split (s sep:ByteArray) (m:Int) (w:World) (hs:s.size < 4294967281) (hm:w.cell? ⟨0,0,none⟩=some (.int .i64 m)) (h1:1≤sep.size) :
  Calls Tryz.prog 118 #[.string s,.string sep] w fun e w' =>
   e = .returned (.slice (some ⟨w.heap.size,0,none⟩) (Lib.countB s sep+1) (Lib.countB s sep+1))∧w' = w.alloc (.cells ((Lib.splitB sep 0 (Lib.countB s sep) s).map Value.string).toArray 9):=Any.strings_Split Tryz.C4 (by kernel_rfl) s sep m w hs hm h1
open Go.RowKit Go.Sort in
theorem Tryz.slices_Sort_string_none (p:Option Addr) (cap:Nat) (w:World) :
  Calls Tryz.prog 101 #[.slice p 0 cap] w fun e w'=>e = .returned (.tuple #[])∧w' = w:=Any.slices_Sort_string_none Tryz.vL p cap w
end Go.Proofs
namespace Go.Proofs.YtmoaidkglldhcaaGreatDoor
open Go Go.Ab Go.RowKit
def jF (_:Gh):Prop:=True
theorem jF.mono {g g':Gh} (_:Gh.le g g'):jF g→jF g':=fun h=>h
instance Aq:Laid Tryz.prog where
 facts g:=g.row 1=some 20∧(∀ j z,Lib.pow10Tab[j]? = some z→g.com 1 j=some (.int .u64 z))∧(∃ m,g.com 0 0=some (.int .i64 m))∧jF g
 mono h:=fun ⟨h1,h2,⟨m,h7⟩,h8⟩=>⟨h.2.2 _ _ h1,fun j z hz=>h.2.1 _ _ _ (h2 j z hz),⟨m,h.2.1 _ _ _ h7⟩,jF.mono h h8⟩
theorem FC {g:Gh} {w:World} (h:lH Tryz.prog g w):Lib.TabIs Tryz.prog w "internal/strconv.uint64pow10" .u64 Lib.pow10Tab:=by
 obtain ⟨h1,h2,_⟩:=h.facts
 obtain ⟨c,t,fz,h3,h4⟩:=h.rows 1 20 h1
 have hn:Tryz.prog.globalNamed "internal/strconv.uint64pow10" = some 1:=by kernel_rfl
 simp only [Lib.TabIs,World.var?,hn,Option.bind_some,h3]
 congr 1
 apply Array.ext
 ·rw [h4];rfl
 ·intro j h5 h6
  have h7:j < Lib.pow10Tab.length:=by simpa using h6
  have h8:=h.com 1 j _ (h2 j _ (List.getElem?_eq_getElem h7))
  simp only [World.cell?,h3,Option.isSome_none,Bool.false_eq_true,if_false,Array.getElem?_eq_getElem h5,Option.some.injEq] at h8
  simpa using h8
theorem mQ (n:Int) (h0:-9223372036854775808≤n) (h1:n≤9223372036854775807) (p:Oid) (hp:p.mono=false):ah Tryz.prog 112 [.int .i64 n] (Oid.under p) ⟨[],.str (Lib.itoa n),[]⟩ :=
 qT (by kernel_rfl) hp fun g args w ha ht=>by
  obtain ⟨v,rfl,hv⟩:=ha.one
  rw [hv.bn]
  refine (Tryz.strconv_Itoa n h0 h1 w (FC ht)).mono ?_
  rintro e w' ⟨rfl,k,os,rfl⟩
  exact ⟨_,rfl,.str _ _ rfl,⟨rfl,rfl,rfl,by simp [Sort.grow,World.drewN],fun b hb=>by simp only [Sort.grow,World.drewN];rw [Array.getElem?_append_left hb]⟩⟩
theorem Ar (q:Oid) (v:AV) (sp:Oid→Prop):ah Tryz.prog 162 [.ptr (.ty 167 q) 0] sp ⟨[(.ty 167 q,.cells [.nilPtr,v])],.tuple [],[(.ty 167 q,some (.cells [.ptr (.ty 167 q) 0,v]))]⟩ :=
 ⟨by kernel_rfl,fun x g args w m hm hn ha hs hx=>by
  obtain ⟨u,rfl,hu⟩:=ha.one
  obtain ⟨b,rfl,hb⟩:=hu.fT
  have hmid:=hn (.ty 167 q,.cells [.nilPtr,v]) (by simp)
  obtain ⟨b',h1,h2,h3,h4⟩:=hm.iU hmid hb
  rw [hb] at h1;simp only [Option.some.injEq] at h1;subst h1
  obtain ⟨c,t,fz,c1,c2,c3,c4⟩:=h4
  obtain ⟨c',fz',h5⟩:=hm.typs 167 q b hb
  rw [c1] at h5;simp only [Option.some.injEq,Obj.cells.injEq] at h5
  obtain ⟨_,rfl,_⟩:=h5
  have hsz:c.size=2:=c2
  have k0:=c4 0 (by simp)
  have k1:=c4 1 (by simp)
  simp only [List.getD_cons_zero,List.getD_cons_succ] at k0 k1
  have k0':=k0.eA
  have hlt:b < w.heap.size:=(Array.getElem?_eq_some_iff.1 c1).1
  have hg0:c[0]? = some (.pointer none):=by
   rw [Array.getD_eq_getD_getElem?] at k0'
   rw [Array.getElem?_eq_getElem (by omega)] at k0' ⊢
   simpa using k0'
  have hf:¬ (fz.1≤0∧0 < fz.2):=c3 0 (by omega)
  refine (mF b w (by simp [World.cell?,c1,hg0]) (by simp [World.shape?,c1,hsz]) (by
   obtain ⟨lo,hi⟩:=fz
   simp only [World.frozen?,c1]
   simp only at hf
   by_cases h:lo≤0
   ·have:¬ 0 < hi:=fun h'=>hf ⟨h,h'⟩
    simp [this]
   ·simp [h])).mono ?_
  rintro e w' ⟨rfl,rfl⟩
  have hnew:(w.setCell ⟨b,0,none⟩ (.pointer (some ⟨b,0,none⟩))).heap[b]? = some (.cells (c.setIfInBounds 0 (.pointer (some ⟨b,0,none⟩))) 167 fz):=by simp [World.setCell,Array.getElem?_modify,c1]
  refine ⟨g,_,rfl,Gh.le_refl g,fun _ _=>rfl,.tuple _ _ rfl (fun j hj=>absurd hj (Nat.not_lt_zero _)),?_⟩
  refine hm.gU (o:=.cells [.ptr (.ty 167 q) 0,v]) (w':=w.setCell ⟨b,0,none⟩ (.pointer (some ⟨b,0,none⟩))) hmid hb rfl rfl ⟨rfl,Nat.le_refl _⟩ (by simp [World.setCell]) (fun k hk _=>Below.heap_setCell w ⟨b,0,none⟩ _ k hk) (fun r hr=>?_) (fun c9 t9 fz9 h9=>?_) ?_
  ·obtain ⟨c',t',fz',h6,h7⟩:=hm.rows b r hr
   rw [c1] at h6;simp only [Option.some.injEq,Obj.cells.injEq] at h6
   obtain ⟨rfl,rfl,rfl⟩:=h6
   exact ⟨_,_,_,hnew,by simp [h7]⟩
  ·rw [c1] at h9;simp only [Option.some.injEq,Obj.cells.injEq] at h9
   obtain ⟨rfl,rfl,rfl⟩:=h9
   exact ⟨_,_,hnew⟩
  ·refine ⟨_,_,_,hnew,by simp [hsz],fun j hj=>c3 j (by simpa using hj),fun j hj=>?_⟩
   have hj2:j < 2:=hj
   match j,hj2 with
   | 0,_ =>
    simp only [List.getD_cons_zero,Array.getD_eq_getD_getElem?]
    rw [Array.getElem?_setIfInBounds_self_of_lt (by omega)]
    exact .ptr _ 0 b hb
   | 1,_ =>
    simp only [List.getD_cons_succ,List.getD_cons_zero,Array.getD_eq_getD_getElem?]
    rw [Array.getElem?_setIfInBounds_ne (by omega),← Array.getD_eq_getD_getElem?]
    exact k1⟩
theorem C5 (q:Oid) (v:AV) (sp:Oid→Prop):ah Tryz.prog 162 [.ptr q 0] sp ⟨[(q,.cells [.ptr q 0,v])],.tuple [],[]⟩ :=
 ⟨by kernel_rfl,fun x g args w m hm hn ha hs hx=>by
  obtain ⟨u,rfl,hu⟩:=ha.one
  obtain ⟨b,rfl,hb⟩:=hu.fT
  have hmid:=hn (q,.cells [.ptr q 0,v]) (by simp)
  obtain ⟨b',h1,h2,h3,h4⟩:=hm.iU hmid hb
  rw [hb] at h1;simp only [Option.some.injEq] at h1;subst h1
  obtain ⟨c,t,fz,c1,c2,c3,c4⟩:=h4
  have hsz:c.size=2:=c2
  have k0:=c4 0 (by simp)
  simp only [List.getD_cons_zero] at k0
  obtain ⟨b2,k0',hb2⟩:=k0.fT
  rw [hb] at hb2;simp only [Option.some.injEq] at hb2;subst hb2
  have hg0:c[0]? = some (.pointer (some ⟨b,0,none⟩)):=by
   rw [Array.getD_eq_getD_getElem?] at k0'
   rw [Array.getElem?_eq_getElem (by omega)] at k0' ⊢
   simpa using k0'
  refine (nV b w (by simp [World.cell?,c1,hg0])).mono ?_
  rintro e w' ⟨rfl,rfl⟩
  exact ⟨g,_,rfl,Gh.le_refl g,fun _ _=>rfl,.tuple _ _ rfl (fun j hj=>absurd hj (Nat.not_lt_zero _)),hm⟩⟩
end Go.Proofs.YtmoaidkglldhcaaGreatDoor
namespace Go.Ab
open Go.ChangeShapes Go.WideShapes
section
variable {β:Type}
theorem law_lifted_row {C:Checked} [Laid C.prog] {os:Os} {f:FuncId} {fn:Func} {s:ChangeSpec} {F:Stop.Interp} {conds:List PathCond} {laid:List (String × DataW Unit)} {tb:TypeId} {H:Type} {enc:TypeId × Value→H} {ts:List TypeId} {B:β→List AV} {W:β→Prop}
  (own:ownKnob C.prog.godebug=none) (started:os.Started) (noInit:C.prog.inits.idxOf? f=none) (hfn:C.prog.funcs[f]? = some fn)
  (witness:∃ (w:World) (tape:Tape) (i:Input),w.os=os∧(w.forCall tape i).Shaped C.prog∧i.vars=[]∧Input.okWide C.prog (w.forCall tape i) .any w.heap.size f i ∧
   (OpenSpec.ofChange s).preRow enc C.prog fn conds false laid (w.forCall tape i).memory i.args∧({}:Assume).holds C.prog (lone (Frame.enter C.prog f i.args .normal) [] (w.forCall tape i)))
  (hl:laidOutB C.prog=true) (hz:∀ t e,t < C.prog.types.size→C.prog.underlying t=some (.slice e)→0 < C.prog.cellsOf e) (hp:fn.params.toList=ts) (hrB:(ts.all fun t=>C.prog.readableRec t && decide (t < C.prog.types.size))=true)
  (hrt:fn.resultTypes=#[tb]) (htb:C.prog.underlying tb=some .bool) (hv:s.vars=[]) (hs:∀ ds:List (DataW H),ds.length=ts.length→s.fn H ds={ results:=[.lit (.bool true)],args:=ds })
  (hA:RdA C.prog ts B W) (hc:∀ b,W b→ah C.prog f (B b) (Oid.under (.root C.prog.globals.size)) ⟨[],.bool true,[]⟩) (hLaid:∀ W:World,laidMetH C.prog laid W→W.ShapedOpen C.prog→Laid.facts C.prog (cW C.prog.globals.size W)) :
  ReturnsInHanded {} C os f .any ((OpenSpec.ofChange s).preRow enc C.prog fn conds false laid) (((OpenSpec.ofChange s).at F).post enc C.prog fn false true false false):=by
 have hr:∀ t ∈ ts,C.prog.readableRec t=true∧t < C.prog.types.size:=fun t ht=>by
  have:=List.all_eq_true.1 hrB t ht
  simpa using this
 refine returnsInHanded_of_row own started noInit hfn witness ?_
 intro w base args ds gs before hval hW _ _ hsz hlaid hopen _
 have hW:DataW.Whole enc C.prog fn.params.toList s.vars false w args.toList ds gs before:=hW
 have hsz:(DataW.weightsEach C.prog (fn.params.toList++s.plain.varTypes C.prog) (ds++gs)).all (· ≤ reachBytes)=true:=hsz
 have hW':=hW
 obtain ⟨p,q,hT,hV,rfl,hfz,hnd⟩:=hW
 rw [hv] at hV
 obtain ⟨rfl,rfl⟩:=trodVars_none hV
 have hlen:=jj hT
 rw [hp] at hT hlen
 have hvt:s.plain.varTypes C.prog=[]:=by
  have:s.plain.vars=[]:=hv
  unfold DataSpec.varTypes;rw [this];rfl
 rw [hvt,List.append_nil,List.append_nil,List.all_eq_true,hp] at hsz
 obtain ⟨b,k1,k2,k3⟩:=hA.rd (ng:=C.prog.globals.size) (fun j t v ht hv'=>hval j t v (by rw [← Array.getElem?_toList,hp];exact ht) (by rw [← Array.getElem?_toList];exact hv')) hT fun n hn=>by simpa using hsz n hn
 refine zO hl hz (by rw [hp];exact hr) hrt htb hv hW' (hs ds hlen) (avs:=B b) ⟨by simpa using k2,fun j hj=>?_⟩ (hc b k1) (hLaid _ hlaid hopen)
 have:=k3 j (by rw [k2];exact hj)
 simpa [List.getD_eq_getElem?_getD,Array.getD_eq_getD_getElem?] using this
end
theorem sR {ng:Nat} {P:Program} {W:World} {name:String} {k:IntKind} {zs:List Int} {g:Nat} (hg:P.globalNamed name=some g) (h:Lib.TabIs P W name k zs) :
  (cW ng W).row g=some zs.length∧∀ j z,zs[j]? = some z→(cW ng W).com g j=some (.int k z):=by
 simp only [Lib.TabIs,World.var?,hg,Option.bind_some] at h
 cases hw:W.heap[g]? with
 | none=>rw [hw] at h;cases h
 | some o =>
  rw [hw] at h
  cases o with
  | cells c t fz =>
   simp only [Option.some.injEq] at h
   subst h
   refine ⟨by simp [cW,hw],fun j z hz=>lG ?_ rfl⟩
   simp [World.cell?,hw,hz]
  | _=>cases h
theorem uv {P:Program} {W:World} {name:String} {k:IntKind} {zs:List Int} {g:Nat} {t e:TypeId} {n:Nat} (hg:P.globalNamed name=some g) (hty:(P.globals[g]?).map (·.type)=some t) (ht:P.underlying t=some (.array n e)) (he:P.underlying e=some (.int k)) (hce:P.cellsOf e=1) (hct:P.cellsOf t=n)
  {l:List (String × DataW Unit)} (hm:(name,Lib.tabData k zs) ∈ l) (h:laidMet P l W):Lib.TabIs P W name k zs:=by
 obtain ⟨ps,hl,h1,h2⟩:=h
 clear h1 h2
 induction l generalizing ps with
 | nil=>cases hm
 | cons x r ih =>
  obtain ⟨n',d⟩:=x
  obtain ⟨g',t',cs,fuel,p,q,h1,h2,h3,h4,h5,_⟩:=hl
  rcases List.mem_cons.1 hm with hm|hm
  ·simp only [Prod.mk.injEq] at hm
   obtain ⟨rfl,rfl⟩:=hm
   rw [hg] at h1;simp only [Option.some.injEq] at h1;subst h1
   rw [hty] at h2;simp only [Option.some.injEq] at h2;subst h2
   have:=Lib.cells_of_tab ht he hce hct h4
   show W.var? P name=_
   rw [h3,← this]
  ·exact ih hm q h5
end Go.Ab
namespace Go.Proofs.YtmoaidkglldhcaaGreatDoor
open Go Go.Ab Go.ChangeShapes Go.WideShapes Go.RowKit
set_option maxRecDepth 100000
def LL:List (String × DataW Unit):=[("math/bits.deBruijn32tab",Rows.laid_math_bits_deBruijn32tab),("math/bits.deBruijn64tab",Rows.laid_math_bits_deBruijn64tab),("internal/strconv.uint64pow10",Rows.laid_internal_strconv_uint64pow10),("unicode/utf8.acceptRanges",Rows.laid_unicode_utf8_acceptRanges),("unicode/utf8.first",Rows.laid_unicode_utf8_first)]
def Au (c:Array Value):Obj→Obj
 | .cells _ t fz=>.cells c t fz
 | o=>o
def Av (h:Array Obj):Array Obj:=(((((h.modify 4 (Au #[.int .u8 0,.int .u8 1,.int .u8 28,.int .u8 2,.int .u8 29,.int .u8 14,.int .u8 24,.int .u8 3,.int .u8 30,.int .u8 22,.int .u8 20,.int .u8 15,.int .u8 25,.int .u8 17,.int .u8 4,.int .u8 8,.int .u8 31,.int .u8 27,.int .u8 13,.int .u8 23,.int .u8 21,.int .u8 19,.int .u8 16,.int .u8 7,.int .u8 26,.int .u8 12,.int .u8 18,.int .u8 6,.int .u8 11,.int .u8 5,.int .u8 10,.int .u8 9])).modify 5 (Au #[.int .u8 0,.int .u8 1,.int .u8 56,.int .u8 2,.int .u8 57,.int .u8 49,.int .u8 28,.int .u8 3,.int .u8 61,.int .u8 58,.int .u8 42,.int .u8 50,.int .u8 38,.int .u8 29,.int .u8 17,.int .u8 4,.int .u8 62,.int .u8 47,.int .u8 59,.int .u8 36,.int .u8 45,.int .u8 43,.int .u8 51,.int .u8 22,.int .u8 53,.int .u8 39,.int .u8 33,.int .u8 30,.int .u8 24,.int .u8 18,.int .u8 12,.int .u8 5,.int .u8 63,.int .u8 55,.int .u8 48,.int .u8 27,.int .u8 60,.int .u8 41,.int .u8 37,.int .u8 16,.int .u8 46,.int .u8 35,.int .u8 44,.int .u8 21,.int .u8 52,.int .u8 32,.int .u8 23,.int .u8 11,.int .u8 54,.int .u8 26,.int .u8 40,.int .u8 15,.int .u8 34,.int .u8 20,.int .u8 31,.int .u8 10,.int .u8 25,.int .u8 14,.int .u8 19,.int .u8 9,.int .u8 13,.int .u8 8,.int .u8 7,.int .u8 6])).modify 1 (Au #[.int .u64 1,.int .u64 10,.int .u64 100,.int .u64 1000,.int .u64 10000,.int .u64 100000,.int .u64 1000000,.int .u64 10000000,.int .u64 100000000,.int .u64 1000000000,.int .u64 10000000000,.int .u64 100000000000,.int .u64 1000000000000,.int .u64 10000000000000,.int .u64 100000000000000,.int .u64 1000000000000000,.int .u64 10000000000000000,.int .u64 100000000000000000,.int .u64 1000000000000000000,.int .u64 10000000000000000000])).modify 3 (Au #[.int .u8 128,.int .u8 191,.int .u8 160,.int .u8 191,.int .u8 128,.int .u8 159,.int .u8 144,.int .u8 191,.int .u8 128,.int .u8 143,.int .u8 0,.int .u8 0,.int .u8 0,.int .u8 0,.int .u8 0,.int .u8 0,.int .u8 0,.int .u8 0,.int .u8 0,.int .u8 0,.int .u8 0,.int .u8 0,.int .u8 0,.int .u8 0,.int .u8 0,.int .u8 0,.int .u8 0,.int .u8 0,.int .u8 0,.int .u8 0,.int .u8 0,.int .u8 0])).modify 2 (Au ((Go.Pinned.utf8FirstZ.map fun (n:Nat)=>Value.int .u8 (n:Int)).toArray)))++#[]
noncomputable def laidWorld (os:Os):World:={ World.holding Tryz.prog os ⟨#[],#[],[]⟩ with heap:=Av (World.holding Tryz.prog os ⟨#[],#[],[]⟩).heap }
theorem laid_met (os:Os) (args:Array Value):laidMet Tryz.prog LL ((laidWorld os).forCall (fun _ _=>0) ⟨#[],args,[]⟩).memory :=
 laidMet_of_run' 8 (by kernel_rfl) (by kernel_rfl)
theorem FD {W:World} (h:laidMetH Tryz.prog LL W):laidMet Tryz.prog LL W:=h
end Go.Proofs.YtmoaidkglldhcaaGreatDoor
namespace Go.Proofs.YtmoaidkglldhcaaGreatDoor
open Go Go.Ab
set_option maxRecDepth 100000
instance DY:Laid Tryz.checked.prog:=Aq
theorem own:ownKnob Tryz.prog.godebug=none:=by kernel_rfl
theorem laidOut:laidOutB Tryz.prog=true:=by kernel_rfl
theorem full:∀ t e,t < Tryz.prog.types.size→Tryz.prog.underlying t=some (.slice e)→0 < Tryz.prog.cellsOf e:=slices_full_of _ (by kernel_rfl)
theorem Aw {W:World} (_:laidMet Tryz.prog LL W):jF (cW Tryz.prog.globals.size W):=trivial
theorem laid_facts {W:World} (h:laidMetH Tryz.prog LL W) (ho:W.ShapedOpen Tryz.prog):Laid.facts Tryz.prog (cW Tryz.prog.globals.size W):=by
 have h':=FD h
 have ht:Lib.TabIs Tryz.prog W "internal/strconv.uint64pow10" .u64 Lib.pow10Tab :=
  uv (g:=1) (t:=207) (e:=161) (n:=20) (by kernel_rfl) (by kernel_rfl) (by kernel_rfl) (by kernel_rfl) (by kernel_rfl) (by kernel_rfl) (l:=LL) (List.mem_cons_of_mem _ (List.mem_cons_of_mem _ List.mem_cons_self)) h'
 have hn:Tryz.prog.globalNamed "internal/strconv.uint64pow10" = some 1:=by kernel_rfl
 obtain ⟨t1,t2⟩:=sR (ng:=Tryz.prog.globals.size) hn ht
 obtain ⟨m,hm⟩:=cell_of_shapedOpen_int (P:=Tryz.prog) (g:=0) (zero:=#[.int .i64 0]) (t:=3) ho (of_decide_eq_true (by kernel_rfl)) (by kernel_rfl) rfl (by kernel_rfl) (by kernel_rfl) Tryz.underlying3
 exact ⟨t1,t2,⟨m,lG hm rfl⟩,Aw h'⟩
end Go.Proofs.YtmoaidkglldhcaaGreatDoor
namespace Go.Proofs.YtmoaidkglldhcaaGreatDoor
open Go Go.Ab
set_option maxRecDepth 20000
set_option maxHeartbeats 2000000
theorem DZ {v:OpR}:gdR True v=v:=if_pos trivial
theorem qV {need:List (Oid × ao)} {upd:List (Oid × Option ao)} {m:Mem} (h1:∀ q,q ∈ upd→∀ o,q.2=some o→m q.1=some o) (h2:∀ q,q ∈ need→(∀ r,r ∈ upd→¬ r.1=q.1)→m q.1=some q.2) (i:Oid) (o:ao)
  (h:((Mem.of need).aJ upd) i=some o):m i=some o:=by
 by_cases hk:∃ q ∈ upd,q.1=i
 ·obtain ⟨q',k1,k2,k3⟩:=jh (m:=Mem.of need) hk
  rw [k3] at h
  rw [← k2];exact h1 q' k1 o h
 ·rw [bg fun q hq e=>hk ⟨q,hq,e⟩] at h
  obtain ⟨q,k1,rfl,rfl⟩:=Mem.dV h
  exact h2 q k1 fun r hr e=>hk ⟨r,hr,e⟩
theorem aX {P:Program} {rs:List ResultVar} {need:List (Oid × ao)} {fr:List (Nat × AV)} {m:Mem} {c:Nat} {val:AV} {upd:List (Oid × Option ao)} (h1:fh P m fr rs=some val)
  (h2:∀ q,q ∈ upd→∀ o,q.2=some o→m q.1=some o) (h3:∀ q,q ∈ need→(∀ r,r ∈ upd→¬ r.1=q.1)→m q.1=some q.2):dG P rs need (fun v u=>v=val∧u=upd) (fun _ _=>False) .ret ⟨fr,m,c,[]⟩ :=
 bw val upd h1 ⟨rfl,rfl⟩ (qV h2 h3)
theorem Ax (q:Oid) (s:List UInt8) (hl:s.length≤140737488355328) (p:Oid) (hq:¬ Oid.under p (.ty 167 q)) :
  ah Tryz.prog 140 [.ptr (.ty 167 q) 0,.str s] (Oid.under p) ⟨[(.ty 167 q,.cells [.nilPtr,.nilSl])],.tuple [.int .i64 s.length,.nilIface],
   [(.ty 167 q,some (.cells [.ptr (.ty 167 q) 0,.sl (.ty 5 (.sub 2 6 p)) 1 s.length])),(.ty 5 (.sub 2 6 p),some (.arr 1 (s.map byA)))]⟩:=by
 refine aD (n:=19) (rs:=[.tmp 4,.tmp 5]) Tryz.func140 rfl rfl (by decide) rfl rfl rfl ?_;rintro x rfl hrd hng
 (repeat (first|(refine aA rfl rfl ?_)|(refine az rfl rfl ?_)|(refine ar nmd [] hng (by kernel_rfl) fun hf C S K hC1 hC hS hK=>?_;simp (disch:=first|omega|assumption) only [go_sem];(repeat ((first|refine hC1 _ (Ar _ .nilSl _) (by simp (disch:=first|omega|assumption) only [go_sem]) ?_);simp (disch:=first|omega|assumption) only [go_sem]));refine hK ?_;clear hK hS hC hC1 K S C hf)|((first|refine zn ?_|refine ze ?_|refine zk ?_);with_reducible (constructor;repeat constructor);try refine zl ?_)))
 refine ay (aX rfl ?_ ?_)
 all_goals simp only [List.mem_cons,List.not_mem_nil,or_false,forall_eq_or_imp,forall_eq,Option.some.injEq,forall_eq',Mem.af,eq_self,if_true,↓reduceIte,reduceCtorEq,implies_true,not_true_eq_false,false_imp_iff,true_and,and_true,false_and,and_false,imp_self,Oid.eV hq,Oid.ga hq]
 rfl
theorem C6 (q r:Oid) (s0 s:List UInt8) (hl:s0.length+s.length≤140737488355328) (p:Oid) (hq:¬ Oid.under p (.ty 167 q)) (hr:¬ Oid.under p (.ty 5 r)) :
  ah Tryz.prog 140 [.ptr (.ty 167 q) 0,.str s] (Oid.under p) ⟨[(.ty 167 q,.cells [.ptr (.ty 167 q) 0,.sl (.ty 5 r) 1 s0.length]),(.ty 5 r,.arr 1 (s0.map byA))],.tuple [.int .i64 s.length,.nilIface],
   [(.ty 167 q,some (.cells [.ptr (.ty 167 q) 0,.sl (.ty 5 (.sub 2 6 p)) 1 (s0++s).length])),(.ty 5 r,none),(.ty 5 (.sub 2 6 p),some (.arr 1 ((s0++s).map byA)))]⟩:=by
 have hr':(Oid.ty 5 r=Oid.ty 5 (.sub 2 6 p))=False:=Oid.eV hr _ _ _
 refine aD (n:=19) (rs:=[.tmp 4,.tmp 5]) Tryz.func140 rfl rfl (by decide) rfl rfl rfl ?_;rintro x rfl hrd hng
 (repeat (first|(refine aA rfl rfl ?_)|(refine az rfl rfl ?_)|(refine ar nmd [] hng (by kernel_rfl) fun hf C S K hC1 hC hS hK=>?_;simp (disch:=first|omega|assumption) only [go_sem];(repeat ((first|refine hC1 _ (C5 _ (.sl (.ty 5 r) 1 s0.length) _) (by simp (disch:=first|omega|assumption) only [go_sem]) ?_);simp (disch:=first|omega|assumption) only [go_sem]));refine hK ?_;clear hK hS hC hC1 K S C hf)|((first|refine zn ?_|refine ze ?_|refine zk ?_);with_reducible (constructor;repeat constructor);try refine zl ?_)))
 refine ay (aX rfl ?_ ?_)
 all_goals simp only [List.mem_cons,List.not_mem_nil,or_false,forall_eq_or_imp,forall_eq,Option.some.injEq,forall_eq',Mem.af,eq_self,if_true,↓reduceIte,reduceCtorEq,implies_true,not_true_eq_false,false_imp_iff,true_and,and_true,false_and,and_false,imp_self,Oid.eV hq,Oid.ga hq,Oid.eV hr,Oid.ga hr,List.length_append,List.map_append]
 rfl
theorem xo (q r:Oid) (s:List UInt8) (h0:0 < s.length) (hl:s.length≤140737488355328) (p:Oid) :
  ah Tryz.prog 141 [.ptr (.ty 167 q) 0] (Oid.under p) ⟨[(.ty 167 q,.cells [.ptr (.ty 167 q) 0,.sl (.ty 5 r) 1 s.length]),(.ty 5 r,.arr 1 (s.map byA))],.str s,[(.ty 5 r,none)]⟩:=by
 refine aD (n:=14) (rs:=[.tmp 2]) Tryz.func141 rfl rfl (by decide) rfl rfl rfl ?_;rintro x rfl hrd hng
 refine qw0 ?_
 refine qd (.d [] [] [0,2]) trivial trivial ?_
 refine ay (aX rfl ?_ ?_)
 all_goals simp only [List.mem_cons,List.not_mem_nil,or_false,forall_eq_or_imp,forall_eq,Option.some.injEq,forall_eq',Mem.af,eq_self,if_true,↓reduceIte,reduceCtorEq,implies_true,not_true_eq_false,false_imp_iff,true_and,and_true,false_and,and_false,imp_self]
theorem uw (q:Oid) (p:Oid) :
  ah Tryz.prog 141 [.ptr (.ty 167 q) 0] (Oid.under p) ⟨[(.ty 167 q,.cells [.nilPtr,.nilSl])],.str [],[]⟩:=by
 refine aD (n:=14) (rs:=[.tmp 2]) Tryz.func141 rfl rfl (by decide) rfl rfl rfl ?_;rintro x rfl hrd hng
 refine qw0 ?_
 refine cV nmd [] [] mixed hng (by kernel_rfl) [0,2] fun hf C S K hC hS hK=>?_;simp (disch:=first|omega|assumption) only [go_sem,DZ]
 (first|refine hK (aT rfl) ?_|refine hK (by simp (disch:=first|omega|assumption) only [go_sem,List.reverse_cons,List.reverse_nil,ne_eq,not_false_eq_true,implies_true]) ?_);clear hK hS hC K S C hf
 refine ay (aX rfl ?_ ?_)
 all_goals simp only [List.mem_cons,List.not_mem_nil,or_false,forall_eq_or_imp,forall_eq,Option.some.injEq,forall_eq',Mem.af,eq_self,if_true,↓reduceIte,reduceCtorEq,implies_true,not_true_eq_false,false_imp_iff,true_and,and_true,false_and,and_false,imp_self]
end Go.Proofs.YtmoaidkglldhcaaGreatDoor
namespace Go.Proofs.YtmoaidkglldhcaaGreatDoor
open Go Go.Ab Go.RowKit
set_option maxRecDepth 20000
set_option maxHeartbeats 2000000
abbrev Str:=List UInt8
theorem aw {c i:Nat} {p:Oid} (hi:(i == 999983)=false) (hp:p.mono=false):(Oid.sub c i p).mono=false:=by rw [Oid.mZ,hi,hp];rfl
def dC (s:Str):Int:=match Lib.atoiAll s with | .ok v=>v | .range=>Lib.atoiSat s|_=>0
def D0 (s:Str):Bool:=match Lib.atoiAll s with | .ok _=>true|_=>false
def jR (s:Str):Bool:=D0 s && decide (0≤dC s) && decide (s.length≤9) && decide (Lib.itoa (dC s)=s)
theorem FE {s:Str} (h:¬ s.length≤9):jR s=false:=by simp only [jR,decide_eq_false h,Bool.and_false,Bool.false_and]
end Go.Proofs.YtmoaidkglldhcaaGreatDoor
namespace Go.Proofs.YtmoaidkglldhcaaGreatDoor
open Go Go.Ab
set_option maxRecDepth 20000
set_option maxHeartbeats 4000000
theorem gX (n:Nat) (h:(n:Int)≤9223372036854775807):(Lib.decDigits n).length≤21:=by
 have:=Lib.itoa_length_le n (by omega) h;rwa [Lib.itoa_nonneg] at this
theorem GR (v:Option AV):gd True v=v:=if_pos trivial
theorem ef (a b:Nat):(a:Int).tmod b=((a % b:Nat):Int):=by
 rw [Int.tmod_eq_emod_of_nonneg (by omega)];rfl
theorem lI (n:Nat) (hn:(n:Int)≤9223372036854775807):∀ p:Oid,ah Tryz.prog 114 [.int .i64 n] (Oid.under p) ⟨[],.str (Lib.decDigits n),[]⟩:=by
 induction n using Nat.strongRecOn with
 | ind n ih =>
  intro p
  have h10:(n:Int).tmod 10=((n % 10:Nat):Int):=ef n 10
  have h11:(n:Int).tdiv 10=((n / 10:Nat):Int):=zK n 10
  have hw:(48+((n % 10:Nat):Int))≤57:=by omega
  have hd:IntKind.u8.wrap (48+((n % 10:Nat):Int))=((UInt8.ofNat (48+n % 10)).toNat:Int):=by
   rw [w8 (by omega) (by omega),UInt8.toNat_ofNat'];omega
  have hlen:=gX (n / 10) (by omega)
  refine aD (n:=18) (rs:=[.tmp 2]) Tryz.func114 rfl rfl (by decide) rfl rfl rfl ?_;rintro x rfl hrd hng
  refine qr0 ?_
  refine ar nmd [] hng (by kernel_rfl) fun hf C S K hC1 hC hS hK=>?_;simp (disch:=first|omega|assumption) only [go_sem,h10,hd,GR]
  refine hK ?_;clear hK hS hC hC1 K S C hf
  refine qw0 ?_
  refine aS rfl rfl (fun hb=>?_) (fun hb=>?_)
  ·refine qw0 ?_
   exact ay (bt (congrArg AV.str (by rw [Lib.decDigits,dif_pos (by omega)];congr 2;rw [Nat.mod_eq_of_lt (by omega)])))
  ·(try ((first|refine zn ?_|refine ze ?_|refine zk ?_);with_reducible (constructor;repeat constructor));try refine zl ?_)
   refine qr .o h11 (cq (ih (n / 10) (by omega) (by omega) _) trivial) ?_
   refine qw0 ?_
   exact ay (bt (congrArg AV.str (by rw [Lib.decDigits.eq_def n,dif_neg (by omega)])))
end Go.Proofs.YtmoaidkglldhcaaGreatDoor
namespace Go.Proofs.YtmoaidkglldhcaaGreatDoor
open Go Go.Ab
theorem nW (b:UInt8):∀ (t:Str) (a:Nat),Lib.decFrom a (t++[b])=(Lib.decFrom a t).bind fun v=>(Lib.digitVal b).map fun d=>v * 10+d
 | [],a=>by
  simp only [List.nil_append,Lib.decFrom,Option.bind_some]
  cases Lib.digitVal b<;>rfl
 | c::t,a=>by
  simp only [List.cons_append,Lib.decFrom]
  cases Lib.digitVal c with
  | none=>rfl
  | some d=>exact nW b t _
theorem sS {d:Nat} (h:d < 10):Lib.digitVal (UInt8.ofNat (48+d))=some d:=by
 have h1:(UInt8.ofNat (48+d)).toNat=48+d:=by rw [UInt8.toNat_ofNat'];omega
 rw [Lib.digitVal,h1,if_pos (by omega)];congr 1;omega
theorem xp {b:UInt8} {d:Nat} (h:Lib.digitVal b=some d):d < 10∧b=UInt8.ofNat (48+d):=by
 unfold Lib.digitVal at h
 split at h
 ·simp only [Option.some.injEq] at h
  refine ⟨by omega,UInt8.toNat_inj.1 ?_⟩
  rw [UInt8.toNat_ofNat'];omega
 ·cases h
theorem bY {n:Nat} (h:n < 10):Lib.decDigits n=[UInt8.ofNat (48+n)]:=by rw [Lib.decDigits,dif_pos h]
theorem fi {n:Nat} (h:¬ n < 10):Lib.decDigits n=Lib.decDigits (n / 10)++[UInt8.ofNat (48+n % 10)]:=by rw [Lib.decDigits.eq_def n,dif_neg h]
theorem lJ (n:Nat):¬ Lib.decDigits n=[]:=by
 by_cases h:n < 10
 ·rw [bY h];simp
 ·rw [fi h];simp
theorem nX (n:Nat):Lib.decFrom 0 (Lib.decDigits n)=some n:=by
 induction n using Nat.strongRecOn with
 | ind n ih =>
  by_cases h:n < 10
  ·rw [bY h,Lib.decFrom,sS h];simp [Lib.decFrom]
  ·rw [fi h,nW,ih _ (by omega),sS (by omega)]
   simp only [Option.bind_some,Option.map_some];congr 1;omega
theorem pO {t u:Str} (h:¬ t=[]):(t++u).getD 0 0=t.getD 0 0:=by
 cases t with
 | nil=>exact absurd rfl h
 | cons=>rfl
theorem mi (n:Nat):(Lib.decDigits n).getD 0 0=48→n=0:=by
 induction n using Nat.strongRecOn with
 | ind n ih =>
  intro h
  by_cases hs:n < 10
  ·rw [bY hs] at h
   have h1:=congrArg UInt8.toNat h
   simp only [List.getD_cons_zero] at h1
   rw [UInt8.toNat_ofNat'] at h1
   have:(48:UInt8).toNat=48:=rfl
   omega
  ·rw [fi hs,pO (lJ _)] at h
   have:=ih (n / 10) (by omega) h
   omega
theorem xq:∀ (k:Nat) (s:Str) (n:Nat),s.length=k→¬ s=[]→¬ (s.getD 0 0=48∧1 < s.length)→Lib.decFrom 0 s=some n→Lib.decDigits n=s:=by
 intro k
 induction k with
 | zero=>intro s n hk hs;exact absurd (List.eq_nil_of_length_eq_zero hk) hs
 | succ k ih =>
  intro s n hk hs hc hd
  rcases List.eq_nil_or_concat s with rfl|⟨t,b,rfl⟩
  ·exact absurd rfl hs
  rw [List.concat_eq_append] at hk hs hc hd ⊢
  rw [nW] at hd
  simp only [Option.bind_eq_some_iff,Option.map_eq_some_iff] at hd
  obtain ⟨v,hv,d,hb,rfl⟩:=hd
  obtain ⟨hd10,rfl⟩:=xp hb
  by_cases ht:t=[]
  ·subst ht
   simp only [Lib.decFrom,Option.some.injEq] at hv
   subst hv
   rw [Nat.zero_mul,Nat.zero_add,bY hd10];rfl
  ·rw [pO ht] at hc
   simp only [List.length_append,List.length_cons,List.length_nil] at hc hk
   have hlt:=List.length_pos_iff.2 ht
   have:=ih t v (by omega) ht (fun h=>hc ⟨h.1,by omega⟩) hv
   have hv1:¬ v=0:=fun e=>by
    subst e
    rw [bY (by decide)] at this
    exact hc ⟨by rw [← this];rfl,by omega⟩
   rw [fi (by omega),show (v * 10+d) / 10=v by omega,show (v * 10+d) % 10=d by omega,this]
def iV (s:Str):Int:=if s=[]∨9 < s.length∨s.getD 0 0=48∧1 < s.length then -1 else match Lib.decFrom 0 s with|some n=>n|none=>-1
theorem kV (s:Str):jR s=decide (0≤iV s)∧(jR s=true→dC s=iV s):=by
 by_cases hl:s.length≤9
 ·have hsh:=Lib.atoiAll_short s (by omega)
  by_cases hg:jR s=true
  ·have h:=hg
   simp only [jR,Bool.and_eq_true,decide_eq_true_eq] at h
   obtain ⟨⟨⟨h1,h2⟩,_⟩,h4⟩:=h
   obtain ⟨n,hn⟩:=Int.eq_ofNat_of_zero_le h2
   rw [hn,Lib.itoa_nonneg] at h4
   have hR:iV s=n:=by
    rw [iV,if_neg,← h4,nX]
    rintro (h|h|⟨h,h'⟩)
    ·exact lJ n (h4.trans h)
    ·omega
    ·rw [← h4] at h h'
     have:=mi n h
     subst this
     rw [bY (by decide)] at h'
     simp at h'
   rw [hg,hR]
   exact ⟨by simp,fun _=>hn⟩
  ·refine ⟨?_,fun h=>absurd h hg⟩
   have hgf:jR s=false:=by simpa using hg
   rw [hgf]
   symm
   rw [decide_eq_false_iff_not]
   intro h0
   apply hg
   unfold iV at h0
   split at h0
   ·omega
   ·rename_i hc
    split at h0
    ·rename_i n hd
     have hs:¬ s=[]:=fun e=>hc (.inl e)
     have hcan:=xq _ s n rfl hs (fun h=>hc (.inr (.inr h))) hd
     have hat:Lib.atoi s=some (n:Int):=by
      cases s with
      | nil=>exact absurd rfl hs
      | cons b r =>
       have hb:∃ d,Lib.digitVal b=some d:=by
        simp only [Lib.decFrom] at hd
        split at hd
        ·exact ⟨_,by assumption⟩
        ·cases hd
       obtain ⟨d,hbd⟩:=hb
       unfold Lib.digitVal at hbd
       split at hbd
       ·rename_i hr
        have h45:(b == 45)=false:=by rw [beq_eq_false_iff_ne];rintro rfl;exact absurd hr.1 (by decide)
        have h43:(b == 43)=false:=by rw [beq_eq_false_iff_ne];rintro rfl;exact absurd hr.1 (by decide)
        simp only [Lib.atoi,h45,h43,Lib.decNat,List.isEmpty_cons,hd,Bool.false_eq_true,if_false,Option.map_some]
       ·cases hbd
     rw [hat] at hsh
     have h1:Lib.atoiAll s = .ok (n:Int):=hsh
     have h2:dC s=n:=by simp only [dC,h1]
     simp only [jR,h2,D0,h1,Lib.itoa_nonneg,hcan,Bool.and_eq_true,decide_eq_true_eq]
     exact ⟨⟨⟨trivial,by omega⟩,hl⟩,trivial⟩
    ·omega
 ·have hR:iV s = -1:=by rw [iV,if_pos (.inr (.inl (by omega)))]
  rw [hR,FE hl]
  exact ⟨by decide,fun h=>by cases h⟩
end Go.Proofs.YtmoaidkglldhcaaGreatDoor
namespace Go.Proofs.YtmoaidkglldhcaaGreatDoor
open Go Go.Ab
set_option maxRecDepth 20000
set_option maxHeartbeats 4000000
end Go.Proofs.YtmoaidkglldhcaaGreatDoor
namespace Go.Proofs.YtmoaidkglldhcaaGreatDoor
open Go Go.Ab
set_option maxRecDepth 20000
set_option maxHeartbeats 2000000
def chunk (s:Str):Str:=Lib.itoa s.length++[58]++s++[44]
def cG:List Str→Str
 | []=>[]
 | s::l=>chunk s++cG l
theorem ml (a b:List Str):cG (a++b)=cG a++cG b:=by
 induction a with
 | nil=>rfl
 | cons s a ih=>simp only [List.cons_append,cG,ih,List.append_assoc]
theorem lK {l:List Str} {i:Nat} (h:i < l.length):cG (l.take (i+1))=cG (l.take i)++chunk (l.getD i default):=by
 rw [List.take_add_one,ml,List.getElem?_eq_getElem h,List.getD_eq_getElem?_getD,List.getElem?_eq_getElem h]
 simp [cG]
theorem iI {l:List Str} (i:Nat):(cG (l.take i)).length≤(cG l).length:=by
 conv=>rhs;rw [← List.take_append_drop i l,ml,List.length_append]
 omega
theorem fj (s:Str):(Lib.itoa s.length).length+1+s.length+1=(chunk s).length:=by simp only [chunk,List.length_append,List.length_cons,List.length_nil]
theorem ux (q:Oid) (s:Str) (hl:(chunk s).length≤140737488355328) (p:Oid) (hp:p.mono=false) (hq:¬ Oid.under p (.ty 167 q)) :
  ah Tryz.prog 139 [.ptr (.ty 167 q) 0,.str s] (Oid.under p) ⟨[(.ty 167 q,.cells [.nilPtr,.nilSl])],.ptr (.ty 167 q) 0,
   [(.ty 167 q,some (.cells [.ptr (.ty 167 q) 0,.sl (.ty 5 (.sub 2 6 (.sub 1 8 p))) 1 (chunk s).length])),(.ty 5 (.sub 2 6 (.sub 1 8 p)),some (.arr 1 ((chunk s).map byA)))]⟩:=by
 have hs:=fj s
 have hq':∀ c i,¬ Oid.under (.sub c i p) (.ty 167 q):=fun c i h=>hq (Oid.ae h)
 refine aD (n:=15) (rs:=[.tmp 4]) Tryz.func139 rfl rfl (by decide) rfl rfl rfl ?_;rintro x rfl hrd hng
 (repeat (first|(refine aA rfl rfl ?_)|(refine az rfl rfl ?_)|(refine ar nmd [] hng (by kernel_rfl) fun hf C S K hC1 hC hS hK=>?_;simp (disch:=first|omega|assumption) only [go_sem];(repeat ((first|refine hC1 _ (mQ s.length (by omega) (by omega) _ (aw rfl hp)) (by simp (disch:=first|omega|assumption) only [go_sem]) ?_|refine hC1 _ (Ax q (chunk s) hl _ (hq' _ _)) (by simp (disch:=first|omega|assumption) only [go_sem]) ?_);simp (disch:=first|omega|assumption) only [go_sem]));refine hK ?_;clear hK hS hC hC1 K S C hf)|((first|refine zn ?_|refine ze ?_|refine zk ?_);with_reducible (constructor;repeat constructor);try refine zl ?_)))
 refine ay (aX rfl ?_ ?_)
 all_goals simp only [List.mem_cons,List.not_mem_nil,or_false,forall_eq_or_imp,forall_eq,Option.some.injEq,forall_eq',Mem.af,eq_self,if_true,↓reduceIte,reduceCtorEq,implies_true,not_true_eq_false,false_imp_iff,true_and,and_true,false_and,and_false,imp_self,Oid.ty.injEq,Nat.reduceEqDiff]
theorem xr (q r:Oid) (s0 s:Str) (hl:s0.length+(chunk s).length≤140737488355328) (p:Oid) (hp:p.mono=false) (hq:¬ Oid.under p (.ty 167 q)) (hr:¬ Oid.under p (.ty 5 r)) :
  ah Tryz.prog 139 [.ptr (.ty 167 q) 0,.str s] (Oid.under p) ⟨[(.ty 167 q,.cells [.ptr (.ty 167 q) 0,.sl (.ty 5 r) 1 s0.length]),(.ty 5 r,.arr 1 (s0.map byA))],.ptr (.ty 167 q) 0,
   [(.ty 167 q,some (.cells [.ptr (.ty 167 q) 0,.sl (.ty 5 (.sub 2 6 (.sub 1 8 p))) 1 (s0++chunk s).length])),(.ty 5 r,none),(.ty 5 (.sub 2 6 (.sub 1 8 p)),some (.arr 1 ((s0++chunk s).map byA)))]⟩:=by
 have hs:=fj s
 have hq':∀ c i,¬ Oid.under (.sub c i p) (.ty 167 q):=fun c i h=>hq (Oid.ae h)
 have hr':∀ c i,¬ Oid.under (.sub c i p) (.ty 5 r):=fun c i h=>hr (Oid.ae h)
 have hn:¬ Oid.sub 2 6 (.sub 1 8 p)=r:=fun e=>hr (by subst e;simp [Oid.under,Oid.aq])
 have hn':¬ r=Oid.sub 2 6 (.sub 1 8 p):=fun e=>hn e.symm
 refine aD (n:=15) (rs:=[.tmp 4]) Tryz.func139 rfl rfl (by decide) rfl rfl rfl ?_;rintro x rfl hrd hng
 (repeat (first|(refine aA rfl rfl ?_)|(refine az rfl rfl ?_)|(refine ar nmd [] hng (by kernel_rfl) fun hf C S K hC1 hC hS hK=>?_;simp (disch:=first|omega|assumption) only [go_sem];(repeat ((first|refine hC1 _ (mQ s.length (by omega) (by omega) _ (aw rfl hp)) (by simp (disch:=first|omega|assumption) only [go_sem]) ?_|refine hC1 _ (C6 q r s0 (chunk s) hl _ (hq' _ _) (hr' _ _)) (by simp (disch:=first|omega|assumption) only [go_sem]) ?_);simp (disch:=first|omega|assumption) only [go_sem]));refine hK ?_;clear hK hS hC hC1 K S C hf)|((first|refine zn ?_|refine ze ?_|refine zk ?_);with_reducible (constructor;repeat constructor);try refine zl ?_)))
 refine ay (aX rfl ?_ ?_)
 all_goals simp only [List.mem_cons,List.not_mem_nil,or_false,forall_eq_or_imp,forall_eq,Option.some.injEq,forall_eq',Mem.af,eq_self,if_true,↓reduceIte,reduceCtorEq,implies_true,not_true_eq_false,false_imp_iff,true_and,and_true,false_and,and_false,imp_self,Oid.ty.injEq,Nat.reduceEqDiff,hn,hn',List.length_append]
def qW (n:Nat) (p:Oid):Oid:=.sub 2 6 (.sub 1 8 (.sub (4 * n) 3 p))
theorem uy {c n:Nat} {p:Oid} (h:4 * n < c):¬ Oid.under (.sub c 3 p) (.ty 5 (qW n p)):=by
 have hself:¬ Oid.under (.sub c 3 p) p:=fun h=>by have:=Oid.eH h;simp [Oid.depth] at this;omega
 simp only [qW,Oid.under,reduceCtorEq,false_or,Oid.sub.injEq,Nat.reduceEqDiff,false_and,and_false,hself,or_false]
 omega
theorem C7 (l:List Str) (hne:¬ l=[]) (hl:(cG l).length≤140737488355328) (hn:l.length≤140737488355328) (q:Oid) (p:Oid) (hp:p.mono=false) (hq:¬ Oid.under p (.ty 167 q)) :
  ah Tryz.prog 138 [.list 1 (l.map AV.str),.ptr (.ty 167 q) 0,.fn (.func 139) [] []] (Oid.under p) ⟨[(.ty 167 q,.cells [.nilPtr,.nilSl])],.ptr (.ty 167 q) 0,
   [(.ty 167 q,some (.cells [.ptr (.ty 167 q) 0,.sl (.ty 5 (qW l.length p)) 1 (cG l).length])),(.ty 5 (qW l.length p),some (.arr 1 ((cG l).map byA)))]⟩:=by
 have hq':∀ c i,¬ Oid.under (.sub c i p) (.ty 167 q):=fun c i h=>hq (Oid.ae h)
 refine aD (n:=21) (rs:=[.tmp 6]) Tryz.func138 rfl rfl (by decide) rfl rfl rfl ?_;rintro x rfl hrd hng
 refine qw0 ?_
 refine bK [1,2,9,10,11] (fun k s'=>∃ (i:Nat) (M:List (Oid × ao)),k=l.length - i∧i≤l.length∧(i=0∧M=[(.ty 167 q,.cells [.nilPtr,.nilSl])] ∨
   ¬ i=0∧M=[(.ty 167 q,.cells [.ptr (.ty 167 q) 0,.sl (.ty 5 (qW i x.p)) 1 (cG (l.take i)).length]),(.ty 5 (qW i x.p),.arr 1 ((cG (l.take i)).map byA))]) ∧
   s' = ⟨[(1,.ptr (.ty 167 q) 0),(2,.fn (.func 139) [] []),(9,.list 1 (l.map AV.str)),(10,.int .i64 l.length),(11,.int .i64 i)],Mem.of M,2+4 * i,[]⟩) _ ⟨0,_,rfl,Nat.zero_le _,.inl ⟨rfl,rfl⟩,rfl⟩ ?_
 rintro k s' ⟨i,M,rfl,hi,hM,rfl⟩
 rcases hM with ⟨rfl,rfl⟩|⟨h0,rfl⟩
 ·refine qw0 ?_
  refine aS rfl rfl (fun hb=>?_) (fun hb=>?_)
  ·have hi0:0 < l.length:=by omega
   have ht:=lK (l:=l) hi0
   have hle:=iI (l:=l) 1
   rw [List.take_zero] at ht
   simp only [Nat.zero_add] at ht
   (repeat (first|(refine aA rfl rfl ?_)|(refine az rfl rfl ?_)|(refine ar nmd [] hng (by kernel_rfl) fun hf C S K hC1 hC hS hK=>?_;simp (disch:=first|omega|assumption) only [go_sem];(repeat ((first|refine hC1 _ (ux q (l.getD 0 default) (by rw [ht] at hle;simp only [cG,List.nil_append] at hle;omega) _ (aw rfl hp) (hq' _ _)) (by simp (disch:=first|omega|assumption) only [go_sem]) ?_);simp (disch:=first|omega|assumption) only [go_sem]));refine hK ?_;clear hK hS hC hC1 K S C hf)|((first|refine zn ?_|refine ze ?_|refine zk ?_);with_reducible (constructor;repeat constructor);try refine zl ?_)))
   refine ⟨_,_,?_,fun _ _ h=>h,1,_,rfl,by omega,.inr ⟨by omega,rfl⟩,?_⟩
   ·omega
   ·rw [ht];rfl
  ·exact absurd (List.eq_nil_of_length_eq_zero (by omega)) hne
 ·refine qw0 ?_
  refine aS rfl rfl (fun hb=>?_) (fun hb=>?_)
  ·have ht:=lK (l:=l) (i:=i) (by omega)
   have hle:=iI (l:=l) (i+1)
   (repeat (first|(refine aA rfl rfl ?_)|(refine az rfl rfl ?_)|(refine ar nmd [] hng (by kernel_rfl) fun hf C S K hC1 hC hS hK=>?_;simp (disch:=first|omega|assumption) only [go_sem];(repeat ((first|refine hC1 _ (xr q (qW i x.p) (cG (l.take i)) (l.getD i default) (by rw [ht,List.length_append] at hle;omega) _ (aw rfl hp) (hq' _ _) (uy (by omega))) (by simp (disch:=first|omega|assumption) only [go_sem]) ?_);simp (disch:=first|omega|assumption) only [go_sem]));refine hK ?_;clear hK hS hC hC1 K S C hf)|((first|refine zn ?_|refine ze ?_|refine zk ?_);with_reducible (constructor;repeat constructor);try refine zl ?_)))
   refine ⟨_,_,?_,fun _ _ h=>h,i+1,_,rfl,by omega,.inr ⟨by omega,rfl⟩,?_⟩
   ·omega
   ·have hc:4 * (i+1)=2+4 * i+1+1:=by omega
    rw [ht,List.length_append,qW,hc,show 2+4 * i+1+1+1+1=2+(2+4 * i+1+1) by omega];rfl
  ·obtain rfl:i=l.length:=by omega
   refine qw0 ?_
   refine ay (aX rfl ?_ ?_)
   all_goals simp only [List.mem_cons,List.not_mem_nil,or_false,forall_eq_or_imp,forall_eq,Option.some.injEq,forall_eq',Mem.af,eq_self,if_true,↓reduceIte,reduceCtorEq,implies_true,not_true_eq_false,false_imp_iff,true_and,and_true,false_and,and_false,imp_self,Oid.ty.injEq,Nat.reduceEqDiff,List.take_length]
theorem Ay (q:Oid) (p:Oid) :
  ah Tryz.prog 138 [.list 1 [],.ptr q 0,.fn (.func 139) [] []] (Oid.under p) ⟨[(q,.cells [.nilPtr,.nilSl])],.ptr q 0,[]⟩:=by
 refine aD (n:=21) (rs:=[.tmp 6]) Tryz.func138 rfl rfl (by decide) rfl rfl rfl ?_;rintro x rfl hrd hng
 refine qw0 ?_
 refine bK [1,2,9,10,11] (fun k s'=>k=0∧s' = ⟨[(1,.ptr q 0),(2,.fn (.func 139) [] []),(9,.list 1 []),(10,.int .i64 0),(11,.int .i64 0)],Mem.of [(q,.cells [.nilPtr,.nilSl])],2,[]⟩) _ ⟨rfl,rfl⟩ ?_
 rintro k s' ⟨rfl,rfl⟩
 refine qw0 ?_
 refine ay (aX rfl ?_ ?_)
 all_goals simp only [List.mem_cons,List.not_mem_nil,or_false,forall_eq_or_imp,forall_eq,Option.some.injEq,forall_eq',Mem.af,eq_self,if_true,↓reduceIte,reduceCtorEq,implies_true,not_true_eq_false,false_imp_iff,true_and,and_true,false_and,and_false,imp_self,Oid.ty.injEq,Nat.reduceEqDiff]
theorem uz {c i j:Nat} {t:Nat} {p:Oid} (h:¬ j=i):¬ Oid.under (.sub c j p) (.ty t (.sub c i p)):=by
 have hself:¬ Oid.under (.sub c j p) p:=fun h=>by have:=Oid.eH h;simp [Oid.depth] at this;omega
 simp only [Oid.under,reduceCtorEq,false_or,Oid.sub.injEq,h,false_and,and_false,hself,or_false,not_false_eq_true]
theorem pP (l:List Str) (hl:(cG l).length≤140737488355328) (hn:l.length≤140737488355328) (p:Oid) (hp:p.mono=false) :
  ah Tryz.prog 111 [.list 1 (l.map AV.str)] (Oid.under p) ⟨[],.str (cG l),[]⟩:=by
 by_cases hne:l=[]
 ·subst hne
  refine aD (n:=8) (rs:=[.tmp 2]) Tryz.func111 rfl rfl (by decide) rfl rfl rfl ?_;rintro x rfl hrd hng
  refine qw0 ?_
  refine ar nmd [] hng (by kernel_rfl) fun hf C S K hC1 hC hS hK=>?_;simp (disch:=first|omega|assumption) only [go_sem]
  refine hC1 _ (Ay (.ty 167 (.sub 1 2 _)) _) qs0 ?_
  simp (disch:=first|omega|assumption) only [go_sem]
  refine hC1 _ (uw (.sub 1 2 _) _) qs0 ?_
  simp (disch:=first|omega|assumption) only [go_sem]
  refine hK ?_;clear hK hS hC hC1 K S C hf
  refine qw0 ?_
  exact ay (bt rfl)
 ·have h0:0 < (cG l).length:=by
   cases l with
   | nil=>exact absurd rfl hne
   | cons s l =>
    have:=fj s
    simp only [cG,List.length_append];omega
  refine aD (n:=8) (rs:=[.tmp 2]) Tryz.func111 rfl rfl (by decide) rfl rfl rfl ?_;rintro x rfl hrd hng
  refine qw0 ?_
  refine ar nmd [] hng (by kernel_rfl) fun hf C S K hC1 hC hS hK=>?_;simp (disch:=first|omega|assumption) only [go_sem]
  refine hC1 _ (C7 l hne hl hn (.sub 1 2 _) _ (aw rfl hp) (uz (by decide))) qs0 ?_
  simp (disch:=first|omega|assumption) only [go_sem]
  refine hC1 _ (xo (.sub 1 2 _) (qW l.length (.sub 1 3 x.p)) _ h0 hl _) qs0 ?_
  simp (disch:=first|omega|assumption) only [go_sem]
  refine hK ?_;clear hK hS hC hC1 K S C hf
  refine qw0 ?_
  exact ay (bt rfl)
end Go.Proofs.YtmoaidkglldhcaaGreatDoor
namespace Go.Proofs.YtmoaidkglldhcaaGreatDoor
open Go Go.Ab Go.RowKit
set_option maxRecDepth 20000
set_option maxHeartbeats 2000000
def colon (s:Str):Nat:=(Lib.indexByte s 58).toNat
def mq (s:Str):Str:=s.take (colon s)
def j4 (s:Str):Str:=s.drop (colon s+1)
def mv (s:Str):Nat:=(dC (mq s)).toNat
def okS (s:Str):Prop:=0≤Lib.indexByte s 58∧jR (mq s)=true∧dC (mq s) < (j4 s).length∧(j4 s).getD (mv s) 0=44
instance (s:Str):Decidable (okS s):=by unfold okS;infer_instance
def xt:Nat→Str→Option (List Str)
 | 0,_=>none
 | k+1,s=>if s=[] then some [] else if okS s then (xt k ((j4 s).drop (mv s+1))).map ((j4 s).take (mv s)::·) else none
theorem qX {s:Str} (h:¬ s=[]):((j4 s).drop (mv s+1)).length < s.length:=by
 have:=List.length_pos_iff.2 h;simp only [j4,List.length_drop];omega
theorem pQ:∀ (k k':Nat) (s:Str),s.length < k→s.length < k'→xt k s=xt k' s
 | 0,_,_,h,_=>absurd h (Nat.not_lt_zero _)
 | _+1,0,_,_,h=>absurd h (Nat.not_lt_zero _)
 | k+1,k' + 1,s,h,h'=>by
  simp only [xt]
  by_cases h0:s=[]
  ·rw [if_pos h0,if_pos h0]
  rw [if_neg h0,if_neg h0]
  split
  ·rw [pQ k k' _ (by have:=qX h0;omega) (by have:=qX h0;omega)]
  ·rfl
def sT (s:Str):Option (List Str):=xt (s.length+1) s
theorem xu {s:Str} (h0:¬ s=[]) (h:okS s):sT s=(sT ((j4 s).drop (mv s+1))).map ((j4 s).take (mv s)::·):=by
 rw [sT,xt,if_neg h0,if_pos h]
 exact congrArg _ (pQ _ _ _ (qX h0) (Nat.lt_succ_self _))
end Go.Proofs.YtmoaidkglldhcaaGreatDoor
namespace Go.Proofs.YtmoaidkglldhcaaGreatDoor
open Go Go.Ab
set_option maxRecDepth 20000
set_option maxHeartbeats 4000000
structure Bits where
 k:Int
 m:Int
 l:Str
deriving DecidableEq
def Bits.av (b:Bits):AV:=.agg [.int .i64 b.k,.int .i64 b.m,.str b.l]
def Bits.no:Bits:=⟨0,0,[]⟩
def Bits.ok (b:Bits):Prop:=(-9223372036854775808≤b.k∧b.k≤9223372036854775807)∧(-9223372036854775808≤b.m∧b.m≤9223372036854775807)∧b.l.length≤4000000000
def cC (b:Bits):Str:=if b.k=0 then [] else cG [Lib.itoa b.k,Lib.itoa b.m,b.l]
theorem im {s:Str} (h:s.length≤4000000000):(chunk s).length≤4000000100:=by
 have h1:=fj s
 have h2:=Lib.itoa_length_le s.length (by omega) (by omega)
 omega
theorem sU (b:Bits) (hb:b.ok) (p:Oid) (hp:p.mono=false):ah Tryz.prog 81 [b.av] (Oid.under p) ⟨[],.str (cC b),[]⟩:=by
 obtain ⟨k,m,l⟩:=b
 obtain ⟨⟨k1,k2⟩,⟨m1,m2⟩,hl⟩:=hb
 simp only at k1 k2 m1 m2 hl
 have hk:=Lib.itoa_length_le k k1 k2
 have hm:=Lib.itoa_length_le m m1 m2
 have h1:=im (s:=Lib.itoa k) (by omega)
 have h2:=im (s:=Lib.itoa m) (by omega)
 have h3:=im hl
 have hE:(cG [Lib.itoa k,Lib.itoa m,l]).length≤140737488355328:=by simp only [cG,List.length_append,List.length_nil];omega
 simp only [Bits.av]
 refine aD (n:=16) (rs:=[.tmp 2]) Tryz.func81 rfl rfl (by decide) rfl rfl rfl ?_;rintro x rfl hrd hng
 refine qw0 ?_
 refine aS rfl rfl (fun hb=>?_) (fun hb=>?_)
 ·refine qw0 ?_
  exact ay (bt (congrArg AV.str (by rw [cC,if_pos hb])))
 ·(try ((first|refine zn ?_|refine ze ?_|refine zk ?_);with_reducible (constructor;repeat constructor));try refine zl ?_)
  refine cV nmd [] [(2,4),(2,7),(5,7)] mixed hng (by kernel_rfl) [2] fun hf C S K hC hS hK=>?_;simp (disch:=first|omega|assumption) only [go_sem]
  (repeat ((first|refine hC _ (mQ k k1 k2 _ (aw rfl hp)) (by simp (disch:=first|omega|assumption) only [go_sem]) ?_|refine hC _ (mQ m m1 m2 _ (aw rfl hp)) (by simp (disch:=first|omega|assumption) only [go_sem]) ?_|refine hC _ (pP [Lib.itoa k,Lib.itoa m,l] hE (by simp) _ (aw rfl hp)) (by simp (disch:=first|omega|assumption) only [go_sem]) ?_);simp (disch:=first|omega|assumption) only [go_sem]))
  (first|refine hK (aT rfl) ?_|refine hK (by simp (disch:=first|omega|assumption) only [go_sem,List.reverse_cons,List.reverse_nil,ne_eq,not_false_eq_true,implies_true]) ?_);clear hK hS hC K S C hf
  refine qw0 ?_
  exact ay (bt (congrArg AV.str (by rw [cC,if_neg hb])))
def uA (s a b c:Str):Bool:=jR a && jR b && decide (1≤dC a) && decide (dC a≤3) && decide (dC b≤7) && !(decide (dC a=2) && decide (c≠[])) && decide (cC ⟨dC a,dC b,c⟩=s)
theorem sV {s a b c:Str}:uA s a b c=true↔jR a=true∧jR b=true∧1≤dC a∧dC a≤3∧dC b≤7∧¬ (dC a=2∧¬ c=[])∧cC ⟨dC a,dC b,c⟩=s:=by
 simp only [uA,Bool.and_eq_true,decide_eq_true_eq,Bool.not_eq_true',Bool.and_eq_false_imp,decide_eq_false_iff_not,not_and,and_assoc,ne_eq]
def lL (s:Str):Bits × Int:=if s=[] then (Bits.no,0) else match sT s with
 | some [a,b,c]=>if uA s a b c=true then (⟨dC a,dC b,c⟩,0) else (Bits.no,20)
 | _=>(Bits.no,20)
end Go.Proofs.YtmoaidkglldhcaaGreatDoor
namespace Go.Proofs.YtmoaidkglldhcaaGreatDoor
open Go Go.Ab
set_option maxRecDepth 20000
set_option maxHeartbeats 4000000
theorem nY (l:List Str) (hl:(cG l).length≤140737488355328) (hn:l.length≤140737488355328) (p:Oid):ah Tryz.prog 113 [.list 1 (l.map AV.str)] (Oid.under p) ⟨[],.str (cG l),[]⟩:=by
 refine aD (n:=27) (rs:=[.tmp 2]) Tryz.func113 rfl rfl (by decide) rfl rfl rfl ?_;rintro x rfl hrd hng
 refine qw0 ?_
 refine bK [0,3,4] (fun k s'=>∃ (i c:Nat),k=l.length - i∧i≤l.length∧s' = ⟨[(0,.list 1 (l.map AV.str)),(3,.str (cG (l.take i))),(4,.int .i64 i)],Mem.of [],c,[]⟩) _ ⟨0,_,rfl,Nat.zero_le _,rfl⟩ ?_
 rintro k s' ⟨i,c,rfl,hi,rfl⟩
 refine qw0 ?_
 refine aS rfl rfl (fun hb=>?_) (fun hb=>?_)
 ·have ht:=lK (l:=l) (i:=i) (by omega)
  have hle:=iI (l:=l) (i+1)
  have hch:=fj (l.getD i default)
  have hdl:=Lib.itoa_nonneg (l.getD i default).length
  rw [hdl] at hch
  rw [ht,List.length_append] at hle
  (try ((first|refine zn ?_|refine ze ?_|refine zk ?_);with_reducible (constructor;repeat constructor));try refine zl ?_)
  refine cV nmd [] [(6,12)] mixed hng (by kernel_rfl) [0,3,4] fun hf C S K hC hS hK=>?_;simp (disch:=first|omega|assumption) only [go_sem]
  (repeat ((first|refine hC _ (lI (l.getD i default).length (by omega) _) (by simp (disch:=first|omega|assumption) only [go_sem]) ?_);simp (disch:=first|omega|assumption) only [go_sem]))
  (first|refine hK (aT rfl) ?_|refine hK (by simp (disch:=first|omega|assumption) only [go_sem,List.reverse_cons,List.reverse_nil,ne_eq,not_false_eq_true,implies_true]) ?_);clear hK hS hC K S C hf
  refine qw0 ?_
  have hs:cG (l.take i)++Lib.decDigits (l.getD i default).length++[58]++l.getD i default++[44]=cG (l.take (i+1)):=by rw [ht,chunk,hdl];simp only [List.append_assoc]
  rw [hs]
  exact ⟨_,_,by omega,fun _ _ h=>h,i+1,c+1+1+1,rfl,by omega,rfl⟩
 ·obtain rfl:i=l.length:=by omega
  refine qw0 ?_
  exact ay (bt (congrArg AV.str (by rw [List.take_length])))
theorem pR (b:Bits) (hb:b.ok) (h0:0≤b.k∧0≤b.m) (p:Oid):ah Tryz.prog 83 [b.av] (Oid.under p) ⟨[],.str (cC b),[]⟩:=by
 obtain ⟨k,m,l⟩:=b
 obtain ⟨⟨k1,k2⟩,⟨m1,m2⟩,hl⟩:=hb
 simp only at k1 k2 m1 m2 hl h0
 obtain ⟨k,rfl⟩:=Int.eq_ofNat_of_zero_le h0.1
 obtain ⟨m,rfl⟩:=Int.eq_ofNat_of_zero_le h0.2
 have hk:=gX k k2
 have hm:=gX m m2
 have h1:=im (s:=Lib.decDigits k) (by omega)
 have h2:=im (s:=Lib.decDigits m) (by omega)
 have h3:=im hl
 have hE:(cG [Lib.decDigits k,Lib.decDigits m,l]).length≤140737488355328:=by simp only [cG,List.length_append,List.length_nil];omega
 simp only [Bits.av]
 refine aD (n:=16) (rs:=[.tmp 2]) Tryz.func83 rfl rfl (by decide) rfl rfl rfl ?_;rintro x rfl hrd hng
 refine qw0 ?_
 refine aS rfl rfl (fun hb=>?_) (fun hb=>?_)
 ·refine qw0 ?_
  exact ay (bt (congrArg AV.str (by rw [cC,if_pos hb])))
 ·(try ((first|refine zn ?_|refine ze ?_|refine zk ?_);with_reducible (constructor;repeat constructor));try refine zl ?_)
  refine cV nmd [] [(2,4),(2,7),(5,7)] mixed hng (by kernel_rfl) [2] fun hf C S K hC hS hK=>?_;simp (disch:=first|omega|assumption) only [go_sem]
  (repeat ((first|refine hC _ (lI k k2 _) (by simp (disch:=first|omega|assumption) only [go_sem]) ?_|refine hC _ (lI m m2 _) (by simp (disch:=first|omega|assumption) only [go_sem]) ?_|refine hC _ (nY [Lib.decDigits k,Lib.decDigits m,l] hE (by simp) _) (by simp (disch:=first|omega|assumption) only [go_sem]) ?_);simp (disch:=first|omega|assumption) only [go_sem]))
  (first|refine hK (aT rfl) ?_|refine hK (by simp (disch:=first|omega|assumption) only [go_sem,List.reverse_cons,List.reverse_nil,ne_eq,not_false_eq_true,implies_true]) ?_);clear hK hS hC K S C hf
  refine qw0 ?_
  exact ay (bt (congrArg AV.str (by rw [cC,if_neg hb,Lib.itoa_nonneg,Lib.itoa_nonneg])))
end Go.Proofs.YtmoaidkglldhcaaGreatDoor
namespace Go.Proofs.YtmoaidkglldhcaaGreatDoor
open Go Go.Ab
set_option maxRecDepth 20000
set_option maxHeartbeats 4000000
theorem sW (c:UInt8):∀ r:Str,(Lib.indexByte r c = -1∧∀ j,j < r.length→¬ r.getD j 0=c)∨∃ i:Nat,Lib.indexByte r c=i∧i < r.length∧r.getD i 0=c∧∀ j,j < i→¬ r.getD j 0=c
 | []=>.inl ⟨rfl,fun j hj=>absurd hj (Nat.not_lt_zero _)⟩
 | b::r=>by
  by_cases hb:b=c
  ·refine .inr ⟨0,by simp [Lib.indexByte,hb],by simp,by simp [hb],fun j hj=>absurd hj (Nat.not_lt_zero _)⟩
  have hb':(b == c)=false:=by simpa using hb
  rcases sW c r with ⟨h1,h2⟩|⟨i,h1,h2,h3,h4⟩
  ·refine .inl ⟨by simp [Lib.indexByte,hb',h1],fun j hj=>?_⟩
   cases j with
   | zero=>simpa using hb
   | succ j=>simpa using h2 j (by simpa using hj)
  ·refine .inr ⟨i+1,?_,by simpa using h2,by simpa using h3,fun j hj=>?_⟩
   ·have:¬ Lib.indexByte r c = -1:=by omega
    simp only [Lib.indexByte,hb',Bool.false_eq_true,if_false,beq_iff_eq,this,h1];omega
   ·cases j with
    | zero=>simpa using hb
    | succ j=>simpa using h4 j (by omega)
end Go.Proofs.YtmoaidkglldhcaaGreatDoor
namespace Go.Proofs.YtmoaidkglldhcaaGreatDoor
open Go Go.Ab
set_option maxRecDepth 20000
set_option maxHeartbeats 4000000
theorem Az {s a b c:Str}:uA s a b c=true↔1≤iV a∧iV a≤3∧0≤iV b∧iV b≤7∧¬ (iV a=2∧¬ c=[])∧cC ⟨iV a,iV b,c⟩=s:=by
 rw [sV]
 obtain ⟨a1,a2⟩:=kV a
 obtain ⟨b1,b2⟩:=kV b
 constructor
 ·rintro ⟨h1,h2,h3,h4,h5,h6,h7⟩
  rw [a2 h1] at h3 h4 h6 h7
  rw [b2 h2] at h5 h7
  rw [b1,decide_eq_true_eq] at h2
  exact ⟨h3,h4,h2,h5,h6,h7⟩
 ·rintro ⟨h1,h2,h3,h4,h5,h6⟩
  have g1:jR a=true:=by rw [a1,decide_eq_true_eq];omega
  have g2:jR b=true:=by rw [b1,decide_eq_true_eq];omega
  rw [a2 g1,b2 g2]
  exact ⟨g1,g2,h1,h2,h4,h5,h6⟩
theorem C8 {s a b c:Str}:(if uA s a b c=true then ((⟨dC a,dC b,c⟩:Bits),(0:Int)) else (Bits.no,20))=if uA s a b c=true then (⟨iV a,iV b,c⟩,0) else (Bits.no,20):=by
 split
 ·rename_i h
  have:=sV.1 h
  rw [(kV a).2 this.1,(kV b).2 this.2.1]
 ·rfl
end Go.Proofs.YtmoaidkglldhcaaGreatDoor
namespace Go.Proofs.YtmoaidkglldhcaaGreatDoor
open Go Go.Ab
set_option maxRecDepth 20000
set_option maxHeartbeats 4000000
theorem xv {a b:List Str} {i:Nat} (ha:i < a.length) (hb:i < b.length) (h:a.take i=b.take i) (he:a.getD i default=b.getD i default):a.take (i+1)=b.take (i+1):=by
 rw [List.take_add_one,List.take_add_one,h,List.getElem?_eq_getElem ha,List.getElem?_eq_getElem hb]
 rw [List.getD_eq_getElem?_getD,List.getD_eq_getElem?_getD,List.getElem?_eq_getElem ha,List.getElem?_eq_getElem hb] at he
 simp only [Option.getD_some] at he
 rw [he]
theorem vM (a b:List Str) (ha:a.length≤140737488355328) (hbl:b.length≤140737488355328) (p:Oid):ah Tryz.prog 60 [.list 1 (a.map AV.str),.list 1 (b.map AV.str)] (Oid.under p) ⟨[],.bool (decide (a=b)),[]⟩:=by
 refine aD (n:=26) (rs:=[.tmp 4]) Tryz.func60 rfl rfl (by decide) rfl rfl rfl ?_;rintro x rfl hrd hng
 refine qw0 ?_
 refine aS rfl rfl (fun hb=>?_) (fun hb=>?_)
 ·have hne:¬ a=b:=fun e=>hb (by rw [e])
  refine qw0 ?_
  exact ay (bt (congrArg AV.bool (decide_eq_false hne).symm))
 ·have hlen:a.length=b.length:=by omega
  refine qw0 ?_
  refine bK [0,1,5] (fun k s'=>∃ (i c:Nat),k=a.length - i∧i≤a.length∧a.take i=b.take i∧s' = ⟨[(0,.list 1 (a.map AV.str)),(1,.list 1 (b.map AV.str)),(5,.int .i64 i)],Mem.of [],c,[]⟩) _ ⟨0,_,rfl,Nat.zero_le _,rfl,rfl⟩ ?_
  rintro k s' ⟨i,c,rfl,hi,htk,rfl⟩
  refine qw0 ?_
  refine aS rfl rfl (fun hb=>?_) (fun hb=>?_)
  ·(try ((first|refine zn ?_|refine ze ?_|refine zk ?_);with_reducible (constructor;repeat constructor));try refine zl ?_)
   refine cL [0,1,5,25] (fun s'=>∃ c':Nat,s' = ⟨[(0,.list 1 (a.map AV.str)),(1,.list 1 (b.map AV.str)),(5,.int .i64 i),(25,.bool (decide (¬ a.getD i default=b.getD i default)))],Mem.of [],c',[]⟩) ?_ ?_
   ·refine qd (.d [] [] [0,1,5,25]) trivial trivial ?_
    exact aQ ⟨_,rfl⟩
   rintro s' ⟨c',rfl⟩
   refine qw0 ?_
   refine aS rfl rfl (fun hb=>?_) (fun hb=>?_)
   ·have hne:¬ a=b:=fun e=>hb (by rw [e])
    refine qw0 ?_
    exact ay (bt (congrArg AV.bool (decide_eq_false hne).symm))
   ·refine qw0 ?_
    exact ⟨_,_,by omega,fun _ _ h=>h,i+1,_,rfl,by omega,xv (by omega) (by omega) htk (Classical.not_not.1 hb),rfl⟩
  ·have he:a=b:=by
    have h1:i=a.length:=by omega
    rw [h1,List.take_length,hlen,List.take_length] at htk
    exact htk
   refine qw0 ?_
   exact ay (bt (congrArg AV.bool (decide_eq_true he).symm))
end Go.Proofs.YtmoaidkglldhcaaGreatDoor
namespace Go.Proofs.YtmoaidkglldhcaaGreatDoor
open Go Go.Ab
set_option maxRecDepth 20000
set_option maxHeartbeats 4000000
def paths:List Str:=[[],[47,97],[47,98],[47,97,47,97],[47,97,47,98],[47,98,47,97],[97],[47,97,47,97,47,97],[47],[47,97,98]]
def vN (i:UInt8):Str:=paths.getD (i.toNat % 10) default
def dW (m k l:UInt8):Bits :=
 ⟨(m.toNat % 4:Nat),(k.toNat % 8:Nat),if m.toNat % 4=1∨m.toNat % 4=3 then ([120,121,122]:Str).drop (l.toNat % 3) else []⟩
theorem AA (p:Oid):ah Tryz.prog 46 [] (Oid.under p) ⟨[],.ptr (.sub 1 2 p) 0,[(.sub 1 2 p,some (.cells [.map (.sub 1 0 p),.nilPtr])),(.sub 1 0 p,some (.map [.ss] false [] 0))]⟩:=by
 refine aD (n:=4) (rs:=[.tmp 0]) Tryz.func46 rfl rfl (by decide) rfl rfl rfl ?_;rintro x rfl hrd hng
 refine qw0 ?_
 refine ay (aX rfl ?_ ?_)
 all_goals simp [Mem.af]
end Go.Proofs.YtmoaidkglldhcaaGreatDoor
namespace Go.Proofs.YtmoaidkglldhcaaGreatDoor
open Go Go.Ab
set_option maxRecDepth 20000
set_option maxHeartbeats 4000000
theorem bU {P:Program} {rs:List ResultVar} {need:List (Oid × ao)} {fr:List (Nat × AV)} {m:Mem} {c:Nat} {val:AV} {upd:List (Oid × Option ao)} (h1:fh P m fr rs=some val)
  (h2:∀ q,q ∈ upd→∀ o,q.2=some o→m q.1=some o) (h3:∀ q,q ∈ need→(∀ r,r ∈ upd→¬ r.1=q.1)→m q.1=some q.2):dG P rs need (fun v u=>v=val∧u=upd) (fun _ _=>False) .normal ⟨fr,m,c,[]⟩ :=
 eL val upd h1 ⟨rfl,rfl⟩ (qV h2 h3)
variable (st t:Oid) (es:List ME) (clock:Nat) (hts:¬ t=st) (p:Oid) (hs:¬ Oid.under p st) (ht:¬ Oid.under p t)
include hts hs ht
theorem C9 (b:Bits):ah Tryz.prog 43 [.ptr st 0,.str [],b.av] (Oid.under p) ⟨[(st,.cells [.map t,.nilPtr]),(t,.map [.ss] false es clock)],.tuple [],[]⟩:=by
 simp only [Bits.av]
 refine aD (n:=35) (rs:=[]) Tryz.func43 rfl rfl (by decide) rfl rfl rfl ?_;rintro x rfl hrd hng
 refine qw (ai (uu ht) (ai (uu hs) hts)) ?_
 refine ay (aX rfl ?_ ?_)
 all_goals simp only [List.mem_cons,List.not_mem_nil,or_false,forall_eq_or_imp,forall_eq,Option.some.injEq,forall_eq',Mem.af,eq_self,if_true,↓reduceIte,reduceCtorEq,implies_true,not_true_eq_false,false_imp_iff,true_and,and_true,false_and,and_false,imp_self,Oid.ab ht,Oid.aa ht,Oid.ab hs,Oid.aa hs,hts]
theorem Da (n:Str) (hn:¬ n=[]) (b:Bits) (hb:¬ b.k=0):ah Tryz.prog 43 [.ptr st 0,.str n,b.av] (Oid.under p) ⟨[(st,.cells [.map t,.nilPtr]),(t,.map [.ss] false es clock)],.tuple [],[(t,some (.map [.ss] false (fL (.str n) b.av clock es) (if dY (.str n) es then clock else clock+1)))]⟩:=by
 simp only [Bits.av]
 refine aD (n:=35) (rs:=[]) Tryz.func43 rfl rfl (by decide) rfl rfl rfl ?_;rintro x rfl hrd hng
 refine qw (ai (uu ht) (ai (uu hs) hts)) ?_
 refine aS rfl rfl (fun hb'=>?_) (fun hb'=>?_)
 ·exact absurd hb' hn
 ·refine qw (ai (uu ht) (ai (uu hs) hts)) ?_
  refine aS rfl rfl (fun hb'=>?_) (fun hb'=>?_)
  ·exact absurd hb' hb
  ·(try ((first|refine zn ?_|refine ze ?_|refine zk ?_);with_reducible (constructor;repeat constructor));try refine zl ?_)
   refine qd (.d [] [] [0]) (ai (uu ht) (ai (uu hs) hts)) trivial ?_
   refine cK (bU rfl ?_ ?_)
   all_goals simp only [List.mem_cons,List.not_mem_nil,or_false,forall_eq_or_imp,forall_eq,Option.some.injEq,forall_eq',Mem.af,eq_self,if_true,↓reduceIte,reduceCtorEq,implies_true,not_true_eq_false,false_imp_iff,true_and,and_true,false_and,and_false,imp_self,Oid.ab ht,Oid.aa ht,Oid.ab hs,Oid.aa hs,hts]
theorem Db (n:Str) (hn:¬ n=[]) (b:Bits) (hb:b.k=0):ah Tryz.prog 43 [.ptr st 0,.str n,b.av] (Oid.under p) ⟨[(st,.cells [.map t,.nilPtr]),(t,.map [.ss] false es clock)],.tuple [],[(t,some (.map [.ss] false (kM (.str n) es) clock))]⟩:=by
 simp only [Bits.av]
 refine aD (n:=35) (rs:=[]) Tryz.func43 rfl rfl (by decide) rfl rfl rfl ?_;rintro x rfl hrd hng
 refine qw (ai (uu ht) (ai (uu hs) hts)) ?_
 refine aS rfl rfl (fun hb'=>?_) (fun hb'=>?_)
 ·exact absurd hb' hn
 ·refine qw (ai (uu ht) (ai (uu hs) hts)) ?_
  refine aS rfl rfl (fun hb'=>?_) (fun hb'=>?_)
  ·refine qw (ai (uu ht) (ai (uu hs) hts)) ?_
   refine cK (bU rfl ?_ ?_)
   all_goals simp only [List.mem_cons,List.not_mem_nil,or_false,forall_eq_or_imp,forall_eq,Option.some.injEq,forall_eq',Mem.af,eq_self,if_true,↓reduceIte,reduceCtorEq,implies_true,not_true_eq_false,false_imp_iff,true_and,and_true,false_and,and_false,imp_self,Oid.ab ht,Oid.aa ht,Oid.ab hs,Oid.aa hs,hts]
  ·exact absurd hb hb'
omit hts in
theorem vO (n:Str) (b:Bits) (hv:ic (.str n) (.agg [.int .i64 0,.int .i64 0,.str []]) es=b.av):ah Tryz.prog 74 [.map t,.str n] (Oid.under p) ⟨[(t,.map [.ss] false es clock)],(if n=[] then (⟨2,7,[]⟩:Bits) else b).av,[]⟩:=by
 simp only [Bits.av] at hv
 refine aD (n:=11) (rs:=[.cell 4 50]) Tryz.func74 rfl rfl (by decide) rfl rfl rfl ?_;rintro x rfl hrd hng
 refine qw (uu ht) ?_
 refine aS rfl rfl (fun hb'=>?_) (fun hb'=>?_)
 ·rw [if_pos hb']
  refine qw (uu ht) ?_
  refine ay (aX (by simp (disch:=first|omega|assumption) only [go_sem,Bits.av,Oid.ab ht,Oid.aa ht]) ?_ ?_)
  all_goals simp only [List.mem_cons,List.not_mem_nil,or_false,forall_eq_or_imp,forall_eq,Option.some.injEq,forall_eq',Mem.af,eq_self,if_true,↓reduceIte,reduceCtorEq,implies_true,not_true_eq_false,false_imp_iff,true_and,and_true,false_and,and_false,imp_self,Oid.ab ht,Oid.aa ht]
 ·rw [if_neg hb']
  refine qw (ai (uu ht) hv) ?_
  refine ay (aX (by simp (disch:=first|omega|assumption) only [go_sem,Bits.av,Oid.ab ht,Oid.aa ht]) ?_ ?_)
  all_goals simp only [List.mem_cons,List.not_mem_nil,or_false,forall_eq_or_imp,forall_eq,Option.some.injEq,forall_eq',Mem.af,eq_self,if_true,↓reduceIte,reduceCtorEq,implies_true,not_true_eq_false,false_imp_iff,true_and,and_true,false_and,and_false,imp_self,Oid.ab ht,Oid.aa ht]
omit hts ht in
theorem vP (n:Str) (f:Bool):ah Tryz.prog 73 [.ptr st 0,.agg [.str n,.bool f]] (Oid.under p) ⟨[(st,.cells [.map t,.nilPtr])],.tuple [],[]⟩:=by
 refine aD (n:=59) (rs:=[]) Tryz.func73 rfl rfl (by decide) rfl rfl rfl ?_;rintro x rfl hrd hng
 refine qr .o (uu hs) trivial ?_
 refine cV nmd [(5,11),(9,15)] [] mixed hng (by kernel_rfl) [27] fun hf C S K hC hS hK=>?_;simp (disch:=first|omega|assumption) only [go_sem,Oid.ab hs,Oid.aa hs]
 (first|refine hK (aT rfl) ?_|refine hK (by simp (disch:=first|omega|assumption) only [go_sem,List.reverse_cons,List.reverse_nil,ne_eq,not_false_eq_true,implies_true]) ?_);clear hK hS hC K S C hf
 refine qw0 ?_
 refine ay (aX rfl ?_ ?_)
 all_goals simp only [List.mem_cons,List.not_mem_nil,or_false,forall_eq_or_imp,forall_eq,Option.some.injEq,forall_eq',Mem.af,eq_self,if_true,↓reduceIte,reduceCtorEq,implies_true,not_true_eq_false,false_imp_iff,true_and,and_true,false_and,and_false,imp_self,Oid.ab hs,Oid.aa hs]
theorem uB (n:Str) (b:Bits) (hv:ic (.str n) (.agg [.int .i64 0,.int .i64 0,.str []]) es=b.av):ah Tryz.prog 27 [.ptr st 0,.str n] (Oid.under p) ⟨[(st,.cells [.map t,.nilPtr]),(t,.map [.ss] false es clock)],(if n=[] then (⟨2,7,[]⟩:Bits) else b).av,[]⟩:=by
 have hs':∀ c i,¬ Oid.under (.sub c i p) st:=fun c i h=>hs (Oid.ae h)
 have ht':∀ c i,¬ Oid.under (.sub c i p) t:=fun c i h=>ht (Oid.ae h)
 generalize hB:(if n=[] then (⟨2,7,[]⟩:Bits) else b)=B
 have hat:=fun p hs ht=>vO st t es clock p hs ht n b hv
 rw [hB] at hat
 simp only [Bits.av] at hat ⊢
 refine aD (n:=15) (rs:=[.cell 4 50]) Tryz.func27 rfl rfl (by decide) rfl rfl rfl ?_;rintro x rfl hrd hng
 refine qw (ai (uu ht) (ai (uu hs) hts)) ?_
 refine qr .o (ai (uu ht) (ai (uu hs) hts)) (cq (vP st t _ (hs' _ _) n false) trivial) ?_
 refine qr .o (ai (uu ht) (ai (uu hs) hts)) (cq (hat _ (hs' _ _) (ht' _ _)) trivial) ?_
 refine qw (ai (uu ht) (ai (uu hs) hts)) ?_
 refine ay (aX (qs (ai (uu ht) (ai (uu hs) hts))) ?_ ?_)
 all_goals simp only [List.mem_cons,List.not_mem_nil,or_false,forall_eq_or_imp,forall_eq,Option.some.injEq,forall_eq',Mem.af,eq_self,if_true,↓reduceIte,reduceCtorEq,implies_true,not_true_eq_false,false_imp_iff,true_and,and_true,false_and,and_false,imp_self,Oid.ab ht,Oid.aa ht,Oid.ab hs,Oid.aa hs,hts]
end Go.Proofs.YtmoaidkglldhcaaGreatDoor
namespace Go.Proofs.YtmoaidkglldhcaaGreatDoor
open Go Go.Ab
set_option maxRecDepth 20000
set_option maxHeartbeats 4000000
theorem mw (s:Str) (c:UInt8) (sp:Oid→Prop):ah Tryz.prog 166 [.str s,.str [c]] sp ⟨[],.bool (decide (0≤Lib.indexByte s c)),[]⟩ :=
 gN (by kernel_rfl) fun g args w ha _=>by
  obtain ⟨v,u,rfl,hv,hu⟩:=ha.two
  obtain ⟨b,rfl,hb⟩:=hv.bX
  obtain ⟨d,rfl,hd⟩:=hu.bX
  obtain rfl:d=⟨#[c]⟩:=by cases d with|mk a=>cases a with|mk l=>simp only at hd;rw [hd]
  refine (Tryz.strings_Contains_one b c w).mono ?_
  rintro e w' ⟨rfl,rfl⟩
  exact ⟨_,rfl,by rw [hb];exact .bool _,rfl⟩
def iq (s t:Str):Bool:=decide (t.length≤s.length) && decide (s.take t.length=t)
theorem kW (s t:Str) (hl:s.length≤140737488355328) (hl2:t.length≤140737488355328) (p:Oid):ah Tryz.prog 170 [.str s,.str t] (Oid.under p) ⟨[],.bool (iq s t),[]⟩:=by
 refine aD (n:=18) (rs:=[.tmp 4]) Tryz.func170 rfl rfl (by decide) rfl rfl rfl ?_;rintro x rfl hrd hng
 refine qr0 ?_
 refine ar nmd [(5,10)] hng (by kernel_rfl) fun hf C S K hC1 hC hS hK=>?_;simp (disch:=first|omega|assumption) only [go_sem]
 (repeat' (first|(refine dw (fun hv=>?_) (fun hv=>?_)<;>(try simp only [zb1,zb2,zb3,zb4,zb5] at hv)<;>simp (disch:=first|omega|assumption) only [go_sem,hv])|(refine hK ?_;clear hK hS hC hC1 K S C hf)))
 ·refine qw0 ?_
  exact ay (bt (congrArg AV.bool (by rw [iq,decide_eq_true (by omega:t.length≤s.length),Bool.true_and])))
 ·refine qw0 ?_
  exact ay (bt (congrArg AV.bool (by rw [iq,decide_eq_false (by omega:¬ t.length≤s.length),Bool.false_and])))
theorem pa (s t:Str) (hl:s.length≤140737488355328) (hl2:t.length≤140737488355328) (p:Oid):ah Tryz.prog 180 [.str s,.str t] (Oid.under p) ⟨[],.tuple [.str (if iq s t=true then s.drop t.length else s),.bool (iq s t)],[]⟩:=by
 have hpre:iq s t=true→t.length≤s.length:=fun h=>by simp only [iq,Bool.and_eq_true,decide_eq_true_eq] at h;exact h.1
 refine aD (n:=15) (rs:=[.tmp 4,.tmp 5]) Tryz.func180 rfl rfl (by decide) rfl rfl rfl ?_;rintro x rfl hrd hng
 (repeat (first|(refine aA rfl rfl ?_)|(refine az rfl rfl ?_)|(refine ar nmd [] hng (by kernel_rfl) fun hf C S K hC1 hC hS hK=>?_;simp (disch:=first|omega|assumption) only [go_sem];(repeat ((first|refine hC1 _ (kW s t hl hl2 _) (by simp (disch:=first|omega|assumption) only [go_sem]) ?_);simp (disch:=first|omega|assumption) only [go_sem]));refine hK ?_;clear hK hS hC hC1 K S C hf)|((first|refine zn ?_|refine ze ?_|refine zk ?_);with_reducible (constructor;repeat constructor);try refine zl ?_)))
 cases hp:iq s t with
 | true =>
  have:=hpre hp
  refine qw0 ?_
  exact ay (dI rfl)
 | false =>
  refine qw0 ?_
  exact ay (dI rfl)
theorem qY (s t:Str) (hl:s.length≤140737488355328) (hl2:t.length≤140737488355328) (p:Oid):ah Tryz.prog 165 [.str s,.str t] (Oid.under p) ⟨[],.tuple [.str (if iq s t=true then s.drop t.length else s),.bool (iq s t)],[]⟩:=by
 refine aD (n:=11) (rs:=[.tmp 4,.tmp 5]) Tryz.func165 rfl rfl (by decide) rfl rfl rfl ?_;rintro x rfl hrd hng
 (repeat (first|(refine aA rfl rfl ?_)|(refine az rfl rfl ?_)|(refine ar nmd [] hng (by kernel_rfl) fun hf C S K hC1 hC hS hK=>?_;simp (disch:=first|omega|assumption) only [go_sem];(repeat ((first|refine hC1 _ (pa s t hl hl2 _) (by simp (disch:=first|omega|assumption) only [go_sem]) ?_);simp (disch:=first|omega|assumption) only [go_sem]));refine hK ?_;clear hK hS hC hC1 K S C hf)|((first|refine zn ?_|refine ze ?_|refine zk ?_);with_reducible (constructor;repeat constructor);try refine zl ?_)))
 exact ay (dI rfl)
end Go.Proofs.YtmoaidkglldhcaaGreatDoor
namespace Go.Ab
theorem pb {P:Program} [Laid P] {f:FuncId} {xs:List AV} {p:Oid} (vs:List AV) (cs:Array Value) (t:TypeId) (he:cE P f=true)
  (h1:cs.size=vs.length) (h2:∀ i,i < vs.length→(vs.getD i .undef).cells.length=1) (h3:∀ j,j < vs.length→(cs.getD j undef).oneCell' = true)
  (h4:∀ g i,i < vs.length→VR g ((vs.getD i .undef).cells.getD 0 .undef) (cs.getD i undef))
  (h:∀ (g:Gh) (args:Array Value) (w:World),VRs g xs args→lH P g w→Calls P f args w fun en w'=>en = .returned (.slice (some ⟨w.heap.size,0,none⟩) vs.length vs.length)∧w' = w.alloc (.cells cs t)) :
  ah P f xs (Oid.under p) ⟨[],.sl (.sub 0 0 p) 1 vs.length,[(.sub 0 0 p,some (.arr 1 vs))]⟩:=by
 refine ⟨he,fun x g args w m hm _ ha hs hx=>(h g args w ha (hm.told hx)).mono ?_⟩
 rintro en w' ⟨rfl,rfl⟩
 obtain ⟨hl,hu⟩:=hs (.sub 0 0 p) (Oid.ae (Oid.aq _))
 have hrn:g.row w.heap.size=none:=hm.mL (Nat.le_refl _)
 have hnew:=hm.new hl hu (o:=.arr 1 vs) (ob:=.cells cs t) ⟨cs,t,(0,0),b5 w _,by omega,fun j _ hj=>by omega,h2,fun j hj=>h3 j (by omega),fun i j hi hj=>by
  obtain rfl:j=0:=by omega
  have:=h4 (g.bind (.sub 0 0 p) w.heap.size) i hi
  simpa using this⟩ (fun t ht=>by cases ht)
 refine ⟨(g.bind (.sub 0 0 p) w.heap.size).measure w.heap.size (vs.length * 1),_,rfl,Gh.le_trans (Gh.bO hl) (Gh.fc (.inl hrn)),fun j hj=>?_,?_,hnew.measure ⟨cs,t,(0,0),b5 w _,by omega⟩ (.inl hrn)⟩
 ·have hne:¬ j = .sub 0 0 p:=fun e=>by subst e;exact hj (Oid.ae (Oid.aq (.sub 0 0 p)))
  simp only [Gh.bind,Gh.measure];rw [if_neg hne]
 ·exact .sl _ _ _ _ _ (by simp [Gh.bind,Gh.measure]) (Nat.le_refl _) (by simp [Gh.measure])
end Go.Ab
namespace Go.Ab
section
variable {κ ν:Type} [DecidableEq κ] {ek:κ→AV} {ev:ν→AV}
def eF (ek:κ→AV) (ev:ν→AV) (q:κ × ν × Nat):ME:=⟨ek q.1,ev q.2.1,q.2.2⟩
def prj (q:κ × ν × Nat):κ × ν:=(q.1,q.2.1)
def aK (n:κ):List (κ × ν)→Option ν
 | []=>none
 | q::L=>if n=q.1 then some q.2 else aK n L
def AB (n:κ) (b:ν) (c:Nat):List (κ × ν × Nat)→List (κ × ν × Nat)
 | []=>[(n,b,c)]
 | q::L=>if n=q.1 then (q.1,b,q.2.2)::L else q::AB n b c L
def AE (n:κ):List (κ × ν × Nat)→List (κ × ν × Nat)
 | []=>[]
 | q::L=>if n=q.1 then L else q::AE n L
def FF (ev:ν→AV) (z:AV):Option ν→AV
 | some b=>ev b
 | none=>z
theorem D1 (he:jY ek) (n:κ) (z:AV):∀ E:List (κ × ν × Nat),ic (ek n) z (E.map (eF ek ev))=FF ev z (aK n (E.map prj))
 | []=>rfl
 | q::L=>by
  have ih:=D1 he n z L
  have h1:=he n q.1
  simp only [ic,List.map_cons,dX,eF,h1,aK,prj] at ih ⊢
  by_cases h:n=q.1
  ·simp [h,FF]
  ·simp only [h,decide_false,Bool.false_eq_true,if_false];exact ih
theorem D2 (he:jY ek) (n:κ):∀ E:List (κ × ν × Nat),dY (ek n) (E.map (eF ek ev))=(aK n (E.map prj)).isSome
 | []=>rfl
 | q::L=>by
  have ih:=D2 he n L
  have h1:=he n q.1
  simp only [dY,List.map_cons,dX,eF,h1,aK,prj] at ih ⊢
  by_cases h:n=q.1
  ·simp [h]
  ·simp only [h,decide_false,Bool.false_eq_true,if_false];exact ih
theorem D3 (he:jY ek) (n:κ) (b:ν) (c:Nat):∀ E:List (κ × ν × Nat),fL (ek n) (ev b) c (E.map (eF ek ev))=(AB n b c E).map (eF ek ev)
 | []=>rfl
 | q::L=>by
  have ih:=D3 he n b c L
  have h1:=he n q.1
  simp only [List.map_cons,fL,AB]
  by_cases h:n=q.1
  ·simp [h,eF,he q.1 q.1]
  ·simp only [h,eF,h1,decide_false,Bool.false_eq_true,if_false,List.map_cons]
   exact congrArg _ ih
theorem D4 (he:jY ek) (n:κ):∀ E:List (κ × ν × Nat),kM (ek n) (E.map (eF ek ev))=(AE n E).map (eF ek ev)
 | []=>rfl
 | q::L=>by
  have ih:=D4 he n L
  have h1:=he n q.1
  simp only [List.map_cons,kM,AE]
  by_cases h:n=q.1
  ·simp [h,eF,he q.1 q.1]
  ·simp only [h,eF,h1,decide_false,Bool.false_eq_true,if_false,List.map_cons]
   exact congrArg _ ih
theorem ir {n:κ}:∀ {L:List (κ × ν)},¬ n ∈ L.map (·.1)→L.filter (fun q=>decide (¬ q.1=n))=L
 | [],_=>rfl
 | q::L,h=>by
  simp only [List.map_cons,List.mem_cons,not_or] at h
  have h1:¬ q.1=n:=fun e=>h.1 e.symm
  rw [List.filter_cons_of_pos (by simpa using h1),ir h.2]
theorem pS (n:κ) (b:ν) (c:Nat):∀ E:List (κ × ν × Nat),((E.map prj).map (·.1)).Nodup→((AB n b c E).map prj).Perm ((n,b)::(E.map prj).filter fun q=>decide (¬ q.1=n))
 | [],_=>.refl _
 | q::L,h=>by
  simp only [List.map_cons,List.nodup_cons] at h
  have ih:=pS n b c L h.2
  simp only [AB]
  by_cases hn:n=q.1
  ·subst hn
   rw [if_pos rfl,List.map_cons,List.map_cons,List.filter_cons_of_neg (by simp [prj])];erw [ir h.1]
   exact .refl _
  ·rw [if_neg hn,List.map_cons,List.map_cons,List.filter_cons_of_pos (by show decide (¬ (prj q).1=n)=true;exact decide_eq_true fun e=>hn (Eq.symm e))]
   exact (ih.cons _).trans (.swap _ _ _)
theorem vQ (n:κ):∀ E:List (κ × ν × Nat),((E.map prj).map (·.1)).Nodup→(AE n E).map prj=(E.map prj).filter fun q=>decide (¬ q.1=n)
 | [],_=>rfl
 | q::L,h=>by
  simp only [List.map_cons,List.nodup_cons] at h
  have ih:=vQ n L h.2
  simp only [AE]
  by_cases hn:n=q.1
  ·subst hn
   rw [if_pos rfl,List.map_cons,List.filter_cons_of_neg (by simp [prj])];exact (ir h.1).symm
  ·rw [if_neg hn,List.map_cons,List.map_cons,List.filter_cons_of_pos (by show decide (¬ (prj q).1=n)=true;exact decide_eq_true fun e=>hn (Eq.symm e)),ih]
theorem bs {n:κ} {b:ν}:∀ {L:List (κ × ν)},(L.map (·.1)).Nodup→(aK n L=some b↔(n,b) ∈ L)
 | [],_=>by simp [aK]
 | q::L,h=>by
  simp only [List.map_cons,List.nodup_cons] at h
  have ih:=bs (n:=n) (b:=b) h.2
  simp only [aK]
  by_cases hn:n=q.1
  ·subst hn
   rw [if_pos rfl]
   refine ⟨fun e=>?_,fun e=>?_⟩
   ·simp only [Option.some.injEq] at e;subst e;exact List.mem_cons_self
   ·rcases List.mem_cons.1 e with e|e
    ·rw [← e]
    ·exact absurd (List.mem_map_of_mem (f:=(·.1)) e) h.1
  ·rw [if_neg hn,ih]
   exact ⟨List.mem_cons_of_mem _,fun e=>(List.mem_cons.1 e).resolve_left fun e=>hn (by rw [← e])⟩
theorem ku {n:κ} {L L':List (κ × ν)} (hp:L.Perm L') (h:(L.map (·.1)).Nodup):aK n L=aK n L':=by
 have h':(L'.map (·.1)).Nodup:=(hp.map _).nodup_iff.1 h
 cases h1:aK n L with
 | some b=>rw [eq_comm,bs h',← hp.mem_iff,← bs h];exact h1
 | none =>
  cases h2:aK n L' with
  | none=>rfl
  | some b=>rw [bs h',← hp.mem_iff,← bs h,h1] at h2;cases h2
def iW (ek:κ→AV) (ev:ν→AV) (es:List ME) (L:List (κ × ν)):Prop:=∃ E:List (κ × ν × Nat),es=E.map (eF ek ev)∧(E.map prj).Perm L∧(L.map (·.1)).Nodup
omit [DecidableEq κ] in
theorem nZ:iW ek ev [] ([]:List (κ × ν)):=⟨[],rfl,.refl _,List.nodup_nil⟩
theorem sX (he:jY ek) {es:List ME} {L:List (κ × ν)} (h:iW ek ev es L) (n:κ) (z:AV):ic (ek n) z es=FF ev z (aK n L):=by
 obtain ⟨E,rfl,h2,h3⟩:=h
 rw [D1 he,ku h2 ((h2.map _).nodup_iff.2 h3)]
theorem AF (he:jY ek) {es:List ME} {L:List (κ × ν)} (h:iW ek ev es L) (n:κ):dY (ek n) es=(aK n L).isSome:=by
 obtain ⟨E,rfl,h2,h3⟩:=h
 rw [D2 he,ku h2 ((h2.map _).nodup_iff.2 h3)]
theorem oa (he:jY ek) {es:List ME} {L L':List (κ × ν)} (h:iW ek ev es L) (n:κ) (b:ν) (c:Nat) (hp:L'.Perm ((n,b)::L.filter fun q=>decide (¬ q.1=n))):iW ek ev (fL (ek n) (ev b) c es) L':=by
 obtain ⟨E,rfl,h2,h3⟩:=h
 have h4:=(h2.map (·.1)).nodup_iff.2 h3
 refine ⟨_,D3 he n b c E,((pS n b c E h4).trans ((h2.filter _).cons _)).trans hp.symm,((hp.map (·.1)).nodup_iff).2 ?_⟩
 rw [List.map_cons,List.nodup_cons]
 refine ⟨fun hm=>?_,h3.sublist (List.filter_sublist.map _)⟩
 obtain ⟨q,h5,h6⟩:=List.mem_map.1 hm
 have:=(List.mem_filter.1 h5).2
 simp only [decide_eq_true_eq] at this
 exact this h6
theorem AG (he:jY ek) {es:List ME} {L L':List (κ × ν)} (h:iW ek ev es L) (n:κ) (hp:L'.Perm (L.filter fun q=>decide (¬ q.1=n))):iW ek ev (kM (ek n) es) L':=by
 obtain ⟨E,rfl,h2,h3⟩:=h
 have h4:=(h2.map (·.1)).nodup_iff.2 h3
 refine ⟨_,D4 he n E,?_,((hp.map (·.1)).nodup_iff).2 (h3.sublist (List.filter_sublist.map _))⟩
 rw [vQ n E h4]
 exact (h2.filter _).trans hp.symm
omit [DecidableEq κ] in
theorem jG {es S:List ME} (hp:es.Pairwise fun e e'=>e.born < e'.born) (hs:∀ e ∈ S,e ∈ es) (hn:(S.map (·.born)).Nodup) (hall:∀ e ∈ es,e.born ∈ S.map (·.born)):S.Perm es:=by
 have hne:es.Nodup:=(hp.imp fun {a b} h=>by intro e;subst e;exact Nat.lt_irrefl _ h)
 have hns:S.Nodup:=by
  refine List.Pairwise.imp ?_ (List.pairwise_map.1 hn)
  intro a b h e;exact h (by rw [e])
 refine (List.perm_ext_iff_of_nodup hns hne).2 fun e=>⟨hs e,fun he=>?_⟩
 obtain ⟨e',h1,h2⟩:=List.mem_map.1 (hall e he)
 have h3:e' = e:=by
  apply Classical.byContradiction
  intro hne'
  have hinj:∀ a ∈ es,∀ b ∈ es,¬ a=b→¬ a.born=b.born:=fun a ha b hb hab=>by
   have h5:es.Pairwise fun a b=>¬ a.born=b.born:=hp.imp fun h=>by omega
   obtain ⟨i,hi,rfl⟩:=List.mem_iff_getElem.1 ha
   obtain ⟨j,hj,rfl⟩:=List.mem_iff_getElem.1 hb
   rw [List.pairwise_iff_getElem] at h5
   rcases Nat.lt_trichotomy i j with h|h|h
   ·exact h5 i j hi hj h
   ·subst h;exact absurd rfl hab
   ·exact fun e=>h5 j i hj hi h (Eq.symm e)
  exact hinj e' (hs e' h1) e he hne' h2
 rwa [← h3]
end
section
variable {κ ν:Type} [DecidableEq κ] (lt:κ→κ→Prop) [DecidableRel lt]
structure Ord:Prop where
 irr:∀ a,¬ lt a a
 tr:∀ a b c,lt a b→lt b c→lt a c
 tot:∀ a b,¬ lt a b→¬ a=b→lt b a
def eX (n:κ):Option ν→List (κ × ν)
 | some b=>[(n,b)]
 | none=>[]
def dQ (n:κ) (o:Option ν):List (κ × ν)→List (κ × ν)
 | []=>eX n o
 | q::L=>if lt q.1 n then q::dQ n o L else eX n o++(if q.1=n then L else q::L)
def aV (L:List (κ × ν)):Prop:=L.Pairwise fun a b=>lt a.1 b.1
variable {lt}
omit [DecidableEq κ] [DecidableRel lt] in
theorem aV.nodup (ho:Ord lt) {L:List (κ × ν)} (h:aV lt L):(L.map (·.1)).Nodup:=by
 rw [List.nodup_iff_pairwise_ne,List.pairwise_map]
 exact h.imp fun {a b} h (e:a.1=b.1)=>ho.irr a.1 (by rw [← e] at h;exact h)
theorem b6 (ho:Ord lt) (n:κ) (o:Option ν):∀ {L:List (κ × ν)},aV lt L→(dQ lt n o L).Perm (eX n o++L.filter fun q=>decide (¬ q.1=n))
 | [],_=>by simp [dQ]
 | q::L,h=>by
  have h2:=List.pairwise_cons.1 h
  have ih:=b6 ho n o (L:=L) h2.2
  simp only [dQ]
  by_cases hl:lt q.1 n
  ·have hn:¬ q.1=n:=fun e=>ho.irr n (by rw [e] at hl;exact hl)
   rw [if_pos hl,List.filter_cons_of_pos (by simpa using hn)]
   exact (ih.cons _).trans List.perm_middle.symm
  ·rw [if_neg hl]
   have hno:∀ q' ∈ L,¬ q'.1=n:=fun q' hq e=>by
    have:=h2.1 q' hq
    rw [e] at this;exact hl this
   have hf:L.filter (fun q=>decide (¬ q.1=n))=L:=ir fun hm=>by
    obtain ⟨q',h3,h4⟩:=List.mem_map.1 hm
    exact hno q' h3 h4
   by_cases hn:q.1=n
   ·rw [if_pos hn,List.filter_cons_of_neg (by simpa using hn),hf]
   ·rw [if_neg hn,List.filter_cons_of_pos (by simpa using hn),hf]
theorem dJ {n:κ} {o:Option ν} {x:κ × ν}:∀ {L:List (κ × ν)},x ∈ dQ lt n o L→x ∈ eX n o∨x ∈ L
 | [],h=>.inl h
 | q::L,h=>by
  simp only [dQ] at h
  split at h
  ·rcases List.mem_cons.1 h with rfl|h
   ·exact .inr List.mem_cons_self
   ·exact (dJ h).imp id (List.mem_cons_of_mem _)
  ·rcases List.mem_append.1 h with h|h
   ·exact .inl h
   ·split at h
    ·exact .inr (List.mem_cons_of_mem _ h)
    ·exact .inr h
omit [DecidableEq κ] [DecidableRel lt] in
theorem oc {n:κ} {o:Option ν} {x:κ × ν} (h:x ∈ eX n o):x.1=n∧o=some x.2:=by
 cases o with
 | none=>cases h
 | some b=>simp only [eX,List.mem_singleton] at h;subst h;exact ⟨rfl,rfl⟩
theorem gp (ho:Ord lt) (n:κ) (o:Option ν):∀ {L:List (κ × ν)},aV lt L→aV lt (dQ lt n o L)
 | [],_=>by cases o<;>simp [dQ,eX,aV]
 | q::L,h=>by
  have h2:=List.pairwise_cons.1 h
  have ih:=gp ho n o (L:=L) h2.2
  simp only [dQ]
  by_cases hl:lt q.1 n
  ·rw [if_pos hl]
   refine List.pairwise_cons.2 ⟨fun x hx=>?_,ih⟩
   rcases dJ hx with hx|hx
   ·rw [(oc hx).1];exact hl
   ·exact h2.1 x hx
  ·rw [if_neg hl]
   refine List.pairwise_append.2 ⟨by cases o<;>simp [eX],?_,fun x hx y hy=>?_⟩
   ·split
    ·exact h2.2
    ·exact h
   ·rw [(oc hx).1]
    by_cases hn:q.1=n
    ·rw [if_pos hn] at hy;rw [← hn];exact h2.1 y hy
    ·rw [if_neg hn] at hy
     have hq:=ho.tot q.1 n hl hn
     rcases List.mem_cons.1 hy with rfl|hy
     ·exact hq
     ·exact ho.tr _ _ _ hq (h2.1 y hy)
omit [DecidableEq κ] [DecidableRel lt] in
theorem lM (ho:Ord lt) {L L':List (κ × ν)} (hp:L.Perm L') (h1:aV lt L) (h2:aV lt L'):L=L' :=
 List.Perm.eq_of_pairwise (le:=fun a b:κ × ν=>lt a.1 b.1) (fun a b _ _ h3 h4=>absurd (ho.tr _ _ _ h3 h4) (ho.irr _)) h1 h2 hp
theorem pT (ho:Ord lt) (n n':κ) (o:Option ν) {L:List (κ × ν)} (h:aV lt L):aK n' (dQ lt n o L)=if n' = n then o else aK n' L:=by
 have h1:=gp ho n o h
 have hp:=b6 ho n o h
 have hnd:=h1.nodup ho
 rw [ku hp hnd]
 have hf:∀ {L:List (κ × ν)},aK n' (L.filter fun q=>decide (¬ q.1=n))=if n' = n then none else aK n' L:=by
  intro L
  induction L with
  | nil=>simp [aK]
  | cons q L ih =>
   by_cases hn:q.1=n
   ·rw [List.filter_cons_of_neg (by simpa using hn),ih,aK]
    by_cases h':n' = n
    ·simp [h']
    ·have:¬ n' = q.1:=fun e=>h' (e.trans hn)
     simp [h',this]
   ·rw [List.filter_cons_of_pos (by simpa using hn),aK,aK,ih]
    by_cases h':n' = n
    ·subst h'
     have:¬ n' = q.1:=fun e=>hn (Eq.symm e)
     simp [this]
    ·simp [h']
 cases o with
 | none=>simp only [eX,List.nil_append,hf]
 | some b =>
  simp only [eX,List.cons_append,List.nil_append,aK,hf]
  by_cases h':n' = n<;>simp [h']
end
end Go.Ab
namespace Go.Proofs.YtmoaidkglldhcaaGreatDoor
open Go Go.Ab Go.RowKit
set_option maxRecDepth 20000
set_option maxHeartbeats 2000000
def bh (c:UInt8):Str→List Str
 | []=>[[]]
 | b::s=>if b=c then []::bh c s else match bh c s with|[]=>[[b]]|l::r=>(b::l)::r
theorem jH (c:UInt8) (s:Str):bh c s≠[]:=by
 cases s with
 | nil=>simp [bh]
 | cons b s=>simp only [bh];split;· simp
             split<;>simp
theorem jl {c:UInt8}:∀ {s:Str},c ∉ s→bh c s=[s]
 | [],_=>rfl
 | b::s,h=>by
  have h1:¬ b=c:=fun e=>h (by simp [e])
  have h2:c ∉ s:=fun e=>h (by simp [e])
  rw [bh,if_neg h1,jl h2]
theorem kv {c:UInt8} (u:Str):∀ {t:Str},c ∉ t→bh c (t++c::u)=t::bh c u
 | [],_=>by rw [List.nil_append,bh,if_pos rfl]
 | b::t,h=>by
  have h1:¬ b=c:=fun e=>h (by simp [e])
  have h2:c ∉ t:=fun e=>h (by simp [e])
  rw [List.cons_append,bh,if_neg h1,kv u h2]
theorem gY (c:UInt8):∀ s:Str,(bh c s).length=s.count c+1
 | []=>rfl
 | b::s=>by
  have ih:=gY c s
  rw [bh]
  by_cases h:b=c
  ·rw [if_pos h,List.length_cons,ih,h,List.count_cons_self]
  ·rw [if_neg h,List.count_cons_of_ne h]
   cases hs:bh c s with
   | nil=>exact absurd hs (jH c s)
   | cons l r=>rw [hs] at ih;simpa using ih
theorem pU (c:UInt8):∀ s:Str,c ∉ s∨∃ t u,c ∉ t∧s=t++c::u
 | []=>.inl (by simp)
 | b::s=>by
  by_cases h:b=c
  ·exact .inr ⟨[],s,by simp,by rw [h];rfl⟩
  ·rcases pU c s with h1|⟨t,u,h1,h2⟩
   ·exact .inl (by simp only [List.mem_cons,not_or];exact ⟨fun e=>h e.symm,h1⟩)
   ·exact .inr ⟨b::t,u,by simp only [List.mem_cons,not_or];exact ⟨fun e=>h e.symm,h1⟩,by rw [h2];rfl⟩
theorem index_hit {c:UInt8} (u:Str):∀ {t:Str},c ∉ t→Lib.index (t++c::u) [c]=t.length
 | [],_=>by rw [Lib.index_one,List.nil_append,Lib.indexByte,if_pos (by simp)];rfl
 | b::t,h=>by
  have h1:¬ b=c:=fun e=>h (by simp [e])
  have h2:c ∉ t:=fun e=>h (by simp [e])
  have ih:=index_hit u h2
  rw [Lib.index_one] at ih ⊢
  rw [List.cons_append,Lib.indexByte,if_neg (by simpa using h1),ih,if_neg (by simp),List.length_cons]
  rfl
theorem od {c:UInt8}:∀ {s:Str},c ∉ s→Lib.index s [c] = -1
 | [],_=>rfl
 | b::t,h=>by
  have h1:¬ b=c:=fun e=>h (by simp [e])
  have h2:c ∉ t:=fun e=>h (by simp [e])
  have ih:=od h2
  rw [Lib.index_one] at ih ⊢
  rw [Lib.indexByte,if_neg (by simpa using h1),ih,if_pos (by simp)]
theorem pV (c:UInt8):∀ (k:Nat) (s:Str),s.count c=k→Lib.splitK [c] 0 k s=bh c s
 | 0,s,h=>by rw [Lib.splitK,jl (List.count_eq_zero.1 h)]
 | k+1,s,h=>by
  rcases pU c s with h1|⟨t,u,h1,rfl⟩
  ·rw [List.count_eq_zero.2 h1] at h;cases h
  ·rw [Lib.splitK,index_hit u h1,if_neg (by simp),kv u h1]
   have hc:u.count c=k:=by
    rw [List.count_append,List.count_eq_zero.2 h1,List.count_cons_self] at h;omega
   have hd:(t++c::u).drop (t.length+1)=u:=by
    rw [← List.drop_drop,List.drop_left];rfl
   simp only [Int.toNat_natCast,Nat.add_zero,List.take_left,List.length_singleton,hd]
   rw [pV c k u hc]
theorem FG {g:Gh} {w:World} (h:lH Tryz.prog g w):∃ m,w.cell? ⟨0,0,none⟩=some (.int .i64 m):=by
 obtain ⟨_,_,⟨m,h7⟩,_⟩:=h.facts
 exact ⟨m,h.com _ _ _ h7⟩
theorem uC {s:Str} {b:ByteArray} (h:b.data.toList=s):b=⟨s.toArray⟩:=by
 cases b;simp only at h;congr 1;rw [← h]
theorem AH (s:Str) (c:UInt8) (hl:s.length < 4294967281) (p:Oid) :
  ah Tryz.prog 118 [.str s,.str [c]] (Oid.under p) ⟨[],.sl (.sub 0 0 p) 1 (bh c s).length,[(.sub 0 0 p,some (.arr 1 ((bh c s).map AV.str)))]⟩:=by
 have hB:Lib.splitB ⟨#[c]⟩ 0 (s.count c) ⟨s.toArray⟩=(bh c s).map fun t=>⟨t.toArray⟩:=by
  have h1:=Lib.splitB_data ⟨#[c]⟩ 0 (s.count c) ⟨s.toArray⟩
  have h2:Lib.splitK [c] 0 (s.count c) s=bh c s:=pV c _ s rfl
  rw [show (ByteArray.mk #[c]).data.toList=[c] from rfl,show (ByteArray.mk s.toArray).data.toList=s from rfl,h2] at h1
  rw [← h1,List.map_map]
  conv=>lhs;rw [← List.map_id (Lib.splitB _ _ _ _)]
  apply List.map_congr_left
  intro b _
  cases b;rfl
 have hc:((Lib.splitB ⟨#[c]⟩ 0 (s.count c) ⟨s.toArray⟩).map Value.string).toArray=((bh c s).map fun t=>Value.string ⟨t.toArray⟩).toArray:=by rw [hB,List.map_map];rfl
 have hg:∀ i,i < (bh c s).length→((bh c s).map AV.str).getD i .undef = .str ((bh c s).getD i []):=fun i hi=>by simp [List.getD_eq_getElem?_getD,List.getElem?_map,List.getElem?_eq_getElem hi]
 have hg2:∀ i,i < (bh c s).length→(((bh c s).map fun t=>Value.string ⟨t.toArray⟩).toArray).getD i undef=Value.string ⟨((bh c s).getD i []).toArray⟩:=fun i hi=>by
  simp [Array.getD_eq_getD_getElem?,List.getD_eq_getElem?_getD,List.getElem?_eq_getElem hi,hi]
 have key:=pb (P:=Tryz.prog) (f:=118) (xs:=[.str s,.str [c]]) (p:=p) ((bh c s).map AV.str) ((bh c s).map fun t=>Value.string ⟨t.toArray⟩).toArray 9 (by kernel_rfl) (by simp)
  (fun i hi=>by rw [hg i (by simpa using hi)];rfl) (fun i hi=>by rw [hg2 i (by simpa using hi)];rfl)
  (fun g i hi=>by rw [hg i (by simpa using hi),hg2 i (by simpa using hi)];exact .str _ _ rfl)
  fun g args w ha ht=>by
   obtain ⟨v,u,rfl,hv,hu⟩:=ha.two
   obtain ⟨b,rfl,hb⟩:=hv.bX
   obtain ⟨d,rfl,hd⟩:=hu.bX
   obtain ⟨m,hm⟩:=FG ht
   rw [uC hb,uC hd]
   refine (Tryz.strings_Split ⟨s.toArray⟩ ⟨#[c]⟩ m w (by show s.toArray.size < _;simpa using hl) hm (by show 1≤(#[c]:Array UInt8).size;exact Nat.le_refl _)).mono ?_
   rintro e w' ⟨rfl,rfl⟩
   have hcb:Lib.countB ⟨s.toArray⟩ ⟨#[c]⟩=s.count c:=Lib.count_one c s
   rw [hcb,hc,List.length_map,gY]
   exact ⟨rfl,rfl⟩
 rwa [List.length_map] at key
def eh (l:Str) (b:UInt8):Nat→Int
 | 0=>-1
 | k+1=>if l.getD k 0=b then k else eh l b k
theorem sY (l:Str) (b:UInt8):∀ k,-1≤eh l b k∧eh l b k < k
 | 0=>by simp [eh]
 | k+1=>by
  have:=sY l b k
  rw [eh];split<;>omega
theorem pW (s:Str) (b:UInt8):∀ k,k≤s.length→Lib.lastIdx ⟨s.toArray⟩ (b.toNat:Int) k=eh s b k
 | 0,_=>rfl
 | k+1,h=>by
  have ih:=pW s b k (by omega)
  have hg:(⟨s.toArray⟩:ByteArray).data[k]! = s.getD k 0:=by
   show s.toArray[k]! = _
   rw [List.getD_eq_getElem?_getD,List.getElem?_eq_getElem h]
   simp [show k < s.length from h]
  have h':k < s.length:=h
  rw [Lib.lastIdx,eh,hg,ih]
  by_cases he:s.getD k 0=b
  ·rw [if_pos (by rw [he]),if_pos he]
  ·rw [if_neg (fun e=>he (UInt8.toNat_inj.1 (by omega))),if_neg he]
theorem uD (s:Str) (b:UInt8) (hl:s.length≤4000000000) (sp:Oid→Prop):ah Tryz.prog 122 [.str s,.int .u8 (b.toNat:Int)] sp ⟨[],.int .i64 (eh s b s.length),[]⟩ :=
 gN (by kernel_rfl) fun g args w ha _=>by
  obtain ⟨v,u,rfl,hv,hu⟩:=ha.two
  obtain ⟨c,rfl,hb⟩:=hv.bX
  rw [hu.bn,uC hb]
  refine (Tryz.strings_LastIndexByte ⟨s.toArray⟩ b.toNat (by show s.toArray.size < _;simp;omega) w).mono ?_
  rintro e w' ⟨rfl,rfl⟩
  exact ⟨_,rfl,by unfold Lib.lastIndexByte;rw [pW s b _ (by show s.toArray.size≤_;simp)];exact .int _ _,rfl⟩
end Go.Proofs.YtmoaidkglldhcaaGreatDoor
namespace Go.Proofs.YtmoaidkglldhcaaGreatDoor
open Go Go.Ab
theorem xw (a b:Str):eJ (.str a) (.str b)=decide (a=b):=by
 by_cases h:a=b<;>simp [eJ,AV.cells,bE,eqS,h]
abbrev Ent:=Str × Bits × Nat
def mG (n:Str):List Ent→List Ent
 | []=>[]
 | q::L=>if n=q.1 then L else q::mG n L
theorem qZ (n:Str):∀ L:List Ent,(mG n L).Sublist L
 | []=>.slnil
 | q::L=>by
  simp only [mG]
  split
  ·exact (List.Sublist.refl L).cons q
  ·exact (qZ n L).cons_cons q
end Go.Proofs.YtmoaidkglldhcaaGreatDoor
namespace Go.Proofs.YtmoaidkglldhcaaGreatDoor
open Go Go.Ab
set_option maxRecDepth 20000
theorem mx {P:Program} [Laid P] {f:FuncId} {xs:List AV} {sp:Oid→Prop} {need:List (Oid × ao)} {v:AV} {t:Oid} {o:ao} (h:ah P f xs sp ⟨need,v,[]⟩) (ht:(t,o) ∈ need):ah P f xs sp ⟨need,v,[(t,some o)]⟩ :=
 ⟨h.enters,fun x g args w m hm hn ha hs hx=>(h.calls x g args w m hm hn ha hs hx).mono fun en w' ⟨g',u,h1,h2,h3,h4,h5⟩=>⟨g',u,h1,h2,h3,h4,by
  have he:m.aJ [(t,some o)]=m:=by
   funext i
   simp only [Mem.aJ,Mem.set]
   split
   ·rename_i e;rw [e];exact (hn _ ht).symm
   ·rfl
  show ax x g' (m.aJ [(t,some o)]) w'
  rw [he];exact h5⟩⟩
def q7 (n:Str) (b:Bits) (es:List ME) (clock:Nat):List ME:=if n=[] then es else if b.k=0 then kM (.str n) es else fL (.str n) b.av clock es
def q8 (n:Str) (b:Bits) (es:List ME) (clock:Nat):Nat:=if n=[] then clock else if b.k=0 then clock else if dY (.str n) es then clock else clock+1
theorem FH (st t:Oid) (es:List ME) (clock:Nat) (hts:¬ t=st) (p:Oid) (hs:¬ Oid.under p st) (ht:¬ Oid.under p t) (n:Str) (b:Bits) :
  ah Tryz.prog 43 [.ptr st 0,.str n,b.av] (Oid.under p) ⟨[(st,.cells [.map t,.nilPtr]),(t,.map [.ss] false es clock)],.tuple [],[(t,some (.map [.ss] false (q7 n b es clock) (q8 n b es clock)))]⟩:=by
 unfold q7 q8
 by_cases hn:n=[]
 ·subst hn
  simp only [if_true]
  exact mx (C9 st t es clock hts p hs ht b) (by simp)
 ·by_cases hb:b.k=0
  ·simp only [hn,hb,if_true,if_false]
   exact Db st t es clock hts p hs ht n hn b hb
  ·simp only [hn,hb,if_false]
   exact Da st t es clock hts p hs ht n hn b hb
end Go.Proofs.YtmoaidkglldhcaaGreatDoor
namespace Go.Proofs.YtmoaidkglldhcaaGreatDoor
open Go Go.Ab
open Go.Sort Go.RowKit
set_option maxRecDepth 20000
set_option maxHeartbeats 4000000
def cP (l:List Str):List Str:=l.mergeSort fun x y=>decide (x≤y)
theorem sZ {w:World} {b n:Nat} {d:Array Str} {os:Array Obj} {b':Nat} (hb:b'≠b) (hlt:b' < w.heap.size):(grow (putRow encStr (Sort.ahead w n) b 0 d) os).heap[b']? = w.heap[b']? := by
 unfold putRow mapBlock
 rw [heap_grow_old _ _ (by simpa [ahead] using hlt)]
 simp [Array.getElem?_modify,Ne.symm hb,ahead]
theorem jI {w:World} {b n:Nat} {d:Array Str} {os:Array Obj} {c:Array Value} {t:TypeId} {fz:Nat × Nat} (hb:w.heap[b]? = some (.cells c t fz)) :
  (grow (putRow encStr (Sort.ahead w n) b 0 d) os).heap[b]? = some (.cells (putCells encStr 0 d c) t fz):=by
 have hlt:=(Array.getElem?_eq_some_iff.1 hb).1
 unfold putRow mapBlock
 rw [heap_grow_old _ _ (by simpa [ahead] using hlt)]
 simp [Array.getElem?_modify,hb,ahead,onCells]
theorem vR {w:World} {b n:Nat} {d:Array Str} {os:Array Obj}:w.heap.size≤(grow (putRow encStr (Sort.ahead w n) b 0 d) os).heap.size:=by
 unfold putRow mapBlock
 simp [grow,ahead]
theorem jJ (d:Array Str) (c:Array Value):(putCells encStr 0 d c).size=c.size:=by simp [putCells]
theorem iJ (l:List Str):(cP l).Perm l:=List.mergeSort_perm _ _
theorem kX (l:List Str):(cP l).length=l.length:=(iJ l).length_eq
theorem mR {g:Gh} {s:Str} {v:Value}:VR g (.str s) v↔v=encStr s:=by
 constructor
 ·intro h
  obtain ⟨b,rfl,hb⟩:=h.bX
  show Value.string b=Value.string _
  congr 1
  cases b
  simp only at hb
  congr 1
  rw [← hb]
 ·rintro rfl
  exact .str _ _ rfl
theorem uE (l:List Str) (hl:¬ l=[]) (hsz:l.length < 4611686018427387904) (id p:Oid) :
  ah Tryz.prog 101 [.sl id 1 l.length] (Oid.under p) ⟨[(id,.arr 1 (l.map .str))],.tuple [],[(id,some (.arr 1 ((cP l).map .str)))]⟩:=by
 refine ⟨by kernel_rfl,fun x g args w m hm hn hargs hsp hng=>?_⟩
 have hmi:=hn _ List.mem_cons_self
 simp only at hmi
 obtain ⟨v,rfl,a0⟩:=hargs.one
 have hne:l.length≠0:=fun e=>hl (List.eq_nil_of_length_eq_zero e)
 obtain ⟨b,cap,rfl,hloc,hcap,hrow⟩:=a0.ew.resolve_left fun h=>hne h.1
 obtain ⟨b0,hb0,hcom,hmay,hobj⟩:=hm.iU hmi hloc
 rw [hloc] at hb0;simp only [Option.some.injEq] at hb0;subst hb0
 obtain ⟨c,t,fz,hh,hcs,hfz,hxl,hone,hv⟩:=hobj
 have hlt:=(Array.getElem?_eq_some_iff.1 hh).1
 simp only [List.length_map,Nat.mul_one] at hcs hxl hone hv
 have hav:∀ (l:List Str) i,i < l.length→(l.map AV.str).getD i .undef = .str (l.getD i []):=fun l i hi=>by simp [List.getD_eq_getElem?_getD,List.getElem?_map,List.getElem?_eq_getElem hi]
 have hcell:∀ i,i < l.length→c.getD i undef=encStr (l.getD i []):=fun i hi=>by
  have:=hv i 0 hi (by omega)
  rw [hav l i hi] at this
  simp only [AV.cells,List.getD_cons_zero,Nat.mul_one,Nat.add_zero] at this
  exact mR.1 this
 have hH:Holds encStr w b 0 l.toArray:=by
  intro j hj
  have hj':j < l.length:=by simpa using hj
  have hjc:j < c.size:=by omega
  constructor
  ·have h3:=hcell j hj'
   simp only [World.cell?,hh,Nat.zero_add,Option.isSome_none,Bool.false_eq_true,if_false,Array.getElem?_eq_getElem hjc,Option.some.injEq]
   rw [Array.getD_eq_getD_getElem?,Array.getElem?_eq_getElem hjc,Option.getD_some] at h3
   rw [h3]
   have h5:l.toArray[j]! = l.getD j []:=by simp [List.getElem?_eq_getElem hj',hj']
   rw [h5]
  ·simp only [World.frozen?,hh,Nat.zero_add]
   have:=hfz j hjc
   by_cases h:fz.1≤j
   ·have:¬ j < fz.2:=fun h'=>this ⟨h,h'⟩
    simp [this]
   ·simp [h]
 refine (Tryz.slices_Sort_string b 0 cap l w hH hlt hsz).mono ?_
 rintro en w' ⟨rfl,n,os,rfl⟩
 have hlen:=kX l
 show ∃ _ _,_
 refine ⟨g,_,rfl,Gh.le_refl g,fun _ _=>rfl,.tuple _ _ rfl (fun j hj=>absurd hj (Nat.not_lt_zero _)),?_⟩
 have hfold:(l.mergeSort fun x y=>decide (x≤y))=cP l:=rfl
 rw [hfold]
 refine hm.gU (o:=.arr 1 ((cP l).map .str)) hmi hloc rfl rfl ⟨rfl,Nat.le_add_right _ _⟩ vR (fun b' hb' hlt'=>sZ hb' hlt') (fun r hr=>?_) ?_ ?_
 ·obtain ⟨c',t',fz',h2,h3⟩:=hm.rows b r hr
  exact ⟨_,_,_,jI h2,by rw [jJ];exact h3⟩
 ·intro c9 t9 fz9 h9;exact ⟨_,_,jI h9⟩
 ·have hget:∀ i,i < (cP l).length→(putCells encStr 0 (cP l).toArray c).getD i undef=encStr ((cP l).getD i []):=fun i hi=>by
   have hc2:i < c.size:=by omega
   simp only [putCells,Array.getD_eq_getD_getElem?,Array.getElem?_mapIdx,Array.getElem?_eq_getElem hc2,Option.map_some,Option.getD_some,Nat.zero_le,true_and,Nat.zero_add,Nat.sub_zero,List.size_toArray,hi,if_true]
   congr 1
   simp [List.getElem?_eq_getElem hi,hi]
  refine ⟨_,t,fz,jI hh,?_,?_,?_,?_,?_⟩
  ·rw [jJ,List.length_map,Nat.mul_one,hlen];exact hcs
  ·rw [jJ];exact hfz
  ·intro i hi
   rw [hav _ i (by simpa using hi)];rfl
  ·intro j hj
   have hj':j < (cP l).length:=by simpa using hj
   rw [hget j hj'];rfl
  ·intro i j hi hj
   have hi':i < (cP l).length:=by simpa using hi
   obtain rfl:j=0:=by omega
   rw [hav _ i hi',Nat.mul_one,Nat.add_zero,hget i hi']
   exact .str _ _ rfl
theorem s4 (p:Oid):ah Tryz.prog 101 [.nilSl] (Oid.under p) ⟨[],.tuple [],[]⟩ :=
 gN (by kernel_rfl) fun g args w ha _=>by
  obtain ⟨v,rfl,hv⟩:=ha.one
  rw [hv.bS]
  refine (Tryz.slices_Sort_string_none none 0 w).mono ?_
  rintro e w' ⟨rfl,rfl⟩
  exact ⟨_,rfl,.tuple _ _ rfl (fun j hj=>absurd hj (Nat.not_lt_zero _)),rfl⟩
theorem oe {l l':List Str} (hp:l.Perm l') (h1:l.Pairwise (· ≤ ·)) (h2:l'.Pairwise (· ≤ ·)):l=l':=by
 exact List.Perm.eq_of_pairwise (le:=(· ≤ ·)) (fun a b _ _ h3 h4=>List.le_antisymm h3 h4) h1 h2 hp
theorem og (l:List Str):(cP l).Pairwise (· ≤ ·):=by
 have:=List.pairwise_mergeSort (le:=fun (x y:Str)=>decide (x≤y)) (fun a b c h1 h2=>by
  simp only [decide_eq_true_eq] at h1 h2 ⊢;exact List.le_trans h1 h2) (fun a b=>by
  simp only [Bool.or_eq_true,decide_eq_true_eq];exact List.le_total a b) l
 exact this.imp fun h=>by simpa using h
theorem oh {l l':List Str} (hp:l.Perm l') (h:l'.Pairwise (· ≤ ·)):cP l=l':=oe ((iJ l).trans hp) (og l) h
theorem pc {l l':List Str} (hp:l.Perm l'):cP l=cP l':=oe ((iJ l).trans (hp.trans (iJ l').symm)) (og l) (og l')
end Go.Proofs.YtmoaidkglldhcaaGreatDoor
namespace Go.Proofs
open Go.Shelf
def Tryz.Dc:Go.Shelf.Ren:=⟨fun|10=>117|6=>144|n=>n,fun|22=>25|23=>9|25=>100|3=>3|4=>4|0=>0|n=>n,fun|n=>n⟩
theorem Tryz.Del:Go.Proofs.SlLaysH.n10 Tryz.prog Tryz.Dc:={
 mixed:=by kernel_rfl
 f6:=⟨Tryz.f144.name,by decide,Tryz.func144.trans (congrArg some (by kernel_rfl))⟩
 f10:=⟨Tryz.f117.name,by decide,Tryz.func117.trans (congrArg some (by kernel_rfl))⟩
 t0:=Tryz.underlying0
 a0:=Tryz.isAgg0
 z0:=Tryz.sizeOf0
 v0:=Tryz.zeroValue0
 t3:=Tryz.underlying3
 a3:=Tryz.isAgg3
 z3:=Tryz.sizeOf3
 v3:=Tryz.zeroValue3
 t4:=Tryz.underlying4
 a4:=Tryz.isAgg4
 z4:=Tryz.sizeOf4
 v4:=Tryz.zeroValue4
 t22:=Tryz.underlying25
 a22:=Tryz.isAgg25
 z22:=Tryz.sizeOf25
 v22:=Tryz.zeroValue25
 a23:=Tryz.isAgg9
 z23:=Tryz.sizeOf9
 t25:=Tryz.underlying100
 a25:=Tryz.isAgg100
 z25:=Tryz.sizeOf100
 v25:=Tryz.zeroValue100 }
end Go.Proofs
