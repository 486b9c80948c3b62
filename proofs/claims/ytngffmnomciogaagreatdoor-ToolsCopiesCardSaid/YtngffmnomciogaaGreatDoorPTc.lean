/- A part of the proof: the texts FwD, FwE, Ty, S0, Shelf, one behind the other. -/
import Derived.Test.YtngffmnomciogaaGreatDoorPTb
import Derived.ProofKit
import Derived.SizedLaws
import Derived.ReadAgain
import Derived.Below
import Derived.Deep.Draws
import Derived.Test.YtngffmnomciogaaGreatDoorProg
import Derived.KernelRfl
import Derived.Lib.Builder
import Derived.WalkKit
import Derived.Laws.Externs
import Derived.Laws.BitsLemmas
import Derived.Shelf.Strings.Builder1
import Derived.Shelf.Strings.Builder2
import Derived.Shelf.Strings.OnBuilder
import Derived.Shelf.Strings.Trim
import Derived.Shelf.Small.Utf8
import Derived.Shelf.Small.Bits
import Derived.Shelf.Small.Strs
import Derived.Shelf.Small.Wraps
import Derived.Shelf.Strings.BuilderF
import Derived.Shelf.Strings.BuilderK
import Derived.Shelf.Utf8.RuneCount
import Derived.Shelf.Strings.Builder2Cap
import Derived.Shelf.Strconv.Atoi
import Derived.Shelf.Strconv.Itoa0
import Derived.Shelf.Strconv.Itoa1
import Derived.Shelf.LaysM
import Derived.Shelf.Strconv.Itoa2
import Derived.Shelf.Strconv.Itoa3
import Derived.Shelf.Strconv.AtoiErrFast
import Derived.Shelf.Strconv.ParseIntEmpty
import Derived.Shelf.Strconv.AtoiFail
import Derived.Shelf.Strconv.Clone
import Derived.Shelf.Strconv.SyntaxError
import Derived.Shelf.LaysC
import Derived.Shelf.Strconv.ToError
import Derived.Shelf.Strconv.Lower
import Derived.Shelf.Strconv.ParseUint10
import Derived.Shelf.Strconv.ParseUint10Empty
import Derived.Shelf.Strconv.ParseUint10Any
import Derived.Shelf.Strconv.ParseInt10
import Derived.Shelf.Strconv.AtoiLong
import Derived.Shelf.Strconv.AtoiInnerAll
import Derived.Shelf.Strconv.RangeError
import Derived.Shelf.Strconv.ToErrorRange
import Derived.Shelf.Strconv.AtoiAll
import Derived.Shelf.Strconv.ParseUintEmpty
import Derived.Shelf.Strconv.ParseUint10b64
import Derived.Shelf.Strconv.ParseUint10b32
import Derived.Shelf.Strconv.ParseUint10b16
import Derived.Shelf.Strconv.ParseUint10b8
import Derived.Shelf.Strings.Search1
import Derived.Shelf.Strings.Search2
import Derived.Shelf.Strings.Search3
import Derived.Shelf.Strings.Count
import Derived.Shelf.Strings.Shaped
import Derived.Shelf.Sort.Plain
import Derived.Shelf.Strings.LastIndex
import Derived.Shelf.Strings.Prefix
import Derived.Shelf.Strings.Split
import Derived.Shelf.Strings.SplitShaped
import Derived.Shelf.Unicode.Decode
import Derived.Shelf.Strings.Runes
import Derived.Shelf.Strings.RuneCount
import Derived.Shelf.Strings.AsciiSet
import Derived.Shelf.Strings.Explode
import Derived.Shelf.Unicode.DecodeSlow
import Derived.Shelf.Unicode.DecodeAny
import Derived.Shelf.Unicode.DecodeLast
import Derived.Shelf.Slices.Turned
import Derived.Shelf.Slices.Equal
import Derived.Ground.Names2Prog
import Derived.Shelf.Slices.ReverseS
import Derived.Shelf.Slices.CompactS
import Derived.Shelf.Slices.Cells
import Derived.Shelf.Slices.In.SortNone
import Derived.Shelf.Slices.Empties2
import Derived.Ground.SlgnProg
import Derived.Shelf.SlicesE.Reverse
import Derived.Shelf.SlicesE.Equal
import Derived.Shelf.SlicesE.Compact
import Derived.Ground.SlgfProg
import Derived.Shelf.SlicesE.IndexFunc
import Derived.Shelf.SlicesE.DeleteFunc
set_option linter.unusedVariables false
set_option linter.unusedSimpArgs false
set_option linter.unusedSectionVars false
namespace Go.Ab
universe u
def both (b:Bool) (A B:Prop):Prop:=(b=true→A)∧(b=false→B)
theorem nG (A B:Prop):both true A B=A:=by simp [both]
theorem sd (A B:Prop):both false A B=B:=by simp [both]
structure LOp where
 dst:Option Nat
 op:Op
 guard:Option (Nat × Bool)
def lV (o:Oper):LOp:=⟨o.dst,o.op,o.guard⟩
def cR:List Oper→List LOp
 | []=>[]
 | o::l=>lV o::cR l
def prs (ρ:Operand→AV):List (Nat × Operand)→List (Nat × AV)
 | []=>[]
 | q::l=>(q.1,ρ q.2)::prs ρ l
theorem B3 (ρ:Operand→AV) (l:List (Nat × Operand)):l.map (fun q=>(q.1,ρ q.2))=prs ρ l:=by
 induction l with
 | nil=>rfl
 | cons q l ih=>simp only [List.map_cons,prs,ih]
def opL (P:Program) (m:Mem) (nid:Oid) (md:Nat→Bool) (ρ:Operand→AV) (dst:Option Nat) (op:Op):OpR :=
 match op with
 | .move x=>bJ (ρ x)
 | .assign x=>bJ (ρ x)
 | .pick c a b=>match ρ c with
  | .bool v=>bJ (if v then ρ a else ρ b)
  | _=>.no
 | .alloc t=>match zer P t with
  | some z=>.eff ⟨[],.ptr (ff P t nid) 0,[(ff P t nid,some (.cells z))]⟩
  | none=>.no
 | .box t x=>if (ρ x).known=true then .eff ⟨[],.ptr (ff P t nid) 0,[(ff P t nid,some (.cells (ρ x).cells))]⟩ else .no
 | .build t ps=>dx (lL P t (prs ρ ps.toList))
 | .buildSlice t n ps=>match lM P (tyk P t) n (prs ρ ps.toList) with
  | some (sz,vs)=>if (match dst with|some d=>md d|none=>false)=true then .eff ⟨[],.sl nid sz n,[(nid,some (.arr sz vs))]⟩ else bJ (.list sz vs)
  | none=>.no
 | .load t a=>gH (shp P t) m (ρ a)
 | .store t a v=>iZ (shp P t) m (ρ a) (ρ v)
 | .nilCheck x=>if lG (ρ x)=true then bJ (ρ x) else .no
 | .binOp op t x y _=>dx (B0 P op t (isC y) (ρ x) (ρ y))
 | .unOp op _ x=>dx (unA op (ρ x))
 | .convert s d x=>dx (tz P s d (ρ x))
 | .fieldAddr t x k=>dx (fc (aw P t k) (ρ x))
 | .field t x k=>dx (lI (aw P t k) (ρ x))
 | .indexAddr t x i=>dx (dw (tyk P t) (ρ x) (ρ i))
 | .index t x i=>dx (j8 (tyk P t) (ρ x) (ρ i))
 | .extract x i=>dx (gU (ρ x) i)
 | .makeFunc f xs ys=>bJ (.fn f (xs.toList.map ρ) (ys.toList.map ρ))
 | .makeInterface t x=>dx (j9 (tyk P t) t (ρ x))
 | .slice t x lo hi none=>dx (bD (tyk P t) (ρ x) (lo.map ρ) (hi.map ρ))
 | .makeMap t none=>match dI P t with
  | some (ks,ag)=>.eff ⟨[],.map nid,[(nid,some (.map ks ag [] 0))]⟩
  | none=>.no
 | .lookup t x k ok=>eO P m t (ρ x) (ρ k) ok
 | .mapUpdate t x k v=>bX P m t (ρ x) (ρ k) (ρ v)
 | .insert t x k v=>bX P m t (ρ x) (ρ k) (ρ v)
 | .mapEntry t x k=>dS P m t (ρ x) (ρ k)
 | .entryStore _ x k v=>cQ m (ρ x) (ρ k) (ρ v)
 | .range t x=>je (tyk P t) m nid (ρ x)
 | .entry x=>jf m (ρ x)
 | .call c=>jF P m nid ρ c
 | _=>.no
theorem se (P:Program) (m:Mem) (nid:Oid) (md:Nat→Bool) (ρ:Operand→AV) (o:Oper):opF P m nid md ρ o=opL P m nid md ρ o.dst o.op:=by
 unfold opF opL;simp only [B3];rfl
def nH:List (Nat × Nat)→Nat→Option Nat
 | [],_=>none
 | q::l,j=>if j=q.1 then some q.2 else nH l j
def kK (gl:List (Nat × Nat)) (g:Option (Nat × Bool)) (f:Nat→AV):Option Bool :=
 match g with
 | none=>some true
 | some (j,want)=>match nH gl j with
  | none=>none
  | some d=>match f d with
   | .bool b=>some (b == want)
   | .tuple []=>some false
   | _=>none
def mX (ops:Array Oper) (gl:List (Nat × Nat)):Bool:=gl.all fun q=>match ops[q.1]? with
 | some o=>o.dst == some q.2
 | none=>false
theorem qx {ops:Array Oper}:∀ {gl:List (Nat × Nat)},mX ops gl=true→∀ {j d:Nat},nH gl j=some d→(ops[j]?).bind (·.dst)=some d
 | [],_,_,_,h=>by cases h
 | q::l,hg,j,d,h=>by
  simp only [mX,List.all_cons,Bool.and_eq_true] at hg
  simp only [nH] at h
  split at h
  ·rename_i e
   simp only [Option.some.injEq] at h;subst h;subst e
   have:=hg.1
   split at this
   ·rename_i o ho;rw [ho];simpa using this
   ·cases this
  ·exact qx (by simpa [mX] using hg.2) h
theorem qy {ops:Array Oper} {gl:List (Nat × Nat)} (hg:mX ops gl=true) {o:Oper} {f:Nat→AV} {b:Bool} (h:kK gl o.guard f=some b):fQ ops o f=some b:=by
 unfold kK at h
 unfold fQ
 split at h
 ·rename_i e;rw [e];exact h
 ·rename_i j want e
  rw [e];simp only
  cases hl:nH gl j with
  | none=>rw [hl] at h;cases h
  | some d =>
   rw [hl] at h
   rw [qx hg hl]
   exact h
structure LE where
 need:List Oid
 upd:List Oid
def LE.none:LE:=⟨[],[]⟩
def jg {α β:Type}:List (α × β)→List α
 | []=>[]
 | q::l=>q.1::jg l
theorem fW {α β:Type} {l:List (α × β)} {q:α × β} (h:q ∈ l):q.1 ∈ jg l:=by
 induction l with
 | nil=>cases h
 | cons a l ih =>
  rcases List.mem_cons.1 h with rfl|h
  ·exact List.mem_cons_self
  ·exact List.mem_cons_of_mem _ (ih h)
def jh (e:Eff):LE:=⟨jg e.need,jg e.upd⟩
def qz (lg:Bool) (e:LE) (log:List LE):List LE:=if lg then e::log else log
def ev (P:Program) (md:Nat→Bool) (gl:List (Nat × Nat)) (p:Oid) (c:Nat) (lg:Bool) (C:Nat→List LOp→FuncId→List AV→List (Nat × AV)→Mem→List LE→Prop) (S:Nat→List LOp→List (Nat × AV)→Mem→List LE→Prop)
    (K:List (Nat × AV)→Mem→List LE→Prop):Nat→List LOp→List (Nat × AV)→Mem→List LE→Prop
 | _,[],fr,m,log=>K fr m log
 | i,o::rest,fr,m,log =>
  match kK gl o.guard (F fr) with
  | some b=>both b
    (match opL P m (.sub c i p) md (evA fr) o.dst o.op with
     | .eff e=>ev P md gl p c lg C S K (i+1) rest (put o.dst e.val fr) (m.aF e.upd) (qz lg (jh e) log)
     | .call f xs=>C i (o::rest) f xs fr m log
     | .no=>S i (o::rest) fr m log)
    (ev P md gl p c lg C S K (i+1) rest (put o.dst (.tuple []) fr) m (qz lg LE.none log))
  | none=>False
section
variable (P:Program) (md:Nat→Bool) (gl:List (Nat × Nat)) (p:Oid) (c:Nat) (lg:Bool) (C:Nat→List LOp→FuncId→List AV→List (Nat × AV)→Mem→List LE→Prop) (S:Nat→List LOp→List (Nat × AV)→Mem→List LE→Prop)
  (K:List (Nat × AV)→Mem→List LE→Prop) (i:Nat) (o:LOp) (rest:List LOp) (fr:List (Nat × AV)) (m:Mem) (log:List LE)
def evR (r:OpR):Prop:=match r with
 | .eff e=>ev P md gl p c lg C S K (i+1) rest (put o.dst e.val fr) (m.aF e.upd) (qz lg (jh e) log)
 | .call f xs=>C i (o::rest) f xs fr m log
 | .no=>S i (o::rest) fr m log
def evG (b:Option Bool):Prop:=match b with
 | some b=>both b (evR P md gl p c lg C S K i o rest fr m log (opL P m (.sub c i p) md (evA fr) o.dst o.op)) (ev P md gl p c lg C S K (i+1) rest (put o.dst (.tuple []) fr) m (qz lg LE.none log))
 | none=>False
theorem nr {α:Sort u} {a b:α} (h:a=b):a=b:=h
theorem SY:ev P md gl p c lg C S K i [] fr m log=K fr m log:=nr (by rw [ev])
theorem SZ (dst:Option Nat) (op:Op):ev P md gl p c lg C S K i (⟨dst,op,none⟩::rest) fr m log=evR P md gl p c lg C S K i ⟨dst,op,none⟩ rest fr m log (opL P m (.sub c i p) md (evA fr) dst op):=nr (by
 rw [ev];simp only [kK,nG];rfl)
theorem ym (dst:Option Nat) (op:Op) (j:Nat) (w:Bool):ev P md gl p c lg C S K i (⟨dst,op,some (j,w)⟩::rest) fr m log=evG P md gl p c lg C S K i ⟨dst,op,some (j,w)⟩ rest fr m log (kK gl (some (j,w)) (F fr)):=nr (by
 rw [ev];rfl)
theorem B4 (e:Eff):evR P md gl p c lg C S K i o rest fr m log (.eff e)=ev P md gl p c lg C S K (i+1) rest (put o.dst e.val fr) (m.aF e.upd) (qz lg (jh e) log):=nr (by rw [evR])
theorem yn (f:FuncId) (xs:List AV):evR P md gl p c lg C S K i o rest fr m log (.call f xs)=C i (o::rest) f xs fr m log:=nr (by rw [evR])
theorem Ta:evR P md gl p c lg C S K i o rest fr m log .no=S i (o::rest) fr m log:=nr (by rw [evR])
theorem yo:evG P md gl p c lg C S K i o rest fr m log (some true)=evR P md gl p c lg C S K i o rest fr m log (opL P m (.sub c i p) md (evA fr) o.dst o.op):=nr (by rw [evG];simp only [nG])
theorem uM:evG P md gl p c lg C S K i o rest fr m log (some false)=ev P md gl p c lg C S K (i+1) rest (put o.dst (.tuple []) fr) m (qz lg LE.none log):=nr (by rw [evG];simp only [sd])
variable {P md gl p c lg C S K i o rest fr m log}
theorem bV {b:Bool} (h1:b=true→evR P md gl p c lg C S K i o rest fr m log (opL P m (.sub c i p) md (evA fr) o.dst o.op)) (h2:b=false→ev P md gl p c lg C S K (i+1) rest (put o.dst (.tuple []) fr) m (qz lg LE.none log)) :
  evG P md gl p c lg C S K i o rest fr m log (some b):=⟨h1,h2⟩
end
section
variable {P:Program} [Laid P] {md:Nat→Bool} {ops:Array Oper} {p:Oid} {c:Nat} {gl:List (Nat × Nat)}
theorem fX {i:Nat} {o:Oper} {rest:List Oper} (h:ops.toList.drop i=o::rest):ops.toList.drop (i+1)=rest:=by
 have:(ops.toList.drop i).drop 1=rest:=by rw [h];rfl
 rwa [List.drop_drop] at this
def B5 (P:Program) [Laid P] (md:Nat→Bool) (ops:Array Oper) (p:Oid) (c:Nat) (K:List (Nat × AV)→Mem→Prop) (Kp:AV→List (Nat × AV)→Mem→Prop):Nat→List LOp→FuncId→List AV→List (Nat × AV)→Mem→List LE→Prop :=
 fun i L f xs fr m _=>∀ o rest,ops.toList.drop i=o::rest→cR (o::rest)=L→∃ need R Rp,b7 P f xs (Oid.under (.sub c i p)) need R Rp∧(∀ q,q ∈ need→m q.1=some q.2)∧(∀ val upd,R val upd→fh P md ops p c (i+1) rest (put o.dst val fr) (m.aF upd) K Kp)∧∀ pv upd,Rp pv upd→Kp pv fr (m.aF upd)
def acA (P:Program) [Laid P] (dst:Option Nat) (op:Op) (ρ:Operand→AV) (sp:Oid→Prop) (need:List (Oid × aj)) (R Rp:AV→List (Oid × Option aj)→Prop):Prop :=
 ∀ o:Oper,o.dst=dst→o.op=op→jH P o ρ sp need R Rp
def acB (P:Program) [Laid P] (dst:Option Nat) (op:Op) (ρ:Operand→AV) (sp:Oid→Prop) (e:Eff):Prop:=∀ o:Oper,o.dst=dst→o.op=op→aA P o ρ sp e
def aaU (P:Program) [Laid P] (md:Nat→Bool) (ops:Array Oper) (p:Oid) (c:Nat) (K:List (Nat × AV)→Mem→Prop) (Kp:AV→List (Nat × AV)→Mem→Prop):Nat→List LOp→List (Nat × AV)→Mem→List LE→Prop :=
 fun i L fr m _=>∀ o rest,ops.toList.drop i=o::rest→cR (o::rest)=L→∃ need R Rp,jH P o (evA fr) (Oid.under (.sub c i p)) need R Rp∧(∀ q,q ∈ need→m q.1=some q.2)∧(∀ val upd,R val upd→fh P md ops p c (i+1) rest (put o.dst val fr) (m.aF upd) K Kp)∧∀ pv upd,Rp pv upd→Kp pv fr (m.aF upd)
theorem fY {K:List (Nat × AV)→Mem→Prop} {Kp:AV→List (Nat × AV)→Mem→Prop} {lg:Bool} (hg:mX ops gl=true):∀ (rest:List Oper) (i:Nat) (fr:List (Nat × AV)) (m:Mem) (log:List LE),ops.toList.drop i=rest →
  ev P md gl p c lg (B5 P md ops p c K Kp) (aaU P md ops p c K Kp) (fun fr m _=>K fr m) i (cR rest) fr m log→fh P md ops p c i rest fr m K Kp
 | [],_,_,_,_,_,h=>h
 | o::rest,i,fr,m,log,hd,h=>by
  simp only [cR,ev] at h
  simp only [fh]
  cases hw:kK gl (lV o).guard (F fr) with
  | none=>simp only [hw] at h
  | some b =>
   simp only [hw] at h
   rw [qy (o:=o) hg hw]
   cases b with
   | true =>
    have h:=h.1 rfl
    rw [se]
    simp only [lV] at h
    simp only
    cases ho:opL P m (.sub c i p) md (evA fr) o.dst o.op with
    | eff e=>simp only [ho] at h;exact fY hg rest _ _ _ _ (fX hd) h
    | call f xs=>simp only [ho] at h;exact .inr (h o rest hd rfl)
    | no=>simp only [ho] at h;exact h o rest hd rfl
   | false=>exact fY hg rest _ _ _ _ (fX hd) (h.2 rfl)
def kL (ops:Array Oper) (i:Nat) (rest:List Oper) (log:List Eff):Prop:=(∀ j,rest[j]? = ops[i+j]?)∧log.length=i∧∀ (k:Nat) o e,ops[k]? = some o→log.reverse[k]? = some e→uJ o e
def KT (ops:Array Oper) (K:List (Nat × AV)→Mem→List Eff→Prop) (fr:List (Nat × AV)) (m:Mem) (log:List Eff):Prop:=K fr m log∧∀ (k:Nat) o e,ops[k]? = some o→log.reverse[k]? = some e→uJ o e
theorem kL.step {i:Nat} {o:Oper} {rest:List Oper} {log:List Eff} (h:kL ops i (o::rest) log) {e:Eff} (he:uJ o e):kL ops (i+1) rest (e::log):=by
 obtain ⟨hl,hn,ht⟩:=h
 have h0:ops[i]? = some o:=by simpa using (hl 0).symm
 refine ⟨fun j=>by have:=hl (j+1);simpa [Nat.add_assoc,Nat.add_comm 1 j] using this,by simp [hn],?_⟩
 intro k o' e' ho' he'
 rw [List.reverse_cons] at he'
 by_cases hk:k < log.reverse.length
 ·rw [List.getElem?_append_left hk] at he';exact ht k o' e' ho' he'
 ·rw [List.getElem?_append_right (by omega)] at he'
  have hk0:k - log.reverse.length=0:=by
   cases hz:k - log.reverse.length with
   | zero=>rfl
   | succ z=>rw [hz] at he';simp at he'
  have hki:k=i:=by rw [List.length_reverse,hn] at hk0 hk;omega
  subst hki
  rw [hk0] at he'
  simp only [List.getElem?_cons_zero,Option.some.injEq] at he'
  rw [h0] at ho';simp only [Option.some.injEq] at ho'
  subst ho';subst he';exact he
theorem kL.drop {i:Nat} {rest:List Oper} {log:List Eff} (h:kL ops i rest log):ops.toList.drop i=rest:=by
 apply List.ext_getElem?
 intro j
 rw [List.getElem?_drop,h.1 j];simp
def tC (P:Program) [Laid P] (ops:Array Oper) (p:Oid) (c:Nat) (K:List (Nat × AV)→Mem→List LE→Prop):Nat→List LOp→FuncId→List AV→List (Nat × AV)→Mem→List LE→Prop :=
 fun i L f xs fr m lg=>∀ o rest log,kL ops i (o::rest) log→log.map jh=lg→cR (o::rest)=L→(eF o.op=false∧fg o.op=false)→∃ e,aq P f xs (Oid.under (.sub c i p)) e∧(∀ q,q ∈ e.need→m q.1=some q.2) ∧
     cW P ops p c (i+1) rest (put o.dst e.val fr) (m.aF e.upd) (e::log) (KT ops fun fr m log=>K fr m (log.map jh))
def Sw (P:Program) [Laid P] (ops:Array Oper) (p:Oid) (c:Nat) (K:List (Nat × AV)→Mem→List LE→Prop):Nat→List LOp→List (Nat × AV)→Mem→List LE→Prop :=
 fun i L fr m lg=>∀ o rest log,kL ops i (o::rest) log→log.map jh=lg→cR (o::rest)=L→∃ e,aA P o (evA fr) (Oid.under (.sub c i p)) e∧(∀ q,q ∈ e.need→m q.1=some q.2) ∧
     cW P ops p c (i+1) rest (put o.dst e.val fr) (m.aF e.upd) (e::log) (KT ops fun fr m log=>K fr m (log.map jh))
theorem fi {K:List (Nat × AV)→Mem→List LE→Prop} (hg:mX ops gl=true):∀ (rest:List Oper) (i:Nat) (fr:List (Nat × AV)) (m:Mem) (log:List Eff),kL ops i rest log →
  ev P md gl p c true (tC P ops p c K) (Sw P ops p c K) K i (cR rest) fr m (log.map jh)→cW P ops p c i rest fr m log (KT ops fun fr m log=>K fr m (log.map jh))
 | [],_,_,_,_,hL,h=>⟨h,hL.2.2⟩
 | o::rest,i,fr,m,log,hL,h=>by
  simp only [cR,ev] at h
  simp only [cW]
  cases hw:kK gl (lV o).guard (F fr) with
  | none=>simp only [hw] at h
  | some b =>
   simp only [hw] at h
   rw [qy (o:=o) hg hw]
   cases b with
   | true =>
    have h:=h.1 rfl
    simp only [lV] at h
    simp only
    cases ho:opL P m (.sub c i p) md (evA fr) o.dst o.op with
    | eff e =>
     simp only [ho] at h
     rw [← se] at ho
     obtain ⟨h1,h2⟩:=yc (sp:=Oid.under (.sub c i p)) (Oid.az _) (fun t=>Oid.lA t _) rfl ho
     exact ⟨e,h1,h2,fi hg rest _ _ _ (e::log) (hL.step ⟨fun hi=>ye hi ho,fun hi=>yf hi ho⟩) h⟩
    | call f xs =>
     simp only [ho] at h
     rw [← se] at ho
     have i1:eF o.op=false:=by
      cases hi:eF o.op with
      | false=>rfl
      | true=>exact (mV hi ho).elim
     have i2:fg o.op=false:=by
      cases hi:fg o.op with
      | false=>rfl
      | true=>exact (mW hi ho).elim
     obtain ⟨e,h1,h2,h3⟩:=h o rest log hL rfl rfl ⟨i1,i2⟩
     exact ⟨e,qg ho h1,h2,h3⟩
    | no =>
     simp only [ho] at h
     exact h o rest log hL rfl rfl
   | false=>exact fi hg rest _ _ _ (Eff.none::log) (hL.step ⟨fun _=>⟨rfl,rfl⟩,fun _=>rfl⟩) (h.2 rfl)
def tD (a b:LE):Prop:=(∀ i,i ∈ a.upd→∀ j,j ∈ b.need→i≠j)∧(∀ i,i ∈ a.upd→∀ j,j ∈ b.upd→i≠j)∧(∀ i,i ∈ a.need→∀ j,j ∈ b.upd→i≠j)
def qA (E:List LE):List (Nat × Nat)→Prop
 | []=>True
 | (i,j)::r=>tD (E.getD i LE.none) (E.getD j LE.none)∧qA E r
theorem qB {a b:LE} (ha:a.upd=[]) (hb:b.upd=[]):tD a b:=by
 unfold tD;rw [ha,hb]
 refine ⟨?_,?_,?_⟩<;>intro i h j k<;>first|(cases h;done)|(cases k;done)
theorem aJ {E:List LE} (h:(E.all fun e=>e.upd.isEmpty)=true):∀ {U:List (Nat × Nat)},qA E U
 | []=>trivial
 | (i,j)::r=>by
  have hget:∀ k,(E.getD k LE.none).upd=[]:=fun k=>by
   rw [List.getD_eq_getElem?_getD]
   cases hk:E[k]? with
   | none=>rfl
   | some e =>
    rw [List.all_eq_true] at h
    exact List.isEmpty_iff.1 (h e (List.mem_of_getElem? hk))
  exact ⟨qB (hget i) (hget j),aJ h⟩
theorem nI {E:List Eff}:∀ {U:List (Nat × Nat)},qA (E.map jh) U→yg E U
 | [],_=>trivial
 | (i,j)::r,h=>by
  have hget:∀ k,(E.map jh).getD k LE.none=jh (E.getD k Eff.none):=fun k=>by
   simp only [List.getD_eq_getElem?_getD,List.getElem?_map]
   cases E[k]? <;> rfl
  simp only [qA,hget] at h
  obtain ⟨⟨h1,h2,h3⟩,h4⟩:=h
  exact ⟨⟨fun q hq q' hq'=>h1 _ (fW hq) _ (fW hq'),fun q hq q' hq'=>h2 _ (fW hq) _ (fW hq'),fun q hq q' hq'=>h3 _ (fW hq) _ (fW hq')⟩,nI h4⟩
end
end Go.Ab
namespace Go.Ab
inductive Pc where
 | code (c:Code)
 | bend (id:Nat)
 | lend (ts:List Nat) (I:Nat→AS→Prop) (k:Nat)
def after (P:Program) (x:Ctx) (n:Nat) (Q:AX→AS→Prop):List Pc→AX→AS→Prop
 | [],e,s=>Q e s
 | k::ks,e,s=>match k,e with
  | .code c,.normal=>T P x n c s (after P x n Q ks)
  | .lend ts I k,.normal=>∃ k' m',k' < k∧(∀ i o,m' i=some o→s.mem i=some o)∧I k' ⟨cb ts s.fr,m',s.c,s.ds⟩
  | .bend j,.exit i=>if i=j then after P x n Q ks .normal s else after P x n Q ks (.exit i) s
  | _,e=>after P x n Q ks e s
section
variable {P:Program} [Laid P] {x:Ctx} {n:Nat} {Q:AX→AS→Prop} {ks:List Pc} {s:AS} {fr:List (Nat × AV)} {m:Mem} {c:Nat} {ds:List AD}
theorem lW {a:Code} (h:T P x n a s (after P x n Q ks)):after P x n Q (.code a::ks) .normal s:=h
theorem bC {e:AX} (h:Q e s):after P x n Q [] e s:=h
theorem Tb {i:Nat} (h:after P x n Q ks .normal s):after P x n Q (.bend i::ks) (.exit i) s:=by simp only [after,if_true];exact h
theorem acC {i j:Nat} (hj:(Nat.beq i j)=false) (h:after P x n Q ks (.exit i) s):after P x n Q (.bend j::ks) (.exit i) s:=by
 have:¬ i=j:=fun e=>by subst e;simp at hj
 simp only [after,if_neg this];exact h
theorem iA:∀ {ks:List Pc},Q .ret s→after P x n Q ks .ret s
 | [],h=>h
 | .code _::ks,h=>iA (ks:=ks) h
 | .bend _::ks,h=>iA (ks:=ks) h
 | .lend .. :: ks,h=>iA (ks:=ks) h
theorem eh {v:AV}:∀ {ks:List Pc},Q (.panic v) s→after P x n Q ks (.panic v) s
 | [],h=>h
 | .code _::ks,h=>eh (ks:=ks) h
 | .bend _::ks,h=>eh (ks:=ks) h
 | .lend .. :: ks,h=>eh (ks:=ks) h
theorem lX {a b:Code} (h:T P x n a s (after P x n Q (.code b::ks))):T P x n (.seq a b) s (after P x n Q ks) :=
 aaP (iV h fun e s h=>by cases e<;>exact h)
theorem Tc (h:after P x n Q ks .normal s):T P x n .skip s (after P x n Q ks):=SN h
theorem aE (h:Q .ret s):T P x n .ret s (after P x n Q ks):=aaN (iA h)
theorem Td {i:Nat} (h:after P x n Q ks (.exit i) s):T P x n (.exit i) s (after P x n Q ks):=SO h
theorem iB {id:Nat} {a:Code} (h:T P x n a s (after P x n Q (.bend id::ks))):T P x n (.block id a) s (after P x n Q ks) :=
 BJ (iV h fun e s h=>by cases e<;>first|exact h|(simp only [after] at h;simp only [AX.inBlock];split<;>simp_all))
theorem cE (ts:List Nat) {a:Code} (I:Nat→AS→Prop) (k:Nat) (h0:I k ⟨cb ts fr,m,c,ds⟩)
  (round:∀ k s,I k s→T P x n a s (after P x n Q (.lend ts I k::ks))):T P x n (.loop a) ⟨fr,m,c,ds⟩ (after P x n Q ks):=by
 refine SQ (fun k s=>∃ m',(∀ i o,m' i=some o→s.mem i=some o)∧I k ⟨cb ts s.fr,m',s.c,s.ds⟩) k ⟨m,fun _ _ h=>h,h0⟩ ?_
 rintro k ⟨fr',m1,c',ds'⟩ ⟨m',hm,hi⟩
 refine ju (s:=⟨fr',m1,c',ds'⟩) (cb ts fr') (fun t _=>lp ts fr' t) ?_
 refine oE (s:=⟨cb ts fr',m1,c',ds'⟩) m' hm ?_
 refine iV (round k _ hi) fun e s h=>?_
 cases e with
 | normal=>obtain ⟨k',m',h1,h2,h3⟩:=h;exact ⟨k',h1,m',h2,h3⟩
 | _=>exact h
theorem oR {t:Nat} {a b:Code} {v:Bool} (ht:(decide (t < n))=true) (hv:F fr t = .bool v) (h1:v=true→T P x n a ⟨fr,m,c,ds⟩ (after P x n Q ks)) (h2:v=false→T P x n b ⟨fr,m,c,ds⟩ (after P x n Q ks)) :
  T P x n (.cond (.tmp t) a b) ⟨fr,m,c,ds⟩ (after P x n Q ks):=aaR ht hv h1 h2
theorem bs {t:Nat} {a b:Code} {p:Prop} {i:Decidable p} (ht:(decide (t < n))=true) (hv:F fr t = .bool (decide p)) (h1:p→T P x n a ⟨fr,m,c,ds⟩ (after P x n Q ks)) (h2:¬ p→T P x n b ⟨fr,m,c,ds⟩ (after P x n Q ks)) :
  T P x n (.cond (.tmp t) a b) ⟨fr,m,c,ds⟩ (after P x n Q ks):=aaR ht hv (fun h=>h1 (of_decide_eq_true h)) (fun h=>h2 (of_decide_eq_false h))
theorem aB {t:Nat} {a b:Code} (ht:(decide (t < n))=true) (hv:F fr t = .bool true) (h1:T P x n a ⟨fr,m,c,ds⟩ (after P x n Q ks)):T P x n (.cond (.tmp t) a b) ⟨fr,m,c,ds⟩ (after P x n Q ks):=oR ht hv (fun _=>h1) (fun h=>by cases h)
theorem aC {t:Nat} {a b:Code} (ht:(decide (t < n))=true) (hv:F fr t = .bool false) (h1:T P x n b ⟨fr,m,c,ds⟩ (after P x n Q ks)):T P x n (.cond (.tmp t) a b) ⟨fr,m,c,ds⟩ (after P x n Q ks):=oR ht hv (fun h=>by cases h) (fun _=>h1)
def Cut (P:Program) (x:Ctx) (n:Nat) (Q:AX→AS→Prop) (ks:List Pc) (ts:List Nat) (R:AS→Prop):AX→AS→Prop
 | .normal,s=>∃ m',(∀ i o,m' i=some o→s.mem i=some o)∧R ⟨cb ts s.fr,m',s.c,s.ds⟩
 | e,s=>after P x n Q ks e s
theorem dE {a b:Code} (ts:List Nat) (R:AS→Prop) (h:T P x n a s (after P x n (Cut P x n Q ks ts R) [])) (h2:∀ s,R s→T P x n b s (after P x n Q ks)):T P x n a s (after P x n Q (.code b::ks)) :=
 iV h fun e s h=>by
  cases e with
  | normal =>
   obtain ⟨m',h1,h3⟩:=h
   obtain ⟨fr',m1,c',ds'⟩:=s
   refine ju (s:=⟨fr',m1,c',ds'⟩) (cb ts fr') (fun t _=>lp ts fr' t) ?_
   exact oE (s:=⟨cb ts fr',m1,c',ds'⟩) m' h1 (h2 _ h3)
  | _=>exact h
theorem aR {ts:List Nat} {R:AS→Prop} (h:R ⟨cb ts fr,m,c,ds⟩):after P x n (Cut P x n Q ks ts R) [] .normal ⟨fr,m,c,ds⟩:=⟨m,fun _ _ h=>h,h⟩
theorem acD {a:Code} (fr':List (Nat × AV)) (hk:fr'.all (fun q=>decide (q.1 < n))=true) (hv:∀ q,q ∈ fr'→q.2=F fr q.1) (h:T P x n a ⟨fr',m,c,ds⟩ Q):T P x n a ⟨fr,m,c,ds⟩ Q:=by
 refine ju (s:=⟨fr,m,c,ds⟩) fr' (fun t _=>?_) h
 clear hk h
 induction fr' with
 | nil=>exact .inl rfl
 | cons q l ih =>
  simp only [F]
  split
  ·rename_i h;right;rw [hv q List.mem_cons_self,h]
  ·exact ih fun q' hq'=>hv q' (List.mem_cons_of_mem _ hq')
theorem uN {a:Code} (t sz:Nat) (ht:F fr t = .nilSl) (h:T P x n a ⟨(t,.list sz [])::fr,m,c,ds⟩ Q):T P x n a ⟨fr,m,c,ds⟩ Q:=by
 refine iv (s:=⟨fr,m,c,ds⟩) (s':=⟨(t,.list sz [])::fr,m,c,ds⟩) (fun g b w hr=>⟨g,hr.mr,hr.tm,hr.df,fun u hu=>?_,hr.young⟩) h
 simp only [F]
 split
 ·rename_i e;subst e
  have:=hr.fr u hu
  simp only [ht] at this
  rw [this.bF];exact .listNil _
 ·exact hr.fr u hu
theorem sf {a:Code} (t sz:Nat) (ht:F fr t = .nilSl) (h:T P x n a ⟨(t,.sl (.sub c 0 x.p) sz 0)::fr,m.set (.sub c 0 x.p) (some (.arr sz [])),c+1,ds⟩ Q):T P x n a ⟨fr,m,c,ds⟩ Q:=by
 refine iv (s:=⟨fr,m,c,ds⟩) _ (fun g b w hr=>?_) h
 have hl:g.loc (.sub c 0 x.p)=none:=hr.young _ ⟨c,0,Nat.le_refl _,Oid.az _⟩
 have hle:=Gh.ja hl
 refine ⟨g.cm (.sub c 0 x.p),hr.mr.tw sz hl (Oid.ae (Oid.az _)),hr.tm,hr.df.mono hle,fun u hu=>?_,fun i hi=>?_⟩
 ·simp only [F]
  split
  ·rename_i e;subst e
   have:=hr.fr u hu
   simp only [ht] at this
   rw [this.bF]
   exact .slNil _ _ (by simp [Gh.cm])
  ·exact (hr.fr u hu).mono hle
 ·simp only [Gh.cm]
  split
  ·rename_i e;subst e
   obtain ⟨c',i',h1,h2⟩:=hi
   have:=(Oid.apart (Oid.az _) h2).1
   simp only at h1
   omega
  ·exact hr.young i (hi.mono (Nat.le_succ _))
def mY (i:Oid) (sz:Nat) (xs:List AV):AV→AV
 | .sl j s n=>if j=i∧s=sz∧n=xs.length then .list sz xs else .sl j s n
 | v=>v
def frz (i:Oid) (sz:Nat) (xs:List AV):List (Nat × AV)→List (Nat × AV)
 | []=>[]
 | q::l=>(q.1,mY i sz xs q.2)::frz i sz xs l
theorem tE (i:Oid) (sz:Nat) (xs:List AV) (t:Nat):∀ fr,F (frz i sz xs fr) t=mY i sz xs (F fr t)
 | []=>rfl
 | q::l=>by
  simp only [frz,F]
  split
  ·rfl
  ·exact tE i sz xs t l
theorem qC {a:Code} (i:Oid) (sz:Nat) (xs:List AV) (hi:m i=some (.arr sz xs)) (h:T P x n a ⟨frz i sz xs fr,m.set i none,c,ds⟩ Q):T P x n a ⟨fr,m,c,ds⟩ Q:=by
 refine yd (s:=⟨fr,m,c,ds⟩) i (frz i sz xs fr) hi (fun t _=>?_) h
 rw [tE]
 generalize F fr t=v
 unfold mY
 split
 ·split
  ·rename_i h;obtain ⟨rfl,rfl,rfl⟩:=h;exact .inr (.inr ⟨rfl,rfl⟩)
  ·exact .inr (.inl rfl)
 ·exact .inr (.inl rfl)
theorem sg {a:Code} (m':Mem) (hm:∀ i o,m' i=some o→m i=some o) (h:T P x n a ⟨fr,m',c,ds⟩ Q):T P x n a ⟨fr,m,c,ds⟩ Q:=oE (s:=⟨fr,m,c,ds⟩) m' hm h
theorem ay {id:Nat} {ops:Array Oper} (md:Nat→Bool) (gl:List (Nat × Nat)) (hng:Fit P x) (hok:(Sv n P.globals.size ops && mX ops gl)=true)
  (h:pU x.p c m→∀ C S (K:List (Nat × AV)→Mem→List LE→Prop),
   (∀ {i o rest f xs fr m log} e,aq P f xs (Oid.under (.sub c i x.p)) e→(∀ q,q ∈ e.need→m q.1=some q.2)→ev P md gl x.p c false C S K (i+1) rest (put o.dst e.val fr) (m.aF e.upd) log→C i (o::rest) f xs fr m log) →
   (∀ {i o rest f xs fr m log} need R Rp,b7 P f xs (Oid.under (.sub c i x.p)) need R Rp→(∀ q,q ∈ need→m q.1=some q.2)→(∀ val upd,R val upd→ev P md gl x.p c false C S K (i+1) rest (put o.dst val fr) (m.aF upd) log) →
    (∀ pv upd,Rp pv upd→Q (.panic pv) ⟨fr,m.aF upd,c+1,ds⟩)→C i (o::rest) f xs fr m log) →
   (∀ {i o rest fr m log} need R Rp,acA P o.dst o.op (evA fr) (Oid.under (.sub c i x.p)) need R Rp→(∀ q,q ∈ need→m q.1=some q.2)→(∀ val upd,R val upd→ev P md gl x.p c false C S K (i+1) rest (put o.dst val fr) (m.aF upd) log) →
    (∀ pv upd,Rp pv upd→Q (.panic pv) ⟨fr,m.aF upd,c+1,ds⟩)→S i (o::rest) fr m log) →
   (∀ {fr m log},after P x n Q ks .normal ⟨fr,m,c+1,ds⟩→K fr m log) →
   ev P md gl x.p c false C S K 0 (cR ops.toList) fr m []):T P x n (.region id ops false) ⟨fr,m,c,ds⟩ (after P x n Q ks):=by
 simp only [Bool.and_eq_true] at hok
 obtain ⟨hok,hgl⟩:=hok
 refine qi md hng hok fun hf=>?_
 let K0:List (Nat × AV)→Mem→Prop:=fun fr m=>after P x n Q ks .normal ⟨fr,m,c+1,ds⟩
 let Kp:AV→List (Nat × AV)→Mem→Prop:=fun pv fr m=>after P x n Q ks (.panic pv) ⟨fr,m,c+1,ds⟩
 refine fY (md:=md) (lg:=false) (K:=K0) (Kp:=Kp) hgl _ _ _ _ [] (by simp) ?_
 refine h hf _ _ _ ?_ ?_ ?_ ?_
 ·intro i o rest f xs fr m log e h1 h2 h3 o' rest' hd hl
  simp only [cR,List.cons.injEq] at hl
  obtain ⟨rfl,rfl⟩:=hl
  exact ⟨_,_,_,h1.nd,h2,fun val upd ⟨hv,hu⟩=>by subst hv;subst hu;exact fY hgl _ _ _ _ log (fX hd) h3,fun _ _ h=>h.elim⟩
 ·intro i o rest f xs fr m log need R Rp h1 h2 h3 h4 o' rest' hd hl
  simp only [cR,List.cons.injEq] at hl
  obtain ⟨rfl,rfl⟩:=hl
  exact ⟨need,R,Rp,h1,h2,fun val upd hr=>fY hgl _ _ _ _ log (fX hd) (h3 val upd hr),fun pv upd hr=>eh (h4 pv upd hr)⟩
 ·intro i o rest fr m log need R Rp h1 h2 h3 h4 o' rest' hd hl
  simp only [cR,List.cons.injEq] at hl
  obtain ⟨rfl,rfl⟩:=hl
  exact ⟨need,R,Rp,h1 o' rfl rfl,h2,fun val upd hr=>fY hgl _ _ _ _ log (fX hd) (h3 val upd hr),fun pv upd hr=>eh (h4 pv upd hr)⟩
 ·intro fr m log h
  exact h
theorem cD {id:Nat} {ops:Array Oper} (md:Nat→Bool) (gl:List (Nat × Nat)) (U:List (Nat × Nat)) (hmx:P.follows .mixedOrders=true) (hng:Fit P x) (hok:(yi n P.globals.size ops U && mX ops gl)=true) (ts:List Nat)
  (h:pU x.p c m→∀ C S (K:List (Nat × AV)→Mem→List LE→Prop),
   (∀ {i o rest f xs fr m log} e,aq P f xs (Oid.under (.sub c i x.p)) e→(∀ q,q ∈ e.need→m q.1=some q.2)→ev P md gl x.p c true C S (fun fr m log=>K (cb ts fr) m log) (i+1) rest (put o.dst e.val fr) (m.aF e.upd) (jh e::log)→C i (o::rest) f xs fr m log) →
   (∀ {i o rest fr m log} e,acB P o.dst o.op (evA fr) (Oid.under (.sub c i x.p)) e→eF o.op=false→fg o.op=false→(∀ q,q ∈ e.need→m q.1=some q.2)→ev P md gl x.p c true C S (fun fr m log=>K (cb ts fr) m log) (i+1) rest (put o.dst e.val fr) (m.aF e.upd) (jh e::log)→S i (o::rest) fr m log) →
   (∀ {fr m log},qA log.reverse U→after P x n Q ks .normal ⟨fr,m,c+1,ds⟩→K fr m log) →
   ev P md gl x.p c true C S (fun fr m log=>K (cb ts fr) m log) 0 (cR ops.toList) fr m []):T P x n (.region id ops true) ⟨fr,m,c,ds⟩ (after P x n Q ks):=by
 simp only [Bool.and_eq_true] at hok
 obtain ⟨hok,hgl⟩:=hok
 simp only [yi,Bool.and_eq_true] at hok
 obtain ⟨⟨k1,k2⟩,k3⟩:=hok
 have key:=mR (P:=P) (x:=x) (n:=n) (s:=⟨fr,m,c,ds⟩) (Q:=fun e s=>e = .normal∧after P x n Q ks .normal ⟨cb ts s.fr,s.mem,s.c,s.ds⟩) (id:=id) hmx hng k1 k2 fun hf=>by
  have h1:=fi (P:=P) (md:=md) (ops:=ops) (p:=x.p) (c:=c) (K:=fun fr m log=>qA log.reverse U∧after P x n Q ks .normal ⟨cb ts fr,m,c+1,ds⟩) hgl ops.toList 0 fr m [] ⟨fun j=>by simp,rfl,fun k o e _ he=>by simp at he⟩
   (h hf (tC P ops x.p c _) (Sw P ops x.p c _) (fun fr m log=>qA log.reverse U∧after P x n Q ks .normal ⟨fr,m,c+1,ds⟩)
    (fun {i o rest f xs fr m log} e h1 h2 h3=>fun o' rest' log' hL hlg hl hi=>by
     simp only [cR,List.cons.injEq] at hl
     obtain ⟨rfl,rfl⟩:=hl
     subst hlg
     exact ⟨e,h1,h2,fi hgl _ _ _ _ (e::log') (hL.step (show uJ o' e from ⟨fun h=>absurd h (by simp [hi.1]),fun h=>absurd h (by simp [hi.2])⟩)) h3⟩)
    (fun {i o rest fr m log} e h1 i1 i2 h2 h3=>fun o' rest' log' hL hlg hl=>by
     simp only [cR,List.cons.injEq] at hl
     obtain ⟨rfl,rfl⟩:=hl
     subst hlg
     simp only [lV] at i1 i2
     exact ⟨e,h1 o' rfl rfl,h2,fi hgl _ _ _ _ (e::log') (hL.step (show uJ o' e from ⟨fun h=>absurd h (by simp [i1]),fun h=>absurd h (by simp [i2])⟩)) h3⟩)
    (fun {fr m log} h1 h2=>⟨h1,h2⟩))
  refine fG (N:=ops.size) ?_ _ _ _ _ _ (by simp) h1
  rintro fr1 m1 log hlen ⟨⟨hd,hq⟩,ht⟩
  refine ⟨uK k3 (by simpa using hlen) ht (nI (by rw [List.map_reverse];exact hd)),fun fr' hF=>⟨rfl,?_⟩⟩
  have:cb ts fr' = cb ts fr1:=by simp only [uI,hF]
  rw [this];exact hq
 intro g a w hr
 refine wpIn_mono (key g a w hr) fun e a' w' ⟨g',ex,s',h1,h2,h4,h5⟩=>?_
 subst h4
 exact ⟨g',.normal,⟨cb ts s'.fr,s'.mem,s'.c,s'.ds⟩,h1.forget _ (fun t _=>lp ts s'.fr t),h2,h5⟩
end
theorem fZ {P:Program} [Laid P] {f:FuncId} {fn:Func} {n:Nat} {rs:List ResultVar} {c:Code} {xs:List AV} {p:Oid} {need:List (Oid × aj)} {R Rp:AV→List (Oid × Option aj)→Prop} (hf:P.funcs[f]? = some fn) (hn:fn.ntmps=n) (hr:fn.results.toList=rs)
  (hnm:(fn.name != "runtime.NumGoroutine")=true) (hl:(Nat.ble xs.length n)=true) (hok:eG n rs=true) (hb:fn.body=some c)
  (hT:∀ x:Ctx,x.p=p→x.rd=none→Fit P x→T P x n c ⟨cx 0 xs,Mem.of need,0,[]⟩ (after P x n (dJ P rs need R Rp) [])):b7 P f xs (Oid.under p) need R Rp :=
 uL hf hn hr hnm hl hok hb fun x h1 h2 h3=>iV (hT x h1 h2 h3) fun _ _ h=>h
theorem aV {P:Program} [Laid P] {f:FuncId} {fn:Func} {n:Nat} {rs:List ResultVar} {c:Code} {xs:List AV} {p:Oid} {e:Eff} (hf:P.funcs[f]? = some fn) (hn:fn.ntmps=n) (hr:fn.results.toList=rs)
  (hnm:(fn.name != "runtime.NumGoroutine")=true) (hl:(Nat.ble xs.length n)=true) (hok:eG n rs=true) (hb:fn.body=some c)
  (hT:∀ x:Ctx,x.p=p→x.rd=none→Fit P x→T P x n c ⟨cx 0 xs,Mem.of e.need,0,[]⟩ (after P x n (dJ P rs e.need (fun v u=>v=e.val∧u=e.upd) fun _ _=>False) [])):aq P f xs (Oid.under p) e :=
 (fZ hf hn hr hnm hl hok hb hT).ok
theorem bm {P:Program} {rs:List ResultVar} {need:List (Oid × aj)} {R Rp:AV→List (Oid × Option aj)→Prop} {fr:List (Nat × AV)} {m:Mem} {c:Nat} (val:AV) (upd:List (Oid × Option aj)) (h1:fH P m fr rs=some val) (h2:R val upd)
  (h3:∀ i o,((Mem.of need).aF upd) i=some o→m i=some o):dJ P rs need R Rp .ret ⟨fr,m,c,[]⟩:=⟨val,upd,h1,h2,h3⟩
theorem a8 {P:Program} {rs:List ResultVar} {need:List (Oid × aj)} {R Rp:AV→List (Oid × Option aj)→Prop} {fr:List (Nat × AV)} {m:Mem} {c:Nat} (val:AV) (upd:List (Oid × Option aj)) (h1:fH P m fr rs=some val) (h2:R val upd)
  (h3:∀ i o,((Mem.of need).aF upd) i=some o→m i=some o):dJ P rs need R Rp .normal ⟨fr,m,c,[]⟩:=⟨val,upd,h1,h2,h3⟩
theorem bz {P:Program} {rs:List ResultVar} {val:AV} {fr:List (Nat × AV)} {m:Mem} {c:Nat} (h1:fH P m fr rs=some val):dJ P rs [] (fun v u=>v=val∧u=[]) (fun _ _=>False) .ret ⟨fr,m,c,[]⟩ :=
 bm val [] h1 ⟨rfl,rfl⟩ fun i o h=>by cases h
theorem b6 {P:Program} {t:Nat} {val:AV} {fr:List (Nat × AV)} {m:Mem} {c:Nat} (h1:F fr t=val):dJ P [.tmp t] [] (fun v u=>v=val∧u=[]) (fun _ _=>False) .ret ⟨fr,m,c,[]⟩ :=
 bz (by simp only [fH,oP,h1,B2])
theorem Te {P:Program} [Laid P] {x:Ctx} {n:Nat} {ks:List Pc} {t sz k c:Nat} {id:Oid} {xs ys:List AV} {fr:List (Nat × AV)} {m:Mem} (hv:F fr t = .sl id sz k) (hi:m id=some (.arr sz xs)) (hk:k=xs.length) (hx:xs=ys) :
  T P x n .ret ⟨fr,m,c,[]⟩ (after P x n (dJ P [.tmp t] [] (fun v u=>v = .list sz ys∧u=[]) (fun _ _=>False)) ks):=by
 subst hx
 refine qC id sz xs hi (aE (b6 ?_))
 rw [tE,hv,mY,if_pos ⟨rfl,rfl,hk⟩]
end Go.Ab
namespace Go.Ab
def gd (p:Prop) [Decidable p] (v:Option AV):Option AV:=if p then v else none
theorem Tf {p:Prop} [Decidable p] {v:Option AV} (h:p):gd p v=v:=if_pos h
def gdR (p:Prop) [Decidable p] (v:OpR):OpR:=if p then v else .no
theorem B6 {p:Prop} [Decidable p] {v:OpR} (h:p):gdR p v=v:=if_pos h
theorem sh (s:List UInt8) (k:IntKind) (n:Int):j8 (some .str) (.str s) (.int k n)=gd (0≤n∧n < s.length) (some (.int .u8 (s.getD n.toNat 0).toNat)):=rfl
theorem kY (el:TypeId) (ag:Bool) (sz by' sz':Nat) (xs:List AV) (k:IntKind) (n:Int):dw (some (.slice el ag sz by')) (.list sz' xs) (.int k n)=gd (sz' = sz∧0≤n∧n < xs.length) (some (.eptr (xs.getD n.toNat .undef))):=rfl
theorem mZ (el:TypeId) (ag:Bool) (sz by' sz' len:Nat) (id:Oid) (k:IntKind) (n:Int):dw (some (.slice el ag sz by')) (.sl id sz' len) (.int k n)=gd (sz' = sz∧0≤n∧n < len) (some (.aptr id sz n.toNat 0)):=rfl
theorem lY (el:TypeId) (ag:Bool) (sz len off:Nat) (id:Oid) (k:IntKind) (n:Int):dw (some (.arr len el ag sz)) (.ptr id off) (.int k n)=gd (0≤n∧n < len) (some (.ptr id (off+n.toNat * sz))):=rfl
theorem qD (s:List UInt8):bD (some .str) (.str s) none none=some (.str s):=by
 simp [bD,bM]
theorem qE (s:List UInt8) (k:IntKind) (l:Int):bD (some .str) (.str s) (some (.int k l)) none=gd (0≤l∧l≤s.length) (some (.str (s.drop l.toNat))):=by
 simp only [bD,bM,gd]
 by_cases h:0≤l∧l≤s.length
 ·rw [if_pos h,if_pos ⟨h.1,h.2,Int.le_refl _⟩];simp
 ·rw [if_neg h,if_neg (fun h'=>h ⟨h'.1,h'.2.1⟩)]
theorem qF (s:List UInt8) (k:IntKind) (h:Int):bD (some .str) (.str s) none (some (.int k h))=gd (0≤h∧h≤s.length) (some (.str (s.take h.toNat))):=by
 simp only [bD,bM,gd]
 by_cases hc:0≤h∧h≤s.length
 ·rw [if_pos hc,if_pos ⟨Int.le_refl _,hc.1,hc.2⟩];simp
 ·rw [if_neg hc,if_neg (fun h'=>hc ⟨h'.2.1,h'.2.2⟩)]
theorem qG (s:List UInt8) (k k':IntKind) (l h:Int):bD (some .str) (.str s) (some (.int k l)) (some (.int k' h))=gd (0≤l∧l≤h∧h≤s.length) (some (.str ((s.take h.toNat).drop l.toNat))):=rfl
theorem oS (el:TypeId) (ag:Bool) (sz by' sz':Nat) (xs:List AV) (k:IntKind) (l:Int):bD (some (.slice el ag sz by')) (.list sz' xs) (some (.int k l)) none=gd (sz' = sz∧0≤l∧l≤xs.length) (some (.list sz (xs.drop l.toNat))):=by
 simp only [bD,bM,gd]
 by_cases h:sz' = sz∧0≤l∧l≤xs.length
 ·rw [if_pos h,if_pos ⟨h.1,h.2.1,h.2.2,Int.le_refl _⟩];simp
 ·rw [if_neg h,if_neg (fun h'=>h ⟨h'.1,h'.2.1,h'.2.2.1⟩)]
theorem oT (el:TypeId) (ag:Bool) (sz by' sz':Nat) (xs:List AV) (k:IntKind) (h:Int):bD (some (.slice el ag sz by')) (.list sz' xs) none (some (.int k h))=gd (sz' = sz∧0≤h∧h≤xs.length) (some (.list sz (xs.take h.toNat))):=by
 simp only [bD,bM,gd]
 by_cases hc:sz' = sz∧0≤h∧h≤xs.length
 ·rw [if_pos hc,if_pos ⟨hc.1,Int.le_refl _,hc.2.1,hc.2.2⟩];simp
 ·rw [if_neg hc,if_neg (fun h'=>hc ⟨h'.1,h'.2.2.1,h'.2.2.2⟩)]
theorem oU (el:TypeId) (ag:Bool) (sz by':Nat) (xs:List AV):bD (some (.slice el ag sz by')) (.list sz xs) none none=some (.list sz xs):=by
 simp [bD,bM]
theorem oV (el:TypeId) (ag:Bool) (sz by' sz':Nat) (xs:List AV) (k k':IntKind) (l h:Int):bD (some (.slice el ag sz by')) (.list sz' xs) (some (.int k l)) (some (.int k' h))=gd (sz' = sz∧0≤l∧l≤h∧h≤xs.length) (some (.list sz ((xs.take h.toNat).drop l.toNat))):=rfl
theorem sj (el:TypeId) (ag:Bool) (sz by' sz' len:Nat) (id:Oid) (k:IntKind) (h:Int):bD (some (.slice el ag sz by')) (.sl id sz' len) none (some (.int k h))=gd (0≤h∧h≤len) (some (.sl id sz' h.toNat)):=by
 simp only [bD,bM,gd,true_and]
theorem sk (el:TypeId) (ag:Bool) (sz by' sz' len:Nat) (id:Oid):bD (some (.slice el ag sz by')) (.sl id sz' len) none none=some (.sl id sz' len):=by
 simp [bD,bM]
theorem qH (el:TypeId) (ag:Bool) (sz by':Nat):bD (some (.slice el ag sz by')) .nilSl none none=some .nilSl:=by
 simp [bD,bM]
theorem sn (el:TypeId) (ag:Bool) (sz len:Nat) (cs:List AV) (k:IntKind) (n:Int):j8 (some (.arr len el ag sz)) (.agg cs) (.int k n)=gd (0≤n∧n < len∧n.toNat * sz+sz≤cs.length∧(ag=true∨sz=1)) (some (iL ag cs (n.toNat * sz) sz)):=rfl
theorem qI (el:TypeId) (ag:Bool) (sz len:Nat) (id:Oid) (k:IntKind) (l:Int):bD (some (.arr len el ag sz)) (.ptr id 0) (some (.int k l)) none=gd (0≤l∧l < len) (some (.win id sz l.toNat (len - l.toNat))):=by
 simp only [bD,bM,gd,Int.toNat_natCast]
 by_cases h:0≤l∧l < len
 ·rw [if_pos h,if_pos ⟨trivial,h.1,h.2,by omega,Int.le_refl _⟩]
 ·rw [if_neg h,if_neg (fun h'=>h ⟨h'.2.1,h'.2.2.1⟩)]
theorem qJ (el:TypeId) (ag:Bool) (sz len:Nat) (id:Oid) (k:IntKind) (h:Int):bD (some (.arr len el ag sz)) (.ptr id 0) none (some (.int k h))=gd ((0:Int) < len∧0≤h∧h≤len) (some (.win id sz 0 h.toNat)):=by
 simp only [bD,bM,gd]
 by_cases hc:(0:Int) < len∧0≤h∧h≤len
 ·rw [if_pos hc,if_pos ⟨trivial,Int.le_refl _,hc.1,hc.2.1,hc.2.2⟩];simp
 ·rw [if_neg hc,if_neg (fun h'=>hc ⟨h'.2.2.1,h'.2.2.2.1,h'.2.2.2.2⟩)]
theorem yr (k:IntKind) (a b:Int):fq .add k a b=some (.int k (k.wrap (a+b))):=rfl
theorem yt (k:IntKind) (a b:Int):fq .sub k a b=some (.int k (k.wrap (a - b))):=rfl
theorem yu (k:IntKind) (a b:Int):fq .mul k a b=some (.int k (k.wrap (a * b))):=rfl
theorem yv (k:IntKind) (a b:Int):fq .quo k a b=gd (b≠0) (some (.int k (k.wrap (a.tdiv b)))):=rfl
theorem yw (k:IntKind) (a b:Int):fq .rem k a b=gd (b≠0) (some (.int k (a.tmod b))):=rfl
theorem yx (k:IntKind) (a b:Int):fq .and k a b=some (.int k (k.wrap (BitVec.ofInt k.bits a &&& BitVec.ofInt k.bits b).toNat)):=rfl
theorem B7 (k:IntKind) (a b:Int):fq .or k a b=some (.int k (k.wrap (BitVec.ofInt k.bits a ||| BitVec.ofInt k.bits b).toNat)):=rfl
theorem yy (k:IntKind) (a b:Int):fq .xor k a b=some (.int k (k.wrap (BitVec.ofInt k.bits a ^^^ BitVec.ofInt k.bits b).toNat)):=rfl
theorem qK (k:IntKind) (a b:Int):fq .andNot k a b=some (.int k (k.wrap (BitVec.ofInt k.bits a &&& ~~~ BitVec.ofInt k.bits b).toNat)):=rfl
theorem lq {α:Type} [BEq α] [LawfulBEq α] [DecidableEq α] (a b:α):(a == b)=decide (a=b):=by
 rw [Bool.eq_iff_iff];simp
theorem tF {α:Type} [BEq α] [LawfulBEq α] [DecidableEq α] (a b:α):(a != b)=decide (a≠b):=by
 rw [Bool.eq_iff_iff];simp
theorem yz (k:IntKind) (a b:Int):fq .eql k a b=some (.bool (decide (a=b))):=by
 simp only [fq,lq]
theorem yA (k:IntKind) (a b:Int):fq .neq k a b=some (.bool (decide (a≠b))):=by
 simp only [fq,tF]
theorem yB (k:IntKind) (a b:Int):fq .lss k a b=some (.bool (decide (a < b))):=rfl
theorem yC (k:IntKind) (a b:Int):fq .leq k a b=some (.bool (decide (a≤b))):=rfl
theorem yD (k:IntKind) (a b:Int):fq .gtr k a b=some (.bool (decide (b < a))):=rfl
theorem yE (k:IntKind) (a b:Int):fq .geq k a b=some (.bool (decide (b≤a))):=rfl
theorem sq (k:IntKind) (a b:Int):gR .shl k a b=gd (0≤b) (some (.int k (k.wrap (a * 2 ^ (min b.toNat k.bits))))):=by
 unfold gR gd
 by_cases h:0≤b
 ·rw [if_neg (by omega),if_pos h]
 ·rw [if_pos (by omega),if_neg h]
theorem sv (k:IntKind) (a b:Int):gR .shr k a b=gd (0≤b) (some (.int k (a.fdiv (2 ^ (min b.toNat k.bits))))):=by
 unfold gR gd
 by_cases h:0≤b
 ·rw [if_neg (by omega),if_pos h]
 ·rw [if_pos (by omega),if_neg h]
theorem yF (a b:List UInt8):jx .add a b=gd (a.length+b.length≤9223372036854775807) (some (.str (a++b))):=rfl
theorem yG (a b:List UInt8):jx .eql a b=some (.bool (decide (a=b))):=by
 simp only [jx,lq]
theorem yH (a b:List UInt8):jx .neq a b=some (.bool (decide (a≠b))):=by
 simp only [jx,tF]
def ltS (a b:List UInt8):Bool:=Op.bytesLess a b
theorem yI (a b:List UInt8):jx .lss a b=some (.bool (ltS a b)):=rfl
theorem yJ (a b:List UInt8):jx .leq a b=some (.bool (ltS a b || decide (a=b))):=by
 simp only [jx,ltS,lq]
theorem yK (a b:List UInt8):jx .gtr a b=some (.bool (!(ltS a b || decide (a=b)))):=by
 simp only [jx,ltS,lq]
theorem yL (a b:List UInt8):jx .geq a b=some (.bool (!ltS a b)):=rfl
def uO (P:Program) (m:Mem) (nid:Oid) (k:Option TyK) (s:AV) (x:Option (List (Oid × aj) × List AV)):OpR :=
 match k,s,x with
 | some (.slice el _ sz by'),.nilSl,some (nd,ys)=>gdR (lN P el sz=true∧0 < by'∧ys.length * by'≤140737488355328) (.eff ⟨nd,.sl nid sz ys.length,[(nid,some (.arr sz ys))]⟩)
 | some (.slice el _ sz by'),.sl id sz' len,some (nd,ys)=>match m id with
  | some (.arr s' xs)=>gdR (lN P el sz=true∧sz' = sz∧s' = sz∧xs.length=len∧0 < by'∧(len+ys.length) * by'≤140737488355328)
     (.eff ⟨(id,.arr s' xs)::nd,.sl nid sz (len+ys.length),[(id,none),(nid,some (.arr sz (xs++ys)))]⟩)
  | _=>.no
 | _,_,_=>.no
def yO:Option TyK→Nat
 | some (.slice _ _ sz _)=>sz
 | _=>0
theorem B8 (P:Program) (m:Mem) (nid:Oid) (t:TypeId) (s x:AV):rW P m nid t s x=uO P m nid (tyk P t) s (p6 m (yO (tyk P t)) x):=by
 unfold rW uO
 cases tyk P t with
 | none=>rfl
 | some k =>
  cases k<;>try rfl
  simp only [yO]
  generalize p6 m _ x=r
  cases r with
  | none=>cases s<;>rfl
  | some r =>
   obtain ⟨nd,ys⟩:=r
   cases s<;>rfl
def cf (i:Oid) (x:Option aj):List (Oid × aj)→List (Oid × aj)
 | []=>match x with
  | some o=>[(i,o)]
  | none=>[]
 | q::l=>if i=q.1 then (match x with
     | some o=>(i,o)::l
     | none=>cf i none l) else q::cf i x l
def bY:List (Oid × Option aj)→List (Oid × aj)→List (Oid × aj)
 | [],l=>l
 | q::u,l=>bY u (cf q.1 q.2 l)
theorem Mem.aX (i:Oid) (x:Option aj):∀ l,(Mem.of l).set i x=Mem.of (cf i x l)
 | []=>by cases x<;>(funext k;simp [Mem.of,Mem.set,cf,Mem.emp])
 | q::l=>by
  have ih:=fun x=>Mem.aX i x l
  simp only [cf]
  by_cases h:i=q.1
  ·rw [if_pos h]
   cases x with
   | some o=>funext k;simp only [Mem.of,Mem.set];subst h;split<;>rfl
   | none=>rw [← ih];funext k;simp only [Mem.of,Mem.set];subst h;split<;>rfl
  ·rw [if_neg h];funext k;simp only [Mem.of];rw [← ih];simp only [Mem.set]
   by_cases h1:k=i
   ·rw [if_pos h1,if_pos h1,if_neg (fun h2=>h (h1.symm.trans h2))]
   ·rw [if_neg h1,if_neg h1]
theorem Mem.aQ:∀ (u:List (Oid × Option aj)) (l:List (Oid × aj)),(Mem.of l).aF u=Mem.of (bY u l)
 | [],_=>rfl
 | q::u,l=>by
  show ((Mem.of l).set q.1 q.2).aF u=_
  rw [Mem.aX,Mem.aQ u];rfl
theorem Mem.Tg:Mem.emp=Mem.of []:=rfl
theorem Mem.aM (i:Oid):Mem.of [] i=none:=rfl
theorem Mem.ao (q:Oid × aj) (l:List (Oid × aj)) (i:Oid):Mem.of (q::l) i=if i=q.1 then some q.2 else Mem.of l i:=rfl
theorem bA {α:Type} (p:α→Prop):(∀ q,q ∈ ([]:List α)→p q)=True:=by simp
theorem bf {α:Type} (p:α→Prop) (a:α) (l:List α):(∀ q,q ∈ (a::l)→p q)=(p a∧∀ q,q ∈ l→p q):=by simp
theorem Oid.qL (c i:Nat) (p:Oid):(Oid.sub c i p=p)=False:=by
 apply eq_false
 intro h
 have:(Oid.sub c i p).depth=p.depth:=by rw [h]
 simp only [Oid.depth] at this;omega
theorem Oid.qO (c i:Nat) (p:Oid):(p=Oid.sub c i p)=False:=by
 apply eq_false
 intro h
 have:p.depth=(Oid.sub c i p).depth:=by rw [← h]
 simp only [Oid.depth] at this;omega
theorem Oid.Th {c c' i i':Nat} {p p':Oid} (h:c≠c'):(Oid.sub c i p=Oid.sub c' i' p')=False:=by
 apply eq_false;intro e;injection e with h1 _ _;exact h h1
theorem Oid.ab {p q:Oid} (h:¬ Oid.under p q) (c i:Nat):(q=Oid.sub c i p)=False:=by
 apply eq_false;intro e;subst e;exact h (Oid.ae (Oid.az _))
theorem Oid.aa {p q:Oid} (h:¬ Oid.under p q) (c i:Nat):(Oid.sub c i p=q)=False:=by
 apply eq_false;intro e;subst e;exact h (Oid.ae (Oid.az _))
theorem Oid.lZ {p q:Oid} (h:¬ Oid.under p q):(q=p)=False:=by
 apply eq_false;intro e;subst e;exact h (Oid.az _)
theorem Oid.l3 {p q:Oid} (h:¬ Oid.under p q):(p=q)=False:=by
 apply eq_false;intro e;subst e;exact h (Oid.az _)
theorem uP:qb .nilSl=some .nilPtr:=rfl
theorem yP (id:Oid) (sz n:Nat):qb (.sl id sz n)=gd (0 < n) (some (.aptr id sz 0 0)):=rfl
theorem yQ (P:Program) (m:Mem) (t:TypeId) (n:Int):qc P m t .nilPtr (.int .i64 n)=gdR (n=0) (.eff ⟨[],.str [],[]⟩):=rfl
def aaV (P:Program) (id:Oid) (sz i off:Nat) (n:Int) (o:Option aj) (k:Option TyK):OpR :=
 match o,k with
 | some (.arr s xs),some (.ptr e)=>gdR (sz=1∧i=0∧off=0∧s=1∧id.tyd=some e∧shp P e=some (false,1)∧0 < xs.length∧n=xs.length∧xs.length≤140737488355328∧xs.all gV=true)
   (.eff ⟨[(id,.arr s xs)],.str (xs.map byteOf),[(id,none)]⟩)
 | _,_=>.no
theorem yR (P:Program) (m:Mem) (t:TypeId) (id:Oid) (sz i off:Nat) (n:Int):qc P m t (.aptr id sz i off) (.int .i64 n)=aaV P id sz i off n (m id) (tyk P t):=by
 simp only [qc]
 generalize m id=a
 generalize tyk P t=b
 cases a with
 | none=>rfl
 | some a=>cases a<;>first|rfl|(cases b with
  | none=>rfl
  | some b=>cases b<;>rfl)
def byA (b:UInt8):AV:=.int .u8 b.toNat
theorem sx (l:List UInt8):(l.map byA).all gV=true:=by
 rw [List.all_eq_true];intro v hv
 obtain ⟨b,_,rfl⟩:=List.mem_map.1 hv
 have:=b.toNat_lt
 show decide (b.toNat < 256)=true
 simp;omega
theorem sy (l:List UInt8):(l.map byA).map byteOf=l:=by
 rw [List.map_map]
 have:byteOf ∘ byA=id:=by funext b;simp [byteOf,byA,Int.toNat_natCast]
 rw [this,List.map_id]
def Sx (P:Program) (sz:Nat) (xs:List AV) (a b:Option TyK):Option AV :=
 match a,b with
 | some (.slice el _ _ _),some .str=>gd (sz=1∧u8K (tyk P el)=true∧0 < xs.length∧xs.all gV=true) (some (.str (xs.map byteOf)))
 | _,_=>none
theorem sA (P:Program) (src dst:TypeId) (sz:Nat) (xs:List AV):lR P src dst (.list sz xs)=Sx P sz xs (tyk P src) (tyk P dst):=by
 simp only [lR]
 generalize tyk P src=a
 generalize tyk P dst=b
 cases a with
 | none=>rfl
 | some a=>cases a<;>first|rfl|(cases b with
  | none=>rfl
  | some b=>cases b<;>rfl)
def Sy (P:Program) (a b:Option TyK):Option AV :=
 match a,b with
 | some (.slice el _ _ _),some .str=>gd (u8K (tyk P el)=true) (some (.str []))
 | _,_=>none
theorem uQ (P:Program) (src dst:TypeId):lR P src dst .nilSl=Sy P (tyk P src) (tyk P dst):=by
 simp only [lR]
 generalize tyk P src=a
 generalize tyk P dst=b
 cases a with
 | none=>rfl
 | some a=>cases a<;>first|rfl|(cases b with
  | none=>rfl
  | some b=>cases b<;>rfl)
theorem sB (b:UInt8):gV (.int .u8 (b.toNat:Int))=true:=by
 have:=b.toNat_lt
 show decide (b.toNat < 256)=true
 simp;omega
theorem sC (b:UInt8):byteOf (.int .u8 (b.toNat:Int))=b:=by simp [byteOf,Int.toNat_natCast]
attribute [go_sem] sA uQ Sy Sx sB sC
attribute [go_sem] uP yP yQ yR aaV sx sy iy
def tG:Bool→Nat→Oid→Oid
 | true,t,nid=>.ty t nid
 | false,_,nid=>nid
theorem yS (P:Program) (t:TypeId) (nid:Oid):ff P t nid=tG (ah P t) t nid:=by
 unfold ff;cases ah P t<;>rfl
def tH:Bool→Option Nat→Nat→Oid→Oid
 | true,some t',t,nid=>if t' = t then .ty t nid else nid
 | _,_,_,nid=>nid
def yT (P:Program) (k:Option TyK) (nid:Oid) (s:AV):Oid :=
 match k,s with
 | some (.slice el _ _ _),.nilSl=>tG (oN (tyk P el)) el nid
 | some (.slice el _ _ _),.sl id _ _=>tH (oN (tyk P el)) id.tyd el nid
 | _,_=>nid
theorem yU (P:Program) (t:TypeId) (nid:Oid) (s:AV):kJ P t nid s=yT P (tyk P t) nid s:=by
 unfold kJ yT
 split
 ·rename_i el _ _ _ h
  try rw [h]
  show _=tG (oN (tyk P el)) el nid
  cases oN (tyk P el)<;>rfl
 ·rename_i el _ _ _ id _ _ h
  try rw [h]
  show _=tH (oN (tyk P el)) id.tyd el nid
  cases oN (tyk P el)<;>cases id.tyd<;>simp [tH]
 ·rename_i h1 h2
  first
   | rfl
   | (split
      ·rename_i h;exact (h1 _ _ _ _ h rfl).elim
      ·rename_i h;exact (h2 _ _ _ _ _ _ _ h rfl).elim
      ·rfl)
theorem yV (n:Nat):(Oid.root n).tyd=none:=rfl
theorem B9 (c i:Nat) (p:Oid):(Oid.sub c i p).tyd=none:=rfl
theorem Ti (t:Nat) (p:Oid):(Oid.ty t p).tyd=some t:=rfl
theorem Oid.dK {p q:Oid} (h:¬ Oid.under p q) (t c i:Nat):(q=Oid.ty t (Oid.sub c i p))=False:=by
 apply eq_false;intro e;subst e;exact h (.inr (Oid.ae (Oid.az _)))
theorem Oid.eQ {p q:Oid} (h:¬ Oid.under p q) (t c i:Nat):(Oid.ty t (Oid.sub c i p)=q)=False:=by
 apply eq_false;intro e;subst e;exact h (.inr (Oid.ae (Oid.az _)))
attribute [go_sem] yS tG tH yT yU yV B9 Ti oN Oid.dK Oid.eQ Oid.ty.injEq
theorem qP {α:Type} [Inhabited α] (f:α→AV) {l:List α} {i:Nat} (h:i < l.length) (d:AV):(l.map f).getD i d=f (l.getD i default):=by
 simp [List.getD_eq_getElem?_getD,List.getElem?_map,List.getElem?_eq_getElem h]
attribute [go_sem] Tf B6 sn qI qJ nu sh kY mZ lY qD qE qF qG oS oT oU oV sj sk qH
 yr yt yu yv yw yx B7 yy qK yz yA yB yC yD yE sq sv yF yG yH yI yJ yK yL
 B8 uO yO lM lN SY SZ ym B4 yn Ta yo uM qz jh jg opL prs kK nH lV cR qA tD cf bY Mem.aQ Mem.Tg Mem.aM Mem.ao Oid.Th Oid.ab Oid.aa Oid.lZ Oid.l3 Oid.qL Oid.qO Oid.sub.injEq
 qP w64 Option.isSome_some Option.isSome_none beq_self_eq_true Option.bind_some Option.bind_none Option.map_some Option.map_none Int.toNat_natCast List.length_map List.length_take List.length_drop List.length_append List.length_cons List.length_nil List.map_cons List.map_nil List.getD_cons_zero List.getD_cons_succ List.getD_nil
 List.take_succ_cons List.take_zero List.take_nil List.drop_succ_cons List.drop_zero List.drop_nil List.cons_append List.nil_append List.all_cons List.all_nil Bool.and_true Bool.true_and Bool.and_false Bool.false_and Bool.or_true Bool.true_or Bool.or_false Bool.false_or Bool.not_true Bool.not_false
 true_and and_true and_self or_true true_or or_false false_or false_and and_false eq_self List.getElem?_cons_zero List.getElem?_cons_succ List.getElem?_toArray bA bf oP fH B2 eG
theorem bt1 (b:Bool):(b == true)=b:=by cases b<;>rfl
theorem bt2 (b:Bool):(b == false) = !b:=by cases b<;>rfl
attribute [go_sem] frz mY Mem.aX
attribute [go_sem] bt1 bt2 decide_true decide_false
attribute [go_sem] decide_eq_true_eq decide_eq_false_iff_not Bool.and_eq_true Bool.or_eq_true Bool.not_eq_true' Bool.not_eq_false'
def nmd:Nat→Bool:=fun _=>false
theorem Tj (d:Nat):nmd d=false:=rfl
def mdl (l:List Nat):Nat→Bool:=fun d=>l.contains d
attribute [go_sem] Tj mdl List.contains_cons List.contains_nil
theorem Tk (k:IntKind):(k == k)=true:=by cases k<;>rfl
attribute [go_sem] Tk
theorem bK {α:Type} {l:List α} {i:Nat} (h:i < l.length) (d:α):l.getD i d=l[i]:=by
 simp [List.getD_eq_getElem?_getD,List.getElem?_eq_getElem h]
theorem Tl {x:UInt8} {n:Nat} (hn:n < 256):((x.toNat:Int)=(n:Int))↔x=UInt8.ofNat n:=by
 constructor
 ·intro h
  apply UInt8.toNat_inj.1
  rw [UInt8.toNat_ofNat',Nat.mod_eq_of_lt (by omega)];omega
 ·rintro rfl
  rw [UInt8.toNat_ofNat',Nat.mod_eq_of_lt (by omega)]
theorem drop_cons {α:Type} [Inhabited α] {l:List α} {i:Nat} (h:i < l.length):l.drop i=l.getD i default::l.drop (i+1):=by
 rw [List.drop_eq_getElem_cons h,bK h]
theorem iP {α β:Type} [Inhabited α] (f:α→β) {l:List α} {i:Nat} (h:i < l.length):(l.take (i+1)).map f=(l.take i).map f++[f (l.getD i default)]:=by
 rw [List.take_succ_eq_append_getElem h,List.map_append,bK h];rfl
theorem Tm (x:UInt8):IntKind.i64.wrap (x.toNat:Int)=x.toNat:=by
 have:=x.toNat_lt;exact w64 (by omega) (by omega)
theorem aaW (x:UInt8):IntKind.u8.wrap (x.toNat:Int)=x.toNat:=by
 have:=x.toNat_lt
 simp [IntKind.wrap,IntKind.bits,IntKind.signed];omega
attribute [go_sem] Tm aaW
theorem qQ (a b:Nat):(a:Int).tmod b=((a % b:Nat):Int):=by
 rw [Int.tmod_eq_emod_of_nonneg (by omega)];rfl
theorem yW (a b:Nat):(a:Int).tdiv b=((a / b:Nat):Int):=by
 rw [Int.tdiv_eq_ediv_of_nonneg (by omega)];rfl
theorem w8 {n:Int} (h1:0≤n) (h2:n≤255):IntKind.u8.wrap n=n:=by
 simp [IntKind.wrap,IntKind.bits,IntKind.signed];omega
end Go.Ab
namespace Go.Ab
variable {α:Type} [DecidableEq α]
def iQ (enc:α→AV):Prop:=∀ a b,dD (enc a) (enc b)=decide (a=b)
variable {enc:α→AV}
end Go.Ab
namespace Go.Ab
theorem eo {P:Program} [Laid P] {f:FuncId} {xs:List AV} {sp:Oid→Prop} {L:List (Oid × aj)} {R Rp:AV→List (Oid × Option aj)→Prop} (he:cn P f=true)
  (h:(∀ q ∈ L,Mem.of L q.1=some q.2)→b7 P f xs sp L R Rp):b7 P f xs sp L R Rp:=by
 by_cases hc:∀ q ∈ L,Mem.of L q.1=some q.2
 ·exact h hc
 ·refine ⟨he,fun x g args w m hm hn _ _ _=>absurd (fun q hq=>?_) hc⟩
  obtain ⟨o,ho⟩:=Mem.ll hq
  obtain ⟨q',h1,h2,h3⟩:=Mem.dy ho
  have h4:=hn q hq
  have h5:=hn q' h1
  rw [h2,h4,h3] at h5
  rw [ho];exact h5.symm
theorem nJ {B L L':List (Oid × aj)} {m:Mem} {upd:List (Oid × Option aj)} {sp:Oid→Prop} (hU:nB L sp upd L') (hL:∀ q ∈ L,m q.1=some q.2) (hB:∀ q ∈ B,m q.1=some q.2)
  (hd:∀ q ∈ B,(∀ q' ∈ L,¬ q'.1=q.1)∧¬ sp q.1):∀ q,q ∈ B++L'→(m.aF upd) q.1=some q.2:=by
 intro q hq
 rcases List.mem_append.1 hq with hq|hq
 ·rw [aT fun q' hq' e=>?_]
  ·exact hB q hq
  ·obtain ⟨h1,h2⟩:=hd q hq
   rcases hU.tou q' hq' with ⟨q2,h3,h4⟩|h3
   ·exact h1 q2 h3 (h4.trans e)
   ·exact h2 (e ▸ h3)
 ·exact qo hL (hU.got q hq)
theorem ga {B L:List (Oid × aj)} (hB:∀ q ∈ B,Mem.of (B++L) q.1=some q.2) (hd:∀ q ∈ L,∀ q' ∈ B,¬ q.1=q'.1) (hL:∀ q ∈ L,Mem.of L q.1=some q.2):∀ q ∈ B++L,Mem.of (B++L) q.1=some q.2:=by
 intro q hq
 rcases List.mem_append.1 hq with hq|hq
 ·exact hB q hq
 ·have:∀ (B:List (Oid × aj)),(∀ q' ∈ B,¬ q.1=q'.1)→Mem.of (B++L) q.1=Mem.of L q.1:=by
   intro B h
   induction B with
   | nil=>rfl
   | cons b B ih=>rw [List.cons_append,Mem.ao,if_neg (h b List.mem_cons_self)];exact ih fun q' hq'=>h q' (List.mem_cons_of_mem _ hq')
  rw [this B (hd q hq)];exact hL q hq
theorem nK {P:Program} [Laid P] {x:Ctx} {n:Nat} {a:Code} {Q:AX→AS→Prop} {fr:List (Nat × AV)} {m:Mem} {c:Nat} {ds:List AD} (L:List (Oid × aj)) (hm:∀ q,q ∈ L→m q.1=some q.2) (h:T P x n a ⟨fr,Mem.of L,c,ds⟩ Q):T P x n a ⟨fr,m,c,ds⟩ Q :=
 sg (Mem.of L) (fun i o hi=>by obtain ⟨q,h1,rfl,rfl⟩:=Mem.dy hi;exact hm q h1) h
theorem lr {L:List (Oid × aj)} {m:Mem} (hm:∀ q,q ∈ L→m q.1=some q.2):∀ i o,Mem.of L i=some o→m i=some o:=fun i o hi=>by
 obtain ⟨q,h1,rfl,rfl⟩:=Mem.dy hi;exact hm q h1
theorem aK (i:Oid) (x:Option aj) (l:List (Oid × aj)) (j:Oid):Mem.of (cf i x l) j=if j=i then x else Mem.of l j:=by rw [← Mem.aX];rfl
end Go.Ab
namespace Go.Ab
open Go.ChangeShapes Go.WideShapes
def kZ (a b:AV):Prop:=∀ g v,VR g a v→VR g b v
theorem kZ.refl (a:AV):kZ a a:=fun _ _ h=>h
theorem kZ.nil (sz:Nat):kZ .nilSl (.list sz []):=fun _ _ h=>by rw [h.bF];exact .listNil sz
inductive eI:List AV→List AV→Prop
 | nil:eI [] []
 | cons {a b:AV} {l m:List AV} (h:kZ a b) (t:eI l m):eI (a::l) (b::m)
theorem eI.length {l m:List AV} (h:eI l m):l.length=m.length:=by
 induction h with
 | nil=>rfl
 | cons _ _ ih=>simp [ih]
theorem eI.at {l m:List AV} (h:eI l m):∀ j,kZ (l.getD j .undef) (m.getD j .undef):=by
 induction h with
 | nil=>exact fun j=>.refl _
 | cons h _ ih =>
  intro j
  cases j with
  | zero=>exact h
  | succ j=>simpa using ih j
theorem kZ.agg {l m:List AV} (h:eI l m):kZ (.agg l) (.agg m):=fun g v hv=>by
 obtain ⟨a,rfl,h1,h2⟩:=hv.ea
 exact .agg _ _ (h1.trans h.length) fun j hj=>h.at j _ _ (h2 j (by rw [h.length];exact hj))
def Ca (a b:AV):Prop:=eI a.cells b.cells
theorem Ca.agg {l m:List AV} (h:eI l m):Ca (.agg l) (.agg m):=h
inductive kM:List AV→List AV→Prop
 | nil:kM [] []
 | cons {a b:AV} {l m:List AV} (h:Ca a b) (t:kM l m):kM (a::l) (b::m)
theorem kM.length {l m:List AV} (h:kM l m):l.length=m.length:=by
 induction h with
 | nil=>rfl
 | cons _ _ ih=>simp [ih]
theorem kM.at {l m:List AV} (h:kM l m):∀ j,Ca (l.getD j .undef) (m.getD j .undef):=by
 induction h with
 | nil=>exact fun j=>.cons (.refl _) .nil
 | cons h _ ih =>
  intro j
  cases j with
  | zero=>exact h
  | succ j=>simpa using ih j
theorem kZ.list {sz:Nat} {l m:List AV} (h:kM l m):kZ (.list sz l) (.list sz m):=fun g v hv=>by
 rcases hv.e8 with ⟨rfl,hu|⟨a,cap,hu⟩⟩|⟨b,o,cap,cs,hu,h1,h2,h3,h4⟩
 ·cases h;rw [hu];exact .listNil _
 ·cases h;rw [hu];exact .listAny _ _ _
 ·rw [hu,h.length]
  have hl:=h.length
  exact .list sz m b o cap cs (by omega) (fun i hi=>by have:=(h.at i).length;have:=h2 i (by omega);omega) (fun i j hi hj=>h3 i j (by omega) hj) fun i j hi hj=>(h.at i).at j _ _ (h4 i j (by omega) hj)
def cM (ng:Nat) (w:World):Gh :=
 ⟨fun i=>match i with | .root k=>if k < ng then some (some k) else none | .sub .. => none | .ty .. => none,
  fun b o=>match w.cell? ⟨b,o,none⟩ with|some v=>if v.oneCell' = true then some v else none|none=>none,fun b=>match w.heap[b]? with|some (.cells c _ _)=>some c.size|_=>none⟩
theorem ke {ng:Nat} {w:World} {b o:Nat} {v:Value} (h:w.cell? ⟨b,o,none⟩=some v) (hv:v.oneCell' = true):(cM ng w).com b o=some v:=by
 simp only [cM,h,hv,if_true]
theorem l4 {ng:Nat} {w:World} {b o:Nat} {v:Value} (h:(cM ng w).com b o=some v):w.cell? ⟨b,o,none⟩=some v∧v.oneCell' = true:=by
 simp only [cM] at h
 split at h
 ·rename_i u hu
  split at h
  ·rename_i h1;cases h;exact ⟨hu,h1⟩
  ·cases h
 ·cases h
theorem sD (ng:Nat) (w:World):ax ⟨ng,cM ng w,w,fun _=>False,.root ng,none⟩ (cM ng w) Mem.emp w where
 le:=Gh.le_refl _
 locs _ _:=rfl
 glob k hk:=by simp [cM,hk]
 coms _ _ _ h:=.inl h
 obj0 _ _ h:=by cases h
 inj _ _ _ _ _ h:=by cases h
 com _ _ _ h:=(l4 h).1
 one _ _ _ h:=(l4 h).2
 rows b r h:=by
  simp only [cM] at h
  split at h
  ·rename_i c t fz hc;simp only [Option.some.injEq] at h;exact ⟨c,t,fz,hc,h⟩
  ·cases h
 os:=rfl
 tape:=rfl
 output:=⟨rfl,fun _=>Nat.le_refl _⟩
 size:=Nat.le_refl _
 kept _ _ _:=rfl
 typs _ _ _ h:=by cases h
structure Rd (P:Program) (t:TypeId) {α:Type} (A:α→AV) (V:α→Prop):Prop where
 len:∀ a,(A a).cells.length=P.cellsOf t
 rd:∀ {H:Type} {enc:TypeId × Value→H} {w:World} {ng base fuel:Nat} {spare:Nat→Bool} {held:Bool} {cs:List Value} {x:DataW H × List MemPlace},DataW.trod enc P w base spare held fuel t cs=some x →
  (∀ n ∈ x.1.weights P t,n≤reachBytes)→∃ a:α,V a∧cs.length=P.cellsOf t∧∀ j,j < cs.length→(cs.getD j undef).oneCell' = true∧VR (cM ng w) ((A a).cells.getD j .undef) (cs.getD j undef)
section
variable {P:Program} [Laid P] {t:TypeId} {α β:Type} {A:α→AV} {V:α→Prop}
theorem Rd.map {B:β→AV} {W:β→Prop} (h:Rd P t A V) (f:α→β) (hA:∀ a,V a→A a=B (f a)) (hl:∀ b,(B b).cells.length=P.cellsOf t) (hV:∀ a,V a→W (f a)):Rd P t B W :=
 ⟨hl,fun {H enc w ng base fuel spare held cs x} h1 h2=>by
  obtain ⟨a,k1,k2,k3⟩:=h.rd (ng:=ng) h1 h2
  exact ⟨f a,hV a k1,k2,by rw [← hA a k1];exact k3⟩⟩
theorem Tn {a:AV} {v:Value} {g:Gh} (hc:a.cells=[a]) (hv:VR g a v) (h1:v.oneCell' = true):∀ j,j < [v].length→(([v]:List Value).getD j undef).oneCell' = true∧VR g (a.cells.getD j .undef) (([v]:List Value).getD j undef):=by
 intro j hj
 obtain rfl:j=0:=by simp at hj;exact hj
 rw [hc];exact ⟨h1,hv⟩
theorem rd_str (ht:P.underlying t=some .string) (hc:P.cellsOf t=1):Rd P t AV.str (fun s=>s.length≤reachBytes) :=
 ⟨fun _=>hc.symm,fun h hw=>by
  obtain ⟨s,rfl,rfl,_⟩:=DataW.trod_string ht h
  exact ⟨s.data.toList,hw _ (by simp [DataW.weights]),hc.symm,Tn rfl (.str _ _ rfl) rfl⟩⟩
end
structure RdF (P:Program) (fs:List Field) (off tot:Nat) {β:Type} (B:β→List AV) (W:β→Prop):Prop where
 len:∀ b,(B b).length=tot
 rd:∀ {H:Type} {enc:TypeId × Value→H} {w:World} {ng base fuel:Nat} {spare:Nat→Bool} {held:Bool} {cs:List Value} {xs:List (DataW H × List MemPlace)},xs.length=fs.length →
  (∀ (i:Nat) (f:Field),fs[i]? = some f→DataW.trod enc P w base spare held fuel f.type ((cs.drop f.offset).take (P.cellsOf f.type))=xs[i]?)→(∀ n ∈ DataW.weightsEach P (fs.map (·.type)) (xs.map (·.1)),n≤reachBytes)→cs.length=off+tot →
  ∃ b:β,W b∧∀ j,j < tot→(cs.getD (off+j) undef).oneCell' = true∧VR (cM ng w) ((B b).getD j .undef) (cs.getD (off+j) undef)
section
variable {P:Program} [Laid P] {t:TypeId} {α β:Type} {A:α→AV} {V:α→Prop}
theorem Rd.Cb (h:Rd P t A V) (hc:P.cellsOf t=1) {H:Type} {enc:TypeId × Value→H} {w:World} {ng base:Nat} {spare:Nat→Bool} {held:Bool} {v:Value} {d:DataW H} {ps:List MemPlace} (hone:v.oneCell' = true)
  (hA:∀ a,V a→(A a).cells=[A a]) (hd:DataW.Trod enc P w base spare held t v d ps) (hw:∀ n ∈ d.weights P t,n≤reachBytes):∃ a,V a∧VR (cM ng w) (A a) v:=by
 obtain ⟨fuel,hd⟩:=hd
 obtain ⟨a,k1,k2,k3⟩:=h.rd (ng:=ng) hd hw
 refine ⟨a,k1,?_⟩
 have e:v.cells.toList=[v]:=by cases v<;>first|rfl|(simp [Value.oneCell'] at hone)
 rw [e] at k3
 have:=(k3 0 (by simp)).2
 rwa [hA a k1] at this
theorem iR {H:Type} {enc:TypeId × Value→H} {w w':World} {base:Nat} {spare':Nat→Bool} (hl:laidOutB P=true) (hz:∀ t e,t < P.types.size→P.underlying t=some (.slice e)→0 < P.cellsOf e) :
  ∀ {ts:List TypeId} {vs:List Value} {ds:List (DataW H)} {ps:List MemPlace},(∀ t ∈ ts,P.readableRec t=true∧t < P.types.size)→DataW.TrodAll enc P w base (fun _=>true) true ts vs ds ps→(∀ p ∈ ps,w.sameAt w' p)→(∀ p ∈ ps,spare' p.block=true) →
   DataW.TrodAll enc P w' base spare' true ts vs ds ps
 | [],[],[],_,_,h,_,_=>h
 | t::ts,v::vs,d::ds,ps,hr,⟨p,q,h1,h2,e⟩,hs,hsp=>by
  have ht:=hr t List.mem_cons_self
  refine ⟨p,q,?_,iR hl hz (fun t ht=>hr t (List.mem_cons_of_mem _ ht)) h2 (fun x hx=>hs x (by rw [e];exact List.mem_append_right _ hx)) (fun x hx=>hsp x (by rw [e];exact List.mem_append_right _ hx)),e⟩
  have h3:DataW.Trod enc P w base spare' true t v d p:=h1.respare (kids_book hl ht.1) (fun u e' hu=>hz u e' hu.1) ⟨ht.2,book_self t⟩ fun x hx=>hsp x (by rw [e];exact List.mem_append_left _ hx)
  obtain ⟨n,hn⟩:=h3
  exact ⟨n,DataW.trod_carry n _ _ _ hn fun x hx=>hs x (by rw [e];exact List.mem_append_left _ hx)⟩
theorem yX {H:Type} {enc:TypeId × Value→H} {f:FuncId} {fn:Func} {s:ChangeSpec} {tb:TypeId} (hl:laidOutB P=true) (hz:∀ t e,t < P.types.size→P.underlying t=some (.slice e)→0 < P.cellsOf e) (hr:∀ t ∈ fn.params.toList,P.readableRec t=true∧t < P.types.size)
  (hrt:fn.resultTypes=#[tb]) (htb:P.underlying tb=some .bool) (hv:s.vars=[]) {W:World} {args:Array Value} {ds gs:List (DataW H)} {before:List MemPlace} (hW:DataW.Whole enc P fn.params.toList s.vars false W args.toList ds gs before)
  (hfn:s.fn H ds={ results:=[.lit (.bool true)],args:=ds }) {avs:List AV} (ha:VRs (cM P.globals.size W) avs args) (hcall:aq P f avs (Oid.under (.root P.globals.size)) ⟨[],.bool true,[]⟩) (hLaid:Laid.facts P (cM P.globals.size W)) :
  Calls P f args W fun e W'=>∃ v,e = .returned v∧s.post enc P fn false true false false W args v W':=by
 refine (hcall.calls ⟨P.globals.size,cM P.globals.size W,W,fun _=>False,.root P.globals.size,none⟩ _ args W Mem.emp (sD _ _) (fun q hq=>by cases hq) ha (fun i hi=>⟨?_,hi⟩) ⟨Nat.le_refl _,hLaid⟩).mono ?_
 ·cases i with
  | root k =>
   simp only [Oid.under,Oid.root.injEq] at hi
   subst hi
   simp [cM]
  | sub=>rfl
  | ty=>rfl
 rintro en W' ⟨g',v,rfl,hle,hloc,hvr,hm⟩
 obtain rfl:=hvr.bN
 refine ⟨_,rfl,?_⟩
 have hW0:=hW
 obtain ⟨p,q,hA,hV,rfl,hfz,hnd⟩:=hW
 rw [hv] at hV
 obtain ⟨rfl,rfl⟩:=trodVars_none hV
 rw [List.append_nil] at hW0 hfz
 have hsame:∀ p' ∈ p,W.sameAt W' p':=fun p' hp'=>by
  have hlt:=hW0.lt p' hp'
  have hh:=hm.kept p'.block hlt (fun h=>h)
  cases p' with
  | cell b o=>simp only [World.sameAt,World.cell?];simp only [MemPlace.block] at hh;rw [hh]
  | map b=>exact hh
 have hargs:∀ sp:Nat→Bool,(∀ p' ∈ p,sp p'.block=true)→DataW.TrodAll enc P W' 0 sp true fn.params.toList args.toList ds p:=fun sp hsp=>iR hl hz hr hA hsame hsp
 have hres:∀ (b:Nat) (sp:Nat→Bool) (hd:Bool),DataW.TrodAll enc P W' b sp hd fn.resultTypes.toList ((Value.bool true).resultList fn.resultTypes.size) [.lit (.bool true)] []:=by
  intro b sp hd
  rw [hrt]
  exact ⟨[],[],RowKit.shut_bool htb _,rfl,rfl⟩
 have hold:∀ p' ∈ p,(fun b=>decide (b < W.heap.size)) p'.block=true:=fun p' hp'=>by simpa using hW0.lt p' hp'
 refine ⟨ds,[],p,[],p,[],hW0,by rw [List.append_nil,hfn];exact hres _ _ _,by rw [List.append_nil,hfn];exact hargs _ hold,by rw [hv,List.append_nil,hfn];exact rfl,?_,fun h=>by cases h⟩
 exact World.keptBut_mono (fun p' hp'=>hp'.elim) (may:=fun _=>False) ⟨hm.os,hm.output.1,fun i hi=>by
  have hk:W'.heap[i]? = W.heap[i]? := hm.kept i hi (fun h=>h)
  rw [hk]
  exact (World.keptBut_refl W (fun _=>False)).2.2 i hi⟩
structure RdA (P:Program) (ts:List TypeId) {β:Type} (B:β→List AV) (W:β→Prop):Prop where
 rd:∀ {H:Type} {enc:TypeId × Value→H} {w:World} {ng base b0:Nat} {r:Reach} {vs:List Value} {ds:List (DataW H)} {ps:List MemPlace},(∀ (j:Nat) t v,ts[j]? = some t→vs[j]? = some v→Value.okWide P w r base t v) →
  DataW.TrodAll enc P w b0 (fun _=>true) true ts vs ds ps→(∀ n ∈ DataW.weightsEach P ts ds,n≤reachBytes)→∃ b,W b∧vs.length=(B b).length∧∀ j,j < vs.length→VR (cM ng w) ((B b).getD j .undef) (vs.getD j undef)
theorem sE {w:World} {r:Reach} {base:Nat} {v:Value} (ht:P.underlying t=some .string) (h:Value.okWide P w r base t v):v.oneCell' = true:=by
 simp only [Value.okWide,ht,Cell.okWide,Cell.ok] at h
 cases v<;>first|rfl|exact h.elim
theorem rdA_nil:RdA P [] (fun _:Unit=>[]) (fun _=>True):=⟨fun {H enc w ng base b0 r vs ds ps} _ h _=>by
 obtain ⟨rfl,rfl,rfl⟩:=trodAll_nil h
 exact ⟨(),trivial,rfl,fun j hj=>absurd hj (Nat.not_lt_zero _)⟩⟩
theorem yY {ts:List TypeId} {B:β→List AV} {W:β→Prop} (k:∀ {H:Type} {enc:TypeId × Value→H} {w:World} {ng base b0:Nat} {r:Reach} {v:Value} {d:DataW H} {ps:List MemPlace},Value.okWide P w r base t v →
  DataW.Trod enc P w b0 (fun _=>true) true t v d ps→(∀ n ∈ d.weights P t,n≤reachBytes)→∃ a,V a∧VR (cM ng w) (A a) v) (hB:RdA P ts B W):RdA P (t::ts) (fun p:α × β=>A p.1::B p.2) (fun p=>V p.1∧W p.2) :=
 ⟨fun {H enc w ng base b0 r vs ds ps} hok h hw=>by
  obtain ⟨v,vs',d,ds',p,q,rfl,rfl,rfl,h1,h2⟩:=trodAll_cons h
  simp only [DataW.weightsEach,List.mem_append] at hw
  obtain ⟨a,k1,k2⟩:=k (ng:=ng) (hok 0 t v rfl rfl) h1 fun n hn=>hw n (.inl hn)
  obtain ⟨b,k3,k4,k5⟩:=hB.rd (ng:=ng) (fun j t v ht hv=>hok (j+1) t v ht hv) h2 fun n hn=>hw n (.inr hn)
  refine ⟨(a,b),⟨k1,k3⟩,by simp [k4],fun j hj=>?_⟩
  cases j with
  | zero=>exact k2
  | succ j=>simpa using k5 j (by simpa using hj)⟩
theorem rdA_str {ts:List TypeId} {B:β→List AV} {W:β→Prop} (ht:P.underlying t=some .string) (hc:P.cellsOf t=1) (hA1:∀ a,(A a).cells=[A a]) (hA:Rd P t A V) (hB:RdA P ts B W):RdA P (t::ts) (fun p:α × β=>A p.1::B p.2) (fun p=>V p.1∧W p.2) :=
 yY (fun hok hd hw=>hA.Cb hc (sE ht hok) (fun a _=>hA1 a) hd hw) hB
theorem gY {H:Type} {enc:TypeId × Value→H} {w:World} {base:Nat} {sp:Nat→Bool} {held:Bool}:∀ {ts:List TypeId} {vs:List Value} {ds:List (DataW H)} {ps:List MemPlace},DataW.TrodAll enc P w base sp held ts vs ds ps→ds.length=ts.length
 | [],[],[],_,_=>rfl
 | _::_,_::_,_::_,_,⟨_,_,_,h,_⟩=>by simp [gY h]
end
end Go.Ab
namespace Go.Ab
attribute [go_sem] Nat.reduceEqDiff Nat.reduceAdd Nat.reduceMul Nat.reduceLT Nat.reduceLeDiff reduceCtorEq Nat.reduceBEq Int.reduceToNat Int.reduceNeg
attribute [go_sem ↓] reduceIte
theorem zb1 {p:Prop} [Decidable p]:(decide p=true)=p:=decide_eq_true_eq
theorem zb2 {p:Prop} [Decidable p]:(decide p=false)=¬ p:=propext decide_eq_false_iff_not
theorem zb3 (b:Bool):((!b)=true)=(b=false):=Bool.not_eq_true' b
theorem zb4 (b:Bool):((!b)=false)=(b=true):=Bool.not_eq_false' b
theorem zb5 (a b:Bool):((a && b)=true)=(a=true∧b=true):=Bool.and_eq_true a b
inductive Ps where
 | at (c:Code)
 | nrm
 | ex (i:Nat)
@[irreducible] def yZ (P:Prop):Prop:=P
theorem zl {p:Prop} (h:p):yZ p:=by unfold yZ;exact h
theorem Cc {p:Prop} (h:yZ p):p:=by unfold yZ at h;exact h
inductive Stp (P:Program) (x:Ctx) (n:Nat) (Q:AX→AS→Prop):Bool→Bool→Ps→List Pc→AS→Prop
 | seq {u v} {a b:Code} {ks s}:Stp P x n Q u true (.at a) (.code b::ks) s→Stp P x n Q u v (.at (.seq a b)) ks s
 | skip {u v ks s}:Stp P x n Q u true .nrm ks s→Stp P x n Q u v (.at .skip) ks s
 | block {v i a ks s}:Stp P x n Q true true (.at a) (.bend i::ks) s→Stp P x n Q true v (.at (.block i a)) ks s
 | exit {u v i ks s}:Stp P x n Q u true (.ex i) ks s→Stp P x n Q u v (.at (.exit i)) ks s
 | next {u v a ks s}:Stp P x n Q u true (.at a) ks s→Stp P x n Q u v .nrm (.code a::ks) s
 | bend {u v i ks s}:Stp P x n Q u true .nrm ks s→Stp P x n Q u v .nrm (.bend i::ks) s
 | lend {u v ts I k ks fr m c ds}:yZ (∃ k' m',k' < k∧(∀ i o,m' i=some o→m i=some o)∧I k' ⟨cb ts fr,m',c,ds⟩)→Stp P x n Q u v .nrm (.lend ts I k::ks) ⟨fr,m,c,ds⟩
 | xcode {u v a i ks s}:Stp P x n Q u true (.ex i) ks s→Stp P x n Q u v (.ex i) (.code a::ks) s
 | xlend {u v ts I k i ks s}:Stp P x n Q u true (.ex i) ks s→Stp P x n Q u v (.ex i) (.lend ts I k::ks) s
 | xhere {u v i ks s}:Stp P x n Q u true .nrm ks s→Stp P x n Q u v (.ex i) (.bend i::ks) s
 | xon {u v i j ks s}:Nat.beq i j=false→Stp P x n Q u true (.ex i) ks s→Stp P x n Q u v (.ex i) (.bend j::ks) s
 | ofT {u c ks s}:T P x n c s (after P x n Q ks)→Stp P x n Q u true (.at c) ks s
 | ofN {u ks s}:after P x n Q ks .normal s→Stp P x n Q u true .nrm ks s
 | ofX {u i ks s}:after P x n Q ks (.exit i) s→Stp P x n Q u true (.ex i) ks s
def acE (P:Program) (x:Ctx) (n:Nat) (Q:AX→AS→Prop):Ps→List Pc→AS→Prop
 | .at c,ks,s=>T P x n c s (after P x n Q ks)
 | .nrm,ks,s=>after P x n Q ks .normal s
 | .ex i,ks,s=>after P x n Q ks (.exit i) s
theorem Stp.ok {P:Program} [Laid P] {x:Ctx} {n:Nat} {Q:AX→AS→Prop} {p:Ps} {ks:List Pc} {s:AS} {u v:Bool} (h:Stp P x n Q u v p ks s):acE P x n Q p ks s:=by
 induction h with
 | seq _ ih=>exact lX ih
 | skip _ ih=>exact Tc ih
 | block _ ih=>exact iB ih
 | exit _ ih=>exact Td ih
 | next _ ih=>exact ih
 | bend _ ih=>exact ih
 | lend h=>exact Cc h
 | xcode _ ih=>exact ih
 | xlend _ ih=>exact ih
 | xhere _ ih=>exact Tb ih
 | xon hb _ ih=>exact acC hb ih
 | ofT h=>exact h
 | ofN h=>exact h
 | ofX h=>exact h
section
variable {P:Program} [Laid P] {x:Ctx} {n:Nat} {Q:AX→AS→Prop} {ks:List Pc} {s:AS}
theorem zk {c:Code} (h:Stp P x n Q true false (.at c) ks s):T P x n c s (after P x n Q ks):=h.ok
theorem zn (h:Stp P x n Q true false .nrm ks s):after P x n Q ks .normal s:=h.ok
theorem ze {i:Nat} (h:Stp P x n Q true false (.ex i) ks s):after P x n Q ks (.exit i) s:=h.ok
theorem zu {c:Code} (h:Stp P x n Q false false (.at c) ks s):T P x n c s (after P x n Q ks):=h.ok
theorem zv (h:Stp P x n Q false false .nrm ks s):after P x n Q ks .normal s:=h.ok
theorem zw {i:Nat} (h:Stp P x n Q false false (.ex i) ks s):after P x n Q ks (.exit i) s:=h.ok
end
end Go.Ab
namespace Go.Ab
structure gr (q:Prop):Prop where
 out:q
theorem ai {a b:Prop} (h:a) (k:b):a∧b:=⟨h,k⟩
structure CC (a b:Prop):Prop where
 a:a
 b:b
theorem cq {a b:Prop} (h:a) (k:b):CC a b:=⟨h,k⟩
structure HD (U gl:List (Nat × Nat)) (ts:List Nat):Prop where
theorem HD.o:HD [] [] []:=⟨⟩
theorem HD.d (U gl:List (Nat × Nat)) (ts:List Nat):HD U gl ts:=⟨⟩
theorem uu {p q:Oid} (h:¬ Oid.under p q):(∀ c i,(q=Oid.sub c i p)=False)∧∀ c i,(Oid.sub c i p=q)=False:=⟨Oid.ab h,Oid.aa h⟩
section
variable {P:Program} [Laid P] {x:Ctx} {n:Nat} {Q:AX→AS→Prop} {ks:List Pc} {s:AS} {fr:List (Nat × AV)} {m:Mem} {c:Nat} {ds:List AD} {id:Nat} {ops:Array Oper}
theorem sF {U gl:List (Nat × Nat)} {ts:List Nat} (_:HD U gl ts) (hmx:P.follows .mixedOrders=true) (hng:Fit P x) (hok:(yi n P.globals.size ops U && mX ops gl)=true):type_of% (cD (P:=P) (x:=x) (n:=n) (Q:=Q) (ks:=ks) (fr:=fr) (m:=m) (c:=c) (ds:=ds) (id:=id) (ops:=ops) nmd gl U hmx hng hok ts):=cD nmd gl U hmx hng hok ts
theorem y0 {U gl:List (Nat × Nat)} {ts:List Nat} (_:HD U gl ts) (hng:Fit P x) (hok:(Sv n P.globals.size ops && mX ops gl)=true):type_of% (ay (P:=P) (x:=x) (n:=n) (Q:=Q) (ks:=ks) (fr:=fr) (m:=m) (c:=c) (ds:=ds) (id:=id) (ops:=ops) nmd gl hng hok):=ay nmd gl hng hok
end
theorem qs {p e:Prop} (e1:e) (h:e→p:=by intro e;simp (disch:=first|omega|assumption) only [go_sem,eq_self,decide_true,decide_false,ne_eq,not_true_eq_false,not_false_eq_true,e];first|done|fail):p:=h e1
theorem qs0 {p:Prop} (h:p:=by simp (disch:=first|omega|assumption) only [go_sem,eq_self,decide_true,decide_false,ne_eq,not_true_eq_false,not_false_eq_true];first|done|fail):p:=h
theorem qt {p q e:Prop} (e1:e) (k:q) (h:e→gr q→p:=by intro e k;simp (disch:=first|omega|assumption) only [go_sem,eq_self,decide_true,decide_false,ne_eq,not_true_eq_false,not_false_eq_true,e];exact k.out):p:=h e1 ⟨k⟩
theorem qt0 {p q:Prop} (k:q) (h:gr q→p:=by intro k;simp (disch:=first|omega|assumption) only [go_sem,eq_self,decide_true,decide_false,ne_eq,not_true_eq_false,not_false_eq_true];exact k.out):p:=h ⟨k⟩
theorem qv {p q:Prop} (k:q) (h:gr q→p:=by intro k;(first|refine zn ?_|refine ze ?_|refine zk ?_);with_reducible (constructor;repeat constructor);(try refine zl ?_);exact k.out):p:=h ⟨k⟩
theorem qn {p e:Prop} (e1:e) (h:e→p:=by intro e;first|(intro _ h;cases h;done)|exact qs e|exact nbu _|(refine nbA ?_ _;simp [hpN,hO.mem];done)|(simp only [List.mem_cons,forall_eq_or_imp];refine ⟨qs e,?_⟩;first|exact nbu _|(refine nbA ?_ _;simp [hpN,hO.mem];done))):p:=h e1
theorem qm {p c:Prop} (c1:c) (h:c→p:=by intro c;first|exact c|exact c (ar rfl hp)|exact c _ (ar rfl hp) (fun h=>hpp (Oid.ae h)) (hO.sub _ _)|exact c _ (ar rfl hp) (hO.sub _ _)):p:=h c1
theorem qr {p q e c:Prop} {U gl:List (Nat × Nat)} {ts:List Nat} (g:HD U gl ts) (e1:e) (c1:c) (k:q) (h:HD U gl ts→e→c→gr q→p:=by
  intro g e c k;(try refine qv ?_)
  refine y0 g hng (by kernel_rfl) fun hf C S K hC1 hC hS hK=>?_;refine qt e ?_
  repeat (obtain ⟨c1,c⟩:CC _ _:=c;refine hC1 _ (qm c1) (qn e) ?_;refine qt e ?_)
  refine hK ?_;clear hK hS hC hC1 K S C hf;(try refine qv ?_)
  exact k.out):p:=h g e1 c1 ⟨k⟩
theorem qd {p q e c:Prop} {U gl:List (Nat × Nat)} {ts:List Nat} (g:HD U gl ts) (e1:e) (c1:c) (k:q) (h:HD U gl ts→e→c→gr q→p:=by
  intro g e c k;(try refine qv ?_)
  refine sF g mixed hng (by kernel_rfl) fun hf C S K hC hS hK=>?_;refine qt e ?_
  repeat (obtain ⟨c1,c⟩:CC _ _:=c;refine hC _ (qm c1) (qn e) ?_;refine qt e ?_)
  (first|refine hK (aJ rfl) ?_|refine hK (by simp (disch:=first|omega|assumption) only [go_sem,List.reverse_cons,List.reverse_nil,ne_eq,not_false_eq_true,implies_true]) ?_);clear hK hS hC K S C hf;(try refine qv ?_)
  exact k.out):p:=h g e1 c1 ⟨k⟩
theorem qw {p q e:Prop} (e1:e) (k:q) (h:e→gr q→p:=by
  intro e k
  repeat (first|refine aB rfl rfl ?_|refine aC rfl rfl ?_|(refine ay nmd [] hng (by kernel_rfl) fun hf C S K hC1 hC hS hK=>?_;refine qt e ?_;refine hK ?_;clear hK hS hC hC1 K S C hf)|refine qv ?_)
  exact k.out):p:=h e1 ⟨k⟩
theorem qw0 {p q:Prop} (k:q) (h:gr q→p:=by
  intro k
  repeat (first|refine aB rfl rfl ?_|refine aC rfl rfl ?_|(refine ay nmd [] hng (by kernel_rfl) fun hf C S K hC1 hC hS hK=>?_;refine qt0 ?_;refine hK ?_;clear hK hS hC hC1 K S C hf)|refine qv ?_)
  exact k.out):p:=h ⟨k⟩
theorem qr0 {p q:Prop} (k:q) (h:gr q→p:=by intro k;refine qr .o trivial trivial ?_;exact k.out):p:=h ⟨k⟩
theorem qr1 {p q c:Prop} (c1:c) (k:q) (h:c→gr q→p:=by intro c k;refine qr .o trivial (cq c trivial) ?_;exact k.out):p:=h c1 ⟨k⟩
end Go.Ab
namespace Go.Ab
open Go.RowKit
theorem qR {p q:Oid} (h:Oid.under p q) (hq:q.mono=false):p.mono=false:=by
 cases hp:p.mono with
 | false=>rfl
 | true=>rw [Oid.lz h hp] at hq;cases hq
theorem ax.below {x:Ctx} {g:Gh} {m:Mem} {w w':World} (h:ax x g m w) (hb:Below w.heap.size w w') (hp:x.p.mono=false):ax x g m w' where
 le:=h.le
 locs:=h.locs
 glob:=h.glob
 coms:=h.coms
 obj0 i o hi:=(h.obj0 i o hi).imp id fun ⟨b,h1,h2,h3,h4⟩=>⟨b,h1,h2,h3,ck.block (hb.block b h4.lt) h4⟩
 inj:=h.inj
 com b o v hv:=by
  have h1:=h.com b o v hv
  have hlt:b < w.heap.size:=by
   rcases Nat.lt_or_ge b w.heap.size with h2|h2
   ·exact h2
   ·simp [World.cell?,Array.getElem?_eq_none h2] at h1
  simp only [World.cell?] at h1 ⊢
  rw [hb.block b hlt];exact h1
 one:=h.one
 rows b r hr:=by
  obtain ⟨c,t,fz,h1,h2⟩:=h.rows b r hr
  exact ⟨c,t,fz,by rw [hb.block b (Array.getElem?_eq_some_iff.1 h1).1];exact h1,h2⟩
 os:=hb.os.trans h.os
 tape:=hb.tape.trans h.tape
 output:=⟨hb.output.trans h.output.1,fun hm=>by rw [hp] at hm;cases hm⟩
 size:=Nat.le_trans h.size hb.size
 kept b hlt hm:=(hb.block b (Nat.lt_of_lt_of_le hlt h.size)).trans (h.kept b hlt hm)
 typs t q b hl:=(h.typs t q b hl).imp fun c ⟨fz,h1⟩=>⟨fz,by rw [hb.block b (Array.getElem?_eq_some_iff.1 h1).1];exact h1⟩
structure kf (P:Program) [Laid P] (g:Gh) (w:World):Prop where
 com:∀ b o v,g.com b o=some v→w.cell? ⟨b,o,none⟩=some v
 rows:∀ b r,g.row b=some r→∃ c t fz,w.heap[b]? = some (.cells c t fz)∧c.size=r
 glob:∀ k,k < P.globals.size→g.loc (.root k)=some (some k)
 facts:Laid.facts P g
theorem ax.told {P:Program} [Laid P] {x:Ctx} {g:Gh} {m:Mem} {w:World} (h:ax x g m w) (hx:Fit P x):kf P g w :=
 ⟨h.com,h.rows,fun k hk=>h.glob k (Nat.lt_of_lt_of_le hk hx.1),Laid.mono h.le hx.2⟩
theorem jK {P:Program} [Laid P] {f:FuncId} {xs:List AV} {p:Oid} {val:AV} (he:cn P f=true) (hp:p.mono=false)
  (h:∀ (g:Gh) (args:Array Value) (w:World),VRs g xs args→kf P g w→Calls P f args w fun en w'=>∃ v,en = .returned v∧VR g val v∧Below w.heap.size w w'):aq P f xs (Oid.under p) ⟨[],val,[]⟩ :=
 ⟨he,fun x g args w m hm _ ha hs hx=>(h g args w ha (hm.told hx)).mono fun _ _ ⟨v,h1,h2,h3⟩=>⟨g,v,h1,Gh.le_refl g,fun _ _=>rfl,h2,hm.below h3 (qR (hs p (Oid.az p)).2 hp)⟩⟩
theorem er {P:Program} [Laid P] {f:FuncId} {xs:List AV} {sp:Oid→Prop} {val:AV} (he:cn P f=true)
  (h:∀ (g:Gh) (args:Array Value) (w:World),VRs g xs args→kf P g w→Calls P f args w fun en w'=>∃ v,en = .returned v∧VR g val v∧w' = w):aq P f xs sp ⟨[],val,[]⟩ :=
 ⟨he,fun x g args w m hm _ ha hs hx=>(h g args w ha (hm.told hx)).mono fun _ _ ⟨v,h1,h2,h3⟩=>⟨g,v,h1,Gh.le_refl g,fun _ _=>rfl,h2,by rw [h3];exact hm⟩⟩
theorem VRs.one {g:Gh} {x:AV} {args:Array Value} (h:VRs g [x] args):∃ v,args=#[v]∧VR g x v:=by
 obtain ⟨h1,h2⟩:=h
 refine ⟨args.getD 0 undef,?_,h2 0 (by simp)⟩
 apply Array.ext
 ·rw [h1];rfl
 ·intro i hi hj
  obtain rfl:i=0:=by simp at h1;omega
  simp [Array.getD_eq_getD_getElem?,Array.getElem?_eq_getElem hi]
theorem VRs.two {g:Gh} {x y:AV} {args:Array Value} (h:VRs g [x,y] args):∃ v u,args=#[v,u]∧VR g x v∧VR g y u:=by
 obtain ⟨h1,h2⟩:=h
 refine ⟨args.getD 0 undef,args.getD 1 undef,?_,h2 0 (by simp),h2 1 (by simp)⟩
 apply Array.ext
 ·rw [h1];rfl
 ·intro i hi hj
  have:i < 2:=by simpa using hj
  rcases i with _|_|i
  ·simp [Array.getD_eq_getD_getElem?,Array.getElem?_eq_getElem hi]
  ·simp [Array.getD_eq_getD_getElem?,Array.getElem?_eq_getElem hi]
  ·omega
end Go.Ab
namespace Go.Proofs.YtngffmnomciogaaGreatDoor
open Go Go.Ab
theorem aaX:tyk Tryz.prog 0=some TyK.other:=by kernel_rfl
theorem aaY:shp Tryz.prog 0=some (false,1):=by kernel_rfl
theorem aaZ:zer Tryz.prog 0=some [(AV.tuple [])]:=by kernel_rfl
theorem aa0:ah Tryz.prog 0=false:=by kernel_rfl
theorem aa1:tyk Tryz.prog 1=some TyK.func:=by kernel_rfl
theorem aa2:shp Tryz.prog 1=some (false,1):=by kernel_rfl
theorem aa3:zer Tryz.prog 1=some [AV.nilFn]:=by kernel_rfl
theorem aa4:ah Tryz.prog 1=false:=by kernel_rfl
theorem aa5:tyk Tryz.prog 2=some (TyK.int .i64):=by kernel_rfl
theorem aa6:shp Tryz.prog 2=some (false,1):=by kernel_rfl
theorem aa7:zer Tryz.prog 2=some [(AV.int .i64 0)]:=by kernel_rfl
theorem aa8:ah Tryz.prog 2=false:=by kernel_rfl
theorem aa9:aU Tryz.prog 10 2=some [(TyS.si .i64)]:=by kernel_rfl
theorem aba:Tryz.prog.eqGuardType Tryz.prog.depth 2=false:=by kernel_rfl
theorem abb:tyk Tryz.prog 3=some (TyK.int .i64):=by kernel_rfl
theorem abc:shp Tryz.prog 3=some (false,1):=by kernel_rfl
theorem abd:zer Tryz.prog 3=some [(AV.int .i64 0)]:=by kernel_rfl
theorem abe:ah Tryz.prog 3=false:=by kernel_rfl
theorem abf:aU Tryz.prog 10 3=some [(TyS.si .i64)]:=by kernel_rfl
theorem abg:Tryz.prog.eqGuardType Tryz.prog.depth 3=false:=by kernel_rfl
theorem abh:tyk Tryz.prog 4=some TyK.bool:=by kernel_rfl
theorem abi:shp Tryz.prog 4=some (false,1):=by kernel_rfl
theorem abj:zer Tryz.prog 4=some [(AV.bool false)]:=by kernel_rfl
theorem abk:ah Tryz.prog 4=false:=by kernel_rfl
theorem abl:aU Tryz.prog 10 4=some [TyS.sb]:=by kernel_rfl
theorem abm:Tryz.prog.eqGuardType Tryz.prog.depth 4=false:=by kernel_rfl
theorem abn:tyk Tryz.prog 5=some (TyK.int .u8):=by kernel_rfl
theorem abo:shp Tryz.prog 5=some (false,1):=by kernel_rfl
theorem abp:zer Tryz.prog 5=some [(AV.int .u8 0)]:=by kernel_rfl
theorem abq:ah Tryz.prog 5=false:=by kernel_rfl
theorem abr:aU Tryz.prog 10 5=some [(TyS.si .u8)]:=by kernel_rfl
theorem abt:Tryz.prog.eqGuardType Tryz.prog.depth 5=false:=by kernel_rfl
theorem abu:tyk Tryz.prog 6=some (TyK.int .u8):=by kernel_rfl
theorem abv:shp Tryz.prog 6=some (false,1):=by kernel_rfl
theorem abw:zer Tryz.prog 6=some [(AV.int .u8 0)]:=by kernel_rfl
theorem abx:ah Tryz.prog 6=false:=by kernel_rfl
theorem aby:aU Tryz.prog 10 6=some [(TyS.si .u8)]:=by kernel_rfl
theorem abz:Tryz.prog.eqGuardType Tryz.prog.depth 6=false:=by kernel_rfl
theorem abA:tyk Tryz.prog 7=some (TyK.struct [(0,(false,1)),(1,(false,1)),(2,(false,1)),(3,(false,1))]):=by kernel_rfl
theorem abB:shp Tryz.prog 7=some (true,4):=by kernel_rfl
theorem abC:zer Tryz.prog 7=some [(AV.int .i64 0),(AV.int .i64 0),(AV.bool false),(AV.int .u8 0)]:=by kernel_rfl
theorem abD:ah Tryz.prog 7=false:=by kernel_rfl
theorem abE:aU Tryz.prog 10 7=some [(TyS.si .i64),(TyS.si .i64),TyS.sb,(TyS.si .u8)]:=by kernel_rfl
theorem abF:Tryz.prog.eqGuardType Tryz.prog.depth 7=false:=by kernel_rfl
theorem Cd:aw Tryz.prog 7 0=some (0,false,1):=by kernel_rfl
theorem Ce:aw Tryz.prog 7 1=some (1,false,1):=by kernel_rfl
theorem Cf:aw Tryz.prog 7 2=some (2,false,1):=by kernel_rfl
theorem Cg:aw Tryz.prog 7 3=some (3,false,1):=by kernel_rfl
theorem abG:tyk Tryz.prog 8=some (TyK.struct [(0,(false,1)),(1,(false,1)),(2,(false,1)),(3,(false,1))]):=by kernel_rfl
theorem abH:shp Tryz.prog 8=some (true,4):=by kernel_rfl
theorem abI:zer Tryz.prog 8=some [(AV.int .i64 0),(AV.int .i64 0),(AV.bool false),(AV.int .u8 0)]:=by kernel_rfl
theorem abJ:ah Tryz.prog 8=false:=by kernel_rfl
theorem abK:aU Tryz.prog 10 8=some [(TyS.si .i64),(TyS.si .i64),TyS.sb,(TyS.si .u8)]:=by kernel_rfl
theorem abL:Tryz.prog.eqGuardType Tryz.prog.depth 8=false:=by kernel_rfl
theorem Ch:aw Tryz.prog 8 0=some (0,false,1):=by kernel_rfl
theorem Ci:aw Tryz.prog 8 1=some (1,false,1):=by kernel_rfl
theorem Cj:aw Tryz.prog 8 2=some (2,false,1):=by kernel_rfl
theorem Ck:aw Tryz.prog 8 3=some (3,false,1):=by kernel_rfl
theorem abM:tyk Tryz.prog 9=some TyK.str:=by kernel_rfl
theorem abN:shp Tryz.prog 9=some (false,1):=by kernel_rfl
theorem abO:zer Tryz.prog 9=some [(AV.str [])]:=by kernel_rfl
theorem abP:ah Tryz.prog 9=false:=by kernel_rfl
theorem abQ:aU Tryz.prog 10 9=some [TyS.ss]:=by kernel_rfl
theorem abR:Tryz.prog.eqGuardType Tryz.prog.depth 9=false:=by kernel_rfl
theorem To:tyk Tryz.prog 10=some TyK.str:=by kernel_rfl
theorem Tp:shp Tryz.prog 10=some (false,1):=by kernel_rfl
theorem Tq:zer Tryz.prog 10=some [(AV.str [])]:=by kernel_rfl
theorem Ts:ah Tryz.prog 10=false:=by kernel_rfl
theorem Tt:aU Tryz.prog 10 10=some [TyS.ss]:=by kernel_rfl
theorem Tu:Tryz.prog.eqGuardType Tryz.prog.depth 10=false:=by kernel_rfl
theorem Tv:tyk Tryz.prog 11=some TyK.str:=by kernel_rfl
theorem Tw:shp Tryz.prog 11=some (false,1):=by kernel_rfl
theorem Tx:zer Tryz.prog 11=some [(AV.str [])]:=by kernel_rfl
theorem Tz:ah Tryz.prog 11=false:=by kernel_rfl
theorem TL:aU Tryz.prog 10 11=some [TyS.ss]:=by kernel_rfl
theorem TN:Tryz.prog.eqGuardType Tryz.prog.depth 11=false:=by kernel_rfl
theorem TO:tyk Tryz.prog 12=some (TyK.int .u64):=by kernel_rfl
theorem TP:shp Tryz.prog 12=some (false,1):=by kernel_rfl
theorem TQ:zer Tryz.prog 12=some [(AV.int .u64 0)]:=by kernel_rfl
theorem TR:ah Tryz.prog 12=false:=by kernel_rfl
theorem TS:aU Tryz.prog 10 12=some [(TyS.si .u64)]:=by kernel_rfl
theorem TT:Tryz.prog.eqGuardType Tryz.prog.depth 12=false:=by kernel_rfl
theorem TU:tyk Tryz.prog 13=some (TyK.struct [(0,(false,1)),(1,(false,1))]):=by kernel_rfl
theorem TW:shp Tryz.prog 13=some (true,2):=by kernel_rfl
theorem TX:zer Tryz.prog 13=some [(AV.str []),(AV.int .u64 0)]:=by kernel_rfl
theorem TY:ah Tryz.prog 13=false:=by kernel_rfl
theorem y1:aw Tryz.prog 13 0=some (0,false,1):=by kernel_rfl
theorem y3:aw Tryz.prog 13 1=some (1,false,1):=by kernel_rfl
theorem TZ:tyk Tryz.prog 14=some (TyK.struct [(0,(false,1)),(1,(false,1))]):=by kernel_rfl
theorem T0:shp Tryz.prog 14=some (true,2):=by kernel_rfl
theorem T1:zer Tryz.prog 14=some [(AV.str []),(AV.int .u64 0)]:=by kernel_rfl
theorem T2:ah Tryz.prog 14=false:=by kernel_rfl
theorem y4:aw Tryz.prog 14 0=some (0,false,1):=by kernel_rfl
theorem y5:aw Tryz.prog 14 1=some (1,false,1):=by kernel_rfl
theorem T3:tyk Tryz.prog 15=some (TyK.ptr 284):=by kernel_rfl
theorem T4:shp Tryz.prog 15=some (false,1):=by kernel_rfl
theorem T5:zer Tryz.prog 15=some [AV.nilPtr]:=by kernel_rfl
theorem T6:ah Tryz.prog 15=false:=by kernel_rfl
theorem T7:tyk Tryz.prog 16=some (TyK.ptr 287):=by kernel_rfl
theorem T8:shp Tryz.prog 16=some (false,1):=by kernel_rfl
theorem T9:zer Tryz.prog 16=some [AV.nilPtr]:=by kernel_rfl
theorem Ua:ah Tryz.prog 16=false:=by kernel_rfl
theorem Ub:tyk Tryz.prog 17=some (TyK.ptr 295):=by kernel_rfl
theorem Uc:shp Tryz.prog 17=some (false,1):=by kernel_rfl
theorem Ud:zer Tryz.prog 17=some [AV.nilPtr]:=by kernel_rfl
theorem Ue:ah Tryz.prog 17=false:=by kernel_rfl
theorem Uf:tyk Tryz.prog 18=some (TyK.struct [(0,(false,1))]):=by kernel_rfl
theorem Ug:shp Tryz.prog 18=some (true,1):=by kernel_rfl
theorem Uh:zer Tryz.prog 18=some [AV.nilPtr]:=by kernel_rfl
theorem Ui:ah Tryz.prog 18=false:=by kernel_rfl
theorem y6:aw Tryz.prog 18 0=some (0,false,1):=by kernel_rfl
theorem Uj:tyk Tryz.prog 19=some (TyK.struct [(0,(false,1))]):=by kernel_rfl
theorem Uk:shp Tryz.prog 19=some (true,1):=by kernel_rfl
theorem Ul:zer Tryz.prog 19=some [AV.nilPtr]:=by kernel_rfl
theorem Um:ah Tryz.prog 19=false:=by kernel_rfl
theorem y7:aw Tryz.prog 19 0=some (0,false,1):=by kernel_rfl
theorem Un:tyk Tryz.prog 20=some (TyK.iface 0):=by kernel_rfl
theorem Uo:shp Tryz.prog 20=some (false,1):=by kernel_rfl
theorem Up:zer Tryz.prog 20=some [AV.nilIface]:=by kernel_rfl
theorem Uq:ah Tryz.prog 20=false:=by kernel_rfl
theorem Ur:tyk Tryz.prog 21=some (TyK.int .i32):=by kernel_rfl
theorem Us:shp Tryz.prog 21=some (false,1):=by kernel_rfl
theorem Ut:zer Tryz.prog 21=some [(AV.int .i32 0)]:=by kernel_rfl
theorem Uu:ah Tryz.prog 21=false:=by kernel_rfl
theorem Uv:aU Tryz.prog 10 21=some [(TyS.si .i32)]:=by kernel_rfl
theorem Uw:Tryz.prog.eqGuardType Tryz.prog.depth 21=false:=by kernel_rfl
theorem Ux:tyk Tryz.prog 22=some (TyK.slice 55 true 5 24):=by kernel_rfl
theorem Uy:shp Tryz.prog 22=some (false,1):=by kernel_rfl
theorem Uz:zer Tryz.prog 22=some [AV.nilSl]:=by kernel_rfl
theorem UA:ah Tryz.prog 22=false:=by kernel_rfl
theorem UB:tyk Tryz.prog 23=some TyK.func:=by kernel_rfl
theorem UC:shp Tryz.prog 23=some (false,1):=by kernel_rfl
theorem UD:zer Tryz.prog 23=some [AV.nilFn]:=by kernel_rfl
theorem UE:ah Tryz.prog 23=false:=by kernel_rfl
theorem UF:tyk Tryz.prog 24=some (TyK.ptr 34):=by kernel_rfl
theorem UG:shp Tryz.prog 24=some (false,1):=by kernel_rfl
theorem UH:zer Tryz.prog 24=some [AV.nilPtr]:=by kernel_rfl
theorem UI:ah Tryz.prog 24=false:=by kernel_rfl
theorem UJ:tyk Tryz.prog 25=some TyK.func:=by kernel_rfl
theorem UK:shp Tryz.prog 25=some (false,1):=by kernel_rfl
theorem UL:zer Tryz.prog 25=some [AV.nilFn]:=by kernel_rfl
theorem UM:ah Tryz.prog 25=false:=by kernel_rfl
theorem UN:tyk Tryz.prog 26=some TyK.func:=by kernel_rfl
theorem UO:shp Tryz.prog 26=some (false,1):=by kernel_rfl
theorem UP:zer Tryz.prog 26=some [AV.nilFn]:=by kernel_rfl
theorem UQ:ah Tryz.prog 26=false:=by kernel_rfl
theorem UR:tyk Tryz.prog 27=some (TyK.slice 9 false 1 16):=by kernel_rfl
theorem US:shp Tryz.prog 27=some (false,1):=by kernel_rfl
theorem UT:zer Tryz.prog 27=some [AV.nilSl]:=by kernel_rfl
theorem UU:ah Tryz.prog 27=false:=by kernel_rfl
theorem UW:tyk Tryz.prog 28=some TyK.func:=by kernel_rfl
theorem UX:shp Tryz.prog 28=some (false,1):=by kernel_rfl
theorem UY:zer Tryz.prog 28=some [AV.nilFn]:=by kernel_rfl
theorem UZ:ah Tryz.prog 28=false:=by kernel_rfl
theorem U0:tyk Tryz.prog 29=some (TyK.ptr 121):=by kernel_rfl
theorem U1:shp Tryz.prog 29=some (false,1):=by kernel_rfl
theorem U2:zer Tryz.prog 29=some [AV.nilPtr]:=by kernel_rfl
theorem U3:ah Tryz.prog 29=false:=by kernel_rfl
theorem U4:tyk Tryz.prog 30=some (TyK.ptr 92):=by kernel_rfl
theorem U5:shp Tryz.prog 30=some (false,1):=by kernel_rfl
theorem U6:zer Tryz.prog 30=some [AV.nilPtr]:=by kernel_rfl
theorem U7:ah Tryz.prog 30=false:=by kernel_rfl
theorem U8:tyk Tryz.prog 31=some (TyK.ptr 125):=by kernel_rfl
theorem U9:shp Tryz.prog 31=some (false,1):=by kernel_rfl
theorem Va:zer Tryz.prog 31=some [AV.nilPtr]:=by kernel_rfl
theorem Vb:ah Tryz.prog 31=false:=by kernel_rfl
theorem Vc:tyk Tryz.prog 32=some (TyK.ptr 98):=by kernel_rfl
theorem Vd:shp Tryz.prog 32=some (false,1):=by kernel_rfl
theorem Ve:zer Tryz.prog 32=some [AV.nilPtr]:=by kernel_rfl
theorem Vf:ah Tryz.prog 32=false:=by kernel_rfl
theorem Vg:tyk Tryz.prog 33=some (TyK.struct [(0,(false,1)),(1,(false,1)),(2,(false,1)),(3,(false,1))]):=by kernel_rfl
theorem Vh:shp Tryz.prog 33=some (true,4):=by kernel_rfl
theorem Vi:zer Tryz.prog 33=some [AV.nilPtr,AV.nilPtr,AV.nilPtr,AV.nilPtr]:=by kernel_rfl
theorem Vj:ah Tryz.prog 33=false:=by kernel_rfl
theorem y8:aw Tryz.prog 33 0=some (0,false,1):=by kernel_rfl
theorem y9:aw Tryz.prog 33 1=some (1,false,1):=by kernel_rfl
theorem za:aw Tryz.prog 33 2=some (2,false,1):=by kernel_rfl
theorem zb:aw Tryz.prog 33 3=some (3,false,1):=by kernel_rfl
theorem Vk:tyk Tryz.prog 34=some (TyK.struct [(0,(false,1)),(1,(false,1)),(2,(false,1)),(3,(false,1))]):=by kernel_rfl
theorem Vl:shp Tryz.prog 34=some (true,4):=by kernel_rfl
theorem Vm:zer Tryz.prog 34=some [AV.nilPtr,AV.nilPtr,AV.nilPtr,AV.nilPtr]:=by kernel_rfl
theorem Vn:ah Tryz.prog 34=false:=by kernel_rfl
theorem zc:aw Tryz.prog 34 0=some (0,false,1):=by kernel_rfl
theorem zd:aw Tryz.prog 34 1=some (1,false,1):=by kernel_rfl
theorem zf:aw Tryz.prog 34 2=some (2,false,1):=by kernel_rfl
theorem zg:aw Tryz.prog 34 3=some (3,false,1):=by kernel_rfl
theorem Vo:tyk Tryz.prog 35=some TyK.func:=by kernel_rfl
theorem Vp:shp Tryz.prog 35=some (false,1):=by kernel_rfl
theorem Vq:zer Tryz.prog 35=some [AV.nilFn]:=by kernel_rfl
theorem Vr:ah Tryz.prog 35=false:=by kernel_rfl
theorem Vs:tyk Tryz.prog 36=some TyK.func:=by kernel_rfl
theorem Vt:shp Tryz.prog 36=some (false,1):=by kernel_rfl
theorem Vu:zer Tryz.prog 36=some [AV.nilFn]:=by kernel_rfl
theorem Vv:ah Tryz.prog 36=false:=by kernel_rfl
theorem Vw:tyk Tryz.prog 37=some TyK.func:=by kernel_rfl
theorem Vx:shp Tryz.prog 37=some (false,1):=by kernel_rfl
theorem Vy:zer Tryz.prog 37=some [AV.nilFn]:=by kernel_rfl
theorem Vz:ah Tryz.prog 37=false:=by kernel_rfl
theorem VA:tyk Tryz.prog 38=some (TyK.struct [(0,(false,1)),(1,(false,1)),(2,(false,1))]):=by kernel_rfl
theorem VB:shp Tryz.prog 38=some (true,3):=by kernel_rfl
theorem VC:zer Tryz.prog 38=some [(AV.int .i64 0),(AV.str []),(AV.str [])]:=by kernel_rfl
theorem VD:ah Tryz.prog 38=false:=by kernel_rfl
theorem VF:aU Tryz.prog 10 38=some [(TyS.si .i64),TyS.ss,TyS.ss]:=by kernel_rfl
theorem VG:Tryz.prog.eqGuardType Tryz.prog.depth 38=false:=by kernel_rfl
theorem zh:aw Tryz.prog 38 0=some (0,false,1):=by kernel_rfl
theorem zi:aw Tryz.prog 38 1=some (1,false,1):=by kernel_rfl
theorem zj:aw Tryz.prog 38 2=some (2,false,1):=by kernel_rfl
theorem VH:tyk Tryz.prog 39=some (TyK.struct [(0,(false,1)),(1,(false,1)),(2,(false,1))]):=by kernel_rfl
theorem VI:shp Tryz.prog 39=some (true,3):=by kernel_rfl
theorem VJ:zer Tryz.prog 39=some [(AV.int .i64 0),(AV.str []),(AV.str [])]:=by kernel_rfl
theorem VL:ah Tryz.prog 39=false:=by kernel_rfl
theorem VM:aU Tryz.prog 10 39=some [(TyS.si .i64),TyS.ss,TyS.ss]:=by kernel_rfl
theorem VN:Tryz.prog.eqGuardType Tryz.prog.depth 39=false:=by kernel_rfl
theorem zm:aw Tryz.prog 39 0=some (0,false,1):=by kernel_rfl
theorem zo:aw Tryz.prog 39 1=some (1,false,1):=by kernel_rfl
theorem zp:aw Tryz.prog 39 2=some (2,false,1):=by kernel_rfl
theorem VO:tyk Tryz.prog 40=some TyK.other:=by kernel_rfl
theorem VP:shp Tryz.prog 40=some (false,1):=by kernel_rfl
theorem VQ:zer Tryz.prog 40=some [(AV.tuple [AV.undef,(AV.bool false)])]:=by kernel_rfl
theorem VS:ah Tryz.prog 40=false:=by kernel_rfl
theorem VT:tyk Tryz.prog 41=some TyK.func:=by kernel_rfl
theorem VU:shp Tryz.prog 41=some (false,1):=by kernel_rfl
theorem VV:zer Tryz.prog 41=some [AV.nilFn]:=by kernel_rfl
theorem VW:ah Tryz.prog 41=false:=by kernel_rfl
theorem VX:tyk Tryz.prog 42=some TyK.func:=by kernel_rfl
theorem VY:shp Tryz.prog 42=some (false,1):=by kernel_rfl
theorem VZ:zer Tryz.prog 42=some [AV.nilFn]:=by kernel_rfl
theorem V0:ah Tryz.prog 42=false:=by kernel_rfl
theorem V1:tyk Tryz.prog 43=some TyK.func:=by kernel_rfl
theorem V2:shp Tryz.prog 43=some (false,1):=by kernel_rfl
theorem V3:zer Tryz.prog 43=some [AV.nilFn]:=by kernel_rfl
theorem V4:ah Tryz.prog 43=false:=by kernel_rfl
theorem V5:tyk Tryz.prog 44=some TyK.func:=by kernel_rfl
theorem V6:shp Tryz.prog 44=some (false,1):=by kernel_rfl
theorem V7:zer Tryz.prog 44=some [AV.nilFn]:=by kernel_rfl
theorem V8:ah Tryz.prog 44=false:=by kernel_rfl
theorem V9:tyk Tryz.prog 45=some (TyK.int .i64):=by kernel_rfl
theorem Wa:shp Tryz.prog 45=some (false,1):=by kernel_rfl
theorem Wb:zer Tryz.prog 45=some [(AV.int .i64 0)]:=by kernel_rfl
theorem Wc:ah Tryz.prog 45=false:=by kernel_rfl
theorem Wd:aU Tryz.prog 10 45=some [(TyS.si .i64)]:=by kernel_rfl
theorem We:Tryz.prog.eqGuardType Tryz.prog.depth 45=false:=by kernel_rfl
theorem Wf:tyk Tryz.prog 46=some TyK.func:=by kernel_rfl
theorem Wg:shp Tryz.prog 46=some (false,1):=by kernel_rfl
theorem Wh:zer Tryz.prog 46=some [AV.nilFn]:=by kernel_rfl
theorem Wi:ah Tryz.prog 46=false:=by kernel_rfl
theorem Wj:tyk Tryz.prog 47=some TyK.func:=by kernel_rfl
theorem Wl:shp Tryz.prog 47=some (false,1):=by kernel_rfl
theorem Wm:zer Tryz.prog 47=some [AV.nilFn]:=by kernel_rfl
theorem Wn:ah Tryz.prog 47=false:=by kernel_rfl
theorem Wo:tyk Tryz.prog 48=some TyK.func:=by kernel_rfl
theorem Wp:shp Tryz.prog 48=some (false,1):=by kernel_rfl
theorem Wq:zer Tryz.prog 48=some [AV.nilFn]:=by kernel_rfl
theorem Wr:ah Tryz.prog 48=false:=by kernel_rfl
theorem Ws:tyk Tryz.prog 49=some TyK.func:=by kernel_rfl
theorem Wt:shp Tryz.prog 49=some (false,1):=by kernel_rfl
theorem Wu:zer Tryz.prog 49=some [AV.nilFn]:=by kernel_rfl
theorem Wv:ah Tryz.prog 49=false:=by kernel_rfl
theorem Ww:tyk Tryz.prog 50=some (TyK.slice 27 false 1 24):=by kernel_rfl
theorem Wx:shp Tryz.prog 50=some (false,1):=by kernel_rfl
theorem Wy:zer Tryz.prog 50=some [AV.nilSl]:=by kernel_rfl
theorem Wz:ah Tryz.prog 50=false:=by kernel_rfl
theorem WA:tyk Tryz.prog 51=some TyK.func:=by kernel_rfl
theorem WB:shp Tryz.prog 51=some (false,1):=by kernel_rfl
theorem WC:zer Tryz.prog 51=some [AV.nilFn]:=by kernel_rfl
theorem WD:ah Tryz.prog 51=false:=by kernel_rfl
theorem WE:tyk Tryz.prog 52=some TyK.func:=by kernel_rfl
theorem WG:shp Tryz.prog 52=some (false,1):=by kernel_rfl
theorem WH:zer Tryz.prog 52=some [AV.nilFn]:=by kernel_rfl
theorem WI:ah Tryz.prog 52=false:=by kernel_rfl
theorem WJ:tyk Tryz.prog 53=some TyK.func:=by kernel_rfl
theorem WK:shp Tryz.prog 53=some (false,1):=by kernel_rfl
theorem WM:zer Tryz.prog 53=some [AV.nilFn]:=by kernel_rfl
theorem WN:ah Tryz.prog 53=false:=by kernel_rfl
theorem WO:tyk Tryz.prog 54=some (TyK.struct [(0,(false,1)),(1,(false,1)),(2,(false,1)),(3,(false,1)),(4,(false,1))]):=by kernel_rfl
theorem WQ:shp Tryz.prog 54=some (true,5):=by kernel_rfl
theorem WS:zer Tryz.prog 54=some [(AV.int .u8 0),(AV.int .u8 0),(AV.int .u8 0),(AV.int .u8 0),(AV.str [])]:=by kernel_rfl
theorem WT:ah Tryz.prog 54=false:=by kernel_rfl
theorem WU:aU Tryz.prog 10 54=some [(TyS.si .u8),(TyS.si .u8),(TyS.si .u8),(TyS.si .u8),TyS.ss]:=by kernel_rfl
theorem WV:Tryz.prog.eqGuardType Tryz.prog.depth 54=false:=by kernel_rfl
theorem zq:aw Tryz.prog 54 0=some (0,false,1):=by kernel_rfl
theorem zr:aw Tryz.prog 54 1=some (1,false,1):=by kernel_rfl
theorem zx:aw Tryz.prog 54 2=some (2,false,1):=by kernel_rfl
theorem zy:aw Tryz.prog 54 3=some (3,false,1):=by kernel_rfl
theorem zA:aw Tryz.prog 54 4=some (4,false,1):=by kernel_rfl
theorem WX:tyk Tryz.prog 55=some (TyK.struct [(0,(false,1)),(1,(false,1)),(2,(false,1)),(3,(false,1)),(4,(false,1))]):=by kernel_rfl
theorem WY:shp Tryz.prog 55=some (true,5):=by kernel_rfl
theorem WZ:zer Tryz.prog 55=some [(AV.int .u8 0),(AV.int .u8 0),(AV.int .u8 0),(AV.int .u8 0),(AV.str [])]:=by kernel_rfl
theorem W0:ah Tryz.prog 55=false:=by kernel_rfl
theorem W1:aU Tryz.prog 10 55=some [(TyS.si .u8),(TyS.si .u8),(TyS.si .u8),(TyS.si .u8),TyS.ss]:=by kernel_rfl
theorem W2:Tryz.prog.eqGuardType Tryz.prog.depth 55=false:=by kernel_rfl
theorem zB:aw Tryz.prog 55 0=some (0,false,1):=by kernel_rfl
theorem zC:aw Tryz.prog 55 1=some (1,false,1):=by kernel_rfl
theorem zD:aw Tryz.prog 55 2=some (2,false,1):=by kernel_rfl
theorem zE:aw Tryz.prog 55 3=some (3,false,1):=by kernel_rfl
theorem zF:aw Tryz.prog 55 4=some (4,false,1):=by kernel_rfl
theorem W3:tyk Tryz.prog 56=some TyK.func:=by kernel_rfl
theorem W4:shp Tryz.prog 56=some (false,1):=by kernel_rfl
theorem W5:zer Tryz.prog 56=some [AV.nilFn]:=by kernel_rfl
theorem W6:ah Tryz.prog 56=false:=by kernel_rfl
theorem W7:tyk Tryz.prog 57=some TyK.func:=by kernel_rfl
theorem W8:shp Tryz.prog 57=some (false,1):=by kernel_rfl
theorem W9:zer Tryz.prog 57=some [AV.nilFn]:=by kernel_rfl
theorem Xa:ah Tryz.prog 57=false:=by kernel_rfl
theorem Xb:tyk Tryz.prog 58=some TyK.func:=by kernel_rfl
theorem Xc:shp Tryz.prog 58=some (false,1):=by kernel_rfl
theorem Xd:zer Tryz.prog 58=some [AV.nilFn]:=by kernel_rfl
theorem Xe:ah Tryz.prog 58=false:=by kernel_rfl
theorem Xf:tyk Tryz.prog 59=some TyK.func:=by kernel_rfl
theorem Xg:shp Tryz.prog 59=some (false,1):=by kernel_rfl
theorem Xh:zer Tryz.prog 59=some [AV.nilFn]:=by kernel_rfl
theorem Xi:ah Tryz.prog 59=false:=by kernel_rfl
theorem Xj:tyk Tryz.prog 60=some TyK.func:=by kernel_rfl
theorem Xk:shp Tryz.prog 60=some (false,1):=by kernel_rfl
theorem Xl:zer Tryz.prog 60=some [AV.nilFn]:=by kernel_rfl
theorem Xm:ah Tryz.prog 60=false:=by kernel_rfl
theorem Xn:tyk Tryz.prog 61=some (TyK.struct [(0,(false,1))]):=by kernel_rfl
theorem Xo:shp Tryz.prog 61=some (true,1):=by kernel_rfl
theorem Xp:zer Tryz.prog 61=some [AV.nilPtr]:=by kernel_rfl
theorem Xq:ah Tryz.prog 61=false:=by kernel_rfl
theorem zG:aw Tryz.prog 61 0=some (0,false,1):=by kernel_rfl
theorem Xr:tyk Tryz.prog 62=some (TyK.struct [(0,(false,1))]):=by kernel_rfl
theorem Xs:shp Tryz.prog 62=some (true,1):=by kernel_rfl
theorem Xt:zer Tryz.prog 62=some [AV.nilPtr]:=by kernel_rfl
theorem Xu:ah Tryz.prog 62=false:=by kernel_rfl
theorem zH:aw Tryz.prog 62 0=some (0,false,1):=by kernel_rfl
theorem Xv:tyk Tryz.prog 63=some TyK.func:=by kernel_rfl
theorem Xw:shp Tryz.prog 63=some (false,1):=by kernel_rfl
theorem Xx:zer Tryz.prog 63=some [AV.nilFn]:=by kernel_rfl
theorem Xy:ah Tryz.prog 63=false:=by kernel_rfl
theorem Xz:tyk Tryz.prog 64=some TyK.func:=by kernel_rfl
theorem XA:shp Tryz.prog 64=some (false,1):=by kernel_rfl
theorem XB:zer Tryz.prog 64=some [AV.nilFn]:=by kernel_rfl
theorem XC:ah Tryz.prog 64=false:=by kernel_rfl
theorem XD:tyk Tryz.prog 65=some TyK.other:=by kernel_rfl
theorem XE:shp Tryz.prog 65=some (false,1):=by kernel_rfl
theorem XF:zer Tryz.prog 65=some [(AV.tuple [(AV.str []),(AV.int .i64 0)])]:=by kernel_rfl
theorem XG:ah Tryz.prog 65=false:=by kernel_rfl
theorem XH:tyk Tryz.prog 66=some TyK.func:=by kernel_rfl
theorem XI:shp Tryz.prog 66=some (false,1):=by kernel_rfl
theorem XJ:zer Tryz.prog 66=some [AV.nilFn]:=by kernel_rfl
theorem XK:ah Tryz.prog 66=false:=by kernel_rfl
theorem XL:tyk Tryz.prog 67=some TyK.func:=by kernel_rfl
theorem XM:shp Tryz.prog 67=some (false,1):=by kernel_rfl
theorem XN:zer Tryz.prog 67=some [AV.nilFn]:=by kernel_rfl
theorem XO:ah Tryz.prog 67=false:=by kernel_rfl
theorem XP:tyk Tryz.prog 68=some TyK.func:=by kernel_rfl
theorem XQ:shp Tryz.prog 68=some (false,1):=by kernel_rfl
theorem XR:zer Tryz.prog 68=some [AV.nilFn]:=by kernel_rfl
theorem XS:ah Tryz.prog 68=false:=by kernel_rfl
theorem XT:tyk Tryz.prog 69=some TyK.func:=by kernel_rfl
theorem XU:shp Tryz.prog 69=some (false,1):=by kernel_rfl
theorem XV:zer Tryz.prog 69=some [AV.nilFn]:=by kernel_rfl
theorem XW:ah Tryz.prog 69=false:=by kernel_rfl
theorem XX:tyk Tryz.prog 70=some TyK.func:=by kernel_rfl
theorem XY:shp Tryz.prog 70=some (false,1):=by kernel_rfl
theorem XZ:zer Tryz.prog 70=some [AV.nilFn]:=by kernel_rfl
theorem X0:ah Tryz.prog 70=false:=by kernel_rfl
theorem X1:tyk Tryz.prog 71=some TyK.func:=by kernel_rfl
theorem X2:shp Tryz.prog 71=some (false,1):=by kernel_rfl
theorem X3:zer Tryz.prog 71=some [AV.nilFn]:=by kernel_rfl
theorem X4:ah Tryz.prog 71=false:=by kernel_rfl
theorem X5:tyk Tryz.prog 72=some TyK.func:=by kernel_rfl
theorem X6:shp Tryz.prog 72=some (false,1):=by kernel_rfl
theorem X7:zer Tryz.prog 72=some [AV.nilFn]:=by kernel_rfl
theorem X8:ah Tryz.prog 72=false:=by kernel_rfl
theorem X9:tyk Tryz.prog 73=some (TyK.ptr 78):=by kernel_rfl
theorem Ya:shp Tryz.prog 73=some (false,1):=by kernel_rfl
theorem Yb:zer Tryz.prog 73=some [AV.nilPtr]:=by kernel_rfl
theorem Yc:ah Tryz.prog 73=false:=by kernel_rfl
theorem Yd:tyk Tryz.prog 74=some (TyK.map 9 71):=by kernel_rfl
theorem Ye:shp Tryz.prog 74=some (false,1):=by kernel_rfl
theorem Yf:zer Tryz.prog 74=some [AV.nilMap]:=by kernel_rfl
theorem Yg:ah Tryz.prog 74=false:=by kernel_rfl
theorem Yh:kc Tryz.prog 74=some ([TyS.ss],(false,AV.nilFn)):=by kernel_rfl
theorem Yi:dI Tryz.prog 74=some ([TyS.ss],false):=by kernel_rfl
theorem Yj:tyk Tryz.prog 75=some TyK.other:=by kernel_rfl
theorem Yk:shp Tryz.prog 75=some (false,1):=by kernel_rfl
theorem Yl:zer Tryz.prog 75=some [(AV.tuple [AV.nilFn,(AV.bool false)])]:=by kernel_rfl
theorem Ym:ah Tryz.prog 75=false:=by kernel_rfl
theorem Yn:tyk Tryz.prog 76=some TyK.func:=by kernel_rfl
theorem Yo:shp Tryz.prog 76=some (false,1):=by kernel_rfl
theorem Yp:zer Tryz.prog 76=some [AV.nilFn]:=by kernel_rfl
theorem Yq:ah Tryz.prog 76=false:=by kernel_rfl
theorem Yr:tyk Tryz.prog 77=some (TyK.struct [(0,(false,1)),(1,(false,1)),(2,(false,1)),(3,(true,3))]):=by kernel_rfl
theorem Ys:shp Tryz.prog 77=some (true,6):=by kernel_rfl
theorem Yt:zer Tryz.prog 77=some [AV.nilPtr,(AV.str []),(AV.str []),(AV.int .i64 0),(AV.str []),(AV.str [])]:=by kernel_rfl
theorem Yu:ah Tryz.prog 77=false:=by kernel_rfl
theorem zI:aw Tryz.prog 77 0=some (0,false,1):=by kernel_rfl
theorem zJ:aw Tryz.prog 77 1=some (1,false,1):=by kernel_rfl
theorem zK:aw Tryz.prog 77 2=some (2,false,1):=by kernel_rfl
theorem zM:aw Tryz.prog 77 3=some (3,true,3):=by kernel_rfl
theorem Yv:tyk Tryz.prog 78=some (TyK.struct [(0,(false,1)),(1,(false,1)),(2,(false,1)),(3,(true,3))]):=by kernel_rfl
theorem Yw:shp Tryz.prog 78=some (true,6):=by kernel_rfl
theorem Yx:zer Tryz.prog 78=some [AV.nilPtr,(AV.str []),(AV.str []),(AV.int .i64 0),(AV.str []),(AV.str [])]:=by kernel_rfl
theorem Yy:ah Tryz.prog 78=false:=by kernel_rfl
theorem zN:aw Tryz.prog 78 0=some (0,false,1):=by kernel_rfl
theorem zO:aw Tryz.prog 78 1=some (1,false,1):=by kernel_rfl
theorem zP:aw Tryz.prog 78 2=some (2,false,1):=by kernel_rfl
theorem zQ:aw Tryz.prog 78 3=some (3,true,3):=by kernel_rfl
theorem Yz:tyk Tryz.prog 79=some (TyK.slice 82 true 6 24):=by kernel_rfl
theorem YA:shp Tryz.prog 79=some (false,1):=by kernel_rfl
theorem YB:zer Tryz.prog 79=some [AV.nilSl]:=by kernel_rfl
theorem YC:ah Tryz.prog 79=false:=by kernel_rfl
theorem YD:tyk Tryz.prog 80=some TyK.func:=by kernel_rfl
theorem YE:shp Tryz.prog 80=some (false,1):=by kernel_rfl
theorem YF:zer Tryz.prog 80=some [AV.nilFn]:=by kernel_rfl
theorem YG:ah Tryz.prog 80=false:=by kernel_rfl
theorem YH:tyk Tryz.prog 81=some (TyK.struct [(0,(false,1)),(1,(false,1)),(2,(false,1)),(3,(false,1)),(4,(false,1)),(5,(false,1))]):=by kernel_rfl
theorem YI:shp Tryz.prog 81=some (true,6):=by kernel_rfl
theorem YJ:zer Tryz.prog 81=some [(AV.int .u8 0),(AV.int .u8 0),(AV.int .u8 0),(AV.int .u8 0),(AV.int .u8 0),(AV.str [])]:=by kernel_rfl
theorem YK:ah Tryz.prog 81=false:=by kernel_rfl
theorem YL:aU Tryz.prog 10 81=some [(TyS.si .u8),(TyS.si .u8),(TyS.si .u8),(TyS.si .u8),(TyS.si .u8),TyS.ss]:=by kernel_rfl
theorem YM:Tryz.prog.eqGuardType Tryz.prog.depth 81=false:=by kernel_rfl
theorem zR:aw Tryz.prog 81 0=some (0,false,1):=by kernel_rfl
theorem zS:aw Tryz.prog 81 1=some (1,false,1):=by kernel_rfl
theorem zT:aw Tryz.prog 81 2=some (2,false,1):=by kernel_rfl
theorem zU:aw Tryz.prog 81 3=some (3,false,1):=by kernel_rfl
theorem zV:aw Tryz.prog 81 4=some (4,false,1):=by kernel_rfl
theorem zW:aw Tryz.prog 81 5=some (5,false,1):=by kernel_rfl
theorem YN:tyk Tryz.prog 82=some (TyK.struct [(0,(false,1)),(1,(false,1)),(2,(false,1)),(3,(false,1)),(4,(false,1)),(5,(false,1))]):=by kernel_rfl
theorem YO:shp Tryz.prog 82=some (true,6):=by kernel_rfl
theorem YP:zer Tryz.prog 82=some [(AV.int .u8 0),(AV.int .u8 0),(AV.int .u8 0),(AV.int .u8 0),(AV.int .u8 0),(AV.str [])]:=by kernel_rfl
theorem YQ:ah Tryz.prog 82=false:=by kernel_rfl
theorem YR:aU Tryz.prog 10 82=some [(TyS.si .u8),(TyS.si .u8),(TyS.si .u8),(TyS.si .u8),(TyS.si .u8),TyS.ss]:=by kernel_rfl
theorem YS:Tryz.prog.eqGuardType Tryz.prog.depth 82=false:=by kernel_rfl
theorem zX:aw Tryz.prog 82 0=some (0,false,1):=by kernel_rfl
theorem zY:aw Tryz.prog 82 1=some (1,false,1):=by kernel_rfl
theorem zZ:aw Tryz.prog 82 2=some (2,false,1):=by kernel_rfl
theorem z1:aw Tryz.prog 82 3=some (3,false,1):=by kernel_rfl
theorem z6:aw Tryz.prog 82 4=some (4,false,1):=by kernel_rfl
theorem z7:aw Tryz.prog 82 5=some (5,false,1):=by kernel_rfl
theorem YT:tyk Tryz.prog 83=some TyK.func:=by kernel_rfl
theorem YU:shp Tryz.prog 83=some (false,1):=by kernel_rfl
theorem YV:zer Tryz.prog 83=some [AV.nilFn]:=by kernel_rfl
theorem YW:ah Tryz.prog 83=false:=by kernel_rfl
theorem YX:tyk Tryz.prog 84=some (TyK.ptr 45):=by kernel_rfl
theorem YY:shp Tryz.prog 84=some (false,1):=by kernel_rfl
theorem YZ:zer Tryz.prog 84=some [AV.nilPtr]:=by kernel_rfl
theorem Y0:ah Tryz.prog 84=false:=by kernel_rfl
theorem Y1:tyk Tryz.prog 85=some (TyK.struct [(0,(false,1)),(1,(false,1)),(2,(false,1))]):=by kernel_rfl
theorem Y2:shp Tryz.prog 85=some (true,3):=by kernel_rfl
theorem Y3:zer Tryz.prog 85=some [(AV.int .i64 0),(AV.int .i64 0),(AV.str [])]:=by kernel_rfl
theorem Y4:ah Tryz.prog 85=false:=by kernel_rfl
theorem Y5:aU Tryz.prog 10 85=some [(TyS.si .i64),(TyS.si .i64),TyS.ss]:=by kernel_rfl
theorem Y6:Tryz.prog.eqGuardType Tryz.prog.depth 85=false:=by kernel_rfl
theorem z8:aw Tryz.prog 85 0=some (0,false,1):=by kernel_rfl
theorem Aa:aw Tryz.prog 85 1=some (1,false,1):=by kernel_rfl
theorem Ac:aw Tryz.prog 85 2=some (2,false,1):=by kernel_rfl
theorem Y7:tyk Tryz.prog 86=some (TyK.struct [(0,(false,1)),(1,(false,1)),(2,(false,1))]):=by kernel_rfl
theorem Y8:shp Tryz.prog 86=some (true,3):=by kernel_rfl
theorem Y9:zer Tryz.prog 86=some [(AV.int .i64 0),(AV.int .i64 0),(AV.str [])]:=by kernel_rfl
theorem Za:ah Tryz.prog 86=false:=by kernel_rfl
theorem Zb:aU Tryz.prog 10 86=some [(TyS.si .i64),(TyS.si .i64),TyS.ss]:=by kernel_rfl
theorem Zc:Tryz.prog.eqGuardType Tryz.prog.depth 86=false:=by kernel_rfl
theorem Ad:aw Tryz.prog 86 0=some (0,false,1):=by kernel_rfl
theorem Ae:aw Tryz.prog 86 1=some (1,false,1):=by kernel_rfl
theorem Af:aw Tryz.prog 86 2=some (2,false,1):=by kernel_rfl
theorem Zd:tyk Tryz.prog 87=some TyK.other:=by kernel_rfl
theorem Ze:shp Tryz.prog 87=some (false,1):=by kernel_rfl
theorem Zf:zer Tryz.prog 87=some [(AV.tuple [(AV.str []),AV.undef])]:=by kernel_rfl
theorem Zg:ah Tryz.prog 87=false:=by kernel_rfl
theorem Zh:tyk Tryz.prog 88=some TyK.func:=by kernel_rfl
theorem Zi:shp Tryz.prog 88=some (false,1):=by kernel_rfl
theorem Zj:zer Tryz.prog 88=some [AV.nilFn]:=by kernel_rfl
theorem Zk:ah Tryz.prog 88=false:=by kernel_rfl
theorem Zl:tyk Tryz.prog 89=some TyK.func:=by kernel_rfl
theorem Zm:shp Tryz.prog 89=some (false,1):=by kernel_rfl
theorem Zn:zer Tryz.prog 89=some [AV.nilFn]:=by kernel_rfl
theorem Zo:ah Tryz.prog 89=false:=by kernel_rfl
theorem Zp:tyk Tryz.prog 90=some TyK.func:=by kernel_rfl
theorem Zq:shp Tryz.prog 90=some (false,1):=by kernel_rfl
theorem Zr:zer Tryz.prog 90=some [AV.nilFn]:=by kernel_rfl
theorem Zs:ah Tryz.prog 90=false:=by kernel_rfl
theorem Zt:tyk Tryz.prog 91=some (TyK.struct [(0,(false,1)),(1,(false,1)),(2,(false,1))]):=by kernel_rfl
theorem Zu:shp Tryz.prog 91=some (true,3):=by kernel_rfl
theorem Zv:zer Tryz.prog 91=some [AV.nilPtr,(AV.str []),(AV.int .i64 0)]:=by kernel_rfl
theorem Zw:ah Tryz.prog 91=false:=by kernel_rfl
theorem Ag:aw Tryz.prog 91 0=some (0,false,1):=by kernel_rfl
theorem Ah:aw Tryz.prog 91 1=some (1,false,1):=by kernel_rfl
theorem Ai:aw Tryz.prog 91 2=some (2,false,1):=by kernel_rfl
theorem Zx:tyk Tryz.prog 92=some (TyK.struct [(0,(false,1)),(1,(false,1)),(2,(false,1))]):=by kernel_rfl
theorem Zy:shp Tryz.prog 92=some (true,3):=by kernel_rfl
theorem Zz:zer Tryz.prog 92=some [AV.nilPtr,(AV.str []),(AV.int .i64 0)]:=by kernel_rfl
theorem ZA:ah Tryz.prog 92=false:=by kernel_rfl
theorem Aj:aw Tryz.prog 92 0=some (0,false,1):=by kernel_rfl
theorem Ak:aw Tryz.prog 92 1=some (1,false,1):=by kernel_rfl
theorem Al:aw Tryz.prog 92 2=some (2,false,1):=by kernel_rfl
theorem ZB:tyk Tryz.prog 93=some TyK.func:=by kernel_rfl
theorem ZC:shp Tryz.prog 93=some (false,1):=by kernel_rfl
theorem ZD:zer Tryz.prog 93=some [AV.nilFn]:=by kernel_rfl
theorem ZE:ah Tryz.prog 93=false:=by kernel_rfl
theorem ZF:tyk Tryz.prog 94=some TyK.other:=by kernel_rfl
theorem ZG:shp Tryz.prog 94=some (false,1):=by kernel_rfl
theorem ZH:zer Tryz.prog 94=some [(AV.tuple [(AV.str []),AV.undef,(AV.int .i64 0)])]:=by kernel_rfl
theorem ZI:ah Tryz.prog 94=false:=by kernel_rfl
theorem ZJ:tyk Tryz.prog 95=some TyK.func:=by kernel_rfl
theorem ZK:shp Tryz.prog 95=some (false,1):=by kernel_rfl
theorem ZL:zer Tryz.prog 95=some [AV.nilFn]:=by kernel_rfl
theorem ZM:ah Tryz.prog 95=false:=by kernel_rfl
theorem ZN:tyk Tryz.prog 96=some TyK.func:=by kernel_rfl
theorem ZO:shp Tryz.prog 96=some (false,1):=by kernel_rfl
theorem ZP:zer Tryz.prog 96=some [AV.nilFn]:=by kernel_rfl
theorem ZQ:ah Tryz.prog 96=false:=by kernel_rfl
theorem ZR:tyk Tryz.prog 97=some (TyK.struct [(0,(false,1)),(1,(false,1)),(2,(false,1))]):=by kernel_rfl
theorem ZS:shp Tryz.prog 97=some (true,3):=by kernel_rfl
theorem ZT:zer Tryz.prog 97=some [AV.nilPtr,(AV.str []),(AV.int .i64 0)]:=by kernel_rfl
theorem ZU:ah Tryz.prog 97=false:=by kernel_rfl
theorem Am:aw Tryz.prog 97 0=some (0,false,1):=by kernel_rfl
theorem Ao:aw Tryz.prog 97 1=some (1,false,1):=by kernel_rfl
theorem Ap:aw Tryz.prog 97 2=some (2,false,1):=by kernel_rfl
theorem ZV:tyk Tryz.prog 98=some (TyK.struct [(0,(false,1)),(1,(false,1)),(2,(false,1))]):=by kernel_rfl
theorem ZW:shp Tryz.prog 98=some (true,3):=by kernel_rfl
theorem ZX:zer Tryz.prog 98=some [AV.nilPtr,(AV.str []),(AV.int .i64 0)]:=by kernel_rfl
theorem ZY:ah Tryz.prog 98=false:=by kernel_rfl
theorem Aq:aw Tryz.prog 98 0=some (0,false,1):=by kernel_rfl
theorem Ar:aw Tryz.prog 98 1=some (1,false,1):=by kernel_rfl
theorem Au:aw Tryz.prog 98 2=some (2,false,1):=by kernel_rfl
theorem ZZ:tyk Tryz.prog 99=some TyK.func:=by kernel_rfl
theorem Z0:shp Tryz.prog 99=some (false,1):=by kernel_rfl
theorem Z9:zer Tryz.prog 99=some [AV.nilFn]:=by kernel_rfl
theorem aaa:ah Tryz.prog 99=false:=by kernel_rfl
theorem Cl:tyk Tryz.prog 100=some TyK.func:=by kernel_rfl
theorem Cm:shp Tryz.prog 100=some (false,1):=by kernel_rfl
theorem Cn:zer Tryz.prog 100=some [AV.nilFn]:=by kernel_rfl
theorem Co:ah Tryz.prog 100=false:=by kernel_rfl
theorem Cp:tyk Tryz.prog 101=some TyK.func:=by kernel_rfl
theorem Cq:shp Tryz.prog 101=some (false,1):=by kernel_rfl
theorem Cr:zer Tryz.prog 101=some [AV.nilFn]:=by kernel_rfl
theorem Cs:ah Tryz.prog 101=false:=by kernel_rfl
theorem Ct:tyk Tryz.prog 102=some TyK.func:=by kernel_rfl
theorem Cu:shp Tryz.prog 102=some (false,1):=by kernel_rfl
theorem Cv:zer Tryz.prog 102=some [AV.nilFn]:=by kernel_rfl
theorem Cw:ah Tryz.prog 102=false:=by kernel_rfl
theorem Cx:tyk Tryz.prog 103=some TyK.func:=by kernel_rfl
theorem Cy:shp Tryz.prog 103=some (false,1):=by kernel_rfl
theorem Cz:zer Tryz.prog 103=some [AV.nilFn]:=by kernel_rfl
theorem CA:ah Tryz.prog 103=false:=by kernel_rfl
theorem CB:tyk Tryz.prog 104=some TyK.func:=by kernel_rfl
theorem CD:shp Tryz.prog 104=some (false,1):=by kernel_rfl
theorem CE:zer Tryz.prog 104=some [AV.nilFn]:=by kernel_rfl
theorem CF:ah Tryz.prog 104=false:=by kernel_rfl
theorem CG:tyk Tryz.prog 105=some TyK.other:=by kernel_rfl
theorem CH:shp Tryz.prog 105=some (false,1):=by kernel_rfl
theorem CI:zer Tryz.prog 105=some [(AV.tuple [(AV.int .u8 0),(AV.str [])])]:=by kernel_rfl
theorem CJ:ah Tryz.prog 105=false:=by kernel_rfl
theorem CK:tyk Tryz.prog 106=some TyK.func:=by kernel_rfl
theorem CL:shp Tryz.prog 106=some (false,1):=by kernel_rfl
theorem CM:zer Tryz.prog 106=some [AV.nilFn]:=by kernel_rfl
theorem CN:ah Tryz.prog 106=false:=by kernel_rfl
theorem CO:tyk Tryz.prog 107=some TyK.func:=by kernel_rfl
theorem CP:shp Tryz.prog 107=some (false,1):=by kernel_rfl
theorem CQ:zer Tryz.prog 107=some [AV.nilFn]:=by kernel_rfl
theorem CR:ah Tryz.prog 107=false:=by kernel_rfl
theorem CS:tyk Tryz.prog 108=some TyK.func:=by kernel_rfl
theorem CT:shp Tryz.prog 108=some (false,1):=by kernel_rfl
theorem CU:zer Tryz.prog 108=some [AV.nilFn]:=by kernel_rfl
theorem CV:ah Tryz.prog 108=false:=by kernel_rfl
theorem CW:tyk Tryz.prog 109=some (TyK.ptr 112):=by kernel_rfl
theorem CX:shp Tryz.prog 109=some (false,1):=by kernel_rfl
theorem CY:zer Tryz.prog 109=some [AV.nilPtr]:=by kernel_rfl
theorem CZ:ah Tryz.prog 109=false:=by kernel_rfl
theorem C0:tyk Tryz.prog 110=some (TyK.slice 5 false 1 1):=by kernel_rfl
theorem C2:shp Tryz.prog 110=some (false,1):=by kernel_rfl
theorem C3:zer Tryz.prog 110=some [AV.nilSl]:=by kernel_rfl
theorem C4:ah Tryz.prog 110=false:=by kernel_rfl
theorem C5:tyk Tryz.prog 111=some (TyK.struct [(0,(false,1)),(1,(false,1))]):=by kernel_rfl
theorem C6:shp Tryz.prog 111=some (true,2):=by kernel_rfl
theorem C7:zer Tryz.prog 111=some [AV.nilPtr,AV.nilSl]:=by kernel_rfl
theorem C8:ah Tryz.prog 111=false:=by kernel_rfl
theorem uR:aw Tryz.prog 111 0=some (0,false,1):=by kernel_rfl
theorem uS:aw Tryz.prog 111 1=some (1,false,1):=by kernel_rfl
theorem C9:tyk Tryz.prog 112=some (TyK.struct [(0,(false,1)),(1,(false,1))]):=by kernel_rfl
theorem Da:shp Tryz.prog 112=some (true,2):=by kernel_rfl
theorem Db:zer Tryz.prog 112=some [AV.nilPtr,AV.nilSl]:=by kernel_rfl
theorem Dc:ah Tryz.prog 112=true:=by kernel_rfl
theorem uT:aw Tryz.prog 112 0=some (0,false,1):=by kernel_rfl
theorem uU:aw Tryz.prog 112 1=some (1,false,1):=by kernel_rfl
theorem Dd:tyk Tryz.prog 113=some (TyK.iface 1):=by kernel_rfl
theorem De:shp Tryz.prog 113=some (false,1):=by kernel_rfl
theorem Df:zer Tryz.prog 113=some [AV.nilIface]:=by kernel_rfl
theorem Dg:ah Tryz.prog 113=false:=by kernel_rfl
theorem Dh:tyk Tryz.prog 114=some (TyK.iface 1):=by kernel_rfl
theorem Di:shp Tryz.prog 114=some (false,1):=by kernel_rfl
theorem Dj:zer Tryz.prog 114=some [AV.nilIface]:=by kernel_rfl
theorem Dk:ah Tryz.prog 114=false:=by kernel_rfl
theorem Dl:tyk Tryz.prog 115=some TyK.func:=by kernel_rfl
theorem Dm:shp Tryz.prog 115=some (false,1):=by kernel_rfl
theorem Dn:zer Tryz.prog 115=some [AV.nilFn]:=by kernel_rfl
theorem Dp:ah Tryz.prog 115=false:=by kernel_rfl
theorem Dq:tyk Tryz.prog 116=some TyK.func:=by kernel_rfl
theorem Dr:shp Tryz.prog 116=some (false,1):=by kernel_rfl
theorem Ds:zer Tryz.prog 116=some [AV.nilFn]:=by kernel_rfl
theorem Dt:ah Tryz.prog 116=false:=by kernel_rfl
theorem Du:tyk Tryz.prog 117=some (TyK.map 9 86):=by kernel_rfl
theorem Dv:shp Tryz.prog 117=some (false,1):=by kernel_rfl
theorem Dw:zer Tryz.prog 117=some [AV.nilMap]:=by kernel_rfl
theorem Dx:ah Tryz.prog 117=false:=by kernel_rfl
theorem Dy:kc Tryz.prog 117=some ([TyS.ss],(false,(AV.agg [(AV.int .i64 0),(AV.int .i64 0),(AV.str [])]))):=by kernel_rfl
theorem Dz:dI Tryz.prog 117=some ([TyS.ss],false):=by kernel_rfl
theorem DA:tyk Tryz.prog 118=some (TyK.map 9 86):=by kernel_rfl
theorem DB:shp Tryz.prog 118=some (false,1):=by kernel_rfl
theorem DC:zer Tryz.prog 118=some [AV.nilMap]:=by kernel_rfl
theorem DD:ah Tryz.prog 118=false:=by kernel_rfl
theorem DE:kc Tryz.prog 118=some ([TyS.ss],(false,(AV.agg [(AV.int .i64 0),(AV.int .i64 0),(AV.str [])]))):=by kernel_rfl
theorem DF:dI Tryz.prog 118=some ([TyS.ss],false):=by kernel_rfl
theorem DG:tyk Tryz.prog 119=some (TyK.ptr 144):=by kernel_rfl
theorem DH:shp Tryz.prog 119=some (false,1):=by kernel_rfl
theorem DI:zer Tryz.prog 119=some [AV.nilPtr]:=by kernel_rfl
theorem DK:ah Tryz.prog 119=false:=by kernel_rfl
theorem DL:tyk Tryz.prog 120=some (TyK.struct [(0,(false,1)),(1,(false,1))]):=by kernel_rfl
theorem DM:shp Tryz.prog 120=some (true,2):=by kernel_rfl
theorem DN:zer Tryz.prog 120=some [AV.nilMap,AV.nilPtr]:=by kernel_rfl
theorem DO:ah Tryz.prog 120=false:=by kernel_rfl
theorem uV:aw Tryz.prog 120 0=some (0,false,1):=by kernel_rfl
theorem uW:aw Tryz.prog 120 1=some (1,false,1):=by kernel_rfl
theorem DP:tyk Tryz.prog 121=some (TyK.struct [(0,(false,1)),(1,(false,1))]):=by kernel_rfl
theorem DQ:shp Tryz.prog 121=some (true,2):=by kernel_rfl
theorem DS:zer Tryz.prog 121=some [AV.nilMap,AV.nilPtr]:=by kernel_rfl
theorem DT:ah Tryz.prog 121=false:=by kernel_rfl
theorem uX:aw Tryz.prog 121 0=some (0,false,1):=by kernel_rfl
theorem uY:aw Tryz.prog 121 1=some (1,false,1):=by kernel_rfl
theorem DU:tyk Tryz.prog 122=some (TyK.slice 148 true 4 48):=by kernel_rfl
theorem DV:shp Tryz.prog 122=some (false,1):=by kernel_rfl
theorem DW:zer Tryz.prog 122=some [AV.nilSl]:=by kernel_rfl
theorem DX:ah Tryz.prog 122=false:=by kernel_rfl
theorem DY:tyk Tryz.prog 123=some (TyK.slice 189 true 3 40):=by kernel_rfl
theorem DZ:shp Tryz.prog 123=some (false,1):=by kernel_rfl
theorem D0:zer Tryz.prog 123=some [AV.nilSl]:=by kernel_rfl
theorem D1:ah Tryz.prog 123=false:=by kernel_rfl
theorem D2:tyk Tryz.prog 124=some (TyK.struct [(0,(false,1)),(1,(false,1)),(2,(false,1)),(3,(false,1)),(4,(false,1))]):=by kernel_rfl
theorem D3:shp Tryz.prog 124=some (true,5):=by kernel_rfl
theorem D4:zer Tryz.prog 124=some [AV.nilSl,AV.nilSl,AV.nilSl,AV.nilSl,(AV.bool false)]:=by kernel_rfl
theorem D5:ah Tryz.prog 124=false:=by kernel_rfl
theorem uZ:aw Tryz.prog 124 0=some (0,false,1):=by kernel_rfl
theorem u7:aw Tryz.prog 124 1=some (1,false,1):=by kernel_rfl
theorem u9:aw Tryz.prog 124 2=some (2,false,1):=by kernel_rfl
theorem va:aw Tryz.prog 124 3=some (3,false,1):=by kernel_rfl
theorem vb:aw Tryz.prog 124 4=some (4,false,1):=by kernel_rfl
theorem D6:tyk Tryz.prog 125=some (TyK.struct [(0,(false,1)),(1,(false,1)),(2,(false,1)),(3,(false,1)),(4,(false,1))]):=by kernel_rfl
theorem D7:shp Tryz.prog 125=some (true,5):=by kernel_rfl
theorem D8:zer Tryz.prog 125=some [AV.nilSl,AV.nilSl,AV.nilSl,AV.nilSl,(AV.bool false)]:=by kernel_rfl
theorem D9:ah Tryz.prog 125=false:=by kernel_rfl
theorem vc:aw Tryz.prog 125 0=some (0,false,1):=by kernel_rfl
theorem vd:aw Tryz.prog 125 1=some (1,false,1):=by kernel_rfl
theorem ve:aw Tryz.prog 125 2=some (2,false,1):=by kernel_rfl
theorem vf:aw Tryz.prog 125 3=some (3,false,1):=by kernel_rfl
theorem vg:aw Tryz.prog 125 4=some (4,false,1):=by kernel_rfl
theorem Ea:tyk Tryz.prog 126=some TyK.func:=by kernel_rfl
theorem Eb:shp Tryz.prog 126=some (false,1):=by kernel_rfl
theorem Ec:zer Tryz.prog 126=some [AV.nilFn]:=by kernel_rfl
theorem Ed:ah Tryz.prog 126=false:=by kernel_rfl
theorem Ee:tyk Tryz.prog 127=some TyK.func:=by kernel_rfl
theorem Ef:shp Tryz.prog 127=some (false,1):=by kernel_rfl
theorem Eg:zer Tryz.prog 127=some [AV.nilFn]:=by kernel_rfl
theorem Eh:ah Tryz.prog 127=false:=by kernel_rfl
theorem Ei:tyk Tryz.prog 128=some TyK.func:=by kernel_rfl
theorem Ej:shp Tryz.prog 128=some (false,1):=by kernel_rfl
theorem Ek:zer Tryz.prog 128=some [AV.nilFn]:=by kernel_rfl
theorem El:ah Tryz.prog 128=false:=by kernel_rfl
theorem Em:tyk Tryz.prog 129=some TyK.other:=by kernel_rfl
theorem En:shp Tryz.prog 129=some (false,1):=by kernel_rfl
theorem Eo:zer Tryz.prog 129=some [(AV.tuple [(AV.int .i64 0),(AV.bool false)])]:=by kernel_rfl
theorem Ep:ah Tryz.prog 129=false:=by kernel_rfl
theorem Er:tyk Tryz.prog 130=some TyK.func:=by kernel_rfl
theorem Es:shp Tryz.prog 130=some (false,1):=by kernel_rfl
theorem Et:zer Tryz.prog 130=some [AV.nilFn]:=by kernel_rfl
theorem Eu:ah Tryz.prog 130=false:=by kernel_rfl
theorem Ev:tyk Tryz.prog 131=some TyK.other:=by kernel_rfl
theorem Ew:shp Tryz.prog 131=some (false,1):=by kernel_rfl
theorem Ex:zer Tryz.prog 131=some [(AV.tuple [AV.nilSl,(AV.int .i64 0)])]:=by kernel_rfl
theorem Ey:ah Tryz.prog 131=false:=by kernel_rfl
theorem Ez:tyk Tryz.prog 132=some TyK.func:=by kernel_rfl
theorem EA:shp Tryz.prog 132=some (false,1):=by kernel_rfl
theorem EB:zer Tryz.prog 132=some [AV.nilFn]:=by kernel_rfl
theorem EC:ah Tryz.prog 132=false:=by kernel_rfl
theorem ED:tyk Tryz.prog 133=some TyK.func:=by kernel_rfl
theorem EE:shp Tryz.prog 133=some (false,1):=by kernel_rfl
theorem EF:zer Tryz.prog 133=some [AV.nilFn]:=by kernel_rfl
theorem EH:ah Tryz.prog 133=false:=by kernel_rfl
theorem EI:tyk Tryz.prog 134=some (TyK.arr 2 9 false 1):=by kernel_rfl
theorem EJ:shp Tryz.prog 134=some (true,2):=by kernel_rfl
theorem EL:zer Tryz.prog 134=some [(AV.str []),(AV.str [])]:=by kernel_rfl
theorem EM:ah Tryz.prog 134=false:=by kernel_rfl
theorem EN:tyk Tryz.prog 135=some (TyK.map 9 76):=by kernel_rfl
theorem EO:shp Tryz.prog 135=some (false,1):=by kernel_rfl
theorem EP:zer Tryz.prog 135=some [AV.nilMap]:=by kernel_rfl
theorem ER:ah Tryz.prog 135=false:=by kernel_rfl
theorem ES:kc Tryz.prog 135=some ([TyS.ss],(false,AV.nilFn)):=by kernel_rfl
theorem ET:dI Tryz.prog 135=some ([TyS.ss],false):=by kernel_rfl
theorem EU:tyk Tryz.prog 136=some TyK.other:=by kernel_rfl
theorem EV:shp Tryz.prog 136=some (false,1):=by kernel_rfl
theorem EW:zer Tryz.prog 136=some [(AV.tuple [AV.nilFn,(AV.bool false)])]:=by kernel_rfl
theorem EX:ah Tryz.prog 136=false:=by kernel_rfl
theorem EY:tyk Tryz.prog 137=some TyK.func:=by kernel_rfl
theorem EZ:shp Tryz.prog 137=some (false,1):=by kernel_rfl
theorem E0:zer Tryz.prog 137=some [AV.nilFn]:=by kernel_rfl
theorem E3:ah Tryz.prog 137=false:=by kernel_rfl
theorem E4:tyk Tryz.prog 138=some (TyK.ptr 140):=by kernel_rfl
theorem E5:shp Tryz.prog 138=some (false,1):=by kernel_rfl
theorem E6:zer Tryz.prog 138=some [AV.nilPtr]:=by kernel_rfl
theorem E7:ah Tryz.prog 138=false:=by kernel_rfl
theorem E8:tyk Tryz.prog 139=some (TyK.struct [(0,(false,1)),(1,(false,1)),(2,(false,1)),(3,(false,1)),(4,(false,1)),(5,(false,1))]):=by kernel_rfl
theorem E9:shp Tryz.prog 139=some (true,6):=by kernel_rfl
theorem Fa:zer Tryz.prog 139=some [AV.nilPtr,(AV.str []),AV.nilSl,(AV.int .i64 0),(AV.bool false),(AV.bool false)]:=by kernel_rfl
theorem Fb:ah Tryz.prog 139=false:=by kernel_rfl
theorem vh:aw Tryz.prog 139 0=some (0,false,1):=by kernel_rfl
theorem vi:aw Tryz.prog 139 1=some (1,false,1):=by kernel_rfl
theorem vj:aw Tryz.prog 139 2=some (2,false,1):=by kernel_rfl
theorem vk:aw Tryz.prog 139 3=some (3,false,1):=by kernel_rfl
theorem vl:aw Tryz.prog 139 4=some (4,false,1):=by kernel_rfl
theorem vm:aw Tryz.prog 139 5=some (5,false,1):=by kernel_rfl
theorem Fe:tyk Tryz.prog 140=some (TyK.struct [(0,(false,1)),(1,(false,1)),(2,(false,1)),(3,(false,1)),(4,(false,1)),(5,(false,1))]):=by kernel_rfl
theorem Ff:shp Tryz.prog 140=some (true,6):=by kernel_rfl
theorem Fg:zer Tryz.prog 140=some [AV.nilPtr,(AV.str []),AV.nilSl,(AV.int .i64 0),(AV.bool false),(AV.bool false)]:=by kernel_rfl
theorem Fh:ah Tryz.prog 140=false:=by kernel_rfl
theorem vn:aw Tryz.prog 140 0=some (0,false,1):=by kernel_rfl
theorem vo:aw Tryz.prog 140 1=some (1,false,1):=by kernel_rfl
theorem vp:aw Tryz.prog 140 2=some (2,false,1):=by kernel_rfl
theorem vq:aw Tryz.prog 140 3=some (3,false,1):=by kernel_rfl
theorem vr:aw Tryz.prog 140 4=some (4,false,1):=by kernel_rfl
theorem vt:aw Tryz.prog 140 5=some (5,false,1):=by kernel_rfl
theorem Fi:tyk Tryz.prog 141=some (TyK.map 156 9):=by kernel_rfl
theorem Fj:shp Tryz.prog 141=some (false,1):=by kernel_rfl
theorem Fk:zer Tryz.prog 141=some [AV.nilMap]:=by kernel_rfl
theorem Fl:ah Tryz.prog 141=false:=by kernel_rfl
theorem Fm:kc Tryz.prog 141=some ([TyS.ss,TyS.sb],(true,(AV.str []))):=by kernel_rfl
theorem Fo:dI Tryz.prog 141=some ([TyS.ss,TyS.sb],true):=by kernel_rfl
theorem Fp:tyk Tryz.prog 142=some (TyK.map 9 4):=by kernel_rfl
theorem Fq:shp Tryz.prog 142=some (false,1):=by kernel_rfl
theorem Fs:zer Tryz.prog 142=some [AV.nilMap]:=by kernel_rfl
theorem Ft:ah Tryz.prog 142=false:=by kernel_rfl
theorem Fu:kc Tryz.prog 142=some ([TyS.ss],(false,(AV.bool false))):=by kernel_rfl
theorem Fv:dI Tryz.prog 142=some ([TyS.ss],false):=by kernel_rfl
theorem Fw:tyk Tryz.prog 143=some (TyK.struct [(0,(false,1)),(1,(false,1)),(2,(false,1))]):=by kernel_rfl
theorem Fx:shp Tryz.prog 143=some (true,3):=by kernel_rfl
theorem Fy:zer Tryz.prog 143=some [AV.nilMap,AV.nilMap,AV.nilMap]:=by kernel_rfl
theorem Fz:ah Tryz.prog 143=false:=by kernel_rfl
theorem vu:aw Tryz.prog 143 0=some (0,false,1):=by kernel_rfl
theorem vv:aw Tryz.prog 143 1=some (1,false,1):=by kernel_rfl
theorem vw:aw Tryz.prog 143 2=some (2,false,1):=by kernel_rfl
theorem FA:tyk Tryz.prog 144=some (TyK.struct [(0,(false,1)),(1,(false,1)),(2,(false,1))]):=by kernel_rfl
theorem FB:shp Tryz.prog 144=some (true,3):=by kernel_rfl
theorem FC:zer Tryz.prog 144=some [AV.nilMap,AV.nilMap,AV.nilMap]:=by kernel_rfl
theorem FD:ah Tryz.prog 144=false:=by kernel_rfl
theorem vx:aw Tryz.prog 144 0=some (0,false,1):=by kernel_rfl
theorem vz:aw Tryz.prog 144 1=some (1,false,1):=by kernel_rfl
theorem vA:aw Tryz.prog 144 2=some (2,false,1):=by kernel_rfl
theorem FE:tyk Tryz.prog 145=some TyK.other:=by kernel_rfl
theorem FF:shp Tryz.prog 145=some (false,1):=by kernel_rfl
theorem FG:zer Tryz.prog 145=some [(AV.tuple [AV.nilSl,(AV.bool false)])]:=by kernel_rfl
theorem FH:ah Tryz.prog 145=false:=by kernel_rfl
theorem FI:tyk Tryz.prog 146=some TyK.func:=by kernel_rfl
theorem FJ:shp Tryz.prog 146=some (false,1):=by kernel_rfl
theorem FK:zer Tryz.prog 146=some [AV.nilFn]:=by kernel_rfl
theorem FL:ah Tryz.prog 146=false:=by kernel_rfl
theorem FM:tyk Tryz.prog 147=some (TyK.struct [(0,(false,1)),(1,(true,3))]):=by kernel_rfl
theorem FN:shp Tryz.prog 147=some (true,4):=by kernel_rfl
theorem FO:zer Tryz.prog 147=some [(AV.str []),(AV.int .i64 0),(AV.int .i64 0),(AV.str [])]:=by kernel_rfl
theorem FP:ah Tryz.prog 147=false:=by kernel_rfl
theorem FQ:aU Tryz.prog 10 147=some [TyS.ss,(TyS.si .i64),(TyS.si .i64),TyS.ss]:=by kernel_rfl
theorem FR:Tryz.prog.eqGuardType Tryz.prog.depth 147=false:=by kernel_rfl
theorem vB:aw Tryz.prog 147 0=some (0,false,1):=by kernel_rfl
theorem vC:aw Tryz.prog 147 1=some (1,true,3):=by kernel_rfl
theorem FT:tyk Tryz.prog 148=some (TyK.struct [(0,(false,1)),(1,(true,3))]):=by kernel_rfl
theorem FU:shp Tryz.prog 148=some (true,4):=by kernel_rfl
theorem FV:zer Tryz.prog 148=some [(AV.str []),(AV.int .i64 0),(AV.int .i64 0),(AV.str [])]:=by kernel_rfl
theorem FW:ah Tryz.prog 148=false:=by kernel_rfl
theorem FX:aU Tryz.prog 10 148=some [TyS.ss,(TyS.si .i64),(TyS.si .i64),TyS.ss]:=by kernel_rfl
theorem FY:Tryz.prog.eqGuardType Tryz.prog.depth 148=false:=by kernel_rfl
theorem vD:aw Tryz.prog 148 0=some (0,false,1):=by kernel_rfl
theorem vE:aw Tryz.prog 148 1=some (1,true,3):=by kernel_rfl
theorem FZ:tyk Tryz.prog 149=some TyK.func:=by kernel_rfl
theorem Ga:shp Tryz.prog 149=some (false,1):=by kernel_rfl
theorem Gb:zer Tryz.prog 149=some [AV.nilFn]:=by kernel_rfl
theorem Gc:ah Tryz.prog 149=false:=by kernel_rfl
theorem Gd:tyk Tryz.prog 150=some TyK.func:=by kernel_rfl
theorem Ge:shp Tryz.prog 150=some (false,1):=by kernel_rfl
theorem Gf:zer Tryz.prog 150=some [AV.nilFn]:=by kernel_rfl
theorem Gg:ah Tryz.prog 150=false:=by kernel_rfl
theorem Gi:tyk Tryz.prog 151=some TyK.func:=by kernel_rfl
theorem Gj:shp Tryz.prog 151=some (false,1):=by kernel_rfl
theorem Gk:zer Tryz.prog 151=some [AV.nilFn]:=by kernel_rfl
theorem Gl:ah Tryz.prog 151=false:=by kernel_rfl
theorem Gm:tyk Tryz.prog 152=some TyK.func:=by kernel_rfl
theorem Gn:shp Tryz.prog 152=some (false,1):=by kernel_rfl
theorem Gp:zer Tryz.prog 152=some [AV.nilFn]:=by kernel_rfl
theorem Gq:ah Tryz.prog 152=false:=by kernel_rfl
theorem Gr:tyk Tryz.prog 153=some TyK.func:=by kernel_rfl
theorem Gs:shp Tryz.prog 153=some (false,1):=by kernel_rfl
theorem Gt:zer Tryz.prog 153=some [AV.nilFn]:=by kernel_rfl
theorem Gu:ah Tryz.prog 153=false:=by kernel_rfl
theorem Gv:tyk Tryz.prog 154=some TyK.func:=by kernel_rfl
theorem Gw:shp Tryz.prog 154=some (false,1):=by kernel_rfl
theorem Gx:zer Tryz.prog 154=some [AV.nilFn]:=by kernel_rfl
theorem Gy:ah Tryz.prog 154=false:=by kernel_rfl
theorem Gz:tyk Tryz.prog 155=some (TyK.struct [(0,(false,1)),(1,(false,1))]):=by kernel_rfl
theorem GA:shp Tryz.prog 155=some (true,2):=by kernel_rfl
theorem GB:zer Tryz.prog 155=some [(AV.str []),(AV.bool false)]:=by kernel_rfl
theorem GC:ah Tryz.prog 155=false:=by kernel_rfl
theorem GD:aU Tryz.prog 10 155=some [TyS.ss,TyS.sb]:=by kernel_rfl
theorem GF:Tryz.prog.eqGuardType Tryz.prog.depth 155=false:=by kernel_rfl
theorem vF:aw Tryz.prog 155 0=some (0,false,1):=by kernel_rfl
theorem vG:aw Tryz.prog 155 1=some (1,false,1):=by kernel_rfl
theorem GG:tyk Tryz.prog 156=some (TyK.struct [(0,(false,1)),(1,(false,1))]):=by kernel_rfl
theorem GH:shp Tryz.prog 156=some (true,2):=by kernel_rfl
theorem GI:zer Tryz.prog 156=some [(AV.str []),(AV.bool false)]:=by kernel_rfl
theorem GJ:ah Tryz.prog 156=false:=by kernel_rfl
theorem GK:aU Tryz.prog 10 156=some [TyS.ss,TyS.sb]:=by kernel_rfl
theorem GL:Tryz.prog.eqGuardType Tryz.prog.depth 156=false:=by kernel_rfl
theorem vH:aw Tryz.prog 156 0=some (0,false,1):=by kernel_rfl
theorem vI:aw Tryz.prog 156 1=some (1,false,1):=by kernel_rfl
theorem GM:tyk Tryz.prog 157=some TyK.func:=by kernel_rfl
theorem GN:shp Tryz.prog 157=some (false,1):=by kernel_rfl
theorem GO:zer Tryz.prog 157=some [AV.nilFn]:=by kernel_rfl
theorem GP:ah Tryz.prog 157=false:=by kernel_rfl
theorem GQ:tyk Tryz.prog 158=some TyK.func:=by kernel_rfl
theorem GR:shp Tryz.prog 158=some (false,1):=by kernel_rfl
theorem GS:zer Tryz.prog 158=some [AV.nilFn]:=by kernel_rfl
theorem GU:ah Tryz.prog 158=false:=by kernel_rfl
theorem GV:tyk Tryz.prog 159=some TyK.func:=by kernel_rfl
theorem GW:shp Tryz.prog 159=some (false,1):=by kernel_rfl
theorem GX:zer Tryz.prog 159=some [AV.nilFn]:=by kernel_rfl
theorem GY:ah Tryz.prog 159=false:=by kernel_rfl
theorem GZ:tyk Tryz.prog 160=some TyK.func:=by kernel_rfl
theorem G0:shp Tryz.prog 160=some (false,1):=by kernel_rfl
theorem G3:zer Tryz.prog 160=some [AV.nilFn]:=by kernel_rfl
theorem G4:ah Tryz.prog 160=false:=by kernel_rfl
theorem G5:tyk Tryz.prog 161=some (TyK.ptr 5):=by kernel_rfl
theorem G6:shp Tryz.prog 161=some (false,1):=by kernel_rfl
theorem G7:zer Tryz.prog 161=some [AV.nilPtr]:=by kernel_rfl
theorem G8:ah Tryz.prog 161=false:=by kernel_rfl
theorem G9:tyk Tryz.prog 162=some TyK.func:=by kernel_rfl
theorem Ha:shp Tryz.prog 162=some (false,1):=by kernel_rfl
theorem Hb:zer Tryz.prog 162=some [AV.nilFn]:=by kernel_rfl
theorem Hc:ah Tryz.prog 162=false:=by kernel_rfl
theorem Hd:tyk Tryz.prog 163=some TyK.other:=by kernel_rfl
theorem He:shp Tryz.prog 163=some (false,1):=by kernel_rfl
theorem Hf:zer Tryz.prog 163=some [(AV.tuple [(AV.int .i64 0),AV.nilIface])]:=by kernel_rfl
theorem Hh:ah Tryz.prog 163=false:=by kernel_rfl
theorem Hi:tyk Tryz.prog 164=some TyK.func:=by kernel_rfl
theorem Hj:shp Tryz.prog 164=some (false,1):=by kernel_rfl
theorem Hk:zer Tryz.prog 164=some [AV.nilFn]:=by kernel_rfl
theorem Hl:ah Tryz.prog 164=false:=by kernel_rfl
theorem Hm:tyk Tryz.prog 165=some TyK.func:=by kernel_rfl
theorem Hn:shp Tryz.prog 165=some (false,1):=by kernel_rfl
theorem Ho:zer Tryz.prog 165=some [AV.nilFn]:=by kernel_rfl
theorem Hp:ah Tryz.prog 165=false:=by kernel_rfl
theorem Hq:tyk Tryz.prog 166=some TyK.func:=by kernel_rfl
theorem Hr:shp Tryz.prog 166=some (false,1):=by kernel_rfl
theorem Hs:zer Tryz.prog 166=some [AV.nilFn]:=by kernel_rfl
theorem Ht:ah Tryz.prog 166=false:=by kernel_rfl
theorem Hu:tyk Tryz.prog 167=some TyK.func:=by kernel_rfl
theorem Hv:shp Tryz.prog 167=some (false,1):=by kernel_rfl
theorem Hw:zer Tryz.prog 167=some [AV.nilFn]:=by kernel_rfl
theorem Hx:ah Tryz.prog 167=false:=by kernel_rfl
theorem Hy:tyk Tryz.prog 168=some TyK.func:=by kernel_rfl
theorem Hz:shp Tryz.prog 168=some (false,1):=by kernel_rfl
theorem HA:zer Tryz.prog 168=some [AV.nilFn]:=by kernel_rfl
theorem HB:ah Tryz.prog 168=false:=by kernel_rfl
theorem HC:tyk Tryz.prog 169=some TyK.func:=by kernel_rfl
theorem HE:shp Tryz.prog 169=some (false,1):=by kernel_rfl
theorem HF:zer Tryz.prog 169=some [AV.nilFn]:=by kernel_rfl
theorem HG:ah Tryz.prog 169=false:=by kernel_rfl
theorem HH:tyk Tryz.prog 170=some TyK.func:=by kernel_rfl
theorem HI:shp Tryz.prog 170=some (false,1):=by kernel_rfl
theorem HJ:zer Tryz.prog 170=some [AV.nilFn]:=by kernel_rfl
theorem HK:ah Tryz.prog 170=false:=by kernel_rfl
theorem HL:tyk Tryz.prog 171=some TyK.func:=by kernel_rfl
theorem HM:shp Tryz.prog 171=some (false,1):=by kernel_rfl
theorem HN:zer Tryz.prog 171=some [AV.nilFn]:=by kernel_rfl
theorem HO:ah Tryz.prog 171=false:=by kernel_rfl
theorem HP:tyk Tryz.prog 172=some TyK.func:=by kernel_rfl
theorem HQ:shp Tryz.prog 172=some (false,1):=by kernel_rfl
theorem HR:zer Tryz.prog 172=some [AV.nilFn]:=by kernel_rfl
theorem HS:ah Tryz.prog 172=false:=by kernel_rfl
theorem HT:tyk Tryz.prog 173=some TyK.func:=by kernel_rfl
theorem HU:shp Tryz.prog 173=some (false,1):=by kernel_rfl
theorem HV:zer Tryz.prog 173=some [AV.nilFn]:=by kernel_rfl
theorem HW:ah Tryz.prog 173=false:=by kernel_rfl
theorem HX:tyk Tryz.prog 174=some TyK.func:=by kernel_rfl
theorem HY:shp Tryz.prog 174=some (false,1):=by kernel_rfl
theorem HZ:zer Tryz.prog 174=some [AV.nilFn]:=by kernel_rfl
theorem H0:ah Tryz.prog 174=false:=by kernel_rfl
theorem H2:tyk Tryz.prog 175=some TyK.func:=by kernel_rfl
theorem H3:shp Tryz.prog 175=some (false,1):=by kernel_rfl
theorem H4:zer Tryz.prog 175=some [AV.nilFn]:=by kernel_rfl
theorem H5:ah Tryz.prog 175=false:=by kernel_rfl
theorem H6:tyk Tryz.prog 176=some TyK.func:=by kernel_rfl
theorem H7:shp Tryz.prog 176=some (false,1):=by kernel_rfl
theorem H8:zer Tryz.prog 176=some [AV.nilFn]:=by kernel_rfl
theorem H9:ah Tryz.prog 176=false:=by kernel_rfl
theorem Ia:tyk Tryz.prog 177=some TyK.func:=by kernel_rfl
theorem Ib:shp Tryz.prog 177=some (false,1):=by kernel_rfl
theorem Ic:zer Tryz.prog 177=some [AV.nilFn]:=by kernel_rfl
theorem Ie:ah Tryz.prog 177=false:=by kernel_rfl
theorem Ig:tyk Tryz.prog 178=some (TyK.arr 256 3 false 1):=by kernel_rfl
theorem Ih:shp Tryz.prog 178=some (true,256):=by kernel_rfl
theorem Ii:ah Tryz.prog 178=false:=by kernel_rfl
theorem Ij:tyk Tryz.prog 179=some TyK.func:=by kernel_rfl
theorem Ik:shp Tryz.prog 179=some (false,1):=by kernel_rfl
theorem Il:zer Tryz.prog 179=some [AV.nilFn]:=by kernel_rfl
theorem Im:ah Tryz.prog 179=false:=by kernel_rfl
theorem Io:tyk Tryz.prog 180=some TyK.func:=by kernel_rfl
theorem Ip:shp Tryz.prog 180=some (false,1):=by kernel_rfl
theorem Iq:zer Tryz.prog 180=some [AV.nilFn]:=by kernel_rfl
theorem Ir:ah Tryz.prog 180=false:=by kernel_rfl
theorem Iu:tyk Tryz.prog 181=some TyK.func:=by kernel_rfl
theorem Iv:shp Tryz.prog 181=some (false,1):=by kernel_rfl
theorem Iw:zer Tryz.prog 181=some [AV.nilFn]:=by kernel_rfl
theorem Ix:ah Tryz.prog 181=false:=by kernel_rfl
theorem Iy:tyk Tryz.prog 182=some TyK.func:=by kernel_rfl
theorem Iz:shp Tryz.prog 182=some (false,1):=by kernel_rfl
theorem IA:zer Tryz.prog 182=some [AV.nilFn]:=by kernel_rfl
theorem IB:ah Tryz.prog 182=false:=by kernel_rfl
theorem IC:tyk Tryz.prog 183=some TyK.func:=by kernel_rfl
theorem ID:shp Tryz.prog 183=some (false,1):=by kernel_rfl
theorem IE:zer Tryz.prog 183=some [AV.nilFn]:=by kernel_rfl
theorem IF:ah Tryz.prog 183=false:=by kernel_rfl
theorem IG:tyk Tryz.prog 184=some TyK.func:=by kernel_rfl
theorem IH:shp Tryz.prog 184=some (false,1):=by kernel_rfl
theorem II:zer Tryz.prog 184=some [AV.nilFn]:=by kernel_rfl
theorem IJ:ah Tryz.prog 184=false:=by kernel_rfl
theorem IK:tyk Tryz.prog 185=some TyK.func:=by kernel_rfl
theorem IL:shp Tryz.prog 185=some (false,1):=by kernel_rfl
theorem IM:zer Tryz.prog 185=some [AV.nilFn]:=by kernel_rfl
theorem IN:ah Tryz.prog 185=false:=by kernel_rfl
theorem IP:tyk Tryz.prog 186=some TyK.other:=by kernel_rfl
theorem IQ:shp Tryz.prog 186=some (false,1):=by kernel_rfl
theorem IS:zer Tryz.prog 186=some [(AV.tuple [(AV.str []),(AV.bool false)])]:=by kernel_rfl
theorem IT:ah Tryz.prog 186=false:=by kernel_rfl
theorem IU:tyk Tryz.prog 187=some TyK.func:=by kernel_rfl
theorem IV:shp Tryz.prog 187=some (false,1):=by kernel_rfl
theorem IW:zer Tryz.prog 187=some [AV.nilFn]:=by kernel_rfl
theorem IX:ah Tryz.prog 187=false:=by kernel_rfl
theorem IY:tyk Tryz.prog 188=some (TyK.struct [(0,(false,1)),(1,(false,1)),(2,(false,1))]):=by kernel_rfl
theorem IZ:shp Tryz.prog 188=some (true,3):=by kernel_rfl
theorem I0:zer Tryz.prog 188=some [(AV.str []),(AV.bool false),(AV.str [])]:=by kernel_rfl
theorem I1:ah Tryz.prog 188=false:=by kernel_rfl
theorem I2:aU Tryz.prog 10 188=some [TyS.ss,TyS.sb,TyS.ss]:=by kernel_rfl
theorem I3:Tryz.prog.eqGuardType Tryz.prog.depth 188=false:=by kernel_rfl
theorem vJ:aw Tryz.prog 188 0=some (0,false,1):=by kernel_rfl
theorem vK:aw Tryz.prog 188 1=some (1,false,1):=by kernel_rfl
theorem vL:aw Tryz.prog 188 2=some (2,false,1):=by kernel_rfl
theorem I4:tyk Tryz.prog 189=some (TyK.struct [(0,(false,1)),(1,(false,1)),(2,(false,1))]):=by kernel_rfl
theorem I5:shp Tryz.prog 189=some (true,3):=by kernel_rfl
theorem I6:zer Tryz.prog 189=some [(AV.str []),(AV.bool false),(AV.str [])]:=by kernel_rfl
theorem I7:ah Tryz.prog 189=false:=by kernel_rfl
theorem I8:aU Tryz.prog 10 189=some [TyS.ss,TyS.sb,TyS.ss]:=by kernel_rfl
theorem I9:Tryz.prog.eqGuardType Tryz.prog.depth 189=false:=by kernel_rfl
theorem vM:aw Tryz.prog 189 0=some (0,false,1):=by kernel_rfl
theorem vN:aw Tryz.prog 189 1=some (1,false,1):=by kernel_rfl
theorem vO:aw Tryz.prog 189 2=some (2,false,1):=by kernel_rfl
theorem Ja:tyk Tryz.prog 190=some TyK.func:=by kernel_rfl
theorem Jb:shp Tryz.prog 190=some (false,1):=by kernel_rfl
theorem Jc:zer Tryz.prog 190=some [AV.nilFn]:=by kernel_rfl
theorem Jd:ah Tryz.prog 190=false:=by kernel_rfl
theorem Je:tyk Tryz.prog 191=some TyK.func:=by kernel_rfl
theorem Jf:shp Tryz.prog 191=some (false,1):=by kernel_rfl
theorem Jg:zer Tryz.prog 191=some [AV.nilFn]:=by kernel_rfl
theorem Jh:ah Tryz.prog 191=false:=by kernel_rfl
theorem Ji:tyk Tryz.prog 192=some TyK.func:=by kernel_rfl
theorem Jj:shp Tryz.prog 192=some (false,1):=by kernel_rfl
theorem Jk:zer Tryz.prog 192=some [AV.nilFn]:=by kernel_rfl
theorem Jl:ah Tryz.prog 192=false:=by kernel_rfl
theorem Jm:tyk Tryz.prog 193=some (TyK.slice 198 true 257 257):=by kernel_rfl
theorem Jn:shp Tryz.prog 193=some (false,1):=by kernel_rfl
theorem Jo:zer Tryz.prog 193=some [AV.nilSl]:=by kernel_rfl
theorem Jp:ah Tryz.prog 193=false:=by kernel_rfl
theorem Jq:tyk Tryz.prog 194=some TyK.func:=by kernel_rfl
theorem Jr:shp Tryz.prog 194=some (false,1):=by kernel_rfl
theorem Js:zer Tryz.prog 194=some [AV.nilFn]:=by kernel_rfl
theorem Jt:ah Tryz.prog 194=false:=by kernel_rfl
theorem Ju:tyk Tryz.prog 195=some (TyK.arr 256 4 false 1):=by kernel_rfl
theorem Jv:shp Tryz.prog 195=some (true,256):=by kernel_rfl
theorem Jw:ah Tryz.prog 195=false:=by kernel_rfl
theorem Jx:tyk Tryz.prog 196=some (TyK.arr 256 4 false 1):=by kernel_rfl
theorem Jy:shp Tryz.prog 196=some (true,256):=by kernel_rfl
theorem Jz:ah Tryz.prog 196=false:=by kernel_rfl
theorem JA:tyk Tryz.prog 197=some (TyK.struct [(0,(false,1)),(1,(true,256))]):=by kernel_rfl
theorem JB:shp Tryz.prog 197=some (true,257):=by kernel_rfl
theorem JC:ah Tryz.prog 197=false:=by kernel_rfl
theorem vP:aw Tryz.prog 197 0=some (0,false,1):=by kernel_rfl
theorem vQ:aw Tryz.prog 197 1=some (1,true,256):=by kernel_rfl
theorem JD:tyk Tryz.prog 198=some (TyK.struct [(0,(false,1)),(1,(true,256))]):=by kernel_rfl
theorem JE:shp Tryz.prog 198=some (true,257):=by kernel_rfl
theorem JF:ah Tryz.prog 198=false:=by kernel_rfl
theorem vR:aw Tryz.prog 198 0=some (0,false,1):=by kernel_rfl
theorem vS:aw Tryz.prog 198 1=some (1,true,256):=by kernel_rfl
theorem JG:tyk Tryz.prog 199=some TyK.other:=by kernel_rfl
theorem JH:shp Tryz.prog 199=some (false,1):=by kernel_rfl
theorem JI:zer Tryz.prog 199=some [AV.nilPtr]:=by kernel_rfl
theorem JJ:ah Tryz.prog 199=false:=by kernel_rfl
theorem JK:tyk Tryz.prog 200=some TyK.func:=by kernel_rfl
theorem JL:shp Tryz.prog 200=some (false,1):=by kernel_rfl
theorem JM:zer Tryz.prog 200=some [AV.nilFn]:=by kernel_rfl
theorem JN:ah Tryz.prog 200=false:=by kernel_rfl
theorem JO:tyk Tryz.prog 201=some TyK.func:=by kernel_rfl
theorem JP:shp Tryz.prog 201=some (false,1):=by kernel_rfl
theorem JQ:zer Tryz.prog 201=some [AV.nilFn]:=by kernel_rfl
theorem JR:ah Tryz.prog 201=false:=by kernel_rfl
theorem JS:tyk Tryz.prog 202=some (TyK.map 9 3):=by kernel_rfl
theorem JT:shp Tryz.prog 202=some (false,1):=by kernel_rfl
theorem JU:zer Tryz.prog 202=some [AV.nilMap]:=by kernel_rfl
theorem JV:ah Tryz.prog 202=false:=by kernel_rfl
theorem JW:kc Tryz.prog 202=some ([TyS.ss],(false,(AV.int .i64 0))):=by kernel_rfl
theorem JX:dI Tryz.prog 202=some ([TyS.ss],false):=by kernel_rfl
theorem JY:tyk Tryz.prog 203=some TyK.func:=by kernel_rfl
theorem JZ:shp Tryz.prog 203=some (false,1):=by kernel_rfl
theorem J0:zer Tryz.prog 203=some [AV.nilFn]:=by kernel_rfl
theorem J1:ah Tryz.prog 203=false:=by kernel_rfl
theorem J2:tyk Tryz.prog 204=some TyK.func:=by kernel_rfl
theorem J3:shp Tryz.prog 204=some (false,1):=by kernel_rfl
theorem J4:zer Tryz.prog 204=some [AV.nilFn]:=by kernel_rfl
theorem J5:ah Tryz.prog 204=false:=by kernel_rfl
theorem J6:tyk Tryz.prog 205=some TyK.func:=by kernel_rfl
theorem J7:shp Tryz.prog 205=some (false,1):=by kernel_rfl
theorem J8:zer Tryz.prog 205=some [AV.nilFn]:=by kernel_rfl
theorem J9:ah Tryz.prog 205=false:=by kernel_rfl
theorem Ka:tyk Tryz.prog 206=some (TyK.int .u64):=by kernel_rfl
theorem Kb:shp Tryz.prog 206=some (false,1):=by kernel_rfl
theorem Kc:zer Tryz.prog 206=some [(AV.int .u64 0)]:=by kernel_rfl
theorem Kd:ah Tryz.prog 206=false:=by kernel_rfl
theorem Ke:aU Tryz.prog 10 206=some [(TyS.si .u64)]:=by kernel_rfl
theorem Kf:Tryz.prog.eqGuardType Tryz.prog.depth 206=false:=by kernel_rfl
theorem Kg:tyk Tryz.prog 207=some TyK.func:=by kernel_rfl
theorem Kh:shp Tryz.prog 207=some (false,1):=by kernel_rfl
theorem Ki:zer Tryz.prog 207=some [AV.nilFn]:=by kernel_rfl
theorem Kj:ah Tryz.prog 207=false:=by kernel_rfl
theorem Kk:tyk Tryz.prog 208=some TyK.func:=by kernel_rfl
theorem Kl:shp Tryz.prog 208=some (false,1):=by kernel_rfl
theorem Km:zer Tryz.prog 208=some [AV.nilFn]:=by kernel_rfl
theorem Kn:ah Tryz.prog 208=false:=by kernel_rfl
theorem Ko:tyk Tryz.prog 209=some TyK.func:=by kernel_rfl
theorem Kq:shp Tryz.prog 209=some (false,1):=by kernel_rfl
theorem Kr:zer Tryz.prog 209=some [AV.nilFn]:=by kernel_rfl
theorem Ks:ah Tryz.prog 209=false:=by kernel_rfl
theorem Kt:tyk Tryz.prog 210=some TyK.other:=by kernel_rfl
theorem Ku:shp Tryz.prog 210=some (false,1):=by kernel_rfl
theorem Kv:zer Tryz.prog 210=some [(AV.tuple [AV.undef,(AV.str []),(AV.bool false)])]:=by kernel_rfl
theorem Kw:ah Tryz.prog 210=false:=by kernel_rfl
theorem Kx:tyk Tryz.prog 211=some TyK.func:=by kernel_rfl
theorem Ky:shp Tryz.prog 211=some (false,1):=by kernel_rfl
theorem Kz:zer Tryz.prog 211=some [AV.nilFn]:=by kernel_rfl
theorem KW:ah Tryz.prog 211=false:=by kernel_rfl
theorem KX:tyk Tryz.prog 212=some TyK.func:=by kernel_rfl
theorem KY:shp Tryz.prog 212=some (false,1):=by kernel_rfl
theorem KZ:zer Tryz.prog 212=some [AV.nilFn]:=by kernel_rfl
theorem La:ah Tryz.prog 212=false:=by kernel_rfl
theorem Lb:tyk Tryz.prog 213=some (TyK.int .i64):=by kernel_rfl
theorem Lc:shp Tryz.prog 213=some (false,1):=by kernel_rfl
theorem Ld:zer Tryz.prog 213=some [(AV.int .i64 0)]:=by kernel_rfl
theorem Le:ah Tryz.prog 213=false:=by kernel_rfl
theorem Lf:aU Tryz.prog 10 213=some [(TyS.si .i64)]:=by kernel_rfl
theorem Lg:Tryz.prog.eqGuardType Tryz.prog.depth 213=false:=by kernel_rfl
theorem Lh:tyk Tryz.prog 214=some TyK.other:=by kernel_rfl
theorem Li:shp Tryz.prog 214=some (false,1):=by kernel_rfl
theorem Lj:zer Tryz.prog 214=some [(AV.tuple [(AV.int .i64 0),AV.nilIface])]:=by kernel_rfl
theorem Lk:ah Tryz.prog 214=false:=by kernel_rfl
theorem Ll:tyk Tryz.prog 215=some TyK.func:=by kernel_rfl
theorem Lm:shp Tryz.prog 215=some (false,1):=by kernel_rfl
theorem Ln:zer Tryz.prog 215=some [AV.nilFn]:=by kernel_rfl
theorem Lo:ah Tryz.prog 215=false:=by kernel_rfl
theorem Lp:tyk Tryz.prog 216=some (TyK.ptr 249):=by kernel_rfl
theorem Lq:shp Tryz.prog 216=some (false,1):=by kernel_rfl
theorem Lr:zer Tryz.prog 216=some [AV.nilPtr]:=by kernel_rfl
theorem Ls:ah Tryz.prog 216=false:=by kernel_rfl
theorem Lt:tyk Tryz.prog 217=some TyK.func:=by kernel_rfl
theorem Lu:shp Tryz.prog 217=some (false,1):=by kernel_rfl
theorem Lv:zer Tryz.prog 217=some [AV.nilFn]:=by kernel_rfl
theorem Lw:ah Tryz.prog 217=false:=by kernel_rfl
theorem Lx:tyk Tryz.prog 218=some TyK.func:=by kernel_rfl
theorem Ly:shp Tryz.prog 218=some (false,1):=by kernel_rfl
theorem Lz:zer Tryz.prog 218=some [AV.nilFn]:=by kernel_rfl
theorem LB:ah Tryz.prog 218=false:=by kernel_rfl
theorem LC:tyk Tryz.prog 219=some TyK.func:=by kernel_rfl
theorem LD:shp Tryz.prog 219=some (false,1):=by kernel_rfl
theorem LF:zer Tryz.prog 219=some [AV.nilFn]:=by kernel_rfl
theorem LG:ah Tryz.prog 219=false:=by kernel_rfl
theorem LH:tyk Tryz.prog 220=some TyK.func:=by kernel_rfl
theorem LI:shp Tryz.prog 220=some (false,1):=by kernel_rfl
theorem LJ:zer Tryz.prog 220=some [AV.nilFn]:=by kernel_rfl
theorem LM:ah Tryz.prog 220=false:=by kernel_rfl
theorem LN:tyk Tryz.prog 221=some (TyK.int .i64):=by kernel_rfl
theorem LO:shp Tryz.prog 221=some (false,1):=by kernel_rfl
theorem LP:zer Tryz.prog 221=some [(AV.int .i64 0)]:=by kernel_rfl
theorem LQ:ah Tryz.prog 221=false:=by kernel_rfl
theorem LS:aU Tryz.prog 10 221=some [(TyS.si .i64)]:=by kernel_rfl
theorem LU:Tryz.prog.eqGuardType Tryz.prog.depth 221=false:=by kernel_rfl
theorem LV:tyk Tryz.prog 222=some TyK.other:=by kernel_rfl
theorem LW:shp Tryz.prog 222=some (false,1):=by kernel_rfl
theorem LX:zer Tryz.prog 222=some [(AV.tuple [(AV.int .i64 0),(AV.int .i64 0)])]:=by kernel_rfl
theorem LY:ah Tryz.prog 222=false:=by kernel_rfl
theorem LZ:tyk Tryz.prog 223=some TyK.func:=by kernel_rfl
theorem L3:shp Tryz.prog 223=some (false,1):=by kernel_rfl
theorem L4:zer Tryz.prog 223=some [AV.nilFn]:=by kernel_rfl
theorem L5:ah Tryz.prog 223=false:=by kernel_rfl
theorem L6:tyk Tryz.prog 224=some TyK.func:=by kernel_rfl
theorem L7:shp Tryz.prog 224=some (false,1):=by kernel_rfl
theorem L8:zer Tryz.prog 224=some [AV.nilFn]:=by kernel_rfl
theorem L9:ah Tryz.prog 224=false:=by kernel_rfl
theorem Ma:tyk Tryz.prog 225=some TyK.func:=by kernel_rfl
theorem Mb:shp Tryz.prog 225=some (false,1):=by kernel_rfl
theorem Mc:zer Tryz.prog 225=some [AV.nilFn]:=by kernel_rfl
theorem Md:ah Tryz.prog 225=false:=by kernel_rfl
theorem Me:tyk Tryz.prog 226=some TyK.func:=by kernel_rfl
theorem Mf:shp Tryz.prog 226=some (false,1):=by kernel_rfl
theorem Mg:zer Tryz.prog 226=some [AV.nilFn]:=by kernel_rfl
theorem Mh:ah Tryz.prog 226=false:=by kernel_rfl
theorem Mi:tyk Tryz.prog 227=some TyK.func:=by kernel_rfl
theorem Mj:shp Tryz.prog 227=some (false,1):=by kernel_rfl
theorem Mk:zer Tryz.prog 227=some [AV.nilFn]:=by kernel_rfl
theorem Ml:ah Tryz.prog 227=false:=by kernel_rfl
theorem Mm:tyk Tryz.prog 228=some (TyK.int .u32):=by kernel_rfl
theorem Mn:shp Tryz.prog 228=some (false,1):=by kernel_rfl
theorem Mo:zer Tryz.prog 228=some [(AV.int .u32 0)]:=by kernel_rfl
theorem Mp:ah Tryz.prog 228=false:=by kernel_rfl
theorem Mq:aU Tryz.prog 10 228=some [(TyS.si .u32)]:=by kernel_rfl
theorem Mr:Tryz.prog.eqGuardType Tryz.prog.depth 228=false:=by kernel_rfl
theorem Ms:tyk Tryz.prog 229=some TyK.func:=by kernel_rfl
theorem Mt:shp Tryz.prog 229=some (false,1):=by kernel_rfl
theorem Mu:zer Tryz.prog 229=some [AV.nilFn]:=by kernel_rfl
theorem Mv:ah Tryz.prog 229=false:=by kernel_rfl
theorem Mw:tyk Tryz.prog 230=some (TyK.int .u64):=by kernel_rfl
theorem Mx:shp Tryz.prog 230=some (false,1):=by kernel_rfl
theorem My:zer Tryz.prog 230=some [(AV.int .u64 0)]:=by kernel_rfl
theorem Mz:ah Tryz.prog 230=false:=by kernel_rfl
theorem MA:aU Tryz.prog 10 230=some [(TyS.si .u64)]:=by kernel_rfl
theorem MB:Tryz.prog.eqGuardType Tryz.prog.depth 230=false:=by kernel_rfl
theorem MC:tyk Tryz.prog 231=some TyK.func:=by kernel_rfl
theorem MD:shp Tryz.prog 231=some (false,1):=by kernel_rfl
theorem MF:zer Tryz.prog 231=some [AV.nilFn]:=by kernel_rfl
theorem MG:ah Tryz.prog 231=false:=by kernel_rfl
theorem MH:tyk Tryz.prog 232=some TyK.func:=by kernel_rfl
theorem MI:shp Tryz.prog 232=some (false,1):=by kernel_rfl
theorem MJ:zer Tryz.prog 232=some [AV.nilFn]:=by kernel_rfl
theorem MK:ah Tryz.prog 232=false:=by kernel_rfl
theorem ML:tyk Tryz.prog 233=some (TyK.arr 256 4 false 1):=by kernel_rfl
theorem MM:shp Tryz.prog 233=some (true,256):=by kernel_rfl
theorem MN:ah Tryz.prog 233=false:=by kernel_rfl
theorem MO:tyk Tryz.prog 234=some TyK.other:=by kernel_rfl
theorem MP:shp Tryz.prog 234=some (false,1):=by kernel_rfl
theorem MQ:zer Tryz.prog 234=some [(AV.tuple [AV.undef,(AV.bool false)])]:=by kernel_rfl
theorem MR:ah Tryz.prog 234=false:=by kernel_rfl
theorem MS:tyk Tryz.prog 235=some TyK.func:=by kernel_rfl
theorem MT:shp Tryz.prog 235=some (false,1):=by kernel_rfl
theorem MU:zer Tryz.prog 235=some [AV.nilFn]:=by kernel_rfl
theorem MV:ah Tryz.prog 235=false:=by kernel_rfl
theorem MW:tyk Tryz.prog 236=some TyK.func:=by kernel_rfl
theorem MX:shp Tryz.prog 236=some (false,1):=by kernel_rfl
theorem MY:zer Tryz.prog 236=some [AV.nilFn]:=by kernel_rfl
theorem MZ:ah Tryz.prog 236=false:=by kernel_rfl
theorem M0:tyk Tryz.prog 237=some (TyK.ptr 233):=by kernel_rfl
theorem M1:shp Tryz.prog 237=some (false,1):=by kernel_rfl
theorem M3:zer Tryz.prog 237=some [AV.nilPtr]:=by kernel_rfl
theorem M4:ah Tryz.prog 237=false:=by kernel_rfl
theorem M5:tyk Tryz.prog 238=some TyK.func:=by kernel_rfl
theorem M6:shp Tryz.prog 238=some (false,1):=by kernel_rfl
theorem M7:zer Tryz.prog 238=some [AV.nilFn]:=by kernel_rfl
theorem M8:ah Tryz.prog 238=false:=by kernel_rfl
theorem M9:tyk Tryz.prog 239=some TyK.func:=by kernel_rfl
theorem Na:shp Tryz.prog 239=some (false,1):=by kernel_rfl
theorem Nb:zer Tryz.prog 239=some [AV.nilFn]:=by kernel_rfl
theorem Nc:ah Tryz.prog 239=false:=by kernel_rfl
theorem Nd:tyk Tryz.prog 240=some (TyK.ptr 196):=by kernel_rfl
theorem Nf:shp Tryz.prog 240=some (false,1):=by kernel_rfl
theorem Ng:zer Tryz.prog 240=some [AV.nilPtr]:=by kernel_rfl
theorem Nh:ah Tryz.prog 240=false:=by kernel_rfl
theorem Ni:tyk Tryz.prog 241=some TyK.func:=by kernel_rfl
theorem Nj:shp Tryz.prog 241=some (false,1):=by kernel_rfl
theorem Nk:zer Tryz.prog 241=some [AV.nilFn]:=by kernel_rfl
theorem Nl:ah Tryz.prog 241=false:=by kernel_rfl
theorem Nn:tyk Tryz.prog 242=some (TyK.arr 24 5 false 1):=by kernel_rfl
theorem Np:shp Tryz.prog 242=some (true,24):=by kernel_rfl
theorem Nq:zer Tryz.prog 242=some [(AV.int .u8 0),(AV.int .u8 0),(AV.int .u8 0),(AV.int .u8 0),(AV.int .u8 0),(AV.int .u8 0),(AV.int .u8 0),(AV.int .u8 0),(AV.int .u8 0),(AV.int .u8 0),(AV.int .u8 0),(AV.int .u8 0),(AV.int .u8 0),(AV.int .u8 0),(AV.int .u8 0),(AV.int .u8 0),(AV.int .u8 0),(AV.int .u8 0),(AV.int .u8 0),(AV.int .u8 0),(AV.int .u8 0),(AV.int .u8 0),(AV.int .u8 0),(AV.int .u8 0)]:=by kernel_rfl
theorem Nr:ah Tryz.prog 242=false:=by kernel_rfl
theorem Ns:tyk Tryz.prog 243=some TyK.func:=by kernel_rfl
theorem Nt:shp Tryz.prog 243=some (false,1):=by kernel_rfl
theorem Nu:zer Tryz.prog 243=some [AV.nilFn]:=by kernel_rfl
theorem Nv:ah Tryz.prog 243=false:=by kernel_rfl
theorem Nw:tyk Tryz.prog 244=some TyK.other:=by kernel_rfl
theorem Nx:shp Tryz.prog 244=some (false,1):=by kernel_rfl
theorem Ny:zer Tryz.prog 244=some [(AV.tuple [AV.nilSl,(AV.str [])])]:=by kernel_rfl
theorem Nz:ah Tryz.prog 244=false:=by kernel_rfl
theorem NA:tyk Tryz.prog 245=some TyK.func:=by kernel_rfl
theorem NB:shp Tryz.prog 245=some (false,1):=by kernel_rfl
theorem NC:zer Tryz.prog 245=some [AV.nilFn]:=by kernel_rfl
theorem ND:ah Tryz.prog 245=false:=by kernel_rfl
theorem NF:tyk Tryz.prog 246=some TyK.other:=by kernel_rfl
theorem NG:shp Tryz.prog 246=some (false,1):=by kernel_rfl
theorem NH:zer Tryz.prog 246=some [(AV.tuple [(AV.int .u64 0),AV.nilIface])]:=by kernel_rfl
theorem NI:ah Tryz.prog 246=false:=by kernel_rfl
theorem NJ:tyk Tryz.prog 247=some TyK.func:=by kernel_rfl
theorem NK:shp Tryz.prog 247=some (false,1):=by kernel_rfl
theorem NL:zer Tryz.prog 247=some [AV.nilFn]:=by kernel_rfl
theorem NM:ah Tryz.prog 247=false:=by kernel_rfl
theorem NN:tyk Tryz.prog 248=some (TyK.struct [(0,(false,1)),(1,(false,1)),(2,(false,1))]):=by kernel_rfl
theorem NO:shp Tryz.prog 248=some (true,3):=by kernel_rfl
theorem NP:zer Tryz.prog 248=some [(AV.str []),(AV.str []),AV.nilIface]:=by kernel_rfl
theorem NQ:ah Tryz.prog 248=false:=by kernel_rfl
theorem vT:aw Tryz.prog 248 0=some (0,false,1):=by kernel_rfl
theorem vU:aw Tryz.prog 248 1=some (1,false,1):=by kernel_rfl
theorem vV:aw Tryz.prog 248 2=some (2,false,1):=by kernel_rfl
theorem NR:tyk Tryz.prog 249=some (TyK.struct [(0,(false,1)),(1,(false,1)),(2,(false,1))]):=by kernel_rfl
theorem NS:shp Tryz.prog 249=some (true,3):=by kernel_rfl
theorem NU:zer Tryz.prog 249=some [(AV.str []),(AV.str []),AV.nilIface]:=by kernel_rfl
theorem NV:ah Tryz.prog 249=false:=by kernel_rfl
theorem vW:aw Tryz.prog 249 0=some (0,false,1):=by kernel_rfl
theorem vX:aw Tryz.prog 249 1=some (1,false,1):=by kernel_rfl
theorem vY:aw Tryz.prog 249 2=some (2,false,1):=by kernel_rfl
theorem NW:tyk Tryz.prog 250=some TyK.func:=by kernel_rfl
theorem NX:shp Tryz.prog 250=some (false,1):=by kernel_rfl
theorem NY:zer Tryz.prog 250=some [AV.nilFn]:=by kernel_rfl
theorem NZ:ah Tryz.prog 250=false:=by kernel_rfl
theorem N0:tyk Tryz.prog 251=some TyK.func:=by kernel_rfl
theorem N1:shp Tryz.prog 251=some (false,1):=by kernel_rfl
theorem N2:zer Tryz.prog 251=some [AV.nilFn]:=by kernel_rfl
theorem N3:ah Tryz.prog 251=false:=by kernel_rfl
theorem N4:tyk Tryz.prog 252=some TyK.func:=by kernel_rfl
theorem N5:shp Tryz.prog 252=some (false,1):=by kernel_rfl
theorem N6:zer Tryz.prog 252=some [AV.nilFn]:=by kernel_rfl
theorem N7:ah Tryz.prog 252=false:=by kernel_rfl
theorem N8:tyk Tryz.prog 253=some (TyK.int .u64):=by kernel_rfl
theorem N9:shp Tryz.prog 253=some (false,1):=by kernel_rfl
theorem Oa:zer Tryz.prog 253=some [(AV.int .u64 0)]:=by kernel_rfl
theorem Ob:ah Tryz.prog 253=false:=by kernel_rfl
theorem Oc:aU Tryz.prog 10 253=some [(TyS.si .u64)]:=by kernel_rfl
theorem Od:Tryz.prog.eqGuardType Tryz.prog.depth 253=false:=by kernel_rfl
theorem Oe:tyk Tryz.prog 254=some TyK.func:=by kernel_rfl
theorem Of:shp Tryz.prog 254=some (false,1):=by kernel_rfl
theorem Og:zer Tryz.prog 254=some [AV.nilFn]:=by kernel_rfl
theorem Oh:ah Tryz.prog 254=false:=by kernel_rfl
theorem Oi:tyk Tryz.prog 255=some TyK.func:=by kernel_rfl
theorem Oj:shp Tryz.prog 255=some (false,1):=by kernel_rfl
theorem Ol:zer Tryz.prog 255=some [AV.nilFn]:=by kernel_rfl
theorem Om:ah Tryz.prog 255=false:=by kernel_rfl
theorem Oo:tyk Tryz.prog 256=some TyK.func:=by kernel_rfl
theorem Oq:shp Tryz.prog 256=some (false,1):=by kernel_rfl
theorem Ot:zer Tryz.prog 256=some [AV.nilFn]:=by kernel_rfl
theorem Ou:ah Tryz.prog 256=false:=by kernel_rfl
theorem Ov:tyk Tryz.prog 257=some (TyK.ptr 3):=by kernel_rfl
theorem Ow:shp Tryz.prog 257=some (false,1):=by kernel_rfl
theorem Ox:zer Tryz.prog 257=some [AV.nilPtr]:=by kernel_rfl
theorem Oy:ah Tryz.prog 257=false:=by kernel_rfl
theorem Oz:tyk Tryz.prog 258=some TyK.func:=by kernel_rfl
theorem OA:shp Tryz.prog 258=some (false,1):=by kernel_rfl
theorem OB:zer Tryz.prog 258=some [AV.nilFn]:=by kernel_rfl
theorem OC:ah Tryz.prog 258=false:=by kernel_rfl
theorem OD:tyk Tryz.prog 259=some TyK.other:=by kernel_rfl
theorem OE:shp Tryz.prog 259=some (false,1):=by kernel_rfl
theorem OF:zer Tryz.prog 259=some [(AV.tuple [(AV.int .i32 0),(AV.int .i64 0)])]:=by kernel_rfl
theorem OG:ah Tryz.prog 259=false:=by kernel_rfl
theorem OH:tyk Tryz.prog 260=some TyK.func:=by kernel_rfl
theorem OI:shp Tryz.prog 260=some (false,1):=by kernel_rfl
theorem OJ:zer Tryz.prog 260=some [AV.nilFn]:=by kernel_rfl
theorem OK:ah Tryz.prog 260=false:=by kernel_rfl
theorem OL:tyk Tryz.prog 261=some TyK.func:=by kernel_rfl
theorem OM:shp Tryz.prog 261=some (false,1):=by kernel_rfl
theorem ON:zer Tryz.prog 261=some [AV.nilFn]:=by kernel_rfl
theorem OP:ah Tryz.prog 261=false:=by kernel_rfl
theorem OQ:tyk Tryz.prog 262=some TyK.func:=by kernel_rfl
theorem OR:shp Tryz.prog 262=some (false,1):=by kernel_rfl
theorem OS:zer Tryz.prog 262=some [AV.nilFn]:=by kernel_rfl
theorem OT:ah Tryz.prog 262=false:=by kernel_rfl
theorem OU:tyk Tryz.prog 263=some (TyK.arr 20 230 false 1):=by kernel_rfl
theorem OV:shp Tryz.prog 263=some (true,20):=by kernel_rfl
theorem OW:zer Tryz.prog 263=some [(AV.int .u64 0),(AV.int .u64 0),(AV.int .u64 0),(AV.int .u64 0),(AV.int .u64 0),(AV.int .u64 0),(AV.int .u64 0),(AV.int .u64 0),(AV.int .u64 0),(AV.int .u64 0),(AV.int .u64 0),(AV.int .u64 0),(AV.int .u64 0),(AV.int .u64 0),(AV.int .u64 0),(AV.int .u64 0),(AV.int .u64 0),(AV.int .u64 0),(AV.int .u64 0),(AV.int .u64 0)]:=by kernel_rfl
theorem OX:ah Tryz.prog 263=false:=by kernel_rfl
theorem OY:tyk Tryz.prog 264=some (TyK.arr 65 5 false 1):=by kernel_rfl
theorem OZ:shp Tryz.prog 264=some (true,65):=by kernel_rfl
theorem O0:ah Tryz.prog 264=false:=by kernel_rfl
theorem O1:tyk Tryz.prog 265=some TyK.func:=by kernel_rfl
theorem O2:shp Tryz.prog 265=some (false,1):=by kernel_rfl
theorem O3:zer Tryz.prog 265=some [AV.nilFn]:=by kernel_rfl
theorem O4:ah Tryz.prog 265=false:=by kernel_rfl
theorem O5:tyk Tryz.prog 266=some TyK.func:=by kernel_rfl
theorem O6:shp Tryz.prog 266=some (false,1):=by kernel_rfl
theorem O7:zer Tryz.prog 266=some [AV.nilFn]:=by kernel_rfl
theorem O8:ah Tryz.prog 266=false:=by kernel_rfl
theorem O9:tyk Tryz.prog 267=some (TyK.ptr 269):=by kernel_rfl
theorem Pa:shp Tryz.prog 267=some (false,1):=by kernel_rfl
theorem Pb:zer Tryz.prog 267=some [AV.nilPtr]:=by kernel_rfl
theorem Pd:ah Tryz.prog 267=false:=by kernel_rfl
theorem Pe:tyk Tryz.prog 268=some (TyK.struct [(0,(false,1))]):=by kernel_rfl
theorem Pf:shp Tryz.prog 268=some (true,1):=by kernel_rfl
theorem Pg:zer Tryz.prog 268=some [(AV.str [])]:=by kernel_rfl
theorem Ph:ah Tryz.prog 268=false:=by kernel_rfl
theorem Pj:aU Tryz.prog 10 268=some [TyS.ss]:=by kernel_rfl
theorem Pk:Tryz.prog.eqGuardType Tryz.prog.depth 268=false:=by kernel_rfl
theorem vZ:aw Tryz.prog 268 0=some (0,false,1):=by kernel_rfl
theorem Pl:tyk Tryz.prog 269=some (TyK.struct [(0,(false,1))]):=by kernel_rfl
theorem Pm:shp Tryz.prog 269=some (true,1):=by kernel_rfl
theorem Pn:zer Tryz.prog 269=some [(AV.str [])]:=by kernel_rfl
theorem Po:ah Tryz.prog 269=false:=by kernel_rfl
theorem Pp:aU Tryz.prog 10 269=some [TyS.ss]:=by kernel_rfl
theorem Pq:Tryz.prog.eqGuardType Tryz.prog.depth 269=false:=by kernel_rfl
theorem v7:aw Tryz.prog 269 0=some (0,false,1):=by kernel_rfl
theorem Pr:tyk Tryz.prog 270=some TyK.other:=by kernel_rfl
theorem Pt:shp Tryz.prog 270=some (false,1):=by kernel_rfl
theorem Pu:zer Tryz.prog 270=some [(AV.tuple [(AV.int .u32 0),(AV.int .u32 0)])]:=by kernel_rfl
theorem Pv:ah Tryz.prog 270=false:=by kernel_rfl
theorem Pw:tyk Tryz.prog 271=some TyK.func:=by kernel_rfl
theorem Px:shp Tryz.prog 271=some (false,1):=by kernel_rfl
theorem Py:zer Tryz.prog 271=some [AV.nilFn]:=by kernel_rfl
theorem Pz:ah Tryz.prog 271=false:=by kernel_rfl
theorem PA:tyk Tryz.prog 272=some (TyK.ptr 253):=by kernel_rfl
theorem PB:shp Tryz.prog 272=some (false,1):=by kernel_rfl
theorem PC:zer Tryz.prog 272=some [AV.nilPtr]:=by kernel_rfl
theorem PD:ah Tryz.prog 272=false:=by kernel_rfl
theorem PE:tyk Tryz.prog 273=some TyK.other:=by kernel_rfl
theorem PF:shp Tryz.prog 273=some (false,1):=by kernel_rfl
theorem PH:zer Tryz.prog 273=some [(AV.tuple [(AV.int .i64 0),(AV.int .i64 0)])]:=by kernel_rfl
theorem PI:ah Tryz.prog 273=false:=by kernel_rfl
theorem PJ:tyk Tryz.prog 274=some TyK.func:=by kernel_rfl
theorem PK:shp Tryz.prog 274=some (false,1):=by kernel_rfl
theorem PM:zer Tryz.prog 274=some [AV.nilFn]:=by kernel_rfl
theorem PN:ah Tryz.prog 274=false:=by kernel_rfl
theorem PO:tyk Tryz.prog 275=some TyK.func:=by kernel_rfl
theorem PQ:shp Tryz.prog 275=some (false,1):=by kernel_rfl
theorem PT:zer Tryz.prog 275=some [AV.nilFn]:=by kernel_rfl
theorem PU:ah Tryz.prog 275=false:=by kernel_rfl
theorem PW:tyk Tryz.prog 276=some (TyK.arr 256 5 false 1):=by kernel_rfl
theorem PX:shp Tryz.prog 276=some (true,256):=by kernel_rfl
theorem PY:ah Tryz.prog 276=false:=by kernel_rfl
theorem PZ:tyk Tryz.prog 277=some (TyK.struct [(0,(false,1)),(1,(false,1))]):=by kernel_rfl
theorem P0:shp Tryz.prog 277=some (true,2):=by kernel_rfl
theorem P1:zer Tryz.prog 277=some [(AV.int .u8 0),(AV.int .u8 0)]:=by kernel_rfl
theorem P2:ah Tryz.prog 277=false:=by kernel_rfl
theorem P3:aU Tryz.prog 10 277=some [(TyS.si .u8),(TyS.si .u8)]:=by kernel_rfl
theorem P4:Tryz.prog.eqGuardType Tryz.prog.depth 277=false:=by kernel_rfl
theorem v8:aw Tryz.prog 277 0=some (0,false,1):=by kernel_rfl
theorem wa:aw Tryz.prog 277 1=some (1,false,1):=by kernel_rfl
theorem P5:tyk Tryz.prog 278=some (TyK.struct [(0,(false,1)),(1,(false,1))]):=by kernel_rfl
theorem P6:shp Tryz.prog 278=some (true,2):=by kernel_rfl
theorem P7:zer Tryz.prog 278=some [(AV.int .u8 0),(AV.int .u8 0)]:=by kernel_rfl
theorem P8:ah Tryz.prog 278=false:=by kernel_rfl
theorem P9:aU Tryz.prog 10 278=some [(TyS.si .u8),(TyS.si .u8)]:=by kernel_rfl
theorem Qa:Tryz.prog.eqGuardType Tryz.prog.depth 278=false:=by kernel_rfl
theorem wb:aw Tryz.prog 278 0=some (0,false,1):=by kernel_rfl
theorem wc:aw Tryz.prog 278 1=some (1,false,1):=by kernel_rfl
theorem Qb:tyk Tryz.prog 279=some (TyK.arr 16 278 true 2):=by kernel_rfl
theorem Qc:shp Tryz.prog 279=some (true,32):=by kernel_rfl
theorem Qd:zer Tryz.prog 279=some [(AV.int .u8 0),(AV.int .u8 0),(AV.int .u8 0),(AV.int .u8 0),(AV.int .u8 0),(AV.int .u8 0),(AV.int .u8 0),(AV.int .u8 0),(AV.int .u8 0),(AV.int .u8 0),(AV.int .u8 0),(AV.int .u8 0),(AV.int .u8 0),(AV.int .u8 0),(AV.int .u8 0),(AV.int .u8 0),(AV.int .u8 0),(AV.int .u8 0),(AV.int .u8 0),(AV.int .u8 0),(AV.int .u8 0),(AV.int .u8 0),(AV.int .u8 0),(AV.int .u8 0),(AV.int .u8 0),(AV.int .u8 0),(AV.int .u8 0),(AV.int .u8 0),(AV.int .u8 0),(AV.int .u8 0),(AV.int .u8 0),(AV.int .u8 0)]:=by kernel_rfl
theorem Qe:ah Tryz.prog 279=false:=by kernel_rfl
theorem Qf:tyk Tryz.prog 280=some TyK.func:=by kernel_rfl
theorem Qg:shp Tryz.prog 280=some (false,1):=by kernel_rfl
theorem Qh:zer Tryz.prog 280=some [AV.nilFn]:=by kernel_rfl
theorem Qi:ah Tryz.prog 280=false:=by kernel_rfl
theorem Qj:tyk Tryz.prog 281=some (TyK.arr 32 5 false 1):=by kernel_rfl
theorem Qk:shp Tryz.prog 281=some (true,32):=by kernel_rfl
theorem Ql:zer Tryz.prog 281=some [(AV.int .u8 0),(AV.int .u8 0),(AV.int .u8 0),(AV.int .u8 0),(AV.int .u8 0),(AV.int .u8 0),(AV.int .u8 0),(AV.int .u8 0),(AV.int .u8 0),(AV.int .u8 0),(AV.int .u8 0),(AV.int .u8 0),(AV.int .u8 0),(AV.int .u8 0),(AV.int .u8 0),(AV.int .u8 0),(AV.int .u8 0),(AV.int .u8 0),(AV.int .u8 0),(AV.int .u8 0),(AV.int .u8 0),(AV.int .u8 0),(AV.int .u8 0),(AV.int .u8 0),(AV.int .u8 0),(AV.int .u8 0),(AV.int .u8 0),(AV.int .u8 0),(AV.int .u8 0),(AV.int .u8 0),(AV.int .u8 0),(AV.int .u8 0)]:=by kernel_rfl
theorem Qm:ah Tryz.prog 281=false:=by kernel_rfl
theorem Qn:tyk Tryz.prog 282=some (TyK.arr 64 5 false 1):=by kernel_rfl
theorem Qo:shp Tryz.prog 282=some (true,64):=by kernel_rfl
theorem Qp:ah Tryz.prog 282=false:=by kernel_rfl
theorem Qq:tyk Tryz.prog 283=some (TyK.struct [(0,(false,1)),(1,(false,1)),(2,(false,1)),(3,(false,1))]):=by kernel_rfl
theorem Qr:shp Tryz.prog 283=some (true,4):=by kernel_rfl
theorem Qs:zer Tryz.prog 283=some [AV.nilPtr,AV.nilPtr,AV.nilPtr,(AV.str [])]:=by kernel_rfl
theorem Qt:ah Tryz.prog 283=false:=by kernel_rfl
theorem wg:aw Tryz.prog 283 0=some (0,false,1):=by kernel_rfl
theorem wh:aw Tryz.prog 283 1=some (1,false,1):=by kernel_rfl
theorem wi:aw Tryz.prog 283 2=some (2,false,1):=by kernel_rfl
theorem wj:aw Tryz.prog 283 3=some (3,false,1):=by kernel_rfl
theorem Qu:tyk Tryz.prog 284=some (TyK.struct [(0,(false,1)),(1,(false,1)),(2,(false,1)),(3,(false,1))]):=by kernel_rfl
theorem Qv:shp Tryz.prog 284=some (true,4):=by kernel_rfl
theorem Qw:zer Tryz.prog 284=some [AV.nilPtr,AV.nilPtr,AV.nilPtr,(AV.str [])]:=by kernel_rfl
theorem Qx:ah Tryz.prog 284=false:=by kernel_rfl
theorem wm:aw Tryz.prog 284 0=some (0,false,1):=by kernel_rfl
theorem wo:aw Tryz.prog 284 1=some (1,false,1):=by kernel_rfl
theorem wq:aw Tryz.prog 284 2=some (2,false,1):=by kernel_rfl
theorem wu:aw Tryz.prog 284 3=some (3,false,1):=by kernel_rfl
theorem Qy:tyk Tryz.prog 285=some (TyK.arr 0 16 false 1):=by kernel_rfl
theorem Qz:shp Tryz.prog 285=some (true,0):=by kernel_rfl
theorem QA:zer Tryz.prog 285=some []:=by kernel_rfl
theorem QB:ah Tryz.prog 285=false:=by kernel_rfl
theorem QC:tyk Tryz.prog 286=some (TyK.struct [(0,(true,0))]):=by kernel_rfl
theorem QD:shp Tryz.prog 286=some (true,0):=by kernel_rfl
theorem QE:zer Tryz.prog 286=some []:=by kernel_rfl
theorem QF:ah Tryz.prog 286=false:=by kernel_rfl
theorem wv:aw Tryz.prog 286 0=some (0,true,0):=by kernel_rfl
theorem QH:tyk Tryz.prog 287=some (TyK.struct [(0,(true,0))]):=by kernel_rfl
theorem QI:shp Tryz.prog 287=some (true,0):=by kernel_rfl
theorem QJ:zer Tryz.prog 287=some []:=by kernel_rfl
theorem QK:ah Tryz.prog 287=false:=by kernel_rfl
theorem wx:aw Tryz.prog 287 0=some (0,true,0):=by kernel_rfl
theorem QL:tyk Tryz.prog 288=some TyK.func:=by kernel_rfl
theorem QM:shp Tryz.prog 288=some (false,1):=by kernel_rfl
theorem QN:zer Tryz.prog 288=some [AV.nilFn]:=by kernel_rfl
theorem QO:ah Tryz.prog 288=false:=by kernel_rfl
theorem QP:tyk Tryz.prog 289=some (TyK.int .u8):=by kernel_rfl
theorem QQ:shp Tryz.prog 289=some (false,1):=by kernel_rfl
theorem QR:zer Tryz.prog 289=some [(AV.int .u8 0)]:=by kernel_rfl
theorem QS:ah Tryz.prog 289=false:=by kernel_rfl
theorem QT:aU Tryz.prog 10 289=some [(TyS.si .u8)]:=by kernel_rfl
theorem QU:Tryz.prog.eqGuardType Tryz.prog.depth 289=false:=by kernel_rfl
theorem QV:tyk Tryz.prog 290=some (TyK.int .u8):=by kernel_rfl
theorem QW:shp Tryz.prog 290=some (false,1):=by kernel_rfl
theorem QX:zer Tryz.prog 290=some [(AV.int .u8 0)]:=by kernel_rfl
theorem QY:ah Tryz.prog 290=false:=by kernel_rfl
theorem QZ:aU Tryz.prog 10 290=some [(TyS.si .u8)]:=by kernel_rfl
theorem Q0:Tryz.prog.eqGuardType Tryz.prog.depth 290=false:=by kernel_rfl
theorem Q1:tyk Tryz.prog 291=some TyK.func:=by kernel_rfl
theorem Q2:shp Tryz.prog 291=some (false,1):=by kernel_rfl
theorem Q3:zer Tryz.prog 291=some [AV.nilFn]:=by kernel_rfl
theorem Q4:ah Tryz.prog 291=false:=by kernel_rfl
theorem Q6:tyk Tryz.prog 292=some (TyK.int .i32):=by kernel_rfl
theorem Ra:shp Tryz.prog 292=some (false,1):=by kernel_rfl
theorem Rb:zer Tryz.prog 292=some [(AV.int .i32 0)]:=by kernel_rfl
theorem Rc:ah Tryz.prog 292=false:=by kernel_rfl
theorem Re:aU Tryz.prog 10 292=some [(TyS.si .i32)]:=by kernel_rfl
theorem Rf:Tryz.prog.eqGuardType Tryz.prog.depth 292=false:=by kernel_rfl
theorem Rg:tyk Tryz.prog 293=some (TyK.int .i32):=by kernel_rfl
theorem Rh:shp Tryz.prog 293=some (false,1):=by kernel_rfl
theorem Ri:zer Tryz.prog 293=some [(AV.int .i32 0)]:=by kernel_rfl
theorem Rj:ah Tryz.prog 293=false:=by kernel_rfl
theorem Rk:aU Tryz.prog 10 293=some [(TyS.si .i32)]:=by kernel_rfl
theorem Rl:Tryz.prog.eqGuardType Tryz.prog.depth 293=false:=by kernel_rfl
theorem Rm:tyk Tryz.prog 294=some (TyK.struct [(0,(false,1)),(1,(false,1)),(2,(false,1)),(3,(false,1)),(4,(false,1)),(5,(false,1)),(6,(false,1)),(7,(false,1)),(8,(false,1)),(9,(false,1)),(10,(false,1))]):=by kernel_rfl
theorem Rn:shp Tryz.prog 294=some (true,11):=by kernel_rfl
theorem Ro:zer Tryz.prog 294=some [(AV.int .u64 0),(AV.int .u64 0),(AV.int .u32 0),(AV.int .u8 0),(AV.int .u8 0),(AV.int .u8 0),(AV.int .u8 0),AV.nilFn,AV.nilPtr,(AV.int .i32 0),(AV.int .i32 0)]:=by kernel_rfl
theorem Rq:ah Tryz.prog 294=false:=by kernel_rfl
theorem wy:aw Tryz.prog 294 0=some (0,false,1):=by kernel_rfl
theorem wz:aw Tryz.prog 294 1=some (1,false,1):=by kernel_rfl
theorem wA:aw Tryz.prog 294 2=some (2,false,1):=by kernel_rfl
theorem wB:aw Tryz.prog 294 3=some (3,false,1):=by kernel_rfl
theorem wC:aw Tryz.prog 294 4=some (4,false,1):=by kernel_rfl
theorem wD:aw Tryz.prog 294 5=some (5,false,1):=by kernel_rfl
theorem wE:aw Tryz.prog 294 6=some (6,false,1):=by kernel_rfl
theorem wF:aw Tryz.prog 294 7=some (7,false,1):=by kernel_rfl
theorem wG:aw Tryz.prog 294 8=some (8,false,1):=by kernel_rfl
theorem wH:aw Tryz.prog 294 9=some (9,false,1):=by kernel_rfl
theorem sG:aw Tryz.prog 294 10=some (10,false,1):=by kernel_rfl
theorem Rr:tyk Tryz.prog 295=some (TyK.struct [(0,(false,1)),(1,(false,1)),(2,(false,1)),(3,(false,1)),(4,(false,1)),(5,(false,1)),(6,(false,1)),(7,(false,1)),(8,(false,1)),(9,(false,1)),(10,(false,1))]):=by kernel_rfl
theorem Rt:shp Tryz.prog 295=some (true,11):=by kernel_rfl
theorem Ru:zer Tryz.prog 295=some [(AV.int .u64 0),(AV.int .u64 0),(AV.int .u32 0),(AV.int .u8 0),(AV.int .u8 0),(AV.int .u8 0),(AV.int .u8 0),AV.nilFn,AV.nilPtr,(AV.int .i32 0),(AV.int .i32 0)]:=by kernel_rfl
theorem Rv:ah Tryz.prog 295=false:=by kernel_rfl
theorem wI:aw Tryz.prog 295 0=some (0,false,1):=by kernel_rfl
theorem wJ:aw Tryz.prog 295 1=some (1,false,1):=by kernel_rfl
theorem wK:aw Tryz.prog 295 2=some (2,false,1):=by kernel_rfl
theorem wL:aw Tryz.prog 295 3=some (3,false,1):=by kernel_rfl
theorem wM:aw Tryz.prog 295 4=some (4,false,1):=by kernel_rfl
theorem wN:aw Tryz.prog 295 5=some (5,false,1):=by kernel_rfl
theorem wO:aw Tryz.prog 295 6=some (6,false,1):=by kernel_rfl
theorem wP:aw Tryz.prog 295 7=some (7,false,1):=by kernel_rfl
theorem wQ:aw Tryz.prog 295 8=some (8,false,1):=by kernel_rfl
theorem wR:aw Tryz.prog 295 9=some (9,false,1):=by kernel_rfl
theorem sH:aw Tryz.prog 295 10=some (10,false,1):=by kernel_rfl
attribute [go_sem] aaX aaY aaZ aa0 aa1 aa2 aa3 aa4 aa5 aa6 aa7 aa8 aa9 aba abb abc abd abe abf abg abh abi abj abk abl abm abn abo abp abq abr abt abu abv abw abx aby abz abA abB
attribute [go_sem] abC abD abE abF Cd Ce Cf Cg abG abH abI abJ abK abL Ch Ci Cj Ck abM abN abO abP abQ abR To Tp Tq Ts Tt Tu Tv Tw Tx Tz TL TN TO TP TQ TR
attribute [go_sem] TS TT TU TW TX TY y1 y3 TZ T0 T1 T2 y4 y5 T3 T4 T5 T6 T7 T8 T9 Ua Ub Uc Ud Ue Uf Ug Uh Ui y6 Uj Uk Ul Um y7 Un Uo Up Uq
attribute [go_sem] Ur Us Ut Uu Uv Uw Ux Uy Uz UA UB UC UD UE UF UG UH UI UJ UK UL UM UN UO UP UQ UR US UT UU UW UX UY UZ U0 U1 U2 U3 U4 U5
attribute [go_sem] U6 U7 U8 U9 Va Vb Vc Vd Ve Vf Vg Vh Vi Vj y8 y9 za zb Vk Vl Vm Vn zc zd zf zg Vo Vp Vq Vr Vs Vt Vu Vv Vw Vx Vy Vz VA VB
attribute [go_sem] VC VD VF VG zh zi zj VH VI VJ VL VM VN zm zo zp VO VP VQ VS VT VU VV VW VX VY VZ V0 V1 V2 V3 V4 V5 V6 V7 V8 V9 Wa Wb Wc
attribute [go_sem] Wd We Wf Wg Wh Wi Wj Wl Wm Wn Wo Wp Wq Wr Ws Wt Wu Wv Ww Wx Wy Wz WA WB WC WD WE WG WH WI WJ WK WM WN WO WQ WS WT WU WV
attribute [go_sem] zq zr zx zy zA WX WY WZ W0 W1 W2 zB zC zD zE zF W3 W4 W5 W6 W7 W8 W9 Xa Xb Xc Xd Xe Xf Xg Xh Xi Xj Xk Xl Xm Xn Xo Xp Xq
attribute [go_sem] zG Xr Xs Xt Xu zH Xv Xw Xx Xy Xz XA XB XC XD XE XF XG XH XI XJ XK XL XM XN XO XP XQ XR XS XT XU XV XW XX XY XZ X0 X1 X2
attribute [go_sem] X3 X4 X5 X6 X7 X8 X9 Ya Yb Yc Yd Ye Yf Yg Yh Yi Yj Yk Yl Ym Yn Yo Yp Yq Yr Ys Yt Yu zI zJ zK zM Yv Yw Yx Yy zN zO zP zQ
attribute [go_sem] Yz YA YB YC YD YE YF YG YH YI YJ YK YL YM zR zS zT zU zV zW YN YO YP YQ YR YS zX zY zZ z1 z6 z7 YT YU YV YW YX YY YZ Y0
attribute [go_sem] Y1 Y2 Y3 Y4 Y5 Y6 z8 Aa Ac Y7 Y8 Y9 Za Zb Zc Ad Ae Af Zd Ze Zf Zg Zh Zi Zj Zk Zl Zm Zn Zo Zp Zq Zr Zs Zt Zu Zv Zw Ag Ah
attribute [go_sem] Ai Zx Zy Zz ZA Aj Ak Al ZB ZC ZD ZE ZF ZG ZH ZI ZJ ZK ZL ZM ZN ZO ZP ZQ ZR ZS ZT ZU Am Ao Ap ZV ZW ZX ZY Aq Ar Au ZZ Z0
attribute [go_sem] Z9 aaa Cl Cm Cn Co Cp Cq Cr Cs Ct Cu Cv Cw Cx Cy Cz CA CB CD CE CF CG CH CI CJ CK CL CM CN CO CP CQ CR CS CT CU CV CW CX
attribute [go_sem] CY CZ C0 C2 C3 C4 C5 C6 C7 C8 uR uS C9 Da Db Dc uT uU Dd De Df Dg Dh Di Dj Dk Dl Dm Dn Dp Dq Dr Ds Dt Du Dv Dw Dx Dy Dz
attribute [go_sem] DA DB DC DD DE DF DG DH DI DK DL DM DN DO uV uW DP DQ DS DT uX uY DU DV DW DX DY DZ D0 D1 D2 D3 D4 D5 uZ u7 u9 va vb D6
attribute [go_sem] D7 D8 D9 vc vd ve vf vg Ea Eb Ec Ed Ee Ef Eg Eh Ei Ej Ek El Em En Eo Ep Er Es Et Eu Ev Ew Ex Ey Ez EA EB EC ED EE EF EH
attribute [go_sem] EI EJ EL EM EN EO EP ER ES ET EU EV EW EX EY EZ E0 E3 E4 E5 E6 E7 E8 E9 Fa Fb vh vi vj vk vl vm Fe Ff Fg Fh vn vo vp vq
attribute [go_sem] vr vt Fi Fj Fk Fl Fm Fo Fp Fq Fs Ft Fu Fv Fw Fx Fy Fz vu vv vw FA FB FC FD vx vz vA FE FF FG FH FI FJ FK FL FM FN FO FP
attribute [go_sem] FQ FR vB vC FT FU FV FW FX FY vD vE FZ Ga Gb Gc Gd Ge Gf Gg Gi Gj Gk Gl Gm Gn Gp Gq Gr Gs Gt Gu Gv Gw Gx Gy Gz GA GB GC
attribute [go_sem] GD GF vF vG GG GH GI GJ GK GL vH vI GM GN GO GP GQ GR GS GU GV GW GX GY GZ G0 G3 G4 G5 G6 G7 G8 G9 Ha Hb Hc Hd He Hf Hh
attribute [go_sem] Hi Hj Hk Hl Hm Hn Ho Hp Hq Hr Hs Ht Hu Hv Hw Hx Hy Hz HA HB HC HE HF HG HH HI HJ HK HL HM HN HO HP HQ HR HS HT HU HV HW
attribute [go_sem] HX HY HZ H0 H2 H3 H4 H5 H6 H7 H8 H9 Ia Ib Ic Ie Ig Ih Ii Ij Ik Il Im Io Ip Iq Ir Iu Iv Iw Ix Iy Iz IA IB IC ID IE IF IG
attribute [go_sem] IH II IJ IK IL IM IN IP IQ IS IT IU IV IW IX IY IZ I0 I1 I2 I3 vJ vK vL I4 I5 I6 I7 I8 I9 vM vN vO Ja Jb Jc Jd Je Jf Jg
attribute [go_sem] Jh Ji Jj Jk Jl Jm Jn Jo Jp Jq Jr Js Jt Ju Jv Jw Jx Jy Jz JA JB JC vP vQ JD JE JF vR vS JG JH JI JJ JK JL JM JN JO JP JQ
attribute [go_sem] JR JS JT JU JV JW JX JY JZ J0 J1 J2 J3 J4 J5 J6 J7 J8 J9 Ka Kb Kc Kd Ke Kf Kg Kh Ki Kj Kk Kl Km Kn Ko Kq Kr Ks Kt Ku Kv
attribute [go_sem] Kw Kx Ky Kz KW KX KY KZ La Lb Lc Ld Le Lf Lg Lh Li Lj Lk Ll Lm Ln Lo Lp Lq Lr Ls Lt Lu Lv Lw Lx Ly Lz LB LC LD LF LG LH
attribute [go_sem] LI LJ LM LN LO LP LQ LS LU LV LW LX LY LZ L3 L4 L5 L6 L7 L8 L9 Ma Mb Mc Md Me Mf Mg Mh Mi Mj Mk Ml Mm Mn Mo Mp Mq Mr Ms
attribute [go_sem] Mt Mu Mv Mw Mx My Mz MA MB MC MD MF MG MH MI MJ MK ML MM MN MO MP MQ MR MS MT MU MV MW MX MY MZ M0 M1 M3 M4 M5 M6 M7 M8
attribute [go_sem] M9 Na Nb Nc Nd Nf Ng Nh Ni Nj Nk Nl Nn Np Nq Nr Ns Nt Nu Nv Nw Nx Ny Nz NA NB NC ND NF NG NH NI NJ NK NL NM NN NO NP NQ
attribute [go_sem] vT vU vV NR NS NU NV vW vX vY NW NX NY NZ N0 N1 N2 N3 N4 N5 N6 N7 N8 N9 Oa Ob Oc Od Oe Of Og Oh Oi Oj Ol Om Oo Oq Ot Ou
attribute [go_sem] Ov Ow Ox Oy Oz OA OB OC OD OE OF OG OH OI OJ OK OL OM ON OP OQ OR OS OT OU OV OW OX OY OZ O0 O1 O2 O3 O4 O5 O6 O7 O8 O9
attribute [go_sem] Pa Pb Pd Pe Pf Pg Ph Pj Pk vZ Pl Pm Pn Po Pp Pq v7 Pr Pt Pu Pv Pw Px Py Pz PA PB PC PD PE PF PH PI PJ PK PM PN PO PQ PT
attribute [go_sem] PU PW PX PY PZ P0 P1 P2 P3 P4 v8 wa P5 P6 P7 P8 P9 Qa wb wc Qb Qc Qd Qe Qf Qg Qh Qi Qj Qk Ql Qm Qn Qo Qp Qq Qr Qs Qt wg
attribute [go_sem] wh wi wj Qu Qv Qw Qx wm wo wq wu Qy Qz QA QB QC QD QE QF wv QH QI QJ QK wx QL QM QN QO QP QQ QR QS QT QU QV QW QX QY QZ
attribute [go_sem] Q0 Q1 Q2 Q3 Q4 Q6 Ra Rb Rc Re Rf Rg Rh Ri Rj Rk Rl Rm Rn Ro Rq wy wz wA wB wC wD wE wF wG wH sG Rr Rt Ru Rv wI wJ wK wL
attribute [go_sem] wM wN wO wP wQ wR sH
theorem mixed:Tryz.prog.follows .mixedOrders=true:=by kernel_rfl
end Go.Proofs.YtngffmnomciogaaGreatDoor
namespace Go.Proofs.YtngffmnomciogaaGreatDoor
open Go
set_option maxRecDepth 100000
set_option maxHeartbeats 1000000
theorem tI:((Tryz.prog.info? 112).map (·.size))=some 2:=by kernel_rfl
theorem Rw:liesAt Tryz.prog Tryz.prog.depth 112 (2 / Tryz.prog.cellsOf 112) 0 112 1=true:=by kernel_rfl
theorem l5 (b:Nat) (w:World) (h0:w.cell? ⟨b,0,none⟩=some (.pointer (some ⟨b,0,none⟩))) :
  Calls Tryz.prog 155 #[.pointer (some ⟨b,0,none⟩)] w fun e w'=>e = .returned (.tuple #[])∧w' = w:=by
 obtain ⟨j,hj,_⟩:=Option.map_eq_some_iff.1 tI
 go_enter Tryz.func155,Tryz.ntmps155
 go_wp2
 rw [Lib.run_neq_ptr_same w _ Tryz.underlying109 hj]
 go_wp2
 go_end0
 exact ⟨rfl,rfl⟩
theorem la (b:Nat) (w:World) (h0:w.cell? ⟨b,0,none⟩=some (.pointer none)) (hsh:w.shape? b=some (112,2)) (hfz:w.frozen? ⟨b,0,none⟩=false) :
  Calls Tryz.prog 155 #[.pointer (some ⟨b,0,none⟩)] w fun e w'=>e = .returned (.tuple #[])∧w' = w.setCell ⟨b,0,none⟩ (.pointer (some ⟨b,0,none⟩)):=by
 obtain ⟨j,hj,hjs⟩:=Option.map_eq_some_iff.1 tI
 go_enter Tryz.func155,Tryz.ntmps155
 go_wp2
 rw [Lib.run_to_unsafe w ⟨b,0,none⟩ Tryz.underlying109 Tryz.underlying199 hj (by rw [hjs];decide) hsh (Nat.zero_lt_succ 1)]
 simp only [Result.andThen]
 rw [Oper.upon_value]
 go_wp2
 rw [run_callFunc_extern Tryz.func214 (by kernel_rfl) (by kernel_rfl) (by kernel_rfl) (e:=Extern.AbiNoEscape.same) (by kernel_rfl)]
 rw [Lib.run_noEscape]
 simp only [Result.andThen]
 rw [Oper.upon_value]
 go_wp2
 rw [Lib.run_from_unsafe w ⟨b,0,none⟩ Tryz.underlying199 Tryz.underlying109 hj hsh Rw]
 simp only [Result.andThen]
 rw [Oper.upon_value]
 go_wp2
 go_end0
 exact ⟨rfl,rfl⟩
end Go.Proofs.YtngffmnomciogaaGreatDoor
namespace Go.Proofs
open Go.Shelf
def Tryz.qS:Go.Shelf.Ren:=⟨fun|162=>227|232=>266|227=>267|234=>268|236=>269|228=>295|271=>296|151=>297|120=>307|197=>294|152=>308|260=>306|137=>82|119=>311|224=>286|225=>285|217=>151|266=>211|n=>n,fun|9=>9|4=>4|3=>3|5=>5|117=>234|116=>233|0=>0|124=>237|21=>21|105=>259|46=>206|119=>276|139=>279|138=>278|n=>n,fun|3=>4|4=>5|n=>n⟩
theorem Tryz.Rx:Go.Proofs.Lays.n162 Tryz.prog Tryz.qS:={
 mixed:=by kernel_rfl
 f119:=Tryz.func311.trans (congrArg some (by kernel_rfl))
 f120:=Tryz.func307.trans (congrArg some (by kernel_rfl))
 f137:=Tryz.func82.trans (congrArg some (by kernel_rfl))
 f151:=Tryz.func297.trans (congrArg some (by kernel_rfl))
 f152:=Tryz.func308.trans (congrArg some (by kernel_rfl))
 f162:=Tryz.func227.trans (congrArg some (by kernel_rfl))
 f197:=Tryz.func294.trans (congrArg some (by kernel_rfl))
 f217:=Tryz.func151.trans (congrArg some (by kernel_rfl))
 f224:=Tryz.func286.trans (congrArg some (by kernel_rfl))
 f225:=Tryz.func285.trans (congrArg some (by kernel_rfl))
 f227:=Tryz.func267.trans (congrArg some (by kernel_rfl))
 f228:=Tryz.func295.trans (congrArg some (by kernel_rfl))
 f232:=Tryz.func266.trans (congrArg some (by kernel_rfl))
 f234:=Tryz.func268.trans (congrArg some (by kernel_rfl))
 f236:=Tryz.func269.trans (congrArg some (by kernel_rfl))
 f260:=Tryz.func306.trans (congrArg some (by kernel_rfl))
 f266:=Tryz.func211.trans (congrArg some (by kernel_rfl))
 f271:=Tryz.func296.trans (congrArg some (by kernel_rfl))
 t0:=Tryz.underlying0
 a0:=Tryz.isAgg0
 z0:=Tryz.sizeOf0
 v0:=Tryz.zeroValue0
 t3:=Tryz.underlying3
 a3:=Tryz.isAgg3
 z3:=Tryz.sizeOf3
 v3:=Tryz.zeroValue3
 t4:=Tryz.underlying4
 a4:=Tryz.isAgg4
 z4:=Tryz.sizeOf4
 v4:=Tryz.zeroValue4
 t5:=Tryz.underlying5
 a5:=Tryz.isAgg5
 z5:=Tryz.sizeOf5
 v5:=Tryz.zeroValue5
 t9:=Tryz.underlying9
 a9:=Tryz.isAgg9
 z9:=Tryz.sizeOf9
 v9:=Tryz.zeroValue9
 t21:=Tryz.underlying21
 a21:=Tryz.isAgg21
 z21:=Tryz.sizeOf21
 v21:=Tryz.zeroValue21
 t46:=Tryz.underlying206
 a46:=Tryz.isAgg206
 z46:=Tryz.sizeOf206
 v46:=Tryz.zeroValue206
 t105:=Tryz.underlying259
 a105:=Tryz.isAgg259
 z105:=Tryz.sizeOf259
 v105:=Tryz.zeroValue259
 t116:=Tryz.underlying233
 a116:=Tryz.isAgg233
 z116:=Tryz.sizeOf233
 t117:=Tryz.underlying234
 a117:=Tryz.isAgg234
 z117:=Tryz.sizeOf234
 v117:=Tryz.zeroValue234
 t119:=Tryz.underlying276
 a119:=Tryz.isAgg276
 z119:=Tryz.sizeOf276
 t124:=Tryz.underlying237
 a124:=Tryz.isAgg237
 z124:=Tryz.sizeOf237
 v124:=Tryz.zeroValue237
 t138:=Tryz.underlying278
 a138:=Tryz.isAgg278
 z138:=Tryz.sizeOf278
 v138:=Tryz.zeroValue278
 t139:=Tryz.underlying279
 a139:=Tryz.isAgg279
 z139:=Tryz.sizeOf279
 v139:=Tryz.zeroValue279
 g3:=by kernel_rfl
 g4:=by kernel_rfl }
open Go.RowKit in
theorem Tryz.strings_TrimRight_one (s:ByteArray) (c:UInt8) (hc:c.toNat < 128) (w:World) (hs:s.size≤9223372036854775807) :
  Calls Tryz.prog 227 #[.string s,.string ⟨#[c]⟩] w fun e w'=>e = .returned (.string ⟨(Lib.trimRightB s.data.toList c).toArray⟩)∧w' = w:=Any.strings_TrimRight_one Tryz.Rx s c hc w hs
def Tryz.oW:Go.Shelf.Ren:=⟨fun|171=>156|243=>215|246=>245|283=>276|284=>277|285=>278|286=>279|129=>264|317=>298|318=>299|319=>300|320=>301|337=>309|338=>310|n=>n,fun|3=>3|9=>9|2=>2|4=>4|171=>242|0=>0|53=>230|37=>110|5=>5|173=>244|212=>263|51=>228|20=>20|213=>264|46=>206|232=>281|233=>282|n=>n,fun|17=>3|18=>6|19=>7|n=>n⟩
theorem Tryz.Av:Go.Proofs.LaysM.n171 Tryz.prog Tryz.oW:={
 mixed:=by kernel_rfl
 f129:=Tryz.func264.trans (congrArg some (by kernel_rfl))
 f171:=Tryz.func156.trans (congrArg some (by kernel_rfl))
 f243:=Tryz.func215.trans (congrArg some (by kernel_rfl))
 f246:=Tryz.func245.trans (congrArg some (by kernel_rfl))
 f283:=Tryz.func276.trans (congrArg some (by kernel_rfl))
 f284:=Tryz.func277.trans (congrArg some (by kernel_rfl))
 f285:=Tryz.func278.trans (congrArg some (by kernel_rfl))
 f286:=Tryz.func279.trans (congrArg some (by kernel_rfl))
 f317:=Tryz.func298.trans (congrArg some (by kernel_rfl))
 f318:=Tryz.func299.trans (congrArg some (by kernel_rfl))
 f319:=Tryz.func300.trans (congrArg some (by kernel_rfl))
 f320:=Tryz.func301.trans (congrArg some (by kernel_rfl))
 f337:=Tryz.func309.trans (congrArg some (by kernel_rfl))
 f338:=Tryz.func310.trans (congrArg some (by kernel_rfl))
 t0:=Tryz.underlying0
 a0:=Tryz.isAgg0
 z0:=Tryz.sizeOf0
 v0:=Tryz.zeroValue0
 t2:=Tryz.underlying2
 a2:=Tryz.isAgg2
 z2:=Tryz.sizeOf2
 v2:=Tryz.zeroValue2
 t3:=Tryz.underlying3
 a3:=Tryz.isAgg3
 z3:=Tryz.sizeOf3
 v3:=Tryz.zeroValue3
 t4:=Tryz.underlying4
 a4:=Tryz.isAgg4
 z4:=Tryz.sizeOf4
 v4:=Tryz.zeroValue4
 t5:=Tryz.underlying5
 a5:=Tryz.isAgg5
 z5:=Tryz.sizeOf5
 v5:=Tryz.zeroValue5
 t9:=Tryz.underlying9
 a9:=Tryz.isAgg9
 z9:=Tryz.sizeOf9
 v9:=Tryz.zeroValue9
 t20:=Tryz.underlying20
 a20:=Tryz.isAgg20
 z20:=Tryz.sizeOf20
 v20:=Tryz.zeroValue20
 t37:=Tryz.underlying110
 a37:=Tryz.isAgg110
 z37:=Tryz.sizeOf110
 v37:=Tryz.zeroValue110
 t46:=Tryz.underlying206
 a46:=Tryz.isAgg206
 z46:=Tryz.sizeOf206
 v46:=Tryz.zeroValue206
 t51:=Tryz.underlying228
 a51:=Tryz.isAgg228
 z51:=Tryz.sizeOf228
 v51:=Tryz.zeroValue228
 t53:=Tryz.underlying230
 a53:=Tryz.isAgg230
 z53:=Tryz.sizeOf230
 v53:=Tryz.zeroValue230
 t171:=Tryz.underlying242
 a171:=Tryz.isAgg242
 z171:=Tryz.sizeOf242
 v171:=Tryz.zeroValue242
 t173:=Tryz.underlying244
 a173:=Tryz.isAgg244
 z173:=Tryz.sizeOf244
 v173:=Tryz.zeroValue244
 t212:=Tryz.underlying263
 a212:=Tryz.isAgg263
 z212:=Tryz.sizeOf263
 v212:=Tryz.zeroValue263
 t213:=Tryz.underlying264
 a213:=Tryz.isAgg264
 z213:=Tryz.sizeOf264
 t232:=Tryz.underlying281
 a232:=Tryz.isAgg281
 z232:=Tryz.sizeOf281
 v232:=Tryz.zeroValue281
 t233:=Tryz.underlying282
 a233:=Tryz.isAgg282
 z233:=Tryz.sizeOf282
 v233:=Tryz.zeroValue282
 g17:=by kernel_rfl
 g18:=by kernel_rfl
 g19:=by kernel_rfl
 i0:=by kernel_rfl
 i2:=by kernel_rfl
 i3:=by kernel_rfl
 i4:=by kernel_rfl
 i5:=by kernel_rfl
 i9:=by kernel_rfl
 i20:=by kernel_rfl
 i37:=by kernel_rfl
 i46:=by kernel_rfl
 i51:=by kernel_rfl
 i53:=by kernel_rfl
 i171:=by kernel_rfl
 i173:=by kernel_rfl
 i212:=by kernel_rfl
 i232:=by kernel_rfl
 i233:=by kernel_rfl
 m17:=by kernel_rfl
 m18:=by kernel_rfl
 m19:=by kernel_rfl }
open Go.RowKit Go.Sort Go.Lib in
theorem Tryz.strconv_Itoa (n:Int) (h0:-9223372036854775808≤n) (h1:n≤9223372036854775807) (w:World) (htab:Lib.TabIs Tryz.prog w "internal/strconv.uint64pow10" .u64 Lib.pow10Tab) :
  Calls Tryz.prog 156 #[.int .i64 n] w fun e w'=>e = .returned (.string ⟨(Lib.itoa n).toArray⟩)∧∃ k os,w' = grow (w.drewN k) os:=Any.strconv_Itoa Tryz.Av n h0 h1 w htab
def Tryz.oX:Go.Shelf.Ren:=⟨fun|172=>159|244=>217|245=>218|247=>246|279=>247|280=>248|281=>249|282=>250|287=>280|316=>281|171=>156|205=>282|321=>302|322=>303|243=>215|246=>245|283=>276|284=>277|285=>278|286=>279|129=>264|317=>298|318=>299|319=>300|320=>301|337=>309|338=>310|n=>n,fun|9=>9|3=>3|75=>114|76=>163|4=>4|5=>5|167=>213|37=>110|0=>0|85=>214|2=>2|168=>216|53=>230|175=>246|46=>206|210=>249|127=>161|145=>269|143=>267|21=>21|171=>242|173=>244|212=>263|51=>228|20=>20|213=>264|232=>281|233=>282|80=>116|n=>n,fun|15=>1|16=>2|17=>3|18=>6|19=>7|n=>n⟩
theorem Tryz.l6:Go.Proofs.LaysC.n172 Tryz.prog Tryz.oX:={
 mixed:=by kernel_rfl
 f129:=Tryz.func264.trans (congrArg some (by kernel_rfl))
 f171:=Tryz.func156.trans (congrArg some (by kernel_rfl))
 f172:=Tryz.func159.trans (congrArg some (by kernel_rfl))
 f205:=Tryz.func282.trans (congrArg some (by kernel_rfl))
 f243:=Tryz.func215.trans (congrArg some (by kernel_rfl))
 f244:=Tryz.func217.trans (congrArg some (by kernel_rfl))
 f245:=Tryz.func218.trans (congrArg some (by kernel_rfl))
 f246:=Tryz.func245.trans (congrArg some (by kernel_rfl))
 f247:=Tryz.func246.trans (congrArg some (by kernel_rfl))
 f279:=Tryz.func247.trans (congrArg some (by kernel_rfl))
 f280:=Tryz.func248.trans (congrArg some (by kernel_rfl))
 f281:=Tryz.func249.trans (congrArg some (by kernel_rfl))
 f282:=Tryz.func250.trans (congrArg some (by kernel_rfl))
 f283:=Tryz.func276.trans (congrArg some (by kernel_rfl))
 f284:=Tryz.func277.trans (congrArg some (by kernel_rfl))
 f285:=Tryz.func278.trans (congrArg some (by kernel_rfl))
 f286:=Tryz.func279.trans (congrArg some (by kernel_rfl))
 f287:=Tryz.func280.trans (congrArg some (by kernel_rfl))
 f316:=Tryz.func281.trans (congrArg some (by kernel_rfl))
 f317:=Tryz.func298.trans (congrArg some (by kernel_rfl))
 f318:=Tryz.func299.trans (congrArg some (by kernel_rfl))
 f319:=Tryz.func300.trans (congrArg some (by kernel_rfl))
 f320:=Tryz.func301.trans (congrArg some (by kernel_rfl))
 f321:=Tryz.func302.trans (congrArg some (by kernel_rfl))
 f322:=Tryz.func303.trans (congrArg some (by kernel_rfl))
 f337:=Tryz.func309.trans (congrArg some (by kernel_rfl))
 f338:=Tryz.func310.trans (congrArg some (by kernel_rfl))
 t0:=Tryz.underlying0
 a0:=Tryz.isAgg0
 z0:=Tryz.sizeOf0
 v0:=Tryz.zeroValue0
 t2:=Tryz.underlying2
 a2:=Tryz.isAgg2
 z2:=Tryz.sizeOf2
 v2:=Tryz.zeroValue2
 t3:=Tryz.underlying3
 a3:=Tryz.isAgg3
 z3:=Tryz.sizeOf3
 v3:=Tryz.zeroValue3
 t4:=Tryz.underlying4
 a4:=Tryz.isAgg4
 z4:=Tryz.sizeOf4
 v4:=Tryz.zeroValue4
 t5:=Tryz.underlying5
 a5:=Tryz.isAgg5
 z5:=Tryz.sizeOf5
 v5:=Tryz.zeroValue5
 t9:=Tryz.underlying9
 a9:=Tryz.isAgg9
 z9:=Tryz.sizeOf9
 v9:=Tryz.zeroValue9
 t20:=Tryz.underlying20
 a20:=Tryz.isAgg20
 z20:=Tryz.sizeOf20
 v20:=Tryz.zeroValue20
 t21:=Tryz.underlying21
 a21:=Tryz.isAgg21
 z21:=Tryz.sizeOf21
 v21:=Tryz.zeroValue21
 t37:=Tryz.underlying110
 a37:=Tryz.isAgg110
 z37:=Tryz.sizeOf110
 v37:=Tryz.zeroValue110
 t46:=Tryz.underlying206
 a46:=Tryz.isAgg206
 z46:=Tryz.sizeOf206
 v46:=Tryz.zeroValue206
 t51:=Tryz.underlying228
 a51:=Tryz.isAgg228
 z51:=Tryz.sizeOf228
 v51:=Tryz.zeroValue228
 t53:=Tryz.underlying230
 a53:=Tryz.isAgg230
 z53:=Tryz.sizeOf230
 v53:=Tryz.zeroValue230
 t75:=Tryz.underlying114
 a75:=Tryz.isAgg114
 z75:=Tryz.sizeOf114
 v75:=Tryz.zeroValue114
 t76:=Tryz.underlying163
 a76:=Tryz.isAgg163
 z76:=Tryz.sizeOf163
 v76:=Tryz.zeroValue163
 t85:=Tryz.underlying214
 a85:=Tryz.isAgg214
 z85:=Tryz.sizeOf214
 v85:=Tryz.zeroValue214
 t127:=Tryz.underlying161
 a127:=Tryz.isAgg161
 z127:=Tryz.sizeOf161
 v127:=Tryz.zeroValue161
 t143:=Tryz.underlying267
 a143:=Tryz.isAgg267
 z143:=Tryz.sizeOf267
 v143:=Tryz.zeroValue267
 t145:=Tryz.underlying269
 a145:=Tryz.isAgg269
 z145:=Tryz.sizeOf269
 v145:=Tryz.zeroValue269
 t167:=Tryz.underlying213
 a167:=Tryz.isAgg213
 z167:=Tryz.sizeOf213
 v167:=Tryz.zeroValue213
 t168:=Tryz.underlying216
 a168:=Tryz.isAgg216
 z168:=Tryz.sizeOf216
 v168:=Tryz.zeroValue216
 t171:=Tryz.underlying242
 a171:=Tryz.isAgg242
 z171:=Tryz.sizeOf242
 v171:=Tryz.zeroValue242
 t173:=Tryz.underlying244
 a173:=Tryz.isAgg244
 z173:=Tryz.sizeOf244
 v173:=Tryz.zeroValue244
 t175:=Tryz.underlying246
 a175:=Tryz.isAgg246
 z175:=Tryz.sizeOf246
 v175:=Tryz.zeroValue246
 t210:=Tryz.underlying249
 a210:=Tryz.isAgg249
 z210:=Tryz.sizeOf249
 v210:=Tryz.zeroValue249
 t212:=Tryz.underlying263
 a212:=Tryz.isAgg263
 z212:=Tryz.sizeOf263
 v212:=Tryz.zeroValue263
 t213:=Tryz.underlying264
 a213:=Tryz.isAgg264
 z213:=Tryz.sizeOf264
 t232:=Tryz.underlying281
 a232:=Tryz.isAgg281
 z232:=Tryz.sizeOf281
 v232:=Tryz.zeroValue281
 t233:=Tryz.underlying282
 a233:=Tryz.isAgg282
 z233:=Tryz.sizeOf282
 v233:=Tryz.zeroValue282
 g15:=by kernel_rfl
 g16:=by kernel_rfl
 g17:=by kernel_rfl
 g18:=by kernel_rfl
 g19:=by kernel_rfl
 t80:=Tryz.underlying116
 a80:=Tryz.isAgg116
 z80:=Tryz.sizeOf116
 v80:=Tryz.zeroValue116
 i0:=by kernel_rfl
 i2:=by kernel_rfl
 i3:=by kernel_rfl
 i4:=by kernel_rfl
 i5:=by kernel_rfl
 i9:=by kernel_rfl
 i20:=by kernel_rfl
 i21:=by kernel_rfl
 i37:=by kernel_rfl
 i46:=by kernel_rfl
 i51:=by kernel_rfl
 i53:=by kernel_rfl
 i75:=by kernel_rfl
 i76:=by kernel_rfl
 i80:=by kernel_rfl
 i85:=by kernel_rfl
 i127:=by kernel_rfl
 i143:=by kernel_rfl
 i145:=by kernel_rfl
 i167:=by kernel_rfl
 i168:=by kernel_rfl
 i171:=by kernel_rfl
 i173:=by kernel_rfl
 i175:=by kernel_rfl
 i210:=by kernel_rfl
 i212:=by kernel_rfl
 i232:=by kernel_rfl
 i233:=by kernel_rfl
 m15:=by kernel_rfl
 m16:=by kernel_rfl
 m17:=by kernel_rfl
 m18:=by kernel_rfl
 m19:=by kernel_rfl
 c0:=by kernel_rfl
 c2:=by kernel_rfl
 c3:=by kernel_rfl
 c4:=by kernel_rfl
 c5:=by kernel_rfl
 c9:=by kernel_rfl
 c20:=by kernel_rfl
 c21:=by kernel_rfl
 c37:=by kernel_rfl
 c46:=by kernel_rfl
 c51:=by kernel_rfl
 c53:=by kernel_rfl
 c75:=by kernel_rfl
 c76:=by kernel_rfl
 c80:=by kernel_rfl
 c85:=by kernel_rfl
 c127:=by kernel_rfl
 c143:=by kernel_rfl
 c145:=by kernel_rfl
 c167:=by kernel_rfl
 c168:=by kernel_rfl
 c171:=by kernel_rfl
 c173:=by kernel_rfl
 c175:=by kernel_rfl
 c210:=by kernel_rfl
 c212:=by kernel_rfl
 c213:=by kernel_rfl
 c232:=by kernel_rfl
 c233:=by kernel_rfl }
open Go.RowKit in
theorem Tryz.strconv_Atoi_ok (s:ByteArray) (hmax:s.size≤9223372036854775806) (v:Int) (h:Lib.atoiAll s.data.toList = .ok v) (w:World) :
  Calls Tryz.prog 159 #[.string s] w fun e w'=>e = .returned (.tuple #[.int .i64 v,.nilIface])∧(w' = w∨∃ t,w' = Lib.bytesWorld w 5 t):=Any.strconv_Atoi_ok Tryz.l6 s hmax v h w
open Go.RowKit in
theorem Tryz.strconv_Atoi_range (s:ByteArray) (hlim:s.size≤281474976710656) (h:Lib.atoiAll s.data.toList = .range) (ev:Value) (w:World) (hv:w.cell? ⟨2,0,none⟩=some ev) (hev:ev = .nilIface∨∃ te pe,ev = .iface te pe) :
  Calls Tryz.prog 159 #[.string s] w fun e w'=>∃ N,e = .returned (.tuple #[.int .i64 (Lib.atoiSat s.data.toList),.iface 216 (.pointer (some ⟨N,0,none⟩))])∧w.heap.size≤N∧w'.heap[N]? = some (.cells #[.string ⟨#[65,116,111,105]⟩,.string s,ev] 249 (0,0))∧Below w.heap.size w w':=Any.strconv_Atoi_range Tryz.l6 s hlim h ev w hv hev
open Go.RowKit Go.Lib in
def Tryz.qT:Go.Shelf.Ren:=⟨fun|144=>184|143=>223|219=>253|217=>151|225=>285|224=>286|267=>287|266=>211|314=>304|n=>n,fun|9=>9|4=>4|3=>3|5=>5|46=>206|146=>270|51=>228|n=>n,fun|1=>0|n=>n⟩
theorem Tryz.Ry:Go.Proofs.Lays.n144 Tryz.prog Tryz.qT:={
 mixed:=by kernel_rfl
 f143:=Tryz.func223.trans (congrArg some (by kernel_rfl))
 f144:=Tryz.func184.trans (congrArg some (by kernel_rfl))
 f217:=Tryz.func151.trans (congrArg some (by kernel_rfl))
 f219:=Tryz.func253.trans (congrArg some (by kernel_rfl))
 f224:=Tryz.func286.trans (congrArg some (by kernel_rfl))
 f225:=Tryz.func285.trans (congrArg some (by kernel_rfl))
 f266:=Tryz.func211.trans (congrArg some (by kernel_rfl))
 f267:=Tryz.func287.trans (congrArg some (by kernel_rfl))
 f314:=Tryz.func304.trans (congrArg some (by kernel_rfl))
 t3:=Tryz.underlying3
 a3:=Tryz.isAgg3
 z3:=Tryz.sizeOf3
 v3:=Tryz.zeroValue3
 t4:=Tryz.underlying4
 a4:=Tryz.isAgg4
 z4:=Tryz.sizeOf4
 v4:=Tryz.zeroValue4
 t5:=Tryz.underlying5
 a5:=Tryz.isAgg5
 z5:=Tryz.sizeOf5
 v5:=Tryz.zeroValue5
 t9:=Tryz.underlying9
 a9:=Tryz.isAgg9
 z9:=Tryz.sizeOf9
 v9:=Tryz.zeroValue9
 t46:=Tryz.underlying206
 a46:=Tryz.isAgg206
 z46:=Tryz.sizeOf206
 v46:=Tryz.zeroValue206
 t51:=Tryz.underlying228
 a51:=Tryz.isAgg228
 z51:=Tryz.sizeOf228
 v51:=Tryz.zeroValue228
 t146:=Tryz.underlying270
 a146:=Tryz.isAgg270
 z146:=Tryz.sizeOf270
 v146:=Tryz.zeroValue270
 g1:=by kernel_rfl }
open Go.RowKit Go.Lib in
theorem Tryz.strings_Contains_one (s:ByteArray) (c:UInt8) (w:World) :
  Calls Tryz.prog 184 #[.string s,.string ⟨#[c]⟩] w fun e w'=>e = .returned (.bool (decide (0≤Lib.indexByte s.data.toList c)))∧w' = w:=Any.strings_Contains_one Tryz.Ry s c w
def Tryz.qU:Go.Shelf.Ren:=⟨fun|190=>175|125=>225|258=>224|128=>263|129=>264|302=>254|303=>255|304=>256|305=>257|306=>258|307=>259|308=>260|309=>261|310=>262|333=>288|329=>289|330=>290|334=>291|335=>292|336=>293|344=>305|n=>n,fun|31=>27|9=>9|3=>3|46=>206|0=>0|51=>228|53=>230|4=>4|183=>222|182=>221|131=>129|5=>5|218=>253|222=>257|228=>272|229=>273|n=>n,fun|n=>n⟩
theorem Tryz.tJ:Go.Proofs.Lays.n190 Tryz.prog Tryz.qU:={
 mixed:=by kernel_rfl
 f125:=Tryz.func225.trans (congrArg some (by kernel_rfl))
 f128:=Tryz.func263.trans (congrArg some (by kernel_rfl))
 f129:=Tryz.func264.trans (congrArg some (by kernel_rfl))
 f190:=Tryz.func175.trans (congrArg some (by kernel_rfl))
 f258:=Tryz.func224.trans (congrArg some (by kernel_rfl))
 f302:=Tryz.func254.trans (congrArg some (by kernel_rfl))
 f303:=Tryz.func255.trans (congrArg some (by kernel_rfl))
 f304:=Tryz.func256.trans (congrArg some (by kernel_rfl))
 f305:=Tryz.func257.trans (congrArg some (by kernel_rfl))
 f306:=Tryz.func258.trans (congrArg some (by kernel_rfl))
 f307:=Tryz.func259.trans (congrArg some (by kernel_rfl))
 f308:=Tryz.func260.trans (congrArg some (by kernel_rfl))
 f309:=Tryz.func261.trans (congrArg some (by kernel_rfl))
 f310:=Tryz.func262.trans (congrArg some (by kernel_rfl))
 f329:=Tryz.func289.trans (congrArg some (by kernel_rfl))
 f330:=Tryz.func290.trans (congrArg some (by kernel_rfl))
 f333:=Tryz.func288.trans (congrArg some (by kernel_rfl))
 f334:=Tryz.func291.trans (congrArg some (by kernel_rfl))
 f335:=Tryz.func292.trans (congrArg some (by kernel_rfl))
 f336:=Tryz.func293.trans (congrArg some (by kernel_rfl))
 f344:=Tryz.func305.trans (congrArg some (by kernel_rfl))
 t0:=Tryz.underlying0
 a0:=Tryz.isAgg0
 z0:=Tryz.sizeOf0
 v0:=Tryz.zeroValue0
 t3:=Tryz.underlying3
 a3:=Tryz.isAgg3
 z3:=Tryz.sizeOf3
 v3:=Tryz.zeroValue3
 t4:=Tryz.underlying4
 a4:=Tryz.isAgg4
 z4:=Tryz.sizeOf4
 v4:=Tryz.zeroValue4
 t5:=Tryz.underlying5
 a5:=Tryz.isAgg5
 z5:=Tryz.sizeOf5
 v5:=Tryz.zeroValue5
 t9:=Tryz.underlying9
 a9:=Tryz.isAgg9
 z9:=Tryz.sizeOf9
 v9:=Tryz.zeroValue9
 t31:=Tryz.underlying27
 a31:=Tryz.isAgg27
 z31:=Tryz.sizeOf27
 v31:=Tryz.zeroValue27
 t46:=Tryz.underlying206
 a46:=Tryz.isAgg206
 z46:=Tryz.sizeOf206
 v46:=Tryz.zeroValue206
 t51:=Tryz.underlying228
 a51:=Tryz.isAgg228
 z51:=Tryz.sizeOf228
 v51:=Tryz.zeroValue228
 t53:=Tryz.underlying230
 a53:=Tryz.isAgg230
 z53:=Tryz.sizeOf230
 v53:=Tryz.zeroValue230
 t131:=Tryz.underlying129
 a131:=Tryz.isAgg129
 z131:=Tryz.sizeOf129
 v131:=Tryz.zeroValue129
 t182:=Tryz.underlying221
 a182:=Tryz.isAgg221
 z182:=Tryz.sizeOf221
 v182:=Tryz.zeroValue221
 t183:=Tryz.underlying222
 a183:=Tryz.isAgg222
 z183:=Tryz.sizeOf222
 v183:=Tryz.zeroValue222
 t218:=Tryz.underlying253
 a218:=Tryz.isAgg253
 z218:=Tryz.sizeOf253
 v218:=Tryz.zeroValue253
 t222:=Tryz.underlying257
 a222:=Tryz.isAgg257
 z222:=Tryz.sizeOf257
 v222:=Tryz.zeroValue257
 t228:=Tryz.underlying272
 a228:=Tryz.isAgg272
 z228:=Tryz.sizeOf272
 v228:=Tryz.zeroValue272
 t229:=Tryz.underlying273
 a229:=Tryz.isAgg273
 z229:=Tryz.sizeOf273
 v229:=Tryz.zeroValue273 }
open Go.Sort Go.RowKit in
theorem Tryz.slices_Sort_string (blk off cap:Nat) (ss:List (List UInt8)) (w:World) (hH:Holds encStr w blk off ss.toArray) (hblk:blk < w.heap.size) (hsz:ss.length < 4611686018427387904) :
  Calls Tryz.prog 175 #[.slice (some ⟨blk,off,none⟩) ss.length cap] w fun e w' =>
   e = .returned (.tuple #[])∧∃ n os,w' = grow (putRow encStr (Sort.ahead w n) blk off (ss.mergeSort fun x y=>decide (x≤y)).toArray) os:=Any.slices_Sort_string Tryz.tJ blk off cap ss w hH hblk hsz
def Tryz.qV:Go.Shelf.Ren:=⟨fun|149=>186|222=>228|n=>n,fun|9=>9|5=>5|3=>3|4=>4|n=>n,fun|n=>n⟩
theorem Tryz.Rz:Go.Proofs.Lays.n149 Tryz.prog Tryz.qV:={
 mixed:=by kernel_rfl
 f149:=Tryz.func186.trans (congrArg some (by kernel_rfl))
 f222:=Tryz.func228.trans (congrArg some (by kernel_rfl))
 t3:=Tryz.underlying3
 a3:=Tryz.isAgg3
 z3:=Tryz.sizeOf3
 v3:=Tryz.zeroValue3
 t4:=Tryz.underlying4
 a4:=Tryz.isAgg4
 z4:=Tryz.sizeOf4
 v4:=Tryz.zeroValue4
 t5:=Tryz.underlying5
 a5:=Tryz.isAgg5
 z5:=Tryz.sizeOf5
 v5:=Tryz.zeroValue5
 t9:=Tryz.underlying9
 a9:=Tryz.isAgg9
 z9:=Tryz.sizeOf9
 v9:=Tryz.zeroValue9 }
open Go.RowKit Go.Lib in
theorem Tryz.strings_LastIndexByte (s:ByteArray) (c:Int) (hs:s.size < 4611686018427387904) (w:World) :
  Calls Tryz.prog 186 #[.string s,.int .u8 c] w fun e w'=>e = .returned (.int .i64 (Lib.lastIndexByte s c))∧w' = w:=Any.strings_LastIndexByte Tryz.Rz s c hs w
def Tryz.qW:Go.Shelf.Ren:=⟨fun|102=>157|209=>216|207=>120|n=>n,fun|9=>9|4=>4|3=>3|n=>n,fun|n=>n⟩
theorem Tryz.RA:Go.Proofs.Lays.n102 Tryz.prog Tryz.qW:={
 mixed:=by kernel_rfl
 f102:=Tryz.func157.trans (congrArg some (by kernel_rfl))
 f207:=Tryz.func120.trans (congrArg some (by kernel_rfl))
 f209:=Tryz.func216.trans (congrArg some (by kernel_rfl))
 t3:=Tryz.underlying3
 a3:=Tryz.isAgg3
 z3:=Tryz.sizeOf3
 v3:=Tryz.zeroValue3
 t4:=Tryz.underlying4
 a4:=Tryz.isAgg4
 z4:=Tryz.sizeOf4
 v4:=Tryz.zeroValue4
 t9:=Tryz.underlying9
 a9:=Tryz.isAgg9
 z9:=Tryz.sizeOf9
 v9:=Tryz.zeroValue9 }
open Go.RowKit Go.Lib in
theorem Tryz.strings_TrimSuffix (s p:ByteArray) (w:World) (hs:s.size≤9223372036854775807) :
  Calls Tryz.prog 157 #[.string s,.string p] w fun e w'=>e = .returned (.string ⟨(Lib.trimSuffix s.data.toList p.data.toList).toArray⟩)∧w' = w:=Any.strings_TrimSuffix Tryz.RA s p w hs
def Tryz.qX:Go.Shelf.Ren:=⟨fun|146=>181|221=>226|268=>265|138=>170|143=>223|195=>221|197=>294|218=>222|219=>253|260=>306|217=>151|225=>285|224=>286|267=>287|266=>211|314=>304|n=>n,fun|9=>9|31=>27|3=>3|4=>4|0=>0|105=>259|21=>21|5=>5|46=>206|119=>276|139=>279|138=>278|146=>270|51=>228|n=>n,fun|1=>0|3=>4|4=>5|n=>n⟩
theorem Tryz.RB:Go.Proofs.Lays.n146 Tryz.prog Tryz.qX:={
 mixed:=by kernel_rfl
 f138:=Tryz.func170.trans (congrArg some (by kernel_rfl))
 f143:=Tryz.func223.trans (congrArg some (by kernel_rfl))
 f146:=Tryz.func181.trans (congrArg some (by kernel_rfl))
 f195:=Tryz.func221.trans (congrArg some (by kernel_rfl))
 f197:=Tryz.func294.trans (congrArg some (by kernel_rfl))
 f217:=Tryz.func151.trans (congrArg some (by kernel_rfl))
 f218:=Tryz.func222.trans (congrArg some (by kernel_rfl))
 f219:=Tryz.func253.trans (congrArg some (by kernel_rfl))
 f221:=Tryz.func226.trans (congrArg some (by kernel_rfl))
 f224:=Tryz.func286.trans (congrArg some (by kernel_rfl))
 f225:=Tryz.func285.trans (congrArg some (by kernel_rfl))
 f260:=Tryz.func306.trans (congrArg some (by kernel_rfl))
 f266:=Tryz.func211.trans (congrArg some (by kernel_rfl))
 f267:=Tryz.func287.trans (congrArg some (by kernel_rfl))
 f268:=Tryz.func265.trans (congrArg some (by kernel_rfl))
 f314:=Tryz.func304.trans (congrArg some (by kernel_rfl))
 t0:=Tryz.underlying0
 a0:=Tryz.isAgg0
 z0:=Tryz.sizeOf0
 v0:=Tryz.zeroValue0
 t3:=Tryz.underlying3
 a3:=Tryz.isAgg3
 z3:=Tryz.sizeOf3
 v3:=Tryz.zeroValue3
 t4:=Tryz.underlying4
 a4:=Tryz.isAgg4
 z4:=Tryz.sizeOf4
 v4:=Tryz.zeroValue4
 t5:=Tryz.underlying5
 a5:=Tryz.isAgg5
 z5:=Tryz.sizeOf5
 v5:=Tryz.zeroValue5
 t9:=Tryz.underlying9
 a9:=Tryz.isAgg9
 z9:=Tryz.sizeOf9
 v9:=Tryz.zeroValue9
 t21:=Tryz.underlying21
 a21:=Tryz.isAgg21
 z21:=Tryz.sizeOf21
 v21:=Tryz.zeroValue21
 t31:=Tryz.underlying27
 a31:=Tryz.isAgg27
 z31:=Tryz.sizeOf27
 v31:=Tryz.zeroValue27
 t46:=Tryz.underlying206
 a46:=Tryz.isAgg206
 z46:=Tryz.sizeOf206
 v46:=Tryz.zeroValue206
 t51:=Tryz.underlying228
 a51:=Tryz.isAgg228
 z51:=Tryz.sizeOf228
 v51:=Tryz.zeroValue228
 t105:=Tryz.underlying259
 a105:=Tryz.isAgg259
 z105:=Tryz.sizeOf259
 v105:=Tryz.zeroValue259
 t119:=Tryz.underlying276
 a119:=Tryz.isAgg276
 z119:=Tryz.sizeOf276
 t138:=Tryz.underlying278
 a138:=Tryz.isAgg278
 z138:=Tryz.sizeOf278
 v138:=Tryz.zeroValue278
 t139:=Tryz.underlying279
 a139:=Tryz.isAgg279
 z139:=Tryz.sizeOf279
 v139:=Tryz.zeroValue279
 t146:=Tryz.underlying270
 a146:=Tryz.isAgg270
 z146:=Tryz.sizeOf270
 v146:=Tryz.zeroValue270
 g1:=by kernel_rfl
 g3:=by kernel_rfl
 g4:=by kernel_rfl }
open Go.RowKit Go.Lib in
theorem Tryz.strings_Split (s sep:ByteArray) (m:Int) (w:World) (hs:s.size < 4294967281) (hm:w.cell? ⟨0,0,none⟩=some (.int .i64 m)) (h1:1≤sep.size) :
  Calls Tryz.prog 181 #[.string s,.string sep] w fun e w' =>
   e = .returned (.slice (some ⟨w.heap.size,0,none⟩) (Lib.countB s sep+1) (Lib.countB s sep+1))∧w' = w.alloc (.cells ((Lib.splitB sep 0 (Lib.countB s sep) s).map Value.string).toArray 9):=Any.strings_Split Tryz.RB (by kernel_rfl) s sep m w hs hm h1
open Go.RowKit Go.Sort in
theorem Tryz.slices_Sort_string_none (p:Option Addr) (cap:Nat) (w:World) :
  Calls Tryz.prog 175 #[.slice p 0 cap] w fun e w'=>e = .returned (.tuple #[])∧w' = w:=Any.slices_Sort_string_none Tryz.tJ p cap w
end Go.Proofs
