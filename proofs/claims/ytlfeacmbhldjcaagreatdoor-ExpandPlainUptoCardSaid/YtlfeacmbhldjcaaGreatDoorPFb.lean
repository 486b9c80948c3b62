/- A part of the proof: the texts FwC, one behind the other. -/
import Derived.Test.YtlfeacmbhldjcaaGreatDoorPFa
import Derived.MapKept
import Derived.Laws.IdiomRangeMap
import Derived.RangeFuncLeaves
import Derived.RangeFuncFrom
import Derived.Attr
import Derived.Lib.UnsafeStr
import Derived.Laws.IdiomStrings
import Derived.Laws.Wrap64
set_option linter.unusedVariables false
set_option linter.unusedSimpArgs false
set_option linter.unusedSectionVars false
namespace Go.Ab
def dD (k k':AV):Bool:=bp k.cells k'.cells
def dm (k:AV):List ME→Option ME
 | []=>none
 | e::es=>if dD k e.key then some e else dm k es
def dz (k v:AV) (born:Nat):List ME→List ME
 | []=>[⟨k,v,born⟩]
 | e::es=>if dD k e.key then ⟨e.key,v,e.born⟩::es else e::dz k v born es
def jG (k:AV):List ME→List ME
 | []=>[]
 | e::es=>if dD k e.key then es else e::jG k es
def iR (n:Nat) (v:AV):List ME→List ME
 | []=>[]
 | e::es=>if e.born=n then ⟨e.key,v,e.born⟩::es else e::iR n v es
def cu (k:AV):List ME→List MapEntry→Nat→Option (Nat × Value)
 | e::es,c::cs,i=>if dD k e.key then some (i,c.val) else cu k es cs (i+1)
 | _,_,_=>none
theorem Yn {k:TyS} {x y:AV} (hx:eD k x=true) (hy:eD k y=true) (h:eqS x y=true):x=y:=by
 cases k<;>cases x<;>simp only [eD] at hx<;>first|(cases hx;done)|skip
 all_goals (cases y<;>simp only [eD] at hy<;>first|(cases hy;done)|skip)
 ·simp only [eqS,beq_iff_eq] at h;rw [h]
 ·simp only [beq_iff_eq] at hx hy;subst hx;subst hy;simp only [eqS,beq_iff_eq] at h;rw [h]
 ·simp only [eqS,beq_iff_eq] at h;rw [h]
theorem lU:∀ {ks:List TyS} {xs ys:List AV},fits ks xs=true→fits ks ys=true→bp xs ys=true→xs=ys
 | [],[],[],_,_,_=>rfl
 | k::ks,x::xs,y::ys,hx,hy,h=>by
  simp only [fits,bp,Bool.and_eq_true] at hx hy h
  rw [Yn hx.1 hy.1 h.1,lU hx.2 hy.2 h.2]
 | [],[],_::_,_,hy,_=>by cases hy
 | [],_::_,_,hx,_,_=>by cases hx
 | _::_,[],_,hx,_,_=>by cases hx
 | _::_,_::_,[],_,hy,_=>by cases hy
theorem z7 {ks:List TyS} {ag:Bool} {x y:AV} (hx:aQ ks ag x=true) (hy:aQ ks ag y=true) (h:dD x y=true):x=y:=by
 simp only [aQ,Bool.and_eq_true,beq_iff_eq] at hx hy
 have e:=lU hx.2 hy.2 h
 have ha:x.isAgg=y.isAgg:=hx.1.trans hy.1.symm
 cases x<;>cases y<;>simp_all [AV.cells,AV.isAgg]
theorem VR.z8 {g:Gh} {k:TyS} {x:AV} {u v:Value} (hf:eD k x=true) (hu:VR g x u) (hv:VR g x v):u=v:=by
 cases k<;>cases x<;>simp only [eD] at hf<;>first|(cases hf;done)|skip
 ·rw [hu.bN,hv.bN]
 ·rw [hu.aY,hv.aY]
 ·obtain ⟨b,rfl,h1⟩:=hu.bf;obtain ⟨c,rfl,h2⟩:=hv.bf
  have:b=c:=by
   cases b;cases c;simp only at h1 h2;congr 1;exact Array.ext' (h1.trans h2.symm)
  rw [this]
theorem fU:∀ {ks:List TyS} {xs:List AV},fits ks xs=true→∀ j,j < xs.length→∃ k,eD k (xs.getD j .undef)=true
 | k::ks,x::xs,h,0,_=>⟨k,by simp only [fits,Bool.and_eq_true] at h;exact h.1⟩
 | k::ks,x::xs,h,j+1,hj=>by
  simp only [fits,Bool.and_eq_true] at h
  have:=fU h.2 j (by simpa using hj)
  simpa using this
 | _,[],_,_,hj=>absurd hj (Nat.not_lt_zero _)
 | [],_::_,h,_,_=>by cases h
theorem VR.Yo {g:Gh} {ks:List TyS} {ag:Bool} {x:AV} {u v:Value} (hf:aQ ks ag x=true) (hu:VR g x u) (hv:VR g x v):u=v:=by
 simp only [aQ,Bool.and_eq_true,beq_iff_eq] at hf
 obtain ⟨h1,h2⟩:=hf
 by_cases hx:x.isAgg=true
 ·cases x<;>simp only [AV.isAgg] at hx<;>first|(cases hx;done)|skip
  rename_i cs
  obtain ⟨a,rfl,a1,a2⟩:=hu.dY;obtain ⟨b,rfl,b1,b2⟩:=hv.dY
  congr 1
  refine Array.ext (a1.trans b1.symm) fun j h3 h4=>?_
  obtain ⟨k,hk⟩:=fU h2 j (by simp only [AV.cells];omega)
  have:=VR.z8 hk (a2 j (by omega)) (b2 j (by omega))
  simpa [h3,h4] using this
 ·have hc:x.cells=[x]:=by cases x<;>first|rfl|exact absurd rfl hx
  rw [hc] at h2
  obtain ⟨k,hk⟩:=fU h2 0 (by simp)
  exact VR.z8 hk hu hv
theorem gO {g:Gh} {k:TyS} {x:AV} {u:Value} (hf:eD k x=true) (hu:VR g x u) (n:Nat):Instr.sameBits n u u=true:=by
 cases k<;>cases x<;>simp only [eD] at hf<;>first|(cases hf;done)|skip
 ·rw [hu.bN];cases n<;>simp [Instr.sameBits]
 ·rw [hu.aY];cases n<;>simp [Instr.sameBits]
 ·obtain ⟨b,rfl,h1⟩:=hu.bf;have e:(b == b)=true:=(MapKept.bytes_beq b b).2 rfl;cases n<;>simp [Instr.sameBits,e]
theorem lf {g:Gh} {ks:List TyS} {ag:Bool} {x:AV} {u:Value} (hf:aQ ks ag x=true) (hu:VR g x u):Instr.sameBits 10000 u u=true:=by
 simp only [aQ,Bool.and_eq_true,beq_iff_eq] at hf
 obtain ⟨h1,h2⟩:=hf
 by_cases hx:x.isAgg=true
 ·cases x<;>simp only [AV.isAgg] at hx<;>first|(cases hx;done)|skip
  rename_i cs
  obtain ⟨a,rfl,a1,a2⟩:=hu.dY
  simp only [Instr.sameBits,beq_self_eq_true,Bool.true_and,List.all_eq_true]
  rintro ⟨p,q⟩ hpq
  obtain ⟨j,hj,e⟩:=List.mem_iff_getElem.1 hpq
  simp only [List.getElem_zip,Array.getElem_toList,Prod.mk.injEq] at e
  obtain ⟨rfl,rfl⟩:=e
  have hja:j < a.size:=by simpa using hj
  obtain ⟨k,hk⟩:=fU h2 j (by simp only [AV.cells];omega)
  have:=gO hk (a2 j (by omega)) 9999
  simpa [hja] using this
 ·have hc:x.cells=[x]:=by cases x<;>first|rfl|exact absurd rfl hx
  rw [hc] at h2
  obtain ⟨k,hk⟩:=fU h2 0 (by simp)
  exact gO hk hu _
theorem VR.jH {g:Gh} {ks:List TyS} {ag:Bool} {x:AV} {u:Value} (hf:aQ ks ag x=true) (hu:VR g x u):Made g ag x.cells u:=by
 simp only [aQ,Bool.and_eq_true,beq_iff_eq] at hf
 cases hag:ag with
 | true =>
  rw [hag] at hf
  cases x<;>simp only [AV.isAgg] at hf<;>first|(cases hf.1;done)|skip
  exact hu.made
 | false =>
  rw [hag] at hf
  have hc:x.cells=[x]:=by cases x<;>first|rfl|(cases hf.1;done)
  simp only [Made,Bool.false_eq_true,if_false,hc]
  exact ⟨rfl,hu⟩
section
variable {P:Program} [Laid P]
omit [Laid P] in
theorem bh {g:Gh} {em:Bool}:∀ (d:Nat) (t:TypeId) (ks:List TyS),aW P d t=some ks→∀ e,d≤e→∀ ag,shp P t=some (ag,ks.length)→∀ xs u,fits ks xs=true→Made g ag xs u→∀ w,
  (Instr.checkKey em e t u).run P w = .ok () w
 | 0,_,_,h,_,_,_,_,_,_,_,_,_=>by cases h
 | d+1,t,ks,h,e,he,ag,hs,xs,u,fx,hu,w=>by
  obtain ⟨e,rfl⟩:∃ e',e=e' + 1:=⟨e - 1,by omega⟩
  unfold aW at h
  split at h
  ·rename_i hund;simp [Instr.checkKey,ax hund]
  ·rename_i k hund;simp [Instr.checkKey,ax hund]
  ·rename_i hund;simp [Instr.checkKey,ax hund]
  ·rename_i fs hund
   split at h
   ·cases h
   ·split at h
    ·rename_i l hl
     split at h
     ·rename_i hs'
      rw [hs] at hs';simp only [Option.some.injEq,Prod.mk.injEq] at hs';obtain ⟨rfl,_⟩:=hs'
      simp only [Option.some.injEq] at h;subst h
      simp only [Made,if_true] at hu
      obtain ⟨a,rfl,ha1,ha2⟩:=hu
      rw [Instr.checkKey]
      simp only [Sem.run_bind,ax hund,Result.andThen_ok]
      rw [← Array.forIn_toList]
      have hfit:fits l (xs.drop 0)=true:=by simpa using fx
      have hlen:xs.length=0+l.length:=by simpa using bP fx
      generalize (0:Nat)=off at hl hfit hlen
      clear fx hund hs
      generalize fs.toList=fl at hl
      induction fl generalizing off l with
      | nil=>simp
      | cons f fl ih =>
       simp only [j8] at hl
       split at hl
       ·rename_i hc
        obtain ⟨hnm,hoff⟩:=hc
        split at hl
        ·rename_i ks hks
         split at hl
         ·rename_i rest hrest
          simp only [Option.some.injEq] at hl;subst hl
          obtain ⟨agg,hsh,hn⟩:=lL hks
          obtain ⟨p1,p2⟩:=fj hfit
          simp only [List.length_append] at hlen
          obtain ⟨u,hu,hmu⟩:=gZ hsh hn ha1 ha2 off (by omega) w
          rw [List.drop_drop] at p2
          have hck:=bh (em:=em) d f.type ks hks e (by omega) agg hsh _ u p1 hmu w
          simp only [List.forIn_cons,Sem.run_bind,hnm,ne_eq,not_false_eq_true,if_true,hoff,hu,Result.andThen_ok,hck,Sem.run_pure]
          simpa only [ne_eq,Sem.run_pure] using ih _ rfl _ p2 (by omega) hrest
         ·cases hl
        ·cases hl
       ·cases hl
     ·cases h
    ·cases h
  ·cases h
end
end Go.Ab
namespace Go.Ab
section
variable {P:Program} [Laid P]
theorem qB {k:AV}:∀ {es:List ME} {cs:List MapEntry} {i:Nat} {r:Nat × Value},cu k es cs i=some r→i≤r.1∧∃ e c,es[r.1 - i]? = some e∧cs[r.1 - i]? = some c∧dD k e.key=true∧c.val=r.2
 | [],_,_,_,h=>by simp [cu] at h
 | _::_,[],_,_,h=>by simp [cu] at h
 | e::es,c::cs,i,r,h=>by
  simp only [cu] at h
  split at h
  ·rename_i hs
   simp only [Option.some.injEq] at h;subst h
   exact ⟨Nat.le_refl _,e,c,by simp,by simp,hs,rfl⟩
  ·obtain ⟨h1,e',c',h2,h3,h4,h5⟩:=qB h
   refine ⟨by omega,e',c',?_,?_,h4,h5⟩
   ·rw [show r.1 - i=(r.1 - (i+1))+1 from by omega];simpa using h2
   ·rw [show r.1 - i=(r.1 - (i+1))+1 from by omega];simpa using h3
omit [Laid P] in
theorem eC {g:Gh} {kt:TypeId} {ks:List TyS} {ag:Bool} (hks:aW P 10 kt=some ks) (hsh:shp P kt=some (ag,ks.length)) {k:AV} {u:Value} (hf:aQ ks ag k=true) (hu:VR g k u) (w:World) :
  ∀ {es:List ME} {cs:List MapEntry} (i:Nat),cD g es cs→(∀ e ∈ es,aQ ks ag e.key=true)→(Instr.findAsking kt u cs i).run P w = .ok (cu k es cs i) w
 | [],_,i,h,_=>by cases h;simp [Instr.findAsking,cu]
 | e::es,_,i,h,hall=>by
  cases h with
  | cons hk hv hb t =>
   rename_i c cs
   obtain ⟨agg,hs',hn,heq⟩:=dT (P:=P) (g:=g) (w:=w) 10 kt ks hks 10000 (by omega)
   rw [hsh] at hs';simp only [Option.some.injEq,Prod.mk.injEq] at hs';obtain ⟨rfl,_⟩:=hs'
   have he:=hall e (by simp)
   have hf':=hf;have he':=he
   simp only [aQ,Bool.and_eq_true] at hf' he'
   have:=heq k.cells e.key.cells u c.key hf'.2 he'.2 (hu.jH hf) (hk.jH he)
   have ih:=eC hks hsh hf hu w (i+1) t (fun e' h'=>hall e' (by simp [h']))
   have hd:Op.maxDepth=10000:=rfl
   simp only [Instr.findAsking,Op.equal,hd,Sem.run_bind,this,Result.andThen_ok,cu,Sem.run_ite]
   cases hc:dD k e.key with
   | true=>simp only [dD] at hc;simp [hc]
   | false=>simp only [dD] at hc;simp [hc,ih]
omit [Laid P] in
theorem jI {g:Gh} {kt:TypeId} {ks:List TyS} (hks:aW P 10 kt=some ks) (hsh:shp P kt=some (false,ks.length)) {k:AV} {u:Value} (hf:aQ ks false k=true) (hu:VR g k u) {d:TypeDesc} (hd:P.underlying kt=some d) :
  ∀ {es:List ME} {cs:List MapEntry} (i:Nat),cD g es cs→(∀ e ∈ es,aQ ks false e.key=true)→Instr.findNow d u cs i=some (cu k es cs i)
 | [],_,i,h,_=>by cases h;simp [Instr.findNow,cu]
 | e::es,_,i,h,hall=>by
  cases h with
  | cons hk hv hb t =>
   rename_i c cs
   have ih:=jI hks hsh hf hu hd (i+1) t (fun e' h'=>hall e' (by simp [h']))
   have he:=hall e (by simp)
   have key:Instr.sameNow d u c.key=some (dD k e.key):=by
    simp only [aQ,Bool.and_eq_true,beq_iff_eq] at hf he
    have c1:k.cells=[k]:=by cases k<;>first|rfl|(cases hf.1;done)
    have c2:e.key.cells=[e.key]:=by
     have:=he.1
     generalize e.key=ek at this
     cases ek<;>first|rfl|(cases this;done)
    unfold aW at hks
    rw [hd] at hks
    rw [c1] at hf;rw [c2] at he
    simp only [dD,c1,c2]
    have hk':=hk
    generalize e.key=ek at he hk'
    split at hks
    ·rename_i hb';simp only [Option.some.injEq] at hb';subst hb'
     split at hks
     ·simp only [Option.some.injEq] at hks;subst hks
      simp only [fits,Bool.and_true] at hf he
      cases k<;>simp only [eD] at hf<;>first|(cases hf.2;done)|skip
      cases ek<;>simp only [eD] at he<;>first|(cases he.2;done)|skip
      rw [hu.bN,hk'.bN];simp [Instr.sameNow,bp,eqS]
     ·cases hks
    ·rename_i q hb';simp only [Option.some.injEq] at hb';subst hb'
     split at hks
     ·simp only [Option.some.injEq] at hks;subst hks
      simp only [fits,Bool.and_true] at hf he
      cases k<;>simp only [eD] at hf<;>first|(cases hf.2;done)|skip
      cases ek<;>simp only [eD] at he<;>first|(cases he.2;done)|skip
      simp only [beq_iff_eq] at hf he
      rw [hu.aY,hk'.aY];simp [Instr.sameNow,bp,eqS,← hf.2,← he.2]
     ·cases hks
    ·rename_i hb';simp only [Option.some.injEq] at hb';subst hb'
     split at hks
     ·simp only [Option.some.injEq] at hks;subst hks
      simp only [fits,Bool.and_true] at hf he
      cases k<;>simp only [eD] at hf<;>first|(cases hf.2;done)|skip
      cases ek<;>simp only [eD] at he<;>first|(cases he.2;done)|skip
      obtain ⟨b1,rfl,h1⟩:=hu.bf;obtain ⟨b2,h2,h3⟩:=hk'.bf
      rw [h2]
      simp only [Instr.sameNow,bp,eqS,Bool.and_true,Option.some.injEq]
      rw [Bool.eq_iff_iff,MapKept.bytes_beq,beq_iff_eq,← h1,← h3]
      exact ⟨fun e=>by rw [e],fun e=>by cases b1;cases b2;simp only at e;congr 1;exact Array.ext' e⟩
     ·cases hks
    ·rename_i fs hb'
     split at hks
     ·cases hks
     ·split at hks
      ·split at hks
       ·rename_i h9;rw [hsh] at h9;simp at h9
       ·cases hks
      ·cases hks
    ·cases hks
   simp only [Instr.findNow,key,cu]
   cases dD k e.key<;>simp [ih]
omit [Laid P] in
theorem bQ {g:Gh} {kt:TypeId} {ks:List TyS} {ag:Bool} (hks:aW P 10 kt=some ks) (hsh:shp P kt=some (ag,ks.length)) {k:AV} {u:Value} (hf:aQ ks ag k=true) (hu:VR g k u) (w:World)
  {es:List ME} {cs:List MapEntry} (h:cD g es cs) (hall:∀ e ∈ es,aQ ks ag e.key=true):(Instr.findKey kt u cs).run P w = .ok (cu k es cs 0) w:=by
 obtain ⟨d,ii,hd,hi,hag,hsz⟩:=ea hsh
 have h1:=eC hks hsh hf hu w 0 h hall
 simp only [Instr.findKey,Sem.run_bind,ax hd,Result.andThen_ok]
 cases ag with
 | false=>rw [jI hks hsh hf hu hd 0 h hall];simp
 | true =>
  cases h with
  | nil=>simp [Instr.findNow,cu]
  | cons hk hv hb t =>
   have:Instr.sameNow d u=fun _=>none:=by
    funext v
    cases d<;>simp [DD] at hag<;>rfl
   simp only [Instr.findNow,this]
   exact h1
theorem jc {g:Gh} {k:AV}:∀ {es:List ME} {cs:List MapEntry} (i:Nat),cD g es cs →
  (match dm k es with|none=>cu k es cs i=none|some e=>∃ j v,cu k es cs i=some (i+j,v)∧es[j]? = some e∧VR g e.val v∧∃ c,cs[j]? = some c∧VR g e.key c.key∧c.born=e.born∧c.val=v)
 | [],_,i,h=>by cases h;simp [dm,cu]
 | e::es,_,i,h=>by
  cases h with
  | cons hk hv hb t =>
   rename_i c cs
   have ih:=jc (k:=k) (i+1) t
   simp only [dm,cu]
   cases hs:dD k e.key with
   | true=>exact ⟨0,c.val,by simp,by simp,hv,c,by simp,hk,hb,rfl⟩
   | false =>
    simp only [Bool.false_eq_true,if_false]
    cases hl:dm k es with
    | none=>rw [hl] at ih;exact ih
    | some e' =>
     rw [hl] at ih
     obtain ⟨j,v,h1,h2,h3,c',h4,h5,h6,h7⟩:=ih
     exact ⟨j+1,v,by rw [h1];simp;omega,by simpa using h2,h3,c',by simpa using h4,h5,h6,h7⟩
theorem eU {k v:AV} {b:Nat}:∀ {es:List ME},dm k es=none→dz k v b es=es++[⟨k,v,b⟩]
 | [],_=>rfl
 | e::es,h=>by
  simp only [dm] at h
  split at h
  ·cases h
  ·rename_i hs;simp [dz,hs,eU h]
theorem jd {k:AV} {e:ME}:∀ {es:List ME},dm k es=some e→dD k e.key=true∧e ∈ es
 | [],h=>by cases h
 | e' :: es,h=>by
  simp only [dm] at h
  split at h
  ·rename_i hs;simp only [Option.some.injEq] at h;subst h;exact ⟨hs,by simp⟩
  ·exact ⟨(jd h).1,by simp [(jd h).2]⟩
theorem cD.append {g:Gh} {es es':List ME} {cs cs':List MapEntry} (h:cD g es cs) (h':cD g es' cs'):cD g (es++es') (cs++cs'):=by
 induction h with
 | nil=>exact h'
 | cons hk hv hb _ ih=>exact .cons hk hv hb ih
theorem cD.set {g:Gh} {k v:AV} {b:Nat} {v':Value}:∀ {es:List ME} {cs:List MapEntry} {i j:Nat} {u:Value} (f:MapEntry→MapEntry),cD g es cs→cu k es cs i=some (i+j,u) →
  (∀ c,cs[j]? = some c→(f c).key=c.key∧(f c).val=v'∧(f c).born=c.born)→VR g v v'→cD g (dz k v b es) (cs.modify j f)
 | [],_,i,j,u,f,h,hf,_,_=>by cases h;simp [cu] at hf
 | e::es,_,i,j,u,f,h,hf,hc,hv'=>by
  cases h with
  | cons hk hv hb t =>
   rename_i c cs
   simp only [cu] at hf
   cases hs:dD k e.key with
   | true =>
    simp only [hs,if_true,Option.some.injEq,Prod.mk.injEq] at hf
    obtain rfl:j=0:=by omega
    obtain ⟨c1,c2,c3⟩:=hc c (by simp)
    simp only [dz,hs,if_true,List.modify_zero_cons]
    exact .cons (by rw [c1];exact hk) (by rw [c2];exact hv') (by rw [c3];exact hb) t
   | false =>
    simp only [hs,Bool.false_eq_true,if_false] at hf
    have hj:=(qB hf).1
    simp only at hj
    obtain ⟨j,rfl⟩:∃ j',j=j' + 1:=⟨j - 1,by omega⟩
    simp only [dz,hs,Bool.false_eq_true,if_false,List.modify_succ_cons]
    exact .cons hk hv hb (cD.set f t (by rw [hf];congr 2;omega) (fun c' h'=>hc c' (by simpa using h')) hv')
theorem nR {k v:AV} {b:Nat}:∀ {es:List ME} (p:AV→Nat→Prop),(∀ e ∈ es,p e.key e.born)→p k b→∀ e ∈ dz k v b es,p e.key e.born
 | [],p,_,hk,e,he=>by simp only [dz,List.mem_singleton] at he;subst he;exact hk
 | e' :: es,p,h,hk,e,he=>by
  simp only [dz] at he
  split at he
  ·rcases List.mem_cons.1 he with rfl|he
   ·exact h e' (by simp)
   ·exact h e (by simp [he])
  ·rcases List.mem_cons.1 he with rfl|he
   ·exact h _ (by simp)
   ·exact nR p (fun x hx=>h x (by simp [hx])) hk e he
theorem je {k v:AV} {b:Nat}:∀ {es:List ME},(dz k v b es).map ME.born=if (dm k es).isSome then es.map ME.born else es.map ME.born++[b]
 | []=>rfl
 | e::es=>by
  simp only [dz,dm]
  split
  ·simp
  ·simp only [List.map_cons,je]
   split<;>simp
theorem jJ {es:List ME}:es.Pairwise (fun e e'=>e.born < e'.born)↔(es.map ME.born).Pairwise (· < ·):=by rw [List.pairwise_map]
end
end Go.Ab
namespace Go.Ab
def lV (P:Program) (t:TypeId):Option (List TyS × Bool × AV) :=
 match tyk P t with
 | some (.map k e)=>match aW P 10 k,shp P k,(P.info? e).bind (·.zero) with
  | some ks,some (ag,_),some z=>some (ks,ag,cB z)
  | _,_,_=>none
 | _=>none
def fC (k z:AV) (es:List ME):AV:=match dm k es with
 | some e=>e.val
 | none=>z
def lW (k:AV) (clock:Nat) (es:List ME):Nat:=match dm k es with
 | some e=>e.born
 | none=>clock
def cF (k:AV) (es:List ME):Bool:=(dm k es).isSome
def kM (ok:Bool) (v:AV) (b:Bool):AV:=if ok then .tuple [v,.bool b] else v
def eI (P:Program) (m:Mem) (t:TypeId) (x k:AV) (ok:Bool):OpR :=
 match lV P t with
 | some (ks,ag,z)=>match x with
  | .nilMap=>if aQ ks ag k=true then bJ (kM ok z false) else .no
  | .map id=>match m id with
   | some (.map ks' ag' es clock)=>if ks' = ks∧ag' = ag∧aQ ks ag k=true then .eff ⟨[(id,.map ks' ag' es clock)],kM ok (fC k z es) (cF k es),[]⟩ else .no
   | _=>.no
  | _=>.no
 | none=>.no
def bS (P:Program) (m:Mem) (t:TypeId) (x k v:AV):OpR :=
 match lV P t with
 | some (ks,ag,_)=>match x with
  | .map id=>match m id with
   | some (.map ks' ag' es clock)=>if ks' = ks∧ag' = ag∧aQ ks ag k=true then
     .eff ⟨[(id,.map ks' ag' es clock)],.tuple [],[(id,some (.map ks' ag' (dz k v clock es) (if cF k es then clock else clock+1)))]⟩ else .no
   | _=>.no
  | _=>.no
 | none=>.no
def dU (P:Program) (m:Mem) (t:TypeId) (x k:AV):OpR :=
 match lV P t with
 | some (ks,ag,z)=>match x with
  | .map id=>match m id with
   | some (.map ks' ag' es clock)=>if ks' = ks∧ag' = ag∧aQ ks ag k=true then
     .eff ⟨[(id,.map ks' ag' es clock)],.tuple [fC k z es,.int .i64 (lW k clock es)],[(id,some (.map ks' ag' (dz k (fC k z es) clock es) (if cF k es then clock else clock+1)))]⟩ else .no
   | _=>.no
  | _=>.no
 | none=>.no
def cR (m:Mem) (x st v:AV):OpR :=
 match x,st with
 | .map id,.int .i64 (.ofNat n)=>match m id with
  | some (.map ks ag es clock)=>if es.any (fun e=>e.born == n)=true then .eff ⟨[(id,.map ks ag es clock)],.tuple [],[(id,some (.map ks ag (iR n v es) clock))]⟩ else .no
  | _=>.no
 | _,_=>.no
def iz (P:Program) (m:Mem) (t:TypeId) (x k:AV):OpR :=
 match lV P t with
 | some (ks,ag,_)=>match x with
  | .nilMap=>if aQ ks ag k=true then bJ (.tuple []) else .no
  | .map id=>match m id with
   | some (.map ks' ag' es clock)=>if ks' = ks∧ag' = ag∧aQ ks ag k=true then
     .eff ⟨[(id,.map ks' ag' es clock)],.tuple [],[(id,some (.map ks' ag' (jG k es) clock))]⟩ else .no
   | _=>.no
  | _=>.no
 | none=>.no
section
variable {P:Program} [Laid P] {o:Oper} {ρ:Operand→AV} {sp:Oid→Prop}
omit [Laid P] in
theorem fV {t:TypeId} {ks:List TyS} {ag:Bool} {z:AV} (h:lV P t=some (ks,ag,z)):∃ k e i zv,P.underlying t=some (.map k e)∧aW P 10 k=some ks∧shp P k=some (ag,ks.length)∧P.info? e=some i∧i.zero=some zv∧z=cB zv:=by
 unfold lV at h
 split at h
 ·rename_i k e hk
  obtain ⟨d,hd,rfl⟩:=aI hk
  split at h
  ·rename_i ks' ag' n zv h1 h2 h3
   simp only [Option.some.injEq,Prod.mk.injEq] at h
   obtain ⟨rfl,rfl,rfl⟩:=h
   obtain ⟨agg,h4,_⟩:=lL h1
   rw [h4] at h2;simp only [Option.some.injEq,Prod.mk.injEq] at h2;obtain ⟨rfl,rfl⟩:=h2
   simp only [Option.bind_eq_some_iff] at h3
   obtain ⟨i,hi,hz⟩:=h3
   exact ⟨k,e,i,zv,hd,h1,h4,hi,hz,rfl⟩
  ·cases h
 ·cases h
theorem aD.eJ {x:Ctx} {g:Gh} {m:Mem} {w:World} (hm:aD x g m w) {id:Oid} {b:Nat} {o0 o:ar} {ents ents':Array MapEntry} {c c':Nat} (hi:m id=some o0) (hb:g.loc id=some (some b))
  (h0:w.heap[b]? = some (.map ents c)) (ho:∀ w':World,w'.heap[b]? = some (.map ents' c')→b9 g w' b o) :
  aD x g (m.set id (some o)) { w with heap:=w.heap.setIfInBounds b (.map ents' c') }:=by
 have hlt:=(Array.getElem?_eq_some_iff.1 h0).1
 have hb':(w.heap.setIfInBounds b (.map ents' c'))[b]? = some (.map ents' c'):=by simp [hlt]
 refine hm.fS hi hb rfl rfl ⟨rfl,Nat.le_refl _⟩ (by simp) (fun k hk _=>by simp [Array.getElem?_setIfInBounds,Ne.symm hk]) (fun r hr=>?_) (fun c9 t9 fz9 h9=>by rw [h0] at h9;cases h9) (ho _ hb')
 obtain ⟨cc,t,fz,h1,_⟩:=hm.rows b r hr
 rw [h0] at h1;cases h1
theorem sL {t:TypeId} {y z:Operand} {ok:Bool} {m0:Mem} {e:Eff} (ho:o.op = .lookup t y z ok) (h:eI P m0 t (ρ y) (ρ z) ok = .eff e):aG P o ρ sp e∧∀ q,q ∈ e.need→m0 q.1=some q.2:=by
 unfold eI at h
 split at h
 ·rename_i ks ag zz hD
  obtain ⟨kt,et,i,zv,hund,hks,hsh,hi,hz,rfl⟩:=fV hD
  have res:∀ {g:Gh} {v:AV} {u:Value} (b:Bool),VR g v u→VR g (kM ok v b) (if ok then .tuple #[u,.bool b] else u):=by
   intro g v u b hv
   cases ok with
   | false=>exact hv
   | true=>exact .tuple _ _ rfl (fun j hj=>by
     match j,hj with
     | 0,_=>exact hv
     | 1,_=>exact .bool b)
  split at h
  ·rename_i hx
   split at h
   ·rename_i hf
    simp only [bJ,OpR.eff.injEq] at h;subst h
    refine ⟨aG.plain fun g a w hop=>?_,fun q hq=>by cases hq⟩
    have hv:=hop y (by simp [Op.operands,ho]);have hk:=hop z (by simp [Op.operands,ho])
    rw [hx] at hv
    have hck:=bh (P:=P) (g:=g) (em:=true) 10 kt ks hks 10000 (by omega) ag hsh _ _ (by simp only [aQ,Bool.and_eq_true] at hf;exact hf.2) (hk.jH hf) w
    have hfk:=bQ (P:=P) hks hsh hf hk w cD.nil (by simp)
    refine ⟨_,?_,res false (eL g zv)⟩
    simp [execOp,ho,Instr.lookup,ax hund,hv.dt,hck,hfk,cu,zeroValue,typeInfo,hi,hz]
   ·cases h
  ·rename_i id hx
   split at h
   ·rename_i ks' ag' es clock hmi
    split at h
    ·rename_i hc
     obtain ⟨rfl,rfl,hf⟩:=hc
     simp only [OpR.eff.injEq] at h;subst h
     refine ⟨aG.of fun x g a w m hm hnd hop _=>?_,fun q hq=>by simp only [List.mem_singleton] at hq;subst hq;exact hmi⟩
     have hv:=hop y (by simp [Op.operands,ho]);have hk:=hop z (by simp [Op.operands,ho])
     rw [hx] at hv
     obtain ⟨b,hu,hb⟩:=hv.eE
     obtain ⟨b',h1,h2,h3,h4⟩:=hm.obj id _ (hnd (id,.map ks' ag' es clock) (by simp))
     rw [hb] at h1;simp only [Option.some.injEq] at h1;subst h1
     obtain ⟨⟨ents,c1,c2⟩,c3,c4⟩:=h4
     have hck:=bh (P:=P) (g:=g) (em:=ents.isEmpty) 10 kt ks' hks 10000 (by omega) ag' hsh _ _ (by simp only [aQ,Bool.and_eq_true] at hf;exact hf.2) (hk.jH hf) w
     have hfk:=bQ (P:=P) hks hsh hf hk w c2 (fun e he=>(c3 e he).1)
     have hl:=jc (k:=ρ z) 0 c2
     have hrun:∃ u,(execOp a.eval o).run P w = .ok (.value (if ok then .tuple #[u,.bool (cF (ρ z) es)] else u)) w∧VR g (fC (ρ z) (cB zv) es) u:=by
      simp only [fC,cF]
      cases hle:dm (ρ z) es with
      | none =>
       rw [hle] at hl
       refine ⟨zv,?_,eL g zv⟩
       simp only at hl
       simp [execOp,ho,Instr.lookup,ax hund,hu,MapKept.run_getObj_map c1,hck,hfk,hl,zeroValue,typeInfo,hi,hz]
      | some e =>
       rw [hle] at hl
       obtain ⟨j,v,h5,h6,h7,_⟩:=hl
       refine ⟨v,?_,h7⟩
       simp [execOp,ho,Instr.lookup,ax hund,hu,MapKept.run_getObj_map c1,hck,hfk,h5]
     obtain ⟨u,hr1,hr2⟩:=hrun
     exact ⟨g,.value _,_,w,hr1,.inl rfl,Gh.le_refl g,fun _ _=>rfl,res _ hr2,hm⟩
    ·cases h
   ·cases h
  ·cases h
 ·cases h
theorem qC {ks:List TyS} {ag:Bool} {es:List ME} {clock:Nat} {k v:AV} (c3:∀ e ∈ es,aQ ks ag e.key=true∧e.born < clock)
  (c4:es.Pairwise fun e e'=>e.born < e'.born) (hf:aQ ks ag k=true) :
  (∀ e ∈ dz k v clock es,aQ ks ag e.key=true∧e.born < (if cF k es then clock else clock+1))∧(dz k v clock es).Pairwise (fun e e'=>e.born < e'.born):=by
 refine ⟨?_,?_⟩
 ·intro e he
  cases hle:dm k es with
  | none =>
   simp only [cF,hle,Option.isSome_none,Bool.false_eq_true,if_false]
   rw [eU hle] at he
   rcases List.mem_append.1 he with h|h
   ·exact ⟨(c3 e h).1,Nat.lt_succ_of_lt (c3 e h).2⟩
   ·simp only [List.mem_singleton] at h;subst h;exact ⟨hf,Nat.lt_succ_self _⟩
  | some e0 =>
   simp only [cF,hle,Option.isSome_some,if_true]
   have hb:e.born ∈ (dz k v clock es).map ME.born:=List.mem_map_of_mem he
   rw [je,hle] at hb
   simp only [Option.isSome_some,if_true] at hb
   obtain ⟨e1,h1,h2⟩:=List.mem_map.1 hb
   refine ⟨?_,by rw [← h2];exact (c3 e1 h1).2⟩
   exact nR (fun k _=>aQ ks ag k=true) (fun e he=>(c3 e he).1) hf e he
 ·rw [jJ,je]
  split
  ·exact jJ.1 c4
  ·refine List.pairwise_append.2 ⟨jJ.1 c4,by simp,fun x hx y hy=>?_⟩
   obtain ⟨e1,h1,rfl⟩:=List.mem_map.1 hx
   simp only [List.mem_singleton] at hy;subst hy
   exact (c3 e1 h1).2
theorem map_set {g:Gh} {ks:List TyS} {ag:Bool} {es:List ME} {clock:Nat} {ents:Array MapEntry} {k:AV} {u:Value} (c2:cD g es ents.toList) (c3:∀ e ∈ es,aQ ks ag e.key=true∧e.born < clock)
  (c4:es.Pairwise fun e e'=>e.born < e'.born) (hf:aQ ks ag k=true) (hk:VR g k u) :
  (cu k es ents.toList 0=none∧dm k es=none∧∀ (v:AV) (u':Value),VR g v u'→∀ (w:World) (b:Nat),w.heap[b]? = some (.map (ents.push { key:=u,val:=u',born:=clock }) (clock+1))→b9 g w b (.map ks ag (dz k v clock es) (clock+1))) ∨
  (∃ i v0 c e,cu k es ents.toList 0=some (i,v0)∧dm k es=some e∧ents[i]? = some c∧c.key=u∧c.val=v0∧c.born=e.born∧VR g e.val v0 ∧
   ∀ (v:AV) (u':Value),VR g v u'→∀ (w:World) (b:Nat) (f:MapEntry→MapEntry),f c={ key:=u,val:=u',born:=c.born }→w.heap[b]? = some (.map (ents.modify i f) clock)→b9 g w b (.map ks ag (dz k v clock es) clock)):=by
 have hl:=jc (k:=k) 0 c2
 cases hle:dm k es with
 | none =>
  rw [hle] at hl
  refine .inl ⟨hl,rfl,fun v u' hv w b hw=>?_⟩
  have inv:=qC (v:=v) c3 c4 hf
  simp only [cF,hle,Option.isSome_none,Bool.false_eq_true,if_false] at inv
  refine ⟨⟨_,hw,?_⟩,inv⟩
  rw [eU hle,Array.toList_push]
  exact c2.append (.cons hk hv rfl .nil)
 | some e =>
  rw [hle] at hl
  obtain ⟨j,v1,h1,h2,h3,c,h4,h5,h6,h7⟩:=hl
  have hsame:=jd hle
  have hke:k=e.key:=z7 hf (c3 e hsame.2).1 hsame.1
  have hcu:c.key=u:=VR.Yo hf (by rw [hke];exact h5) hk
  have h4':ents[j]? = some c:=by simpa using h4
  rw [Nat.zero_add] at h1
  refine .inr ⟨j,v1,c,e,h1,rfl,h4',hcu,h7,h6,h3,fun v u' hv w b f hfc hw=>?_⟩
  have inv:=qC (v:=v) c3 c4 hf
  simp only [cF,hle,Option.isSome_some,if_true] at inv
  refine ⟨⟨_,hw,?_⟩,inv⟩
  rw [Array.toList_modify]
  exact cD.set (i:=0) (u:=v1) f c2 (by rw [h1];simp) (fun c' hc'=>by
   rw [h4] at hc';simp only [Option.some.injEq] at hc';subst hc'
   rw [hfc];exact ⟨hcu.symm,rfl,rfl⟩) hv
omit [Laid P] in
theorem cJ {ks:List TyS} {ag:Bool} {k:AV} {u:Value} {g:Gh} (hf:aQ ks ag k=true) (hk:VR g k u) (w:World):(Instr.keyThatStays u u).run P w = .ok u w:=by
 simp [Instr.keyThatStays,lf hf hk]
theorem ni {t:TypeId} {y z v:Operand} {m0:Mem} {e:Eff} (ho:o.op = .mapUpdate t y z v) (h:bS P m0 t (ρ y) (ρ z) (ρ v) = .eff e):aG P o ρ sp e∧∀ q,q ∈ e.need→m0 q.1=some q.2:=by
 unfold bS at h
 split at h
 ·rename_i ks ag zz hD
  obtain ⟨kt,et,i,zv,hund,hks,hsh,hi,hz,rfl⟩:=fV hD
  split at h
  ·rename_i id hx
   split at h
   ·rename_i ks' ag' es clock hmi
    split at h
    ·rename_i hc
     obtain ⟨rfl,rfl,hf⟩:=hc
     simp only [OpR.eff.injEq] at h;subst h
     refine ⟨aG.of fun x g a w m hm hnd hop _=>?_,fun q hq=>by simp only [List.mem_singleton] at hq;subst hq;exact hmi⟩
     have hy:=hop y (by simp [Op.operands,ho]);have hk:=hop z (by simp [Op.operands,ho]);have hv:=hop v (by simp [Op.operands,ho])
     rw [hx] at hy
     obtain ⟨b,hu,hb⟩:=hy.eE
     have hmid:=hnd (id,.map ks' ag' es clock) (by simp)
     obtain ⟨b',h1,h2,h3,h4⟩:=hm.obj id _ hmid
     rw [hb] at h1;simp only [Option.some.injEq] at h1;subst h1
     obtain ⟨⟨ents,c1,c2⟩,c3,c4⟩:=h4
     have hck:=bh (P:=P) (g:=g) (em:=false) 10 kt ks' hks 10000 (by omega) ag' hsh _ _ (by simp only [aQ,Bool.and_eq_true] at hf;exact hf.2) (hk.jH hf) w
     have hfk:=bQ (P:=P) hks hsh hf hk w c2 (fun e he=>(c3 e he).1)
     rcases map_set c2 c3 c4 hf hk with ⟨f1,f2,f3⟩|⟨i,v0,c,e,f1,f2,f3,f4,f5,f6,f7,f8⟩
     ·have hno:cF (ρ z) es=false:=by simp [cF,f2]
      simp only [hno,Bool.false_eq_true,if_false]
      refine ⟨g,.skip,undef,_,?_,.inr ⟨rfl,rfl⟩,Gh.le_refl g,fun _ _=>rfl,.tuple _ _ rfl (fun j hj=>absurd hj (Nat.not_lt_zero _)),hm.eJ hmid hb c1 (fun w' hw'=>f3 _ _ hv w' b hw')⟩
      simp [execOp,ho,Instr.mapUpdate,ax hund,hu,MapKept.run_getObj_map c1,hck,hfk,f1,MapKept.run_setObj_map _ c1]
     ·have hyes:cF (ρ z) es=true:=by simp [cF,f2]
      simp only [hyes,if_true]
      refine ⟨g,.skip,undef,_,?_,.inr ⟨rfl,rfl⟩,Gh.le_refl g,fun _ _=>rfl,.tuple _ _ rfl (fun j hj=>absurd hj (Nat.not_lt_zero _)),hm.eJ (ents':=ents.modify i fun e=>{ e with key:=a.eval z,val:=a.eval v }) (c':=clock) hmid hb c1 (fun w' hw'=>f8 _ _ hv w' b _ rfl hw')⟩
      have hks':=cJ (P:=P) hf hk w
      simp [execOp,ho,Instr.mapUpdate,ax hund,hu,MapKept.run_getObj_map c1,hck,hfk,f1,f3,f4,hks',MapKept.run_setObj_map _ c1]
    ·cases h
   ·cases h
  ·cases h
 ·cases h
theorem sM {t:TypeId} {y z v:Operand} {m0:Mem} {e:Eff} (ho:o.op = .insert t y z v) (h:bS P m0 t (ρ y) (ρ z) (ρ v) = .eff e):aG P o ρ sp e∧∀ q,q ∈ e.need→m0 q.1=some q.2:=by
 unfold bS at h
 split at h
 ·rename_i ks ag zz hD
  obtain ⟨kt,et,i,zv,hund,hks,hsh,hi,hz,rfl⟩:=fV hD
  split at h
  ·rename_i id hx
   split at h
   ·rename_i ks' ag' es clock hmi
    split at h
    ·rename_i hc
     obtain ⟨rfl,rfl,hf⟩:=hc
     simp only [OpR.eff.injEq] at h;subst h
     refine ⟨aG.of fun x g a w m hm hnd hop _=>?_,fun q hq=>by simp only [List.mem_singleton] at hq;subst hq;exact hmi⟩
     have hy:=hop y (by simp [Op.operands,ho]);have hk:=hop z (by simp [Op.operands,ho]);have hv:=hop v (by simp [Op.operands,ho])
     rw [hx] at hy
     obtain ⟨b,hu,hb⟩:=hy.eE
     have hmid:=hnd (id,.map ks' ag' es clock) (by simp)
     obtain ⟨b',h1,h2,h3,h4⟩:=hm.obj id _ hmid
     rw [hb] at h1;simp only [Option.some.injEq] at h1;subst h1
     obtain ⟨⟨ents,c1,c2⟩,c3,c4⟩:=h4
     have hck:=bh (P:=P) (g:=g) (em:=false) 10 kt ks' hks 10000 (by omega) ag' hsh _ _ (by simp only [aQ,Bool.and_eq_true] at hf;exact hf.2) (hk.jH hf) w
     have hfk:=bQ (P:=P) hks hsh hf hk w c2 (fun e he=>(c3 e he).1)
     rcases map_set c2 c3 c4 hf hk with ⟨f1,f2,f3⟩|⟨i,v0,c,e,f1,f2,f3,f4,f5,f6,f7,f8⟩
     ·have hno:cF (ρ z) es=false:=by simp [cF,f2]
      simp only [hno,Bool.false_eq_true,if_false]
      refine ⟨g,.skip,undef,_,?_,.inr ⟨rfl,rfl⟩,Gh.le_refl g,fun _ _=>rfl,.tuple _ _ rfl (fun j hj=>absurd hj (Nat.not_lt_zero _)),hm.eJ hmid hb c1 (fun w' hw'=>f3 _ _ hv w' b hw')⟩
      simp [execOp,ho,Instr.mapUpdate,ax hund,hu,MapKept.run_getObj_map c1,hck,hfk,f1,MapKept.run_setObj_map _ c1]
     ·have hyes:cF (ρ z) es=true:=by simp [cF,f2]
      simp only [hyes,if_true]
      refine ⟨g,.skip,undef,_,?_,.inr ⟨rfl,rfl⟩,Gh.le_refl g,fun _ _=>rfl,.tuple _ _ rfl (fun j hj=>absurd hj (Nat.not_lt_zero _)),hm.eJ (ents':=ents.modify i fun e=>{ e with key:=a.eval z,val:=a.eval v }) (c':=clock) hmid hb c1 (fun w' hw'=>f8 _ _ hv w' b _ rfl hw')⟩
      have hks':=cJ (P:=P) hf hk w
      simp [execOp,ho,Instr.mapUpdate,ax hund,hu,MapKept.run_getObj_map c1,hck,hfk,f1,f3,f4,hks',MapKept.run_setObj_map _ c1]
    ·cases h
   ·cases h
  ·cases h
 ·cases h
theorem qD (k:AV):∀ es:List ME,(jG k es).Sublist es
 | []=>.slnil
 | e::es=>by
  simp only [jG]
  split
  ·exact (List.Sublist.refl es).cons e
  ·exact (qD k es).cons_cons e
theorem nS {g:Gh} {k:AV}:∀ {es:List ME} {cs:List MapEntry} (i:Nat),cD g es cs →
  (cu k es cs i=none∧jG k es=es)∨∃ j v,cu k es cs i=some (i+j,v)∧j < cs.length∧cD g (jG k es) (cs.eraseIdx j)
 | [],_,i,h=>by cases h;exact .inl ⟨rfl,rfl⟩
 | e::es,_,i,h=>by
  cases h with
  | cons hk hv hb t =>
   rename_i c cs
   simp only [cu,jG]
   cases hs:dD k e.key with
   | true=>exact .inr ⟨0,c.val,by simp,by simp,by simpa using t⟩
   | false =>
    simp only [Bool.false_eq_true,if_false]
    rcases nS (k:=k) (i+1) t with ⟨h1,h2⟩|⟨j,v,h1,h2,h3⟩
    ·exact .inl ⟨h1,by rw [h2]⟩
    ·exact .inr ⟨j+1,v,by rw [h1];congr 2;omega,by simpa using h2,by simpa using cD.cons hk hv hb h3⟩
theorem sN {t u:TypeId} {y z:Operand} {m0:Mem} {e:Eff} (ho:o.op = .call ⟨.builtin .delete,#[y,z],#[t,u]⟩) (h:iz P m0 t (ρ y) (ρ z) = .eff e):aG P o ρ sp e∧∀ q,q ∈ e.need→m0 q.1=some q.2:=by
 unfold iz at h
 split at h
 ·rename_i ks ag zz hD
  obtain ⟨kt,et,i,zv,hund,hks,hsh,hi,hz,rfl⟩:=fV hD
  split at h
  ·rename_i hx
   split at h
   ·rename_i hf
    simp only [bJ,OpR.eff.injEq] at h;subst h
    refine ⟨aG.plain fun g a w hop=>?_,fun q hq=>by cases hq⟩
    have hy:=hop y (by simp [Op.operands,Call.operands,ho]);have hk:=hop z (by simp [Op.operands,Call.operands,ho])
    rw [hx] at hy
    have hck:=bh (P:=P) (g:=g) (em:=true) 10 kt ks hks 10000 (by omega) ag hsh _ _ (by simp only [aQ,Bool.and_eq_true] at hf;exact hf.2) (hk.jH hf) w
    refine ⟨.tuple #[],bd ho ?_,.tuple _ _ rfl (fun j hj=>absurd hj (Nat.not_lt_zero _))⟩
    simp [builtin,Builtin.delete_,ax hund,hy.dt,hck]
   ·cases h
  ·rename_i id hx
   split at h
   ·rename_i ks' ag' es clock hmi
    split at h
    ·rename_i hc
     obtain ⟨rfl,rfl,hf⟩:=hc
     simp only [OpR.eff.injEq] at h;subst h
     refine ⟨aG.of fun x g a w m hm hnd hop _=>?_,fun q hq=>by simp only [List.mem_singleton] at hq;subst hq;exact hmi⟩
     have hy:=hop y (by simp [Op.operands,Call.operands,ho]);have hk:=hop z (by simp [Op.operands,Call.operands,ho])
     rw [hx] at hy
     obtain ⟨b,hu,hb⟩:=hy.eE
     have hmid:=hnd (id,.map ks' ag' es clock) (by simp)
     obtain ⟨b',h1,h2,h3,h4⟩:=hm.obj id _ hmid
     rw [hb] at h1;simp only [Option.some.injEq] at h1;subst h1
     obtain ⟨⟨ents,c1,c2⟩,c3,c4⟩:=h4
     have hck:=bh (P:=P) (g:=g) (em:=ents.isEmpty) 10 kt ks' hks 10000 (by omega) ag' hsh _ _ (by simp only [aQ,Bool.and_eq_true] at hf;exact hf.2) (hk.jH hf) w
     have hfk:=bQ (P:=P) hks hsh hf hk w c2 (fun e he=>(c3 e he).1)
     have hsub:=qD (ρ z) es
     have tell:∀ (ents':Array MapEntry),cD g (jG (ρ z) es) ents'.toList→∀ w':World,w'.heap[b]? = some (.map ents' clock)→b9 g w' b (.map ks' ag' (jG (ρ z) es) clock):=fun ents' hr w' hw' =>
      ⟨⟨ents',hw',hr⟩,fun e he=>c3 e (hsub.subset he),c4.sublist hsub⟩
     rcases nS (k:=ρ z) 0 c2 with ⟨f1,f2⟩|⟨j,v0,f1,f2,f3⟩
     ·refine ⟨g,.value (.tuple #[]),_,_,bd (r:=.tuple #[]) ho ?_,.inl rfl,Gh.le_refl g,fun _ _=>rfl,.tuple _ _ rfl (fun j hj=>absurd hj (Nat.not_lt_zero _)),hm.eJ (ents':=ents) (c':=clock) hmid hb c1 (tell ents (by rw [f2];exact c2))⟩
      simp [builtin,Builtin.delete_,ax hund,hu,MapKept.run_getObj_map c1,hck,hfk,f1,MapKept.run_setObj_map _ c1]
     ·have her:(ents.eraseIdxIfInBounds j).toList=ents.toList.eraseIdx j:=by
       unfold Array.eraseIdxIfInBounds
       split
       ·simp
       ·rename_i hn;exact absurd (by simpa using f2) hn
      refine ⟨g,.value (.tuple #[]),_,_,bd (r:=.tuple #[]) ho ?_,.inl rfl,Gh.le_refl g,fun _ _=>rfl,.tuple _ _ rfl (fun j hj=>absurd hj (Nat.not_lt_zero _)),hm.eJ (ents':=ents.eraseIdxIfInBounds j) (c':=clock) hmid hb c1 (tell _ (by rw [her];exact f3))⟩
      simp only [Nat.zero_add] at f1
      simp [builtin,Builtin.delete_,ax hund,hu,MapKept.run_getObj_map c1,hck,hfk,f1,MapKept.run_setObj_map _ c1]
    ·cases h
   ·cases h
  ·cases h
 ·cases h
theorem oY {t:TypeId} {y z:Operand} {m0:Mem} {e:Eff} (ho:o.op = .mapEntry t y z) (h:dU P m0 t (ρ y) (ρ z) = .eff e):aG P o ρ sp e∧∀ q,q ∈ e.need→m0 q.1=some q.2:=by
 unfold dU at h
 split at h
 ·rename_i ks ag zz hD
  obtain ⟨kt,et,i,zv,hund,hks,hsh,hi,hz,rfl⟩:=fV hD
  split at h
  ·rename_i id hx
   split at h
   ·rename_i ks' ag' es clock hmi
    split at h
    ·rename_i hc
     obtain ⟨rfl,rfl,hf⟩:=hc
     simp only [OpR.eff.injEq] at h;subst h
     refine ⟨aG.of fun x g a w m hm hnd hop _=>?_,fun q hq=>by simp only [List.mem_singleton] at hq;subst hq;exact hmi⟩
     have hy:=hop y (by simp [Op.operands,ho]);have hk:=hop z (by simp [Op.operands,ho])
     rw [hx] at hy
     obtain ⟨b,hu,hb⟩:=hy.eE
     have hmid:=hnd (id,.map ks' ag' es clock) (by simp)
     obtain ⟨b',h1,h2,h3,h4⟩:=hm.obj id _ hmid
     rw [hb] at h1;simp only [Option.some.injEq] at h1;subst h1
     obtain ⟨⟨ents,c1,c2⟩,c3,c4⟩:=h4
     have hck:=bh (P:=P) (g:=g) (em:=false) 10 kt ks' hks 10000 (by omega) ag' hsh _ _ (by simp only [aQ,Bool.and_eq_true] at hf;exact hf.2) (hk.jH hf) w
     have hfk:=bQ (P:=P) hks hsh hf hk w c2 (fun e he=>(c3 e he).1)
     rcases map_set c2 c3 c4 hf hk with ⟨f1,f2,f3⟩|⟨i,v0,c,e,f1,f2,f3,f4,f5,f6,f7,f8⟩
     ·have hno:cF (ρ z) es=false:=by simp [cF,f2]
      have hva:fC (ρ z) (cB zv) es=cB zv:=by simp [fC,f2]
      have hbo:lW (ρ z) clock es=clock:=by simp [lW,f2]
      simp only [hno,hva,hbo,Bool.false_eq_true,if_false]
      refine ⟨g,.value (.tuple #[zv,goInt clock]),_,_,?_,.inl rfl,Gh.le_refl g,fun _ _=>rfl,.tuple _ _ rfl (fun j hj=>?_),hm.eJ hmid hb c1 (fun w' hw'=>f3 _ _ (eL g zv) w' b hw')⟩
      ·simp [execOp,ho,Instr.mapEntry,ax hund,hu,MapKept.run_getObj_map c1,hck,hfk,f1,MapKept.run_setObj_map _ c1,zeroValue,typeInfo,hi,hz]
      ·match j,hj with
       | 0,_=>exact eL g zv
       | 1,_=>exact .int _ _
     ·have hyes:cF (ρ z) es=true:=by simp [cF,f2]
      have hva:fC (ρ z) (cB zv) es=e.val:=by simp [fC,f2]
      have hbo:lW (ρ z) clock es=e.born:=by simp [lW,f2]
      simp only [hyes,hva,hbo,if_true]
      refine ⟨g,.value (.tuple #[v0,goInt e.born]),_,_,?_,.inl rfl,Gh.le_refl g,fun _ _=>rfl,.tuple _ _ rfl (fun j hj=>?_),hm.eJ (ents':=ents.modify i fun e=>{ e with key:=a.eval z }) (c':=clock) hmid hb c1 (fun w' hw'=>f8 _ _ f7 w' b _ (by rw [← f5]) hw')⟩
      ·have hks':=cJ (P:=P) hf hk w
       simp [execOp,ho,Instr.mapEntry,ax hund,hu,MapKept.run_getObj_map c1,hck,hfk,f1,f3,f4,f6,hks',MapKept.run_setObj_map _ c1]
      ·match j,hj with
       | 0,_=>exact f7
       | 1,_=>exact .int _ _
    ·cases h
   ·cases h
  ·cases h
 ·cases h
theorem cD.born {g:Gh} {n:Nat} {v:AV} {u:Value} (hv:VR g v u):∀ {es:List ME} {cs:List MapEntry},cD g es cs→es.any (fun e=>e.born == n)=true →
  ∃ i,cs.findIdx? (fun e=>(e.born:Int) == (n:Int))=some i∧cD g (iR n v es) (cs.modify i fun e=>{ e with val:=u })
 | [],_,h,ha=>by simp at ha
 | e::es,_,h,ha=>by
  cases h with
  | cons hk hv' hb t =>
   rename_i c cs
   by_cases he:e.born=n
   ·refine ⟨0,by rw [List.findIdx?_cons,hb,he];simp,?_⟩
    simp only [iR,he,if_true,List.modify_zero_cons]
    exact .cons hk hv (by simpa [he] using hb) t
   ·simp only [List.any_cons,Bool.or_eq_true,beq_iff_eq,he,false_or] at ha
    obtain ⟨i,h1,h2⟩:=cD.born hv t ha
    have hne:((c.born:Int) == (n:Int))=false:=by rw [hb];simp;omega
    refine ⟨i+1,by simp [List.findIdx?_cons,hne,h1],?_⟩
    simp only [iR,he,if_false,List.modify_succ_cons]
    exact .cons hk hv' hb h2
theorem nT {n:Nat} {v:AV} (p:AV→Nat→Prop):∀ {es:List ME},(∀ e ∈ es,p e.key e.born)→∀ e ∈ iR n v es,p e.key e.born
 | [],_,e,he=>by simp [iR] at he
 | e' :: es,h,e,he=>by
  simp only [iR] at he
  split at he
  ·rcases List.mem_cons.1 he with rfl|he
   ·exact h e' (by simp)
   ·exact h e (by simp [he])
  ·rcases List.mem_cons.1 he with rfl|he
   ·exact h _ (by simp)
   ·exact nT p (fun x hx=>h x (by simp [hx])) e he
theorem kN {n:Nat} {v:AV}:∀ {es:List ME},(iR n v es).map ME.born=es.map ME.born
 | []=>rfl
 | e::es=>by
  simp only [iR]
  split
  ·simp
  ·simp [kN]
theorem lX {t:TypeId} {y z v:Operand} {m0:Mem} {e:Eff} (ho:o.op = .entryStore t y z v) (h:cR m0 (ρ y) (ρ z) (ρ v) = .eff e):aG P o ρ sp e∧∀ q,q ∈ e.need→m0 q.1=some q.2:=by
 unfold cR at h
 split at h
 ·rename_i id n hx hn
  split at h
  ·rename_i ks ag es clock hmi
   split at h
   ·rename_i hany
    simp only [OpR.eff.injEq] at h;subst h
    refine ⟨aG.of fun x g a w m hm hnd hop _=>?_,fun q hq=>by simp only [List.mem_singleton] at hq;subst hq;exact hmi⟩
    have hy:=hop y (by simp [Op.operands,ho]);have hz:=hop z (by simp [Op.operands,ho]);have hv:=hop v (by simp [Op.operands,ho])
    rw [hx] at hy;rw [hn] at hz
    obtain ⟨b,hu,hb⟩:=hy.eE
    have hmid:=hnd (id,.map ks ag es clock) (by simp)
    obtain ⟨b',h1,h2,h3,h4⟩:=hm.obj id _ hmid
    rw [hb] at h1;simp only [Option.some.injEq] at h1;subst h1
    obtain ⟨⟨ents,c1,c2⟩,c3,c4⟩:=h4
    obtain ⟨i,f1,f2⟩:=cD.born hv c2 hany
    refine ⟨g,.skip,undef,_,?_,.inr ⟨rfl,rfl⟩,Gh.le_refl g,fun _ _=>rfl,.tuple _ _ rfl (fun j hj=>absurd hj (Nat.not_lt_zero _)),hm.eJ (ents':=ents.modify i fun e=>{ e with val:=a.eval v }) (c':=clock) hmid hb c1 (fun w' hw'=>⟨⟨_,hw',by rw [Array.toList_modify];exact f2⟩,?_,?_⟩)⟩
    ·have f1':Array.findIdx? (fun e=>(e.born:Int) == (n:Int)) ents=some i:=by rw [← List.findIdx?_toArray] at f1;simpa using f1
     simp [execOp,ho,Instr.entryStore,hu,MapKept.run_getObj_map c1,hz.aY,asInt,asIntOf,f1',MapKept.run_setObj_map _ c1]
    ·exact nT (fun k b=>aQ ks ag k=true∧b < clock) c3
    ·rw [jJ,kN];exact jJ.1 c4
   ·cases h
  ·cases h
 ·cases h
end
end Go.Ab
namespace Go.Ab
def jf (k:Option TyK) (m:Mem) (nid:Oid) (x:AV):OpR :=
 match k,x with
 | some .str,.str s=>.eff ⟨[],.iter nid,[(nid,some (.siter s 0))]⟩
 | some (.map ..),.nilMap=>.eff ⟨[],.iter nid,[(nid,some (.iter none 0 [] 0))]⟩
 | some (.map ..),.map id=>match m id with
  | some (.map ks ag es clock)=>.eff ⟨[(id,.map ks ag es clock)],.iter nid,[(nid,some (.iter (some id) clock [] clock))]⟩
  | _=>.no
 | _,_=>.no
def jg (m:Mem) (x:AV):OpR :=
 match x with
 | .iter it=>match m it with
  | some (.iter (some id) since seen last)=>match m id,seen.getLast? with
   | some (.map ks ag es clock),some b=>if clock=last then match es.find? (fun e=>e.born == b) with
    | some e=>.eff ⟨[(it,.iter (some id) since seen last),(id,.map ks ag es clock)],.tuple [e.key,e.val],[]⟩
    | none=>.no
    else .no
   | _,_=>.no
  | _=>.no
 | _=>.no
section
variable {P:Program} [Laid P] {o:Oper} {ρ:Operand→AV} {sp:Oid→Prop}
theorem vB {t:TypeId} {y:Operand} {nid:Oid} {m0:Mem} {e:Eff} (ho:o.op = .range t y) (hs:sp nid) (hnt:nid.tyd=none) (h:jf (tyk P t) m0 nid (ρ y) = .eff e):aG P o ρ sp e∧∀ q,q ∈ e.need→m0 q.1=some q.2:=by
 unfold jf at h
 split at h
 ·rename_i s h1 h2
  obtain ⟨d,hd,rfl⟩:=aI h1
  simp only [OpR.eff.injEq] at h;subst h
  refine ⟨aG.of fun x g a w m hm _ hop hsp=>?_,fun q hq=>by cases hq⟩
  have hy:=hop y (by simp [Op.operands,ho])
  rw [h2] at hy
  obtain ⟨ba,hu,hb⟩:=hy.bf
  obtain ⟨hl,hup⟩:=hsp nid hs
  refine ⟨g.bind nid w.heap.size,.value (.pointer (some ⟨w.heap.size,0,none⟩)),_,w.alloc (.stringIter ba 0),by simp [execOp,ho,Instr.range,ax hd,hu],.inl rfl,Gh.bs hl,fun j hj=>?_,.iter _ _ (by simp [Gh.bind]),hm.new hl hup ⟨ba,bC _ _,hb⟩ (fun t' ht=>by rw [hnt] at ht;cases ht)⟩
  simp only [Gh.bind];rw [if_neg (fun e=>hj (by rw [e];exact hs))]
 ·rename_i k el h1 h2
  obtain ⟨d,hd,rfl⟩:=aI h1
  simp only [OpR.eff.injEq] at h;subst h
  refine ⟨aG.of fun x g a w m hm _ hop hsp=>?_,fun q hq=>by cases hq⟩
  have hy:=hop y (by simp [Op.operands,ho])
  rw [h2] at hy
  obtain ⟨hl,hup⟩:=hsp nid hs
  refine ⟨g.bind nid w.heap.size,.value (.pointer (some ⟨w.heap.size,0,none⟩)),_,w.alloc (.mapIter none 0 #[] 0),by simp [execOp,ho,Instr.range,ax hd,hy.dt],.inl rfl,Gh.bs hl,fun j hj=>?_,.iter _ _ (by simp [Gh.bind]),hm.new hl hup ⟨none,#[],bC _ _,rfl,rfl⟩ (fun t' ht=>by rw [hnt] at ht;cases ht)⟩
  simp only [Gh.bind];rw [if_neg (fun e=>hj (by rw [e];exact hs))]
 ·rename_i k el id h1 h2
  obtain ⟨d,hd,rfl⟩:=aI h1
  split at h
  ·rename_i ks ag es clock hmi
   simp only [OpR.eff.injEq] at h;subst h
   refine ⟨aG.of fun x g a w m hm hnd hop hsp=>?_,fun q hq=>by simp only [List.mem_singleton] at hq;subst hq;exact hmi⟩
   have hy:=hop y (by simp [Op.operands,ho])
   rw [h2] at hy
   obtain ⟨b,hu,hb⟩:=hy.eE
   obtain ⟨b',k1,k2,k3,k4⟩:=hm.obj id _ (hnd (id,.map ks ag es clock) (by simp))
   rw [hb] at k1;simp only [Option.some.injEq] at k1;subst k1
   obtain ⟨⟨ents,c1,c2⟩,c3,c4⟩:=k4
   obtain ⟨hl,hup⟩:=hsp nid hs
   refine ⟨g.bind nid w.heap.size,.value (.pointer (some ⟨w.heap.size,0,none⟩)),_,w.alloc (.mapIter (some b) clock #[] clock),by simp [execOp,ho,Instr.range,ax hd,hu,MapKept.run_getObj_map c1],.inl rfl,Gh.bs hl,fun j hj=>?_,.iter _ _ (by simp [Gh.bind]),
    hm.new hl hup ⟨some b,#[],bC _ _,rfl,b,(Gh.bs hl).1 _ _ hb,rfl⟩ (fun t' ht=>by rw [hnt] at ht;cases ht)⟩
   simp only [Gh.bind];rw [if_neg (fun e=>hj (by rw [e];exact hs))]
  ·cases h
 ·cases h
theorem cD.find {g:Gh} {b:Nat}:∀ {es:List ME} {cs:List MapEntry},cD g es cs→∀ e,es.find? (fun e=>e.born == b)=some e→∃ c,cs.find? (fun c=>c.born == b)=some c∧VR g e.key c.key∧VR g e.val c.val
 | [],_,_,e,h=>by simp at h
 | e0::es,_,h,e,hf=>by
  cases h with
  | cons hk hv hb t =>
   rename_i c cs
   rw [List.find?_cons] at hf ⊢
   rw [hb]
   split at hf
   ·simp only [Option.some.injEq] at hf;subst hf;exact ⟨c,rfl,hk,hv⟩
   ·exact cD.find t e hf
omit [Laid P] in
theorem fk {w:World} {b:Nat} {ob:Obj} (h:w.heap[b]? = some ob) (hc:ob.isCells=false):(getObj b).run P w = .ok ob w:=by
 cases ob<;>first|(cases hc;done)|simp [getObj,Sem.run,h]
theorem vC {y:Operand} {m0:Mem} {e:Eff} (ho:o.op = .entry y) (h:jg m0 (ρ y) = .eff e):aG P o ρ sp e∧∀ q,q ∈ e.need→m0 q.1=some q.2:=by
 unfold jg at h
 split at h
 ·rename_i it hx
  split at h
  ·rename_i id since seen last hit
   split at h
   ·rename_i ks ag es clock bb hmi hlast
    split at h
    ·rename_i hcl
     subst hcl
     split at h
     ·rename_i en hfind
      simp only [OpR.eff.injEq] at h;subst h
      refine ⟨aG.of fun x g a w m hm hnd hop hsp=>?_,fun q hq=>by
       rcases List.mem_cons.1 hq with rfl|hq
       ·exact hit
       ·simp only [List.mem_singleton] at hq;subst hq;exact hmi⟩
      have hy:=hop y (by simp [Op.operands,ho])
      rw [hx] at hy
      obtain ⟨b,hu,hb⟩:=hy.jx
      obtain ⟨b',k1,k2,k3,k4⟩:=hm.obj it _ (hnd (it,.iter (some id) since seen clock) (by simp))
      rw [hb] at k1;simp only [Option.some.injEq] at k1;subst k1
      obtain ⟨r,sa,c1,c2,kk,c3,rfl⟩:=k4
      obtain ⟨b',q1,q2,q3,q4⟩:=hm.obj id _ (hnd (id,.map ks ag es clock) (by simp))
      rw [c3] at q1;simp only [Option.some.injEq] at q1;subst q1
      obtain ⟨⟨ents,d1,d2⟩,d3,d4⟩:=q4
      obtain ⟨c,f1,f2,f3⟩:=d2.find en hfind
      have hback:sa.back? = some bb:=by rw [← hlast,← c2];simp
      have hfind':ents.find? (fun c=>c.born == bb)=some c:=by rw [← f1];simp
      refine ⟨g,.value (.tuple #[c.key,c.val]),_,w,?_,.inl rfl,Gh.le_refl g,fun _ _=>rfl,.tuple _ _ rfl (fun j hj=>?_),hm⟩
      ·simp [execOp,ho,Instr.entry,hu,fk c1 rfl,hback,MapKept.run_getObj_map d1,hfind']
      ·match j,hj with
       | 0,_=>exact f2
       | 1,_=>exact f3
     ·cases h
    ·cases h
   ·cases h
  ·cases h
 ·cases h
theorem find_born {es:List ME} (hp:es.Pairwise fun e e'=>e.born < e'.born) {e:ME} (he:e ∈ es):es.find? (fun x=>x.born == e.born)=some e:=by
 induction es with
 | nil=>cases he
 | cons e0 es ih =>
  obtain ⟨h1,h2⟩:=List.pairwise_cons.1 hp
  rw [List.find?_cons]
  rcases List.mem_cons.1 he with rfl|he
  ·simp
  ·have:=h1 e he
   have hne:(e0.born == e.born)=false:=by simp;omega
   rw [hne];exact ih h2 he
end
end Go.Ab
namespace Go.Ab
theorem gx {rd:Option Nat} {n:Nat} {P:Program} {f:FuncId} {args:Array Value} {w:World} {R:Ending→World→Prop}:CallsIn (Fc rd) n P f args w R↔Calls P f args w R:=callsIn_wide
def cL (P:Program) (f:FuncId):Bool:=match P.funcs[f]? with
 | some fn=>fn.body.isSome && fn.name != "runtime.NumGoroutine"
 | none=>false
structure aA (P:Program) [Laid P] (f:FuncId) (xs:List AV) (sp:Oid→Prop) (e:Eff):Prop where
 enters:cL P f=true
 calls:∀ (x:Ctx) (g:Gh) (args:Array Value) (w:World) (m:Mem),aD x g m w→(∀ q,q ∈ e.need→m q.1=some q.2)→VRs g xs args→(∀ i,sp i→g.loc i=none∧Oid.under x.p i)→Fit P x →
  Calls P f args w fun en w'=>∃ g' v,en = .returned v∧g.le g'∧(∀ i,¬ sp i→g'.loc i=g.loc i)∧VR g' e.val v∧aD x g' (m.aF e.upd) w'
section
variable {P:Program} [Laid P] {o:Oper} {ρ:Operand→AV} {sp:Oid→Prop}
theorem VRs.append {g:Gh} {xs ys:List AV} {a b:Array Value} (h:VRs g xs a) (k:VRs g ys b):VRs g (xs++ys) (a++b):=by
 refine ⟨by simp [h.1,k.1],fun j hj=>?_⟩
 simp only [List.length_append] at hj
 rcases Nat.lt_or_ge j xs.length with h'|h'
 ·rw [bg (by rw [h.1];exact h')]
  have e:(xs++ys).getD j .undef=xs.getD j .undef:=by simp [List.getD_eq_getElem?_getD,List.getElem?_append_left h']
  rw [e];exact h.2 j h'
 ·rw [dJ (by rw [h.1];exact h'),h.1]
  have e:(xs++ys).getD j .undef=ys.getD (j - xs.length) .undef:=by simp [List.getD_eq_getElem?_getD,List.getElem?_append_right h']
  rw [e];exact k.2 _ (by omega)
theorem VRs.map {g:Gh} {a:Act} {l:Array Operand} (h:∀ t,t ∈ l.toList→VR g (ρ t) (a.eval t)):VRs g (l.toList.map ρ) (l.map a.eval):=by
 have e1:l.map a.eval=(l.toList.map a.eval).toArray:=by apply Array.ext';simp only [Array.toList_map]
 rw [e1]
 exact ⟨by simp,oW h⟩
theorem Aa {f:Operand} {args:Array Operand} {ts:Array TypeId} {k:FuncId} {first cap:List AV} {e:Eff} (ho:o.op = .call ⟨.value f,args,ts⟩) (hf:ρ f = .fn (.func k) first cap)
  (h:aA P k (first++args.toList.map ρ++cap) sp e):aG P o ρ sp e:=by
 intro x g a w m hm hn hop hs hng next Q K
 have hfv:=hop f (by simp [Op.operands,Call.operands,ho])
 rw [hf] at hfv
 obtain ⟨fa,ca,hu,h1,h2,h3,h4⟩:=hfv.j6
 have hargs:VRs g (args.toList.map ρ) (args.map a.eval):=VRs.map fun t ht=>hop t (by
  have:t ∈ args:=by simpa using ht
  simp [Op.operands,Call.operands,ho,this])
 have hrun:(execOp a.eval o).run P w = .ok (.enter k (fa++args.map a.eval++ca)) w:=by
  have he:=h.enters
  unfold cL at he
  cases hfn:P.funcs[k]? with
  | none=>rw [hfn] at he;cases he
  | some fn =>
   rw [hfn] at he
   simp only [Bool.and_eq_true,bne_iff_ne,ne_eq] at he
   obtain ⟨he1,he2⟩:=he
   have hb:fn.body.isNone=false:=by cases hbb:fn.body<;>simp_all
   have hnm:(fn.name == "runtime.NumGoroutine")=false:=by simpa using he2
   simp only [execOp,ho,resolve,Sem.run_bind,hu,Deferred.ofValue,Sem.run_pure,Result.andThen_ok,invoke,callFunc,run_program,hfn,hnm,hb,Bool.false_eq_true,if_false]
 refine ⟨fun _ _=>trivial,?_⟩
 rw [Oper.semAt_eq _ _ _ (fun c hc=>by rw [ho] at hc;cases hc),hrun,Oper.uponIn_enter]
 refine ⟨fun hd=>absurd hd (by simp [Fc]),gx.2 ?_⟩
 refine (h.calls x g _ w m hm hn (VRs.append (VRs.append ⟨h1,h3⟩ hargs) ⟨h2,h4⟩) hs hng).mono fun en w' ⟨g',v,he,k1,k2,k3,k4⟩=>?_
 subst he
 exact K g' v w' k1 k2 k3 k4
def dA:Option AV→OpR
 | some v=>bJ v
 | none=>.no
def DU (P:Program) (op:BinOp) (t:TypeId) (c:Bool) (x y:AV):Option AV :=
 match DG op x y with
 | some v=>some v
 | none=>match uh P op t x y with
  | some v=>some v
  | none=>match DI P op t x y with
   | some v=>some v
   | none=>match DL P op t x y with
    | some v=>some v
    | none=>DN P op t c x y
def gy:AV→Bool
 | .int .u8 (.ofNat n)=>decide (n < 256)
 | _=>false
def byteOf:AV→UInt8
 | .int _ n=>UInt8.ofNat n.toNat
 | _=>0
theorem kO {v:AV} (h:gy v=true):v = .int .u8 ((byteOf v).toNat:Int):=by
 unfold gy at h
 split at h
 ·rename_i n
  simp only [decide_eq_true_eq] at h
  simp only [byteOf,AV.int.injEq,true_and,Int.ofNat_eq_natCast,Int.toNat_natCast]
  rw [UInt8.toNat_ofNat',Nat.mod_eq_of_lt (by omega)]
 ·cases h
def qE:AV→Option AV
 | .nilSl=>some .nilPtr
 | .sl id sz n=>if 0 < n then some (.aptr id sz 0 0) else none
 | _=>none
def qF (P:Program) (m:Mem) (t:TypeId) (y z:AV):OpR :=
 match y,z with
 | .nilPtr,.int .i64 n=>if n=0 then .eff ⟨[],.str [],[]⟩ else .no
 | .aptr id sz i off,.int .i64 n=>match m id,tyk P t with
  | some (.arr s xs),some (.ptr e)=>if sz=1∧i=0∧off=0∧s=1∧id.tyd=some e∧shp P e=some (false,1)∧0 < xs.length∧n=xs.length∧xs.length≤140737488355328∧xs.all gy=true then
    .eff ⟨[(id,.arr s xs)],.str (xs.map byteOf),[(id,none)]⟩ else .no
  | _,_=>.no
 | _,_=>.no
theorem aD.afO {x:Ctx} {g:Gh} {m:Mem} {w w':World} (h:aD x g m w) {i:Oid} {o0:ar} {b:Nat} (hi:m i=some o0) (hb:g.loc i=some (some b)) (hos:w'.os=w.os) (htape:w'.tape=w.tape) (hout:w'.output=w.output∧w.drawn≤w'.drawn)
  (hsize:w'.heap.size=w.heap.size) (hother:∀ k,k≠b→w'.heap[k]? = w.heap[k]?) (hblk:∀ c t fz,w.heap[b]? = some (.cells c t fz)→∃ c' fz',w'.heap[b]? = some (.cells c' t fz')∧c'.size=c.size):aD x g (m.set i none) w':=by
 obtain ⟨b0,hb0,hcom,hmay,hobj⟩:=h.fO hi hb
 rw [hb] at hb0;simp only [Option.some.injEq] at hb0;subst hb0
 have key:∀ j o',(m.set i none) j=some o'→m j=some o'∧j≠i:=fun j o' hj=>by
  simp only [Mem.set] at hj
  split at hj
  ·cases hj
  ·exact ⟨hj,‹_›⟩
 refine ⟨h.le,h.locs,h.glob,h.coms,fun j o' hj=>?_,fun j j' o1 o2 c h1 h2 h3 h4=>h.inj j j' o1 o2 c (key j o1 h1).1 (key j' o2 h2).1 h3 h4,fun c k v hv=>?_,h.one,fun c r hcr=>?_,hos.trans h.os,htape.trans h.tape,⟨hout.1.trans h.output.1,fun hm=>Nat.le_trans (h.output.2 hm) hout.2⟩,by rw [hsize];exact h.size,fun c hc hm=>?_,fun t q c hc=>?_⟩
 ·obtain ⟨k1,k2⟩:=key j o' hj
  rcases h.obj0 j o' k1 with hv|⟨c,h1,h2,h3,h4⟩
  ·exact .inl hv
  exact .inr ⟨c,h1,h2,h3,b9.block (hother c (fun e=>k2 (by subst e;exact h.inj j i o' o0 c k1 hi h1 hb))) h4⟩
 ·have hcell:=h.com c k v hv
  have hne:c≠b:=fun e=>by subst e;rw [hcom k] at hv;cases hv
  simp only [World.cell?] at hcell ⊢
  rw [hother c hne];exact hcell
 ·obtain ⟨cc,t,fz,h1,h2⟩:=h.rows c r hcr
  by_cases e:c=b
  ·subst e
   obtain ⟨c',fz',h3,h4⟩:=hblk _ _ _ h1
   exact ⟨c',t,fz',h3,by rw [h4];exact h2⟩
  ·exact ⟨cc,t,fz,by rw [hother c e];exact h1,h2⟩
 ·by_cases e:c=b
  ·subst e;rcases hmay with hmay|hmay
   ·exact absurd hmay hm
   ·exact absurd hc (Nat.not_lt.2 hmay)
  ·rw [hother c e];exact h.kept c hc hm
 ·obtain ⟨cc,fz,h1⟩:=h.typs t q c hc
  by_cases e:c=b
  ·subst e
   obtain ⟨c',fz',h3,h4⟩:=hblk _ _ _ h1
   exact ⟨c',fz',h3⟩
  ·exact ⟨cc,fz,by rw [hother c e];exact h1⟩
section
variable {P:Program} [Laid P] {o:Oper} {ρ:Operand→AV} {sp:Oid→Prop}
theorem Ac {y:Operand} {ts:Array TypeId} {v:AV} (ho:o.op = .call ⟨.builtin .unsafeSliceData,#[y],ts⟩) (h:qE (ρ y)=some v):aG P o ρ sp ⟨[],v,[]⟩:=by
 refine aG.plain fun g a w hop=>?_
 have hy:=hop y (by simp [Op.operands,Call.operands,ho])
 unfold qE at h
 split at h
 ·rename_i e1
  rw [e1] at hy
  simp only [Option.some.injEq] at h;subst h
  refine ⟨.pointer none,bd ho ?_,.nilPtr⟩
  have:=Lib.run_unsafeSliceData_nil (P:=P) w ts o.type 0 0
  simp [builtin,hy.bu,this]
 ·rename_i id sz n e1
  rw [e1] at hy
  split at h
  ·rename_i hn
   simp only [Option.some.injEq] at h;subst h
   rcases hy.dq with ⟨h0,_⟩|⟨b,cap,hu,hb,hcap,_⟩
   ·omega
   have:=Lib.run_unsafeSliceData_row (P:=P) w ts o.type ⟨b,0,none⟩ n cap (by omega)
   refine ⟨.pointer (some ⟨b,0,none⟩),bd ho ?_,?_⟩
   ·simp [builtin,hu,this]
   ·have:=VR.aptr (g:=g) id sz 0 0 b hb
    simpa using this
  ·cases h
 ·cases h
theorem Ad {t u:TypeId} {y z:Operand} {m0:Mem} {e:Eff} (ho:o.op = .call ⟨.builtin .unsafeString,#[y,z],#[t,u]⟩) (h:qF P m0 t (ρ y) (ρ z) = .eff e):aG P o ρ sp e∧∀ q,q ∈ e.need→m0 q.1=some q.2:=by
 unfold qF at h
 split at h
 ·rename_i n e1 e2
  split at h
  ·rename_i hn
   simp only [OpR.eff.injEq] at h;subst h;subst hn
   refine ⟨aG.plain fun g a w hop=>?_,fun q hq=>by cases hq⟩
   have hy:=hop y (by simp [Op.operands,Call.operands,ho]);have hz:=hop z (by simp [Op.operands,Call.operands,ho])
   rw [e1] at hy;rw [e2] at hz
   have:=Lib.run_unsafeString_none (P:=P) w t u o.type none
   refine ⟨.string .empty,bd ho ?_,.str _ _ rfl⟩
   simp [builtin,hy.cP,hz.aY,this]
  ·cases h
 ·rename_i id sz i off n e1 e2
  split at h
  ·rename_i s xs el hmi hty
   split at h
   ·rename_i hc
    obtain ⟨rfl,rfl,rfl,rfl,htd,hsh,h0,rfl,hlen,hall⟩:=hc
    simp only [OpR.eff.injEq] at h;subst h
    refine ⟨aG.of fun x g a w m hm hnd hop _=>?_,fun q hq=>by simp only [List.mem_singleton] at hq;subst hq;exact hmi⟩
    have hy:=hop y (by simp [Op.operands,Call.operands,ho]);have hz:=hop z (by simp [Op.operands,Call.operands,ho])
    rw [e1] at hy;rw [e2] at hz
    obtain ⟨b,hu,hb⟩:=hy.fL
    have hmid:=hnd (id,.arr 1 xs) (by simp)
    obtain ⟨b',h1,h2,h3,h4⟩:=hm.fO hmid hb
    rw [hb] at h1;simp only [Option.some.injEq] at h1;subst h1
    obtain ⟨c,t',fz,c1,c2,c3,c4,c5,c6⟩:=h4
    obtain ⟨d,hd,rfl⟩:=aI hty
    have htt:t' = el:=by
     cases id with
     | ty t'' q =>
      simp only [Oid.tyd,Option.some.injEq] at htd;subst htd
      obtain ⟨c',fz',h5⟩:=hm.typs t'' q b hb
      rw [c1] at h5;simp only [Option.some.injEq,Obj.cells.injEq] at h5;exact h5.2.1
     | root k=>cases htd
     | sub=>cases htd
    subst htt
    have hce:P.cellsOf t' = 1:=by
     unfold shp at hsh
     split at hsh
     ·rename_i i0 hi0
      simp only [Option.some.injEq,Prod.mk.injEq] at hsh
      simp [Program.cellsOf,hi0,hsh.2]
     ·cases hsh
    generalize hl:xs.map byteOf=l
    have hll:l.length=xs.length:=by rw [← hl];simp
    have hbyte:∀ j,j < xs.length→∃ x,l[j]? = some x∧xs.getD j .undef = .int .u8 (x.toNat:Int):=fun j hj=>by
     have hin:xs[j] ∈ xs:=List.getElem_mem _
     have hb1:=kO (List.all_eq_true.1 hall _ hin)
     refine ⟨byteOf xs[j],by rw [← hl];simp [List.getElem?_map,List.getElem?_eq_getElem hj],?_⟩
     rw [List.getD_eq_getElem?_getD,List.getElem?_eq_getElem hj,Option.getD_some];exact hb1
    have hcell:∀ j x,l[j]? = some x→w.cell? ((⟨b,0,none⟩:Addr).add j)=some (.int .u8 x.toNat):=fun j x hj=>by
     have hj':j < xs.length:=by rw [← hll];exact (List.getElem?_eq_some_iff.1 hj).1
     obtain ⟨x',k1,k2⟩:=hbyte j hj'
     rw [hj] at k1;simp only [Option.some.injEq] at k1;subst k1
     have h5:=c6 j 0 hj' (by omega)
     rw [k2] at h5
     have h6:(AV.int IntKind.u8 (x.toNat:Int)).cells.getD 0 .undef = .int .u8 x.toNat:=rfl
     rw [h6] at h5
     have h7:=h5.aY
     have hjc:j < c.size:=by simp at c2;omega
     simp only [Nat.mul_one,Nat.add_zero,Array.getD_eq_getD_getElem?,Array.getElem?_eq_getElem hjc,Option.getD_some] at h7
     have hadd:((⟨b,0,none⟩:Addr).add j)=⟨b,j,none⟩:=by
      unfold Addr.add
      by_cases hj0:j=0
      ·subst hj0;simp
      ·simp [hj0]
     rw [hadd]
     simp [World.cell?,c1,Array.getElem?_eq_getElem hjc,h7]
    have hrun:=Lib.run_unsafeString_row (P:=P) w t u o.type t' hd hce b c.size (by simp [World.shape?,c1]) l (by intro e;rw [e] at hll;simp at hll;omega) (by rw [hll];simpa using c2) (by rw [hll];omega) hcell
    have hlt:b < w.heap.size:=(Array.getElem?_eq_some_iff.1 c1).1
    have hfr:(w.freeze ⟨b,0,none⟩ l.length)={ w with heap:=(w.freeze ⟨b,0,none⟩ l.length).heap }:=by
     unfold World.freeze;split<;>rfl
    have hlne:l.length≠0:=by rw [hll];omega
    refine ⟨g,.value (.string ⟨l.toArray⟩),_,_,bd (r:=.string ⟨l.toArray⟩) ho ?_,.inl rfl,Gh.le_refl g,fun _ _=>rfl,.str _ _ rfl,hm.afO hmid hb (w':=w.freeze ⟨b,0,none⟩ l.length) ?_ ?_ ?_ ?_ (fun k hk=>?_) (fun c9 t9 fz9 h9=>?_)⟩
    ·rw [hll] at hrun
     simp [builtin,hu,hz.aY,hrun,hll]
    ·rw [hfr]
    ·rw [hfr]
    ·rw [hfr];exact ⟨rfl,Nat.le_refl _⟩
    ·simp [World.freeze,hlne]
    ·simp [World.freeze,hlne,Array.getElem?_modify,Ne.symm hk]
    ·obtain ⟨lo,hi⟩:=fz9
     exact ⟨c9,_,by simp [World.freeze,hlne,Array.getElem?_modify,h9];rfl,rfl⟩
   ·cases h
  ·cases h
 ·cases h
end
def u8K:Option TyK→Bool
 | some (.int .u8)=>true
 | _=>false
def lY (P:Program) (src dst:TypeId) (x:AV):Option AV :=
 match tyk P src,tyk P dst,x with
 | some (.slice el _ _ _),some .str,.list sz xs=>if sz=1∧u8K (tyk P el)=true∧0 < xs.length∧xs.all gy=true then some (.str (xs.map byteOf)) else none
 | some (.slice el _ _ _),some .str,.nilSl=>if u8K (tyk P el)=true then some (.str []) else none
 | _,_,_=>none
def uq (P:Program) (src dst:TypeId) (x:AV):Option AV :=
 match ui P src dst x with
 | some v=>some v
 | none=>lY P src dst x
section
variable {P:Program} [Laid P] {o:Oper} {ρ:Operand→AV} {sp:Oid→Prop}
theorem vD {s d:TypeId} {y:Operand} {v:AV} (ho:o.op = .convert s d y) (h:lY P s d (ρ y)=some v):aG P o ρ sp ⟨[],v,[]⟩:=by
 unfold lY at h
 split at h
 ·rename_i el ag sz0 by' sz xs e1 e2 e3
  split at h
  ·rename_i hc
   obtain ⟨rfl,h8,h0,hall⟩:=hc
   simp only [Option.some.injEq] at h;subst h
   refine aG.of fun x g a w m hm _ hop _=>?_
   have hy:=hop y (by simp [Op.operands,ho])
   rw [e3] at hy
   obtain ⟨ds,hds,rfl,_⟩:=aI e1
   obtain ⟨dd,hdd,rfl⟩:=aI e2
   have he8:P.underlying el=some (.int .u8):=by
    unfold u8K at h8
    split at h8
    ·rename_i hk;obtain ⟨d8,h9,rfl⟩:=aI hk;exact h9
    ·cases h8
   rcases hy.dH with ⟨rfl,_⟩|⟨b,oo,cap,cs,hu,hcap,hl1,hc1,hc2⟩
   ·exact absurd h0 (by simp)
   generalize hl:xs.map byteOf=l
   have hll:l.length=xs.length:=by rw [← hl];simp
   have hcell:∀ j (hj:j < l.length),w.cell? ((⟨b,oo,none⟩:Addr).add j)=some (.int .u8 (l[j].toNat:Int)):=fun j hj=>by
    have hj':j < xs.length:=by rw [← hll];exact hj
    have hin:xs[j] ∈ xs:=List.getElem_mem _
    have hb1:=kO (List.all_eq_true.1 hall _ hin)
    have hb2:l[j]=byteOf xs[j]:=by subst hl;simp
    have h5:=hc2 j 0 hj' (by omega)
    have hx:xs.getD j .undef=xs[j]:=by rw [List.getD_eq_getElem?_getD,List.getElem?_eq_getElem hj',Option.getD_some]
    rw [hx,hb1] at h5
    have h6:(AV.int IntKind.u8 ((byteOf xs[j]).toNat:Int)).cells.getD 0 .undef = .int .u8 (byteOf xs[j]).toNat:=rfl
    rw [h6] at h5
    have h7:=hm.com _ _ _ (hc1 j 0 hj' (by omega))
    rw [h5.aY] at h7
    have hadd:((⟨b,oo,none⟩:Addr).add j)=⟨b,oo+j * 1+0,none⟩:=by
     unfold Addr.add
     by_cases hj0:j=0
     ·subst hj0;simp
     ·simp [hj0]
    rw [hadd,hb2];exact h7
   have hrun:=run_convert_bytes_back (P:=P) w s d el ⟨b,oo,none⟩ cap l hds he8 hdd hcell
   refine ⟨g,.value (.string ⟨l.toArray⟩),_,w,?_,.inl rfl,Gh.le_refl g,fun _ _=>rfl,.str _ _ rfl,hm⟩
   rw [hll] at hrun
   simp [execOp,ho,hu,hrun]
  ·cases h
 ·rename_i el ag sz0 by' e1 e2 e3
  split at h
  ·rename_i h8
   simp only [Option.some.injEq] at h;subst h
   refine aG.of fun x g a w m hm _ hop _=>?_
   have hy:=hop y (by simp [Op.operands,ho])
   rw [e3] at hy
   obtain ⟨ds,hds,rfl,_⟩:=aI e1
   obtain ⟨dd,hdd,rfl⟩:=aI e2
   have he8:P.underlying el=some (.int .u8):=by
    unfold u8K at h8
    split at h8
    ·rename_i hk;obtain ⟨d8,h9,rfl⟩:=aI hk;exact h9
    ·cases h8
   have hu:=hy.bu
   have hrun:=run_convert_bytes_string (P:=P) w s d el none 0 0 hds he8 hdd
   have h2:(Conv.bytesToString (.slice none 0 0)).run P w = .ok (.string ⟨([]:List UInt8).toArray⟩) w:=rfl
   refine ⟨g,.value (.string ⟨([]:List UInt8).toArray⟩),_,w,?_,.inl rfl,Gh.le_refl g,fun _ _=>rfl,.str _ _ rfl,hm⟩
   simp [execOp,ho,hu,hrun,h2]
  ·cases h
 ·cases h
end
def oZ:Option TyK→Bool
 | some (.int .u8)=>true
 | _=>false
def kP (P:Program) (t:TypeId) (nid:Oid) (s:AV):Oid :=
 match tyk P t,s with
 | some (.slice el _ _ _),.nilSl=>if oZ (tyk P el)=true then .ty el nid else nid
 | some (.slice el _ _ _),.sl id _ _=>if oZ (tyk P el)=true∧id.tyd=some el then .ty el nid else nid
 | _,_=>nid
theorem qG {P:Program} {t:TypeId} {nid:Oid} {s:AV} (hnt:nid.tyd=none):(kP P t nid s=nid∨∃ t',kP P t nid s = .ty t' nid) ∧
  ∀ t',(kP P t nid s).tyd=some t'→(∀ el ag sz by',tyk P t=some (.slice el ag sz by')→t' = el)∧∀ id sz n,s = .sl id sz n→id.tyd=some t':=by
 unfold kP
 split
 ·rename_i el ag sz by' h1
  split
  ·refine ⟨.inr ⟨_,rfl⟩,fun t' ht=>⟨fun el' ag' sz' by2 h2=>?_,fun id sz n h=>by cases h⟩⟩
   rw [h1] at h2;cases h2;simpa [Oid.tyd,eq_comm] using ht
  ·exact ⟨.inl rfl,fun t' ht=>by rw [hnt] at ht;cases ht⟩
 ·rename_i el ag sz by' id sz' n h1
  split
  ·rename_i hc
   refine ⟨.inr ⟨_,rfl⟩,fun t' ht=>?_⟩
   have he:el=t':=by simpa [Oid.tyd] using ht
   subst he
   refine ⟨fun el' ag' sz' by2 h2=>?_,fun id' sz n h=>?_⟩
   ·rw [h1] at h2;cases h2;rfl
   ·cases h;exact hc.2
  ·exact ⟨.inl rfl,fun t' ht=>by rw [hnt] at ht;cases ht⟩
 ·exact ⟨.inl rfl,fun t' ht=>by rw [hnt] at ht;cases ht⟩
def al (P:Program) (t:TypeId):Bool:=P.typeName? 3 t == some "strings.Builder" || P.typeName? 3 t == some "scullion/fields.splitter"
def eV (P:Program) (t:TypeId) (nid:Oid):Oid:=if al P t=true then .ty t nid else nid
theorem lZ {P:Program} {t:TypeId} {nid:Oid} (hnt:nid.tyd=none):(eV P t nid=nid∨eV P t nid = .ty t nid)∧∀ t',(eV P t nid).tyd=some t'→t' = t:=by
 unfold eV
 split
 ·exact ⟨.inr rfl,fun t' ht=>by simpa [Oid.tyd,eq_comm] using ht⟩
 ·exact ⟨.inl rfl,fun t' ht=>by rw [hnt] at ht;cases ht⟩
def jK (P:Program) (m:Mem) (nid:Oid) (ρ:Operand→AV) (c:Call):OpR :=
 match c.callee with
 | .builtin .len=>match c.args.toList,c.argTypes.toList with
  | [y],[t]=>qo m (tyk P t) (ρ y)
  | _,_=>.no
 | .builtin .append=>match c.args.toList,c.argTypes.toList with
  | [y,z],[t,u]=>if uo (tyk P u)=true then sJ P m (kP P t nid (ρ y)) t (ρ y) (ρ z) else .no
  | _,_=>.no
 | .builtin .max=>match c.args.toList with
  | [y,z]=>dA (DP (ρ y) (ρ z))
  | _=>.no
 | .builtin .min=>match c.args.toList with
  | [y,z]=>dA (DQ (ρ y) (ρ z))
  | _=>.no
 | .builtin .delete=>match c.args.toList,c.argTypes.toList with
  | [y,z],[t,_]=>iz P m t (ρ y) (ρ z)
  | _,_=>.no
 | .builtin .copy=>match c.args.toList,c.argTypes.toList with
  | [y,z],[t,_]=>nO m (tyk P t) (ρ y) (ρ z)
  | _,_=>.no
 | .builtin .unsafeSliceData=>match c.args.toList with
  | [y]=>dA (qE (ρ y))
  | _=>.no
 | .builtin .unsafeString=>match c.args.toList,c.argTypes.toList with
  | [y,z],[t,_]=>qF P m t (ρ y) (ρ z)
  | _,_=>.no
 | .value f=>match ρ f with
  | .fn (.func k) first cap=>.call k (first++c.args.toList.map ρ++cap)
  | _=>.no
 | _=>.no
def opF (P:Program) (m:Mem) (nid:Oid) (md:Nat→Bool) (ρ:Operand→AV) (o:Oper):OpR :=
 match o.op with
 | .move x=>bJ (ρ x)
 | .assign x=>bJ (ρ x)
 | .pick c a b=>match ρ c with
  | .bool v=>bJ (if v then ρ a else ρ b)
  | _=>.no
 | .alloc t=>match zer P t with
  | some z=>.eff ⟨[],.ptr (eV P t nid) 0,[(eV P t nid,some (.cells z))]⟩
  | none=>.no
 | .box t x=>if (ρ x).known=true then .eff ⟨[],.ptr (eV P t nid) 0,[(eV P t nid,some (.cells (ρ x).cells))]⟩ else .no
 | .build t ps=>dA (lR P t (ps.toList.map fun q=>(q.1,ρ q.2)))
 | .buildSlice t n ps=>match lS P (tyk P t) n (ps.toList.map fun q=>(q.1,ρ q.2)) with
  | some (sz,vs)=>if (match o.dst with|some d=>md d|none=>false)=true then .eff ⟨[],.sl nid sz n,[(nid,some (.arr sz vs))]⟩ else bJ (.list sz vs)
  | none=>.no
 | .load t a=>gN (shp P t) m (ρ a)
 | .store t a v=>ja (shp P t) m (ρ a) (ρ v)
 | .nilCheck x=>if lM (ρ x)=true then bJ (ρ x) else .no
 | .binOp op t x y _=>dA (DU P op t (isC y) (ρ x) (ρ y))
 | .unOp op _ x=>dA (unA op (ρ x))
 | .convert s d x=>dA (uq P s d (ρ x))
 | .fieldAddr t x k=>dA (eR (aB P t k) (ρ x))
 | .field t x k=>dA (lO (aB P t k) (ρ x))
 | .indexAddr t x i=>dA (dy (tyk P t) (ρ x) (ρ i))
 | .index t x i=>dA (ka (tyk P t) (ρ x) (ρ i))
 | .extract x i=>dA (ia (ρ x) i)
 | .makeFunc f xs ys=>bJ (.fn f (xs.toList.map ρ) (ys.toList.map ρ))
 | .makeInterface t x=>dA (kb (tyk P t) t (ρ x))
 | .slice t x lo hi none=>dA (bB (tyk P t) (ρ x) (lo.map ρ) (hi.map ρ))
 | .makeMap t none=>match eS P t with
  | some (ks,ag)=>.eff ⟨[],.map nid,[(nid,some (.map ks ag [] 0))]⟩
  | none=>.no
 | .lookup t x k ok=>eI P m t (ρ x) (ρ k) ok
 | .mapUpdate t x k v=>bS P m t (ρ x) (ρ k) (ρ v)
 | .insert t x k v=>bS P m t (ρ x) (ρ k) (ρ v)
 | .mapEntry t x k=>dU P m t (ρ x) (ρ k)
 | .entryStore _ x k v=>cR m (ρ x) (ρ k) (ρ v)
 | .range t x=>jf (tyk P t) m nid (ρ x)
 | .entry x=>jg m (ρ x)
 | .call c=>jK P m nid ρ c
 | _=>.no
theorem qH {v:Option AV} {e:Eff} (h:dA v = .eff e):∃ u,v=some u∧e=⟨[],u,[]⟩:=by
 cases v with
 | none=>cases h
 | some u=>injection h with h;exact ⟨u,rfl,h.symm⟩
theorem Ae {m:Mem} {nid:Oid} {md:Nat→Bool} {e:Eff} (hs:sp nid) (hs2:∀ t,sp (.ty t nid)) (hnt:nid.tyd=none) (h:opF P m nid md ρ o = .eff e):aG P o ρ sp e∧∀ q,q ∈ e.need→m q.1=some q.2:=by
 have nn:∀ {val:AV} {u:List (Oid × Option ar)},∀ q,q ∈ (⟨[],val,u⟩:Eff).need→m q.1=some q.2:=fun q hq=>by cases hq
 have pl:∀ {val:AV},aG P o ρ sp ⟨[],val,[]⟩→bJ val = .eff e→aG P o ρ sp e∧∀ q,q ∈ e.need→m q.1=some q.2:=fun h1 h2=>by
  injection h2 with h2;subst h2;exact ⟨h1,nn⟩
 have pv:∀ {v:Option AV},(∀ u,v=some u→aG P o ρ sp ⟨[],u,[]⟩)→dA v = .eff e→aG P o ρ sp e∧∀ q,q ∈ e.need→m q.1=some q.2:=fun h1 h2=>by
  obtain ⟨u,hu,rfl⟩:=qH h2;exact ⟨h1 u hu,nn⟩
 have hsB:∀ t,sp (eV P t nid):=fun t=>by
  rcases (lZ (P:=P) (t:=t) hnt).1 with e|e
  ·rw [e];exact hs
  ·rw [e];exact hs2 t
 have hsA:∀ t s,sp (kP P t nid s):=fun t s=>by
  rcases (qG (P:=P) (t:=t) (s:=s) hnt).1 with e|⟨t',e⟩
  ·rw [e];exact hs
  ·rw [e];exact hs2 t'
 unfold opF at h
 split at h
 ·exact pl (qh (.inl ‹_›)) h
 ·exact pl (qh (.inr ‹_›)) h
 ·split at h
  ·exact pl (zT ‹_› ‹_›) h
  ·cases h
 ·split at h
  ·simp only [OpR.eff.injEq] at h;subst h;exact ⟨vq ‹_› ‹_› (hsB _) (lZ hnt).2,nn⟩
  ·cases h
 ·split at h
  ·simp only [OpR.eff.injEq] at h;subst h;exact ⟨DE ‹_› ‹_› (hsB _) (lZ hnt).2,nn⟩
  ·cases h
 ·exact pv (fun u hu=>vA ‹_› hu) h
 ·split at h
  ·by_cases hb:(match o.dst with|some d=>md d|none=>false)=true
   ·rw [if_pos hb] at h;injection h with h;subst h;exact ⟨sI ‹_› hs hnt ‹_›,nn⟩
   ·rw [if_neg hb] at h;exact pl (qy ‹_› ‹_›) h
  ·cases h
 ·exact zU ‹_› h
 ·exact vr ‹_› h
 ·split at h
  ·exact pl (oV ‹_› ‹_›) h
  ·cases h
 ·refine pv (fun u hu=>?_) h
  unfold DU at hu
  split at hu
  ·rename_i hb;rw [hu] at hb;exact DH ‹_› hb
  ·split at hu
   ·rename_i hb;rw [hu] at hb;exact zX ‹_› hb
   ·split at hu
    ·rename_i hb;rw [hu] at hb;exact DK ‹_› hb
    ·split at hu
     ·rename_i hb;rw [hu] at hb;exact DM ‹_› hb
     ·exact zY ‹_› hu
 ·exact pv (fun u hu=>Ym ‹_› hu) h
 ·refine pv (fun u hu=>?_) h
  unfold uq at hu
  split at hu
  ·rename_i hb;rw [hu] at hb;exact zZ ‹_› hb
  ·exact vD ‹_› hu
 ·exact pv (fun u hu=>nf ‹_› hu) h
 ·exact pv (fun u hu=>vt ‹_› hu) h
 ·exact pv (fun u hu=>nh ‹_› hu) h
 ·exact pv (fun u hu=>vu ‹_› hu) h
 ·exact pv (fun u hu=>qj ‹_› hu) h
 ·exact pl (oX ‹_›) h
 ·exact pv (fun u hu=>jE ‹_› hu) h
 ·exact pv (fun u hu=>vw ‹_› hu) h
 ·split at h
  ·simp only [OpR.eff.injEq] at h;subst h;exact ⟨qA _ _ ‹_› hs hnt,nn⟩
  ·cases h
 ·exact sL ‹_› h
 ·exact ni ‹_› h
 ·exact sM ‹_› h
 ·exact oY ‹_› h
 ·exact lX ‹_› h
 ·exact vB ‹_› hs hnt h
 ·exact vC ‹_› h
 ·rename_i c ho
  obtain ⟨callee,args,ats⟩:=c
  unfold jK at h
  simp only at h
  have args1:∀ {y:Operand},args.toList=[y]→args=#[y]:=fun h=>Array.ext' (by simpa using h)
  have args2:∀ {y z:Operand},args.toList=[y,z]→args=#[y,z]:=fun h=>Array.ext' (by simpa using h)
  have ats1:∀ {y:TypeId},ats.toList=[y]→ats=#[y]:=fun h=>Array.ext' (by simpa using h)
  have ats2:∀ {y z:TypeId},ats.toList=[y,z]→ats=#[y,z]:=fun h=>Array.ext' (by simpa using h)
  split at h
  ·split at h
   ·rename_i h1 h2
    rw [args1 h1,ats1 h2] at ho
    exact DO ho h
   ·cases h
  ·split at h
   ·rename_i h1 h2
    rw [args2 h1,ats2 h2] at ho
    split at h
    ·rename_i hsrc
     exact sK ho (hsA _ _) hsrc (qG hnt).2 h
    ·cases h
   ·cases h
  ·split at h
   ·rename_i h1;rw [args2 h1] at ho;exact pv (fun u hu=>DS ho hu) h
   ·cases h
  ·split at h
   ·rename_i h1;rw [args2 h1] at ho;exact pv (fun u hu=>DT ho hu) h
   ·cases h
  ·split at h
   ·rename_i h1 h2;rw [args2 h1,ats2 h2] at ho;exact sN ho h
   ·cases h
  ·split at h
   ·rename_i h1 h2;rw [args2 h1,ats2 h2] at ho;exact z6 ho h
   ·cases h
  ·split at h
   ·rename_i h1;rw [args1 h1] at ho;exact pv (fun u hu=>Ac ho hu) h
   ·cases h
  ·split at h
   ·rename_i h1 h2;rw [args2 h1,ats2 h2] at ho;exact Ad ho h
   ·cases h
  ·split at h<;>cases h
  ·cases h
 ·cases h
omit [Laid P] in
theorem jL {m:Mem} {nid:Oid} {md:Nat→Bool} {f:FuncId} {xs:List AV} (h:opF P m nid md ρ o = .call f xs) :
  ∃ fo args ts first cap,o.op = .call ⟨.value fo,args,ts⟩∧ρ fo = .fn (.func f) first cap∧xs=first++args.toList.map ρ++cap:=by
 have no:∀ {v:Option AV},dA v = .call f xs→False:=fun {v} h=>by cases v<;>cases h
 have lo:∀ {s:Option (Bool × Nat)} {v:AV},gN s m v = .call f xs→False:=fun {s v} h=>by
  unfold gN at h;split at h<;>first|(cases h;done)|(split at h<;>cases h;done)
 have st:∀ {s:Option (Bool × Nat)} {u v:AV},ja s m u v = .call f xs→False:=fun {s u v} h=>by
  unfold ja at h;split at h<;>first|(cases h;done)|(split at h<;>first|(cases h;done)|(split at h<;>cases h;done))
 have le:∀ {k:Option TyK} {v:AV},qo m k v = .call f xs→False:=fun {k v} h=>by
  unfold qo bJ at h;split at h<;>first|(cases h;done)|(split at h<;>cases h;done)
 have ap:∀ {nn:Oid} {t:TypeId} {u v:AV},sJ P m nn t u v = .call f xs→False:=fun {nn t u v} h=>by
  unfold sJ at h
  split at h
  ·split at h<;>first|(cases h;done)|(split at h<;>first|(cases h;done)|(split at h<;>cases h;done))
  ·cases h
 have lk:∀ {t:TypeId} {u v:AV} {ok:Bool},eI P m t u v ok = .call f xs→False:=fun {t u v ok} h=>by
  unfold eI bJ at h;split at h<;>first|(cases h;done)|(split at h<;>first|(cases h;done)|(split at h<;>first|(cases h;done)|(split at h<;>cases h;done)))
 have mu:∀ {t:TypeId} {u v z:AV},bS P m t u v z = .call f xs→False:=fun {t u v z} h=>by
  unfold bS at h;split at h<;>first|(cases h;done)|(split at h<;>first|(cases h;done)|(split at h<;>first|(cases h;done)|(split at h<;>cases h;done)))
 have me:∀ {t:TypeId} {u v:AV},dU P m t u v = .call f xs→False:=fun {t u v} h=>by
  unfold dU at h;split at h<;>first|(cases h;done)|(split at h<;>first|(cases h;done)|(split at h<;>first|(cases h;done)|(split at h<;>cases h;done)))
 have es:∀ {u v z:AV},cR m u v z = .call f xs→False:=fun {u v z} h=>by
  unfold cR at h;split at h<;>first|(cases h;done)|(split at h<;>first|(cases h;done)|(split at h<;>first|(cases h;done)|(split at h<;>cases h;done)))
 have ra:∀ {k:Option TyK} {u:AV},jf k m nid u = .call f xs→False:=fun {k u} h=>by
  unfold jf at h;split at h<;>first|(cases h;done)|(split at h<;>cases h;done)
 have de:∀ {t:TypeId} {u v:AV},iz P m t u v = .call f xs→False:=fun {t u v} h=>by
  unfold iz bJ at h;split at h<;>first|(cases h;done)|(split at h<;>first|(cases h;done)|(split at h<;>first|(cases h;done)|(split at h<;>first|(cases h;done)|(split at h<;>cases h;done))))
 have cy:∀ {k:Option TyK} {u v:AV},nO m k u v = .call f xs→False:=fun {k u v} h=>by
  unfold nO at h;split at h<;>first|(cases h;done)|(split at h<;>first|(cases h;done)|(split at h<;>cases h;done))
 have su:∀ {t:TypeId} {u v:AV},qF P m t u v = .call f xs→False:=fun {t u v} h=>by
  unfold qF at h;split at h<;>first|(cases h;done)|(split at h<;>first|(cases h;done)|(split at h<;>first|(cases h;done)|(split at h<;>cases h;done)))
 have en:∀ {u:AV},jg m u = .call f xs→False:=fun {u} h=>by
  unfold jg at h;split at h<;>first|(cases h;done)|(split at h<;>first|(cases h;done)|(split at h<;>first|(cases h;done)|(split at h<;>first|(cases h;done)|(split at h<;>cases h;done))))
 unfold opF at h
 split at h
 ·cases h
 ·cases h
 ·split at h<;>cases h
 ·split at h<;>cases h
 ·split at h<;>cases h
 ·exact (no h).elim
 ·split at h
  ·by_cases hb:(match o.dst with|some d=>md d|none=>false)=true
   ·rw [if_pos hb] at h;cases h
   ·rw [if_neg hb] at h;cases h
  ·cases h
 ·exact (lo h).elim
 ·exact (st h).elim
 ·split at h<;>cases h
 ·exact (no h).elim
 ·exact (no h).elim
 ·exact (no h).elim
 ·exact (no h).elim
 ·exact (no h).elim
 ·exact (no h).elim
 ·exact (no h).elim
 ·exact (no h).elim
 ·cases h
 ·exact (no h).elim
 ·exact (no h).elim
 ·split at h<;>cases h
 ·exact (lk h).elim
 ·exact (mu h).elim
 ·exact (mu h).elim
 ·exact (me h).elim
 ·exact (es h).elim
 ·exact (ra h).elim
 ·exact (en h).elim
 ·rename_i c ho
  obtain ⟨callee,args,ats⟩:=c
  unfold jK at h
  simp only at h
  split at h
  ·split at h
   ·exact (le h).elim
   ·cases h
  ·split at h
   ·split at h
    ·exact (ap h).elim
    ·cases h
   ·cases h
  ·split at h
   ·exact (no h).elim
   ·cases h
  ·split at h
   ·exact (no h).elim
   ·cases h
  ·split at h
   ·exact (de h).elim
   ·cases h
  ·split at h
   ·exact (cy h).elim
   ·cases h
  ·split at h
   ·exact (no h).elim
   ·cases h
  ·split at h
   ·exact (su h).elim
   ·cases h
  ·split at h
   ·rename_i hf
    simp only [OpR.call.injEq] at h
    obtain ⟨rfl,rfl⟩:=h
    exact ⟨_,_,_,_,_,ho,hf,rfl⟩
   ·cases h
  ·cases h
 ·cases h
theorem qI {m:Mem} {nid:Oid} {md:Nat→Bool} {f:FuncId} {xs:List AV} {e:Eff} (h:opF P m nid md ρ o = .call f xs) (hc:aA P f xs sp e):aG P o ρ sp e:=by
 obtain ⟨_,_,_,_,_,h1,h2,rfl⟩:=jL h
 exact Aa h1 h2 hc
end
end Go.Ab
namespace Go.Ab
def Ctx.inner (x:Ctx) (g:Gh) (w:World) (need:List (Oid × ar)) (p:Oid):Ctx :=
 { ng:=x.ng,g0:=g,w0:=w,may0:=fun b=>∃ q,q ∈ need∧g.loc q.1=some (some b),p:=p,rd:=none }
theorem Mem.dK {l:List (Oid × ar)} {i:Oid} {o:ar} (h:Mem.of l i=some o):∃ q,q ∈ l∧q.1=i∧q.2=o:=by
 induction l with
 | nil=>cases h
 | cons q l ih =>
  simp only [Mem.of,Mem.set] at h
  split at h
  ·rename_i e;simp only [Option.some.injEq] at h;exact ⟨q,List.mem_cons_self,e.symm,h⟩
  ·obtain ⟨q',h1,h2,h3⟩:=ih h;exact ⟨q',List.mem_cons_of_mem _ h1,h2,h3⟩
theorem Mem.o5 {l:List (Oid × ar)} {q:Oid × ar} (h:q ∈ l):∃ o,Mem.of l q.1=some o:=by
 induction l with
 | nil=>cases h
 | cons q' l ih =>
  simp only [Mem.of,Mem.set]
  split
  ·exact ⟨_,rfl⟩
  ·rename_i hne
   rcases List.mem_cons.1 h with rfl|h
   ·exact absurd rfl hne
   ·exact ih h
section
variable {x:Ctx} {g:Gh} {m:Mem} {w:World} {need:List (Oid × ar)} {p:Oid}
theorem aD.enter (h:aD x g m w) (hn:∀ q,q ∈ need→m q.1=some q.2):aD (x.inner g w need p) g (Mem.of need) w:=by
 have sub:∀ i o,Mem.of need i=some o→m i=some o:=fun i o hi=>by
  obtain ⟨q,h1,rfl,rfl⟩:=Mem.dK hi;exact hn q h1
 refine ⟨Gh.le_refl g,fun _ _=>rfl,h.glob,fun b o v hv=>.inl hv,fun i o hi=>?_,fun i j o o' b hi hj=>h.inj i j o o' b (sub i o hi) (sub j o' hj),h.com,h.one,h.rows,rfl,rfl,⟨rfl,fun _=>Nat.le_refl _⟩,Nat.le_refl _,fun _ _ _=>rfl,h.typs⟩
 rcases h.obj0 i o (sub i o hi) with hv|⟨b,h1,h2,h3,h4⟩
 ·exact .inl hv
 obtain ⟨q,k1,rfl,rfl⟩:=Mem.dK hi
 exact .inr ⟨b,h1,h2,.inl ⟨q,k1,h1⟩,h4⟩
theorem aD.leave (h:aD x g m w) (hn:∀ q,q ∈ need→m q.1=some q.2) (hp:Oid.under x.p p) {g':Gh} {m':Mem} {w':World} (h':aD (x.inner g w need p) g' m' w') {upd:List (Oid × Option ar)}
  (hm:∀ i o,((Mem.of need).aF upd) i=some o→m' i=some o):aD x g' (m.aF upd) w':=by
 have hle:g.le g':=h'.le
 have may:∀ b,(x.inner g w need p).may b→x.may b:=fun b hb=>by
  rcases hb with ⟨q,hq,hl⟩|hb
  ·obtain ⟨b',k1,_,k3,_⟩:=h.fO (hn q hq) hl
   rw [hl] at k1;simp only [Option.some.injEq] at k1;subst k1;exact k3
  ·exact .inr (Nat.le_trans h.size hb)
 have cases':∀ i o,(m.aF upd) i=some o→m' i=some o∨(m i=some o∧∀ q,q ∈ need→q.1≠i):=fun i o hi=>by
  by_cases hk:∃ q,q ∈ upd∧q.1=i
  ·exact .inl (hm i o (by rw [← hi];exact fR hk))
  ·have hno:∀ q,q ∈ upd→q.1≠i:=fun q hq e=>hk ⟨q,hq,e⟩
   rw [aU hno] at hi
   by_cases hq:∃ q,q ∈ need∧q.1=i
   ·obtain ⟨q,hq,rfl⟩:=hq
    obtain ⟨o',ho'⟩:=Mem.o5 hq
    obtain ⟨q',k1,k2,k3⟩:=Mem.dK ho'
    have:=hn q' k1
    rw [k2,hi,k3] at this
    simp only [Option.some.injEq] at this
    exact .inl (hm _ _ (by rw [aU hno,ho',this]))
   ·exact .inr ⟨hi,fun q hq' e=>hq ⟨q,hq',e⟩⟩
 have outer:∀ i o,m i=some o→(∀ q,q ∈ need→q.1≠i)→(o.void=true∧g.loc i=some none)∨∃ b,g.loc i=some (some b)∧b < w.heap.size∧¬ (x.inner g w need p).may b∧(∀ k,g.com b k=none)∧x.may b∧b9 g w b o:=fun i o hi hq=>by
  rcases h.obj0 i o hi with hv|⟨b,k1,k2,k3,k4⟩
  ·exact .inl hv
  refine .inr ⟨b,k1,k4.lt,fun hb=>?_,k2,k3,k4⟩
  rcases hb with ⟨q,hq',hl⟩|hb
  ·exact hq q hq' (h.inj q.1 i q.2 o b (hn q hq') hi hl k1)
  ·have:=k4.lt
   have hb':w.heap.size≤b:=hb
   omega
 refine ⟨Gh.le_trans h.le hle,fun i hi=>?_,h'.glob,fun b o v hv=>?_,fun i o hi=>?_,fun i j o o' b hi hj hb hb'=>?_,h'.com,h'.one,h'.rows,h'.os.trans h.os,h'.tape.trans h.tape,⟨h'.output.1.trans h.output.1,fun hm=>Nat.le_trans (h.output.2 hm) (h'.output.2 (Oid.lF hp hm))⟩,Nat.le_trans h.size h'.size,fun b hb hmy=>?_,h'.typs⟩
 ·exact (h'.locs i (fun hu=>hi (Oid.bY hp hu))).trans (h.locs i hi)
 ·rcases h'.coms b o v hv with h1|h1
  ·exact h.coms b o v h1
  ·exact .inr (may b h1)
 ·rcases cases' i o hi with h1|⟨h1,h2⟩
  ·rcases h'.obj0 i o h1 with hv|⟨b,k1,k2,k3,k4⟩
   ·exact .inl hv
   exact .inr ⟨b,k1,k2,may b k3,k4⟩
  ·rcases outer i o h1 h2 with hv|⟨b,k1,k2,k3,k4,k5,k6⟩
   ·exact .inl ⟨hv.1,hle.1 _ _ hv.2⟩
   refine .inr ⟨b,hle.1 _ _ k1,fun k=>?_,k5,(b9.block (h'.kept b k2 (fun hh=>k3 (.inl hh))) k6).mono hle⟩
   cases hc:g'.com b k with
   | none=>rfl
   | some v =>
    rcases h'.coms b k v hc with h3|h3
    ·have h3':g.com b k=some v:=h3
     rw [k4 k] at h3';cases h3'
    ·exact absurd h3 k3
 ·rcases cases' i o hi with h1|⟨h1,h2⟩<;>rcases cases' j o' hj with h3|⟨h3,h4⟩
  ·exact h'.inj i j o o' b h1 h3 hb hb'
  ·rcases outer j o' h3 h4 with hv|⟨c,k1,k2,k3,_⟩
   ·rw [hle.1 _ _ hv.2] at hb';cases hb'
   have:=hle.1 _ _ k1
   rw [hb'] at this;simp only [Option.some.injEq] at this;subst this
   obtain ⟨c,q1,q2,q3,q4⟩:=h'.fO h1 hb
   rw [hb] at q1;simp only [Option.some.injEq] at q1;subst q1
   exact absurd q3 k3
  ·rcases outer i o h1 h2 with hv|⟨c,k1,k2,k3,_⟩
   ·rw [hle.1 _ _ hv.2] at hb;cases hb
   have:=hle.1 _ _ k1
   rw [hb] at this;simp only [Option.some.injEq] at this;subst this
   obtain ⟨c,q1,q2,q3,q4⟩:=h'.fO h3 hb'
   rw [hb'] at q1;simp only [Option.some.injEq] at q1;subst q1
   exact absurd q3 k3
  ·rcases outer i o h1 h2 with hv|⟨c,k1,_⟩
   ·rw [hle.1 _ _ hv.2] at hb;cases hb
   rcases outer j o' h3 h4 with hv|⟨c',k1',_⟩
   ·rw [hle.1 _ _ hv.2] at hb';cases hb'
   have e1:=hle.1 _ _ k1;have e2:=hle.1 _ _ k1'
   rw [hb] at e1;rw [hb'] at e2
   simp only [Option.some.injEq] at e1 e2;subst e1;subst e2
   exact h.inj i j o o' b h1 h3 k1 k1'
 ·have hlt:b < w.heap.size:=Nat.lt_of_lt_of_le hb h.size
  rw [h'.kept b hlt (fun ⟨q,hq,hl⟩=>?_)]
  ·exact h.kept b hb hmy
  ·obtain ⟨b',k1,_,k3,_⟩:=h.fO (hn q hq) hl
   rw [hl] at k1;simp only [Option.some.injEq] at k1;subst k1
   rcases k3 with k3|k3
   ·exact hmy k3
   ·omega
end
def cx:Nat→List AV→List (Nat × AV)
 | _,[]=>[]
 | k,x::xs=>(k,x)::cx (k+1) xs
theorem lu:∀ (xs:List AV) (k t:Nat),F (cx k xs) t=if k≤t∧t < k+xs.length then xs.getD (t - k) .undef else .undef
 | [],k,t=>by simp [cx,F]
 | x::xs,k,t=>by
  simp only [cx,F,lu xs (k+1) t,List.length_cons]
  by_cases e:t=k
  ·subst e;rw [if_pos rfl,if_pos (by omega)];simp
  ·rw [if_neg e]
   by_cases h:k+1≤t∧t < k+1+xs.length
   ·rw [if_pos h,if_pos (by omega)]
    have:t - k=(t - (k+1))+1:=by omega
    rw [this];simp [List.getD_eq_getElem?_getD]
   ·rw [if_neg h,if_neg (by omega)]
def rvF (tmps:Array Value) (r:ResultVar):Sem Value:=match r with
 | .tmp t=>pure (tmps.getD t undef)
 | .cell a t=>do loadVar t (← asAddr (tmps.getD a undef))
theorem DV (P:Program) (tmps:Array Value) (t:Nat) (w:World):(rvF tmps (.tmp t)).run P w = .ok (tmps.getD t undef) w:=rfl
theorem qJ (fn:Func) (tmps:Array Value):results fn tmps=(do let vs ← fn.results.mapM (rvF tmps);pure (if h:vs.size=1 then vs[0] else .tuple vs)):=rfl
theorem Af {P:Program} [Laid P] {x:Ctx} {n:Nat} {c:Code} {s:AS} {Q:AX→AS→Prop} (i:Oid) {sz:Nat} {xs:List AV} (fr:List (Nat × AV)) (hi:s.mem i=some (.arr sz xs))
  (hfr:∀ t,t < n→F fr t = .undef∨F fr t=F s.fr t∨(F s.fr t = .sl i sz xs.length∧F fr t = .list sz xs)) (hT:T P x n c { s with fr:=fr,mem:=s.mem.set i none } Q):T P x n c s Q:=by
 refine fg _ (fun g a w hr=>?_) hT
 obtain ⟨g',h1,h2,h3,h4⟩:=hr.mr.freeze hi
 refine ⟨g',h3,hr.tm,hr.df.mono h1,fun t ht=>?_,fun k hk=>by rw [h2];exact hr.young k hk⟩
 rcases hfr t ht with h|h|⟨ha,hb⟩
 ·simp only [h];exact .unk _
 ·simp only [h];exact (hr.fr t ht).mono h1
 ·simp only [hb]
  have:=hr.fr t ht
  rw [ha] at this
  have:=h4 _ _ this (Nat.le_refl _)
  rwa [List.take_length] at this
end Go.Ab
namespace Go.Ab
def bT:List Nat→List (Nat × AV)→List (Nat × AV)
 | [],_=>[]
 | t::ts,fr=>(t,F fr t)::bT ts fr
theorem vE (ts:List Nat) (fr:List (Nat × AV)):bT ts fr=ts.map fun t=>(t,F fr t):=by
 induction ts with
 | nil=>rfl
 | cons t ts ih=>simp only [bT,ih,List.map_cons]
theorem jM (ts:List Nat) (fr:List (Nat × AV)) (t:Nat):F (bT ts fr) t = .undef∨F (bT ts fr) t=F fr t:=by
 induction ts with
 | nil=>exact .inl rfl
 | cons u ts ih =>
  simp only [bT,F]
  split
  ·rename_i h;subst h;exact .inr rfl
  ·exact ih
def eA:Op→Bool
 | .move _ | .assign _ | .pick .. | .build .. | .nilCheck _ | .binOp .. | .unOp .. | .convert .. | .fieldAddr .. | .field .. | .indexAddr .. | .index .. | .extract .. | .makeFunc .. | .makeInterface .. | .slice .. => true
 | .call c=>match c.callee with
  | .builtin .max | .builtin .min | .builtin .unsafeSliceData=>true
  | _=>false
 | _=>false
def eW:Op→Bool
 | .load .. | .lookup .. => true
 | .call c=>match c.callee with
  | .builtin .len=>true
  | _=>false
 | _=>false
theorem Ag {P:Program} {m:Mem} {nid:Oid} {md:Nat→Bool} {ρ:Operand→AV} {o:Oper} {e:Eff} (hi:eA o.op=true) (h:opF P m nid md ρ o = .eff e):e.need=[]∧e.upd=[]:=by
 have pl:∀ {val:AV},bJ val = .eff e→e.need=[]∧e.upd=[]:=fun h=>by injection h with h;subst h;exact ⟨rfl,rfl⟩
 have pv:∀ {v:Option AV},dA v = .eff e→e.need=[]∧e.upd=[]:=fun h=>by obtain ⟨u,_,rfl⟩:=qH h;exact ⟨rfl,rfl⟩
 unfold opF at h
 split at h<;>first|(cases h;done)|skip
 all_goals (rename_i ho;rw [ho] at hi)
 all_goals first|exact pl h|exact pv h|(cases hi;done)|skip
 ·split at h
  ·exact pl h
  ·cases h
 ·split at h
  ·exact pl h
  ·cases h
 ·unfold jK at h
  unfold eA at hi
  split at h<;>rename_i hc<;>simp only [hc] at hi<;>first|(cases hi;done)|skip
  ·split at h
   ·exact pv h
   ·cases h
  ·split at h
   ·exact pv h
   ·cases h
  ·split at h
   ·exact pv h
   ·cases h
theorem nj {P:Program} {m:Mem} {nid:Oid} {md:Nat→Bool} {ρ:Operand→AV} {o:Oper} {f:FuncId} {xs:List AV} (hi:eA o.op=true) (h:opF P m nid md ρ o = .call f xs):False:=by
 have no:∀ {v:Option AV},dA v = .call f xs→False:=fun {v} h=>by cases v<;>cases h
 unfold opF at h
 split at h<;>first|(cases h;done)|skip
 all_goals (rename_i ho;rw [ho] at hi)
 all_goals first|exact no h|(cases hi;done)|skip
 ·split at h<;>cases h
 ·split at h<;>cases h
 ·unfold jK at h
  unfold eA at hi
  split at h<;>rename_i hc<;>simp only [hc] at hi<;>first|(cases hi;done)|skip
  ·split at h
   ·exact no h
   ·cases h
  ·split at h
   ·exact no h
   ·cases h
  ·split at h
   ·exact no h
   ·cases h
theorem Ah {P:Program} {m:Mem} {nid:Oid} {md:Nat→Bool} {ρ:Operand→AV} {o:Oper} {e:Eff} (hi:eW o.op=true) (h:opF P m nid md ρ o = .eff e):e.upd=[]:=by
 unfold opF at h
 split at h<;>first|(cases h;done)|skip
 all_goals (rename_i ho;rw [ho] at hi)
 all_goals first|(cases hi;done)|skip
 ·unfold gN at h
  split at h<;>first|(cases h;done)|(split at h<;>first|(cases h;done)|(injection h with h;subst h;rfl))
 ·unfold eI bJ at h
  split at h<;>first|(cases h;done)|(split at h<;>first|(cases h;done)|(split at h<;>first|(cases h;done)|(injection h with h;subst h;rfl)|(split at h<;>first|(cases h;done)|(injection h with h;subst h;rfl))))
 ·unfold jK at h
  unfold eW at hi
  split at h<;>rename_i hc<;>simp only [hc] at hi<;>first|(cases hi;done)|skip
  ·split at h
   ·unfold qo bJ at h
    split at h<;>first|(cases h;done)|(injection h with h;subst h;rfl)|(split at h<;>first|(cases h;done)|(injection h with h;subst h;rfl))
   ·cases h
theorem nk {P:Program} {m:Mem} {nid:Oid} {md:Nat→Bool} {ρ:Operand→AV} {o:Oper} {f:FuncId} {xs:List AV} (hi:eW o.op=true) (h:opF P m nid md ρ o = .call f xs):False:=by
 unfold opF at h
 split at h<;>first|(cases h;done)|skip
 all_goals (rename_i ho;rw [ho] at hi)
 all_goals first|(cases hi;done)|skip
 ·unfold gN at h
  split at h<;>first|(cases h;done)|(split at h<;>cases h;done)
 ·unfold eI bJ at h
  split at h<;>first|(cases h;done)|(split at h<;>first|(cases h;done)|(split at h<;>first|(cases h;done)|(split at h<;>cases h;done)))
 ·unfold jK at h
  unfold eW at hi
  split at h<;>rename_i hc<;>simp only [hc] at hi<;>first|(cases hi;done)|skip
  ·split at h
   ·unfold qo bJ at h
    split at h<;>first|(cases h;done)|(split at h<;>cases h;done)
   ·cases h
def vF (o:Oper) (e:Eff):Prop:=(eA o.op=true→e.need=[]∧e.upd=[])∧(eW o.op=true→e.upd=[])
def o6 (ops:Array Oper) (B:List Nat) (U:List (Nat × Nat)):Bool:=(List.range ops.size).all fun j=>(List.range j).all fun i=>(B.getD j 0).testBit i || match ops[i]?,ops[j]? with
 | some x,some y=>eA x.op || eA y.op || (eW x.op && eW y.op) || U.contains (i,j)
 | _,_=>true
def Ai (E:List Eff):List (Nat × Nat)→Prop
 | []=>True
 | (i,j)::r=>zR (E.getD i Eff.none) (E.getD j Eff.none)∧Ai E r
theorem Aj {E:List Eff} {U:List (Nat × Nat)} (h:Ai E U) {i j:Nat} (hm:(i,j) ∈ U):zR (E.getD i Eff.none) (E.getD j Eff.none):=by
 induction U with
 | nil=>cases hm
 | cons q U ih =>
  obtain ⟨a,b⟩:=q
  simp only [Ai] at h
  rcases List.mem_cons.1 hm with h'|h'
  ·injection h' with h1 h2;subst h1;subst h2;exact h.1
  ·exact ih h.2 h'
theorem vG {ops:Array Oper} {E:List Eff} {U:List (Nat × Nat)} {B:List Nat} (hp:o6 ops B U=true) (hl:E.length=ops.size) (ht:∀ (k:Nat) o e,ops[k]? = some o→E[k]? = some e→vF o e) (hd:Ai E U):oS B E:=by
 intro i j ei ej hij hi hj hb
 have hjs:j < ops.size:=by
  rcases Nat.lt_or_ge j E.length with h|h
  ·omega
  ·simp [List.getElem?_eq_none h] at hj
 simp only [o6,List.all_eq_true,List.mem_range] at hp
 have:=hp j hjs i hij
 have hoi:ops[i]? = some (ops[i]'(by omega)):=by simp
 have hoj:ops[j]? = some ops[j]:=by simp
 rw [hb,hoi,hoj] at this
 simp only [Bool.false_or,Bool.or_eq_true,Bool.and_eq_true,List.contains_iff_mem] at this
 have hti:=ht i _ ei hoi hi
 have htj:=ht j _ ej hoj hj
 rcases this with ((h|h)|⟨h1,h2⟩)|h
 ·obtain ⟨a,b⟩:=hti.1 h
  exact ⟨(fun q hq=>by rw [b] at hq;cases hq),(fun q hq=>by rw [b] at hq;cases hq),(fun q hq=>by rw [a] at hq;cases hq)⟩
 ·obtain ⟨a,b⟩:=htj.1 h
  exact ⟨(fun q _ q' hq=>by rw [a] at hq;cases hq),(fun q _ q' hq=>by rw [b] at hq;cases hq),(fun q _ q' hq=>by rw [b] at hq;cases hq)⟩
 ·have a:=hti.2 h1;have b:=htj.2 h2
  exact ⟨(fun q hq=>by rw [a] at hq;cases hq),(fun q hq=>by rw [a] at hq;cases hq),(fun q _ q' hq=>by rw [b] at hq;cases hq)⟩
 ·have:=Aj hd h
  simpa [List.getD_eq_getElem?_getD,hi,hj] using this
theorem fD {P:Program} [Laid P] {ops:Array Oper} {p:Oid} {c N:Nat} {K K':List (Nat × AV)→Mem→List Eff→Prop} (hk:∀ fr m log,log.length=N→K fr m log→K' fr m log) :
  ∀ (rest:List Oper) (i:Nat) (fr:List (Nat × AV)) (m:Mem) (log:List Eff),log.length+rest.length=N→cV P ops p c i rest fr m log K→cV P ops p c i rest fr m log K'
 | [],_,_,_,_,hl,h=>hk _ _ _ (by simpa using hl) h
 | o::rest,i,fr,m,log,hl,h=>by
  simp only [List.length_cons] at hl
  simp only [cV] at h ⊢
  split
  ·rename_i hw
   simp only [hw] at h
   obtain ⟨e,h1,h2,h3⟩:=h
   exact ⟨e,h1,h2,fD hk rest _ _ _ _ (by simp;omega) h3⟩
  ·rename_i hw
   simp only [hw] at h
   exact fD hk rest _ _ _ _ (by simp;omega) h
  ·rename_i hw
   simp only [hw] at h
section
variable {P:Program} [Laid P] {x:Ctx} {n:Nat} {Q:AX→AS→Prop} {id:Nat} {ops:Array Oper} {d:Code} {fr:List (Nat × AV)} {m:Mem} {c:Nat} {ds:List AD}
def XU (n ng:Nat) (ops:Array Oper):Bool:=ops.all (dS n ng ops)
def Ak (n ng:Nat) (ops:Array Oper) (U:List (Nat × Nat)):Bool:=ops.all (dS n ng ops) && oR ops && o6 ops (e9 ops.toList []) U
end
end Go.Ab
namespace Go.Ab
attribute [go_sem] jK bJ dA evA evF cB gr put bT F DU DL DN isC DG uh DI iN unA ui uq u8K eR lO ia kb bL qo DP DQ gN iy ja lM uj iO
 AV.cells AV.known AV.one cx lR lQ spl jF qz uo eA eD fits eqS bp eI bS dU cR jf jg kM aQ AV.isAgg
section
variable {P:Program} [Laid P] {x:Ctx} {n:Nat} {Q:AX→AS→Prop} {fr:List (Nat × AV)} {m:Mem} {c:Nat} {ds:List AD}
omit [Laid P] in
theorem afP {t:Nat} {c1 c2:Code} {b:Bool} (ht:(decide (t < n))=true) (hv:F fr t = .bool b) (h1:b=true→T P x n c1 ⟨fr,m,c,ds⟩ Q) (h2:b=false→T P x n c2 ⟨fr,m,c,ds⟩ Q) :
  T P x n (.cond (.tmp t) c1 c2) ⟨fr,m,c,ds⟩ Q :=
 Yi (b:=b) (.bool b) (by simp only [of_decide_eq_true ht,if_true];exact hv) rfl (by cases b;exact h2 rfl;exact h1 rfl)
end
theorem w64 {n:Int} (h1:-9223372036854775808≤n) (h2:n≤9223372036854775807):IntKind.i64.wrap n=n:=by
 rw [IntKind.wrap_i64];omega
end Go.Ab
namespace Go.Ab
def kQ (P:Program) [Laid P] (o:Oper) (ρ:Operand→AV) (sp:Oid→Prop) (need:List (Oid × ar)) (R Rp:AV→List (Oid × Option ar)→Prop):Prop :=
 ∀ (x:Ctx) (g:Gh) (a:Act) (w:World) (m:Mem),aD x g m w→(∀ q,q ∈ need→m q.1=some q.2) →
  (∀ t,t ∈ o.op.operands.toList→VR g (ρ t) (a.eval t))→(∀ i,sp i→g.loc i=none∧Oid.under x.p i)→Fit P x →
  ∀ (next:Act→World→Prop) (Q:Exit→Act→World→Prop),
   (∀ val upd,R val upd→∀ g' v w',g.le g'→(∀ i,¬ sp i→g'.loc i=g.loc i)→VR g' val v→aD x g' (m.aF upd) w'→next (a.put o.dst v) w') →
   (∀ pv upd,Rp pv upd→∀ g' (e:PanicEntry) w',g.le g'→(∀ i,¬ sp i→g'.loc i=g.loc i)→VR g' pv e.v→e.recovered=false→e.goexit=false→aD x g' (m.aF upd) w'→Q (.panic [e]) a w') →
   o.wpIn (Fc x.rd) 0 P a w next Q
structure aX (P:Program) [Laid P] (f:FuncId) (xs:List AV) (sp:Oid→Prop) (need:List (Oid × ar)) (R Rp:AV→List (Oid × Option ar)→Prop):Prop where
 enters:cL P f=true
 calls:∀ (x:Ctx) (g:Gh) (args:Array Value) (w:World) (m:Mem),aD x g m w→(∀ q,q ∈ need→m q.1=some q.2)→VRs g xs args→(∀ i,sp i→g.loc i=none∧Oid.under x.p i)→Fit P x →
  Calls P f args w fun en w'=>(∃ g' v val upd,en = .returned v∧R val upd∧g.le g'∧(∀ i,¬ sp i→g'.loc i=g.loc i)∧VR g' val v∧aD x g' (m.aF upd) w') ∨
   (∃ g' e pv upd,en = .panicked [e]∧Rp pv upd∧g.le g'∧(∀ i,¬ sp i→g'.loc i=g.loc i)∧VR g' pv e.v∧e.recovered=false∧e.goexit=false∧aD x g' (m.aF upd) w')
section
variable {P:Program} [Laid P] {o:Oper} {ρ:Operand→AV} {sp:Oid→Prop} {need:List (Oid × ar)} {R Rp:AV→List (Oid × Option ar)→Prop}
theorem aA.nd {f:FuncId} {xs:List AV} {e:Eff} (h:aA P f xs sp e):aX P f xs sp e.need (fun v u=>v=e.val∧u=e.upd) (fun _ _=>False) :=
 ⟨h.enters,fun x g args w m hm hn ha hs hng=>(h.calls x g args w m hm hn ha hs hng).mono fun _ _ ⟨g',v,h1,h2,h3,h4,h5⟩=>.inl ⟨g',v,e.val,e.upd,h1,⟨rfl,rfl⟩,h2,h3,h4,h5⟩⟩
theorem aX.weaken {f:FuncId} {xs:List AV} {R' Rp':AV→List (Oid × Option ar)→Prop} (h:aX P f xs sp need R Rp) (hR:∀ v u,R v u→R' v u) (hRp:∀ v u,Rp v u→Rp' v u):aX P f xs sp need R' Rp' :=
 ⟨h.enters,fun x g args w m hm hn ha hs hng=>(h.calls x g args w m hm hn ha hs hng).mono fun _ _ h=>h.imp (fun ⟨g',v,val,upd,h1,h2,h3⟩=>⟨g',v,val,upd,h1,hR _ _ h2,h3⟩) (fun ⟨g',e,pv,upd,h1,h2,h3⟩=>⟨g',e,pv,upd,h1,hRp _ _ h2,h3⟩)⟩
theorem aX.ok {f:FuncId} {xs:List AV} {e:Eff} (h:aX P f xs sp e.need (fun v u=>v=e.val∧u=e.upd) (fun _ _=>False)):aA P f xs sp e :=
 ⟨h.enters,fun x g args w m hm hn ha hs hng=>(h.calls x g args w m hm hn ha hs hng).mono fun _ _ h=>by
  rcases h with ⟨g',v,val,upd,h1,⟨rfl,rfl⟩,h2,h3,h4,h5⟩|⟨_,_,_,_,_,h,_⟩
  ·exact ⟨g',v,h1,h2,h3,h4,h5⟩
  ·exact h.elim⟩
theorem sO {f:Operand} {args:Array Operand} {ts:Array TypeId} {k:FuncId} {first cap:List AV} (ho:o.op = .call ⟨.value f,args,ts⟩) (hf:ρ f = .fn (.func k) first cap)
  (h:aX P k (first++args.toList.map ρ++cap) sp need R Rp):kQ P o ρ sp need R Rp:=by
 intro x g a w m hm hn hop hs hng next Q K Kp
 have hfv:=hop f (by simp [Op.operands,Call.operands,ho])
 rw [hf] at hfv
 obtain ⟨fa,ca,hu,h1,h2,h3,h4⟩:=hfv.j6
 have hargs:VRs g (args.toList.map ρ) (args.map a.eval):=VRs.map fun t ht=>hop t (by
  have:t ∈ args:=by simpa using ht
  simp [Op.operands,Call.operands,ho,this])
 have hrun:(execOp a.eval o).run P w = .ok (.enter k (fa++args.map a.eval++ca)) w:=by
  have he:=h.enters
  unfold cL at he
  cases hfn:P.funcs[k]? with
  | none=>rw [hfn] at he;cases he
  | some fn =>
   rw [hfn] at he
   simp only [Bool.and_eq_true,bne_iff_ne,ne_eq] at he
   obtain ⟨he1,he2⟩:=he
   have hb:fn.body.isNone=false:=by cases hbb:fn.body<;>simp_all
   have hnm:(fn.name == "runtime.NumGoroutine")=false:=by simpa using he2
   simp only [execOp,ho,resolve,Sem.run_bind,hu,Deferred.ofValue,Sem.run_pure,Result.andThen_ok,invoke,callFunc,run_program,hfn,hnm,hb,Bool.false_eq_true,if_false]
 refine ⟨fun _ _=>trivial,?_⟩
 rw [Oper.semAt_eq _ _ _ (fun c hc=>by rw [ho] at hc;cases hc),hrun,Oper.uponIn_enter]
 refine ⟨fun hd=>absurd hd (by simp [Fc]),gx.2 ?_⟩
 refine (h.calls x g _ w m hm hn (VRs.append (VRs.append ⟨h1,h3⟩ hargs) ⟨h2,h4⟩) hs hng).mono fun en w' hh=>?_
 rcases hh with ⟨g',v,val,upd,he,k0,k1,k2,k3,k4⟩|⟨g',e,pv,upd,he,k0,k1,k2,k3,k4,k5,k6⟩
 ·subst he;exact K val upd k0 g' v w' k1 k2 k3 k4
 ·subst he;exact Kp pv upd k0 g' e w' k1 k2 k3 k4 k5 k6
end
def eX (P:Program) [Laid P] (md:Nat→Bool) (ops:Array Oper) (p:Oid) (c:Nat):Nat→List Oper→List (Nat × AV)→Mem→(List (Nat × AV)→Mem→Prop)→(AV→List (Nat × AV)→Mem→Prop)→Prop
 | _,[],fr,m,K,_=>K fr m
 | i,o::rest,fr,m,K,Kp =>
  match fQ ops o (F fr) with
  | some true =>
   match opF P m (.sub c i p) md (evA fr) o with
   | .eff e=>eX P md ops p c (i+1) rest (put o.dst e.val fr) (m.aF e.upd) K Kp
   | .call f xs=>(∃ e,aA P f xs (Oid.under (.sub c i p)) e∧(∀ q,q ∈ e.need→m q.1=some q.2)∧eX P md ops p c (i+1) rest (put o.dst e.val fr) (m.aF e.upd) K Kp) ∨
     ∃ need R Rp,aX P f xs (Oid.under (.sub c i p)) need R Rp∧(∀ q,q ∈ need→m q.1=some q.2)∧(∀ val upd,R val upd→eX P md ops p c (i+1) rest (put o.dst val fr) (m.aF upd) K Kp)∧∀ pv upd,Rp pv upd→Kp pv fr (m.aF upd)
   | .no=>∃ need R Rp,kQ P o (evA fr) (Oid.under (.sub c i p)) need R Rp∧(∀ q,q ∈ need→m q.1=some q.2)∧(∀ val upd,R val upd→eX P md ops p c (i+1) rest (put o.dst val fr) (m.aF upd) K Kp)∧∀ pv upd,Rp pv upd→Kp pv fr (m.aF upd)
  | some false=>eX P md ops p c (i+1) rest (put o.dst (.tuple []) fr) m K Kp
  | none=>False
theorem iA {P:Program} [Laid P] {md:Nat→Bool} {x:Ctx} {n c:Nat} {ds:List AD} {ops:Array Oper} {K:List (Nat × AV)→Mem→Prop} {Kp:AV→List (Nat × AV)→Mem→Prop} {Q:Exit→Act→World→Prop} (hng:Fit P x)
  (hok:∀ (j:Nat) o,ops[j]? = some o→dS n P.globals.size ops o=true)
  (hK:∀ g fr m a w,RR x n ds g (F fr) m a w→(∀ i,dB x.p (c+1) i→g.loc i=none)→K fr m→Q .normal a w)
  (hKp:∀ g fr m pv (e:PanicEntry) a w,RR x n ds g (F fr) m a w→(∀ i,dB x.p (c+1) i→g.loc i=none)→VR g pv e.v→e.recovered=false→e.goexit=false→Kp pv fr m→Q (.panic [e]) a w) :
  ∀ (rest:List Oper) (i:Nat) (fr:List (Nat × AV)) (m:Mem) (g:Gh) (a:Act) (w:World),(∀ j,rest[j]? = ops[i+j]?) →
   eX P md ops x.p c i rest fr m K Kp→RR x n ds g (F fr) m a w→(∀ k,dB x.p (c+1) k→g.loc k=none)→(∀ j k,i≤j→Oid.under (.sub c j x.p) k→g.loc k=none) →
   wpOpsIn (Fc x.rd) 0 P ops Q (List.range' i rest.length) a w
 | [],i,fr,m,g,a,w,_,h,hr,hy,_=>by simp only [List.length_nil,List.range'_zero,wpOpsIn];exact hK g fr m a w hr hy h
 | o::rest,i,fr,m,g,a,w,hl,h,hr,hy,hs=>by
  have h0:ops[i]? = some o:=by simpa using (hl 0).symm
  have hl':∀ j,rest[j]? = ops[i+1+j]? := fun j=>by have:=hl (j+1);simpa [Nat.add_assoc,Nat.add_comm 1 j] using this
  have ho:=hok i o h0
  obtain ⟨o1,o2,o3,o4⟩:=gV ho
  simp only [List.length_cons,List.range'_succ,wpOpsIn,h0]
  simp only [eX] at h
  have young:∀ g':Gh,(∀ k,¬ Oid.under (.sub c i x.p) k→g'.loc k=g.loc k)→(∀ k,dB x.p (c+1) k→g'.loc k=none)∧∀ j k,i+1≤j→Oid.under (.sub c j x.p) k→g'.loc k=none:=by
   intro g' hloc
   refine ⟨fun k hk=>?_,fun j k hj hk=>?_⟩
   ·rw [hloc k (fun hu=>?_)];exact hy k hk
    obtain ⟨c',i',hc',hk'⟩:=hk
    have:=(Oid.apart hu hk').1;omega
   ·rw [hloc k (fun hu=>?_)];exact hs j k (by omega) hk
    have:=(Oid.apart hu hk).2;omega
  cases hw:fQ ops o (F fr) with
  | none=>simp only [hw] at h
  | some b =>
   rw [VR.wanted o4 (fun t ht _=>hr.fr t ht) hw]
   cases b with
   | true =>
    simp only [hw] at h
    simp only [if_true]
    have det:∀ e,aG P o (evA fr) (Oid.under (.sub c i x.p)) e→(∀ q,q ∈ e.need→m q.1=some q.2)→eX P md ops x.p c (i+1) rest (put o.dst e.val fr) (m.aF e.upd) K Kp →
      o.wpIn (Fc x.rd) 0 P a w (wpOpsIn (Fc x.rd) 0 P ops Q (List.range' (i+1) rest.length)) Q:=fun e he hn hK' =>
     he x g a w m hr.mr hn (hr.operands hng.1 ho (fun _ _=>rfl)) (fun k hk=>⟨hs i k (Nat.le_refl _) hk,Oid.ay hk⟩) hng _ _ fun g' v w' hle hloc hv hm =>
      iA hng hok hK hKp rest (i+1) _ _ g' _ w' hl' hK' (by rw [kK];exact hr.put hle hm _ hv) (young g' hloc).1 (young g' hloc).2
    have nd:∀ need R Rp,kQ P o (evA fr) (Oid.under (.sub c i x.p)) need R Rp→(∀ q,q ∈ need→m q.1=some q.2)→(∀ val upd,R val upd→eX P md ops x.p c (i+1) rest (put o.dst val fr) (m.aF upd) K Kp) →
      (∀ pv upd,Rp pv upd→Kp pv fr (m.aF upd))→o.wpIn (Fc x.rd) 0 P a w (wpOpsIn (Fc x.rd) 0 P ops Q (List.range' (i+1) rest.length)) Q:=fun need R Rp he hn hK' hP =>
     he x g a w m hr.mr hn (hr.operands hng.1 ho (fun _ _=>rfl)) (fun k hk=>⟨hs i k (Nat.le_refl _) hk,Oid.ay hk⟩) hng _ _ (fun val upd hR g' v w' hle hloc hv hm =>
      iA hng hok hK hKp rest (i+1) _ _ g' _ w' hl' (hK' val upd hR) (by rw [kK];exact hr.put hle hm _ hv) (young g' hloc).1 (young g' hloc).2) (fun pv upd hR g' e w' hle hloc hv h1 h2 hm =>
      hKp g' fr _ pv e a w' ⟨hm,hr.tm,hr.df.mono hle,fun t ht=>(hr.fr t ht).mono hle⟩ (young g' hloc).1 hv h1 h2 (hP pv upd hR))
    split at h
    ·rename_i e he
     obtain ⟨h1,h2⟩:=Ae (sp:=Oid.under (.sub c i x.p)) (Oid.az _) (fun t=>Oid.fM t _) rfl he
     exact det e h1 h2 h
    ·rename_i f xs he
     rcases h with ⟨e,h1,h2,h3⟩|⟨need,R,Rp,h1,h2,h3,h4⟩
     ·exact det e (qI he h1) h2 h3
     ·refine nd need R Rp ?_ h2 h3 h4
      obtain ⟨_,_,_,_,_,k1,k2,rfl⟩:=jL he
      exact sO k1 k2 h1
    ·obtain ⟨need,R,Rp,h1,h2,h3,h4⟩:=h
     exact nd need R Rp h1 h2 h3 h4
   | false =>
    simp only [hw] at h
    simp only [Bool.false_eq_true,if_false]
    refine ⟨fun _ _=>trivial,?_⟩
    refine iA hng hok hK hKp rest (i+1) _ _ g _ w hl' h ?_ hy (fun j k hj hk=>hs j k (by omega) hk)
    rw [kK];exact hr.put (Gh.le_refl g) hr.mr _ (.tuple _ _ rfl (fun j hj=>absurd hj (Nat.not_lt_zero _)))
section
variable {P:Program} [Laid P] {x:Ctx} {n:Nat} {Q:AX→AS→Prop} {id:Nat} {ops:Array Oper} {d:Code} {fr:List (Nat × AV)} {m:Mem} {c:Nat} {ds:List AD}
theorem qK (md:Nat→Bool) (hng:Fit P x) (hok:ops.all (dS n P.globals.size ops)=true)
  (h:qg x.p c m→eX P md ops x.p c 0 ops.toList fr m (fun fr m=>Q .normal ⟨fr,m,c+1,ds⟩) (fun pv fr m=>Q (.panic pv) ⟨fr,m,c+1,ds⟩)):T P x n (.region id ops false) ⟨fr,m,c,ds⟩ Q:=by
 intro g a w hr
 refine wpIn_region ?_
 have hok':∀ (j:Nat) o,ops[j]? = some o→dS n P.globals.size ops o=true:=fun j o hj=>by
  rw [Array.all_eq_true'] at hok
  exact hok o (Array.mem_of_getElem? hj)
 have:=iA (ds:=ds) (Q:=fun e a' w'=>∃ g' ex s',Rel x n g' s' a' w'∧ex.fits g' e∧Q ex s') hng hok' (fun g fr m a w hr hy hq=>⟨g,.normal,⟨fr,m,c+1,ds⟩,hr.rel hy,trivial,hq⟩)
  (fun g fr m pv e a w hr hy hv h1 h2 hq=>⟨g,.panic pv,⟨fr,m,c+1,ds⟩,hr.rel hy,⟨hv,h1,h2⟩,hq⟩)
  ops.toList 0 fr m g a w (fun j=>by simp) (h hr.fresh) (RR.of hr) (fun k hk=>hr.young k (hk.mono (Nat.le_succ _))) (fun j k _ hk=>hr.young k ⟨c,j,Nat.le_refl _,hk⟩)
 simpa [List.range_eq_range'] using this
def WFm (m:Mem):Prop:=∀ i ks ag es clock,m i=some (.map ks ag es clock)→(∀ e ∈ es,aQ ks ag e.key=true∧e.born < clock)∧es.Pairwise fun e e'=>e.born < e'.born
omit [Laid P] in
theorem ahi {s:AS} {c:Code} (h:WFm s.mem→T P x n c s Q):T P x n c s Q:=fun g a w hr=>h (fun i ks ag es clock hi=>by
 obtain ⟨b,_,_,_,h4⟩:=hr.mr.obj i _ hi
 exact h4.2) g a w hr
end
theorem cD.mem {g:Gh} {es:List ME} {cs:List MapEntry} (h:cD g es cs):(∀ c ∈ cs,∃ e ∈ es,VR g e.key c.key∧VR g e.val c.val∧c.born=e.born)∧∀ e ∈ es,∃ c ∈ cs,c.born=e.born:=by
 induction h with
 | nil=>exact ⟨(fun c h=>by cases h),(fun e h=>by cases h)⟩
 | cons hk hv hb t ih =>
  refine ⟨fun c hc=>?_,fun e he=>?_⟩
  ·rcases List.mem_cons.1 hc with rfl|hc
   ·exact ⟨_,by simp,hk,hv,hb⟩
   ·obtain ⟨e,h1,h2⟩:=ih.1 c hc;exact ⟨e,by simp [h1],h2⟩
  ·rcases List.mem_cons.1 he with rfl|he
   ·exact ⟨_,by simp,hb⟩
   ·obtain ⟨c,h1,h2⟩:=ih.2 e he;exact ⟨c,by simp [h1],h2⟩
theorem DW {P:Program} [Laid P] {o:Oper} {ρ:Operand→AV} {sp:Oid→Prop} {y:Operand} {it id:Oid} {since last:Nat} {seen:List Nat} {ks:List TyS} {ag:Bool} {es:List ME} {clock:Nat}
  (ho:o.op = .next y false) (hx:ρ y = .iter it) (hst:seen=[]∨es=[]∨∃ e ∈ es,e.born < last) :
  kQ P o ρ sp [(it,.iter (some id) since seen last),(id,.map ks ag es clock)]
   (fun v u=>(∃ e ∈ es,e.born ∉ seen∧v = .tuple [.bool true,e.key,e.val]∧u=[(it,some (.iter (some id) since (seen++[e.born]) clock))])∨((∀ e ∈ es,e.born < since→e.born ∈ seen)∧v = .tuple [.bool false]∧u=[]))
   (fun _ _=>False):=by
 intro x g a w m hm hn hop hs hng next Q K _
 have hy:=hop y (by simp [Op.operands,ho])
 rw [hx] at hy
 obtain ⟨b,hu,hb⟩:=hy.jx
 have hmi:=hn (it,.iter (some id) since seen last) (by simp)
 obtain ⟨b',k1,k2,k3,k4⟩:=hm.obj it _ hmi
 rw [hb] at k1;simp only [Option.some.injEq] at k1;subst k1
 obtain ⟨r,sa,c1,c2,kk,c3,rfl⟩:=k4
 obtain ⟨b',q1,q2,q3,q4⟩:=hm.obj id _ (hn (id,.map ks ag es clock) (by simp))
 rw [c3] at q1;simp only [Option.some.injEq] at q1;subst q1
 obtain ⟨⟨ents,d1,d2⟩,d3,d4⟩:=q4
 have htest:(!sa.isEmpty && !ents.isEmpty && ents.all (fun e=>decide (e.born ≥ last)))=false:=by
  rcases hst with h|h|⟨e,he,hlt⟩
  ·have:sa=#[]:=by apply Array.ext';rw [c2,h]
   simp [this]
  ·subst h
   have hnil:ents.toList=[]:=by have:=d2.length;simpa using this
   have:ents=#[]:=Array.ext' hnil
   simp [this]
  ·obtain ⟨c,hc,hcb⟩:=d2.mem.2 e he
   have:ents.all (fun e=>decide (e.born ≥ last))=false:=by
    rw [Array.all_eq_false]
    obtain ⟨j,hj,hje⟩:=List.mem_iff_getElem.1 hc
    exact ⟨j,by simpa using hj,by simp only [Array.getElem_toList] at hje;rw [hje];simp;omega⟩
   simp [this]
 refine ⟨fun _ _=>trivial,?_⟩
 rw [Oper.semAt_eq _ _ _ (fun c hc=>by rw [ho] at hc;cases hc)]
 have hsz:b < w.heap.size:=(Array.getElem?_eq_some_iff.1 c1).1
 simp only [execOp,ho,Instr.next,Sem.run_bind,hu,fk c1 rfl,MapKept.run_getObj_map d1,Result.andThen_ok,htest,Bool.false_eq_true,if_false]
 generalize hleft:ents.filter (fun e=>!sa.contains e.born)=left
 generalize hcand:((if (left.filter fun e=>decide (e.born < since)).isEmpty then #[none] else #[])++(left.filter (fun e=>decide (e.born < since))++left.filter fun e=>decide (e.born ≥ since)).map some)=cand
 have hpos:0 < cand.size:=by
  rw [← hcand]
  by_cases h0:(left.filter fun e=>decide (e.born < since)).isEmpty=true
  ·rw [if_pos h0,Array.size_append];exact Nat.lt_of_lt_of_le Nat.zero_lt_one (Nat.le_add_right 1 _)
  ·have h1:0 < (left.filter fun e=>decide (e.born < since)).size:=by
    rcases Nat.eq_zero_or_pos (left.filter fun e=>decide (e.born < since)).size with h|h
    ·exact absurd (by simp only [Array.isEmpty,h];rfl) h0
    ·exact h
   simp only [Array.size_append,Array.size_map];omega
 have hch:∃ j w1,j < cand.size∧(w1=w∨w1=w.drew)∧(choose (Question.mapNext cand.size)).run P w = .ok j w1:=by
  rw [run_choose_drew]
  by_cases hf:(Question.mapNext cand.size).forced=true
  ·exact ⟨0,w,hpos,.inl rfl,by rw [if_pos hf]⟩
  ·exact ⟨_,w.drew,Nat.mod_lt _ hpos,.inr rfl,by rw [if_neg hf];rfl⟩
 obtain ⟨j,w1,hj,hw1,hrun⟩:=hch
 have hm1:aD x g m w1:=by rcases hw1 with rfl|rfl;exact hm;exact hm.drew _ (Nat.le_succ _)
 have c1':w1.heap[b]? = some (.mapIter (some kk) since sa last):=by rcases hw1 with rfl|rfl<;>exact c1
 simp only [hrun,Result.andThen_ok]
 have hget:cand[j]? = some cand[j]:=by simp [hj]
 have hmem:cand[j] ∈ cand:=Array.getElem_mem hj
 rw [hget]
 cases hcj:cand[j] with
 | none =>
  have hempty:(left.filter fun e=>decide (e.born < since)).isEmpty=true:=by
   rw [hcj,← hcand] at hmem
   by_cases h0:(left.filter fun e=>decide (e.born < since)).isEmpty=true
   ·exact h0
   ·rw [if_neg h0] at hmem;simp at hmem
  simp only [Sem.run_pure,Result.andThen_ok]
  rw [Oper.uponIn_value]
  refine K (.tuple [.bool false]) [] (.inr ⟨fun e he hlt=>?_,rfl,rfl⟩) g _ w1 (Gh.le_refl g) (fun _ _=>rfl) (.tuple _ _ rfl (fun i hi=>by match i,hi with|0,_=>exact .bool _)) hm1
  obtain ⟨c,hc,hcb⟩:=d2.mem.2 e he
  apply Classical.byContradiction
  intro hns
  have hin:c ∈ left.filter fun e=>decide (e.born < since):=by
   rw [← hleft]
   simp only [Array.mem_filter,decide_eq_true_eq,Bool.not_eq_true']
   refine ⟨⟨by simpa using hc,?_⟩,by omega⟩
   rw [← Bool.not_eq_true,Array.contains_iff_mem,hcb]
   rw [← c2] at hns;simpa using hns
  simp only [Array.isEmpty_iff] at hempty
  rw [hempty] at hin
  simp at hin
 | some c =>
  have hin:c ∈ ents.toList∧sa.contains c.born=false:=by
   rw [hcj,← hcand] at hmem
   have:c ∈ left:=by
    rcases Array.mem_append.1 hmem with h|h
    ·split at h<;>simp at h
    ·simp only [Array.mem_map,Option.some.injEq,Array.mem_append,Array.mem_filter] at h
     obtain ⟨c',h1,rfl⟩:=h
     rcases h1 with h1|h1<;>exact h1.1
   rw [← hleft] at this
   simp only [Array.mem_filter,Bool.not_eq_true'] at this
   exact ⟨by simpa using this.1,this.2⟩
  obtain ⟨e,he,h1,h2,h3⟩:=d2.mem.1 c hin.1
  have hset:(setObj b (.mapIter (some kk) since (sa.push c.born) clock)).run P w1 = .ok () { w1 with heap:=w1.heap.setIfInBounds b (.mapIter (some kk) since (sa.push c.born) clock) }:=by
   simp [setObj,Sem.run,c1']
  simp only [Sem.run_bind,hset,Result.andThen_ok,Sem.run_pure]
  rw [Oper.uponIn_value]
  have hlt1:b < w1.heap.size:=(Array.getElem?_eq_some_iff.1 c1').1
  have hnew:(w1.heap.setIfInBounds b (.mapIter (some kk) since (sa.push c.born) clock))[b]? = some (.mapIter (some kk) since (sa.push c.born) clock):=by simp [hlt1]
  have hturn:=hm1.fS (o:=.iter (some id) since (seen++[e.born]) clock) (w':={ w1 with heap:=w1.heap.setIfInBounds b (.mapIter (some kk) since (sa.push c.born) clock) }) hmi hb rfl rfl ⟨rfl,Nat.le_refl _⟩ (by simp)
   (fun k hk _=>by simp [Array.getElem?_setIfInBounds,Ne.symm hk]) (fun r hr=>by
    obtain ⟨cc,t,fz,h1,_⟩:=hm1.rows b r hr
    rw [c1'] at h1;cases h1) (fun c9 t9 fz9 h9=>by rw [c1'] at h9;cases h9) ⟨some kk,sa.push c.born,hnew,by rw [Array.toList_push,c2,h3],kk,c3,rfl⟩
  refine K (.tuple [.bool true,e.key,e.val]) [(it,some (.iter (some id) since (seen++[e.born]) clock))] (.inl ⟨e,he,?_,rfl,rfl⟩) g _ _ (Gh.le_refl g) (fun _ _=>rfl) (.tuple _ _ rfl (fun i hi=>?_)) hturn
  ·rw [← h3,← c2]
   have:=hin.2
   rw [← Bool.not_eq_true,Array.contains_iff_mem] at this
   simpa using this
  ·match i,hi with
   | 0,_=>exact .bool _
   | 1,_=>exact h1
   | 2,_=>exact h2
end Go.Ab
namespace Go.Ab
theorem qL {P:Program} {x:Ctx} {g:Gh} {m:Mem} {w:World} {t:TypeId} {v:AV} {u:Value} {e:Eff} (hm:aD x g m w) (h:gN (shp P t) m v = .eff e) (hv:VR g v u) :
  ∃ r,(do loadVar t (← asAddr u):Sem Value).run P w = .ok r w∧VR g e.val r:=by
 unfold gN at h
 split at h
 ·rename_i s v n nd l hs hc
  split at h
  ·rename_i hn
   simp only [OpR.eff.injEq] at h;subst h
   obtain ⟨b,k,hu,f,hf⟩:=eG hm hv hc (eH hc)
   have hl:=run_loadCells (P:=P) w ⟨b,k,none⟩ n f (fun j hj=>by rw [addr_add];exact (hf j (by omega)).1)
   refine ⟨.agg ((List.range n).map f).toArray,by simp [hu,asAddr,loadVar,eM hs,run_sizeOf hs,hl],?_⟩
   refine .agg _ _ (by simp;omega) fun j hj=>?_
   have hj':j < n:=by simp at hj;omega
   rw [getD_take _ _ _ _ hj']
   have:=(hf j (by omega)).2
   simpa [hj'] using this
  ·cases h
 ·rename_i s v n nd l hs hc
  split at h
  ·rename_i hn
   simp only [OpR.eff.injEq] at h;subst h
   obtain ⟨b,k,hu,f,hf⟩:=eG hm hv hc (eH hc)
   have:=(hf 0 hn).1
   simp only [Nat.add_zero] at this
   exact ⟨f 0,by simp [hu,asAddr,loadVar,eM hs,this],(hf 0 hn).2⟩
  ·cases h
 ·cases h
def o7 (P:Program) (m:Mem) (fr:List (Nat × AV)):List ResultVar→Option (List AV)
 | []=>some []
 | .tmp t::r=>match o7 P m fr r with
  | some l=>some (F fr t::l)
  | none=>none
 | .cell a t::r=>match gN (shp P t) m (F fr a),o7 P m fr r with
  | .eff e,some l=>some (e.val::l)
  | _,_=>none
def eY (n:Nat):List ResultVar→Bool
 | []=>true
 | .tmp t::r=>decide (t < n) && eY n r
 | .cell a _::r=>decide (a < n) && eY n r
def DX:List AV→AV
 | [v]=>v
 | vs=>.tuple vs
def ib (P:Program) (m:Mem) (fr:List (Nat × AV)) (rs:List ResultVar):Option AV:=match o7 P m fr rs with
 | some vs=>some (DX vs)
 | none=>none
theorem Al (tmps:Array Value) (a:Nat) (t:TypeId):rvF tmps (.cell a t)=(do loadVar t (← asAddr (tmps.getD a undef)):Sem Value):=rfl
theorem fE {P:Program} {fn:Func} {x:Ctx} {g:Gh} {m:Mem} {fr:List (Nat × AV)} {n:Nat} {tmps:Array Value} {y:AV} {w:World} (hm:aD x g m w) (hok:eY n fn.results.toList=true) (h:ib P m fr fn.results.toList=some y)
  (hf:∀ t,t < n→VR g (F fr t) (tmps.getD t undef)):∃ v,(results fn tmps).run P w = .ok v w∧VR g y v:=by
 have key:∀ (rs:List ResultVar) (vs:List AV),eY n rs=true→o7 P m fr rs=some vs →
   ∃ us:List Value,(rs.mapM (rvF tmps)).run P w = .ok us w∧us.length=vs.length∧∀ j,j < vs.length→VR g (vs.getD j .undef) (us.getD j undef):=by
  intro rs
  induction rs with
  | nil=>intro vs _ hv;simp only [o7,Option.some.injEq] at hv;subst hv;exact ⟨[],by simp,rfl,fun j hj=>absurd hj (Nat.not_lt_zero _)⟩
  | cons r rs ih =>
   intro vs ha hv
   cases r with
   | cell a t =>
    simp only [eY,Bool.and_eq_true,decide_eq_true_eq] at ha
    simp only [o7] at hv
    split at hv
    ·rename_i e l he hl
     simp only [Option.some.injEq] at hv;subst hv
     obtain ⟨us,h1,h2,h3⟩:=ih l ha.2 hl
     obtain ⟨r,h4,h5⟩:=qL hm he (hf a ha.1)
     refine ⟨r::us,?_,by simp [h2],fun j hj=>?_⟩
     ·rw [List.mapM_cons,Al]
      rw [Sem.run_bind,h4]
      simp only [Sem.run_bind,Result.andThen_ok,h1,Sem.run_pure]
     ·cases j with
      | zero=>simpa using h5
      | succ j=>simpa using h3 j (by simpa using hj)
    ·cases hv
   | tmp t =>
    simp only [eY,Bool.and_eq_true,decide_eq_true_eq] at ha
    simp only [o7] at hv
    split at hv
    ·rename_i l hl
     simp only [Option.some.injEq] at hv;subst hv
     obtain ⟨us,h1,h2,h3⟩:=ih l ha.2 hl
     refine ⟨tmps.getD t undef::us,?_,by simp [h2],fun j hj=>?_⟩
     ·rw [List.mapM_cons]
      simp only [Sem.run_bind,DV,Result.andThen_ok,h1,Sem.run_pure]
     ·cases j with
      | zero=>simpa using hf t ha.1
      | succ j=>simpa using h3 j (by simpa using hj)
    ·cases hv
 unfold ib at h
 split at h
 ·rename_i vs hr
  simp only [Option.some.injEq] at h
  obtain ⟨us,h1,h2,h3⟩:=key _ vs hok hr
  have hrun:(results fn tmps).run P w = .ok (if h:us.toArray.size=1 then us.toArray[0] else .tuple us.toArray) w:=by
   rw [qJ,Array.mapM_eq_mapM_toList]
   simp only [Sem.run_bind,Sem.run_map,h1,Result.andThen_ok,Sem.run_pure]
  refine ⟨_,hrun,?_⟩
  match vs,us,h,h2,h3 with
  | [],[],h,_,_=>subst h;exact .tuple _ _ rfl (fun j hj=>absurd hj (Nat.not_lt_zero _))
  | [a],[b],h,_,h3=>subst h;simpa [DX] using h3 0 (by simp)
  | a::b::l,c::d::l',h,h2,h3 =>
   subst h
   have:¬ (c::d::l').toArray.size=1:=by simp
   rw [dif_neg this]
   exact .tuple _ _ (by simpa using h2) (fun j hj=>by simpa using h3 j hj)
 ·cases h
theorem aD.afQ {x:Ctx} {g:Gh} {m:Mem} {w:World} (h:aD x g m w) {i:Oid} {o0:ar} {b:Nat} {ob:Obj} (hi:m i=some o0) (hb:g.loc i=some (some b)) (hr:g.row b=none) (hnc:∀ c t fz,w.heap[b]? ≠ some (.cells c t fz)):aD x g (m.set i none) (w.putObj b ob):=by
 obtain ⟨b0,hb0,hcom,hmay,hobj⟩:=h.fO hi hb
 rw [hb] at hb0;simp only [Option.some.injEq] at hb0;subst hb0
 have hother:∀ k,k≠b→(w.putObj b ob).heap[k]? = w.heap[k]? := fun k hk=>World.putObj_heap_other hk
 have key:∀ j o',(m.set i none) j=some o'→m j=some o'∧j≠i:=fun j o' hj=>by
  simp only [Mem.set] at hj
  split at hj
  ·cases hj
  ·exact ⟨hj,‹_›⟩
 refine ⟨h.le,h.locs,h.glob,h.coms,fun j o' hj=>?_,fun j j' o1 o2 c h1 h2 h3 h4=>h.inj j j' o1 o2 c (key j o1 h1).1 (key j' o2 h2).1 h3 h4,fun c k v hv=>?_,h.one,fun c r hcr=>?_,h.os,h.tape,h.output,?_,fun c hc hm=>?_,fun t q c hc=>(h.typs t q c hc).imp fun cc ⟨fz,h1⟩=>⟨fz,by rw [hother c (fun e=>by subst e;exact hnc _ _ _ h1)];exact h1⟩⟩
 ·obtain ⟨k1,k2⟩:=key j o' hj
  rcases h.obj0 j o' k1 with hv|⟨c,h1,h2,h3,h4⟩
  ·exact .inl hv
  exact .inr ⟨c,h1,h2,h3,b9.block (hother c (fun e=>k2 (by subst e;exact h.inj j i o' o0 c k1 hi h1 hb))) h4⟩
 ·have hcell:=h.com c k v hv
  have hne:c≠b:=fun e=>by subst e;rw [hcom k] at hv;cases hv
  simp only [World.cell?] at hcell ⊢
  rw [hother c hne];exact hcell
 ·have hne:c≠b:=fun e=>by subst e;rw [hr] at hcr;cases hcr
  rw [hother c hne];exact h.rows c r hcr
 ·simp only [World.putObj,Array.size_setIfInBounds];exact h.size
 ·have hne:c≠b:=fun e=>by
   subst e
   rcases hmay with h'|h'
   ·exact hm h'
   ·omega
  rw [hother c hne];exact h.kept c hc hm
def l3 (m:Mem) (K:Mem→Prop):List AD→Prop
 | []=>K m
 | .coll id::ds=>m id=some .dfr∧l3 (m.set id none) K ds
 | .call .. :: _=>False
theorem ic {P:Program} {fn:Func} {tmps:Array Value} {R:Ending→World→Prop} {x:Ctx} {g:Gh} {u:FrameMode} (hu:u≠.run) {K:Mem→Prop}
  (hK:∀ m w,aD x g m w→K m→LeavesIn (Fc none) 0 P fn tmps R [] u w):∀ (ds:List AD) (dl:List Deferred) (m:Mem) (w:World),aD x g m w→DRs g ds dl→l3 m K ds→LeavesInM (Fc none) 0 P fn tmps R dl u w
 | [],_,m,w,hm,hd,h=>by cases hd;exact hK m w hm h
 | a::ds,_,m,w,hm,hd,h=>by
  cases hd with
  | cons h1 t =>
   cases h1 with
   | coll id b hb =>
    obtain ⟨h2,h3⟩:=h
    obtain ⟨b',k1,k2,k3,k4⟩:=hm.obj id _ h2
    rw [hb] at k1;simp only [Option.some.injEq] at k1;subst k1
    have k4':w.heap[b]? = some (.deferred (some [])):=k4
    have hr:g.row b=none:=by
     cases hc:g.row b with
     | none=>rfl
     | some r=>obtain ⟨c,t,fz,h1,_⟩:=hm.rows b r hc;rw [k4'] at h1;cases h1
    exact ⟨hu,.inl ⟨b,_,rfl,run_takeDeferred k4',ic hu hK ds _ _ _ (hm.afQ h2 hb hr (fun c9 t9 fz9 h9=>by rw [k4'] at h9;cases h9)) t h3⟩⟩
   | call=>exact h.elim
def eZ (P:Program) (rs:List ResultVar) (need:List (Oid × ar)) (R Rp:AV→List (Oid × Option ar)→Prop):AX→AS→Prop
 | .normal,s | .ret,s=>l3 s.mem (fun m=>∃ val upd,ib P m s.fr rs=some val∧R val upd∧∀ i o,((Mem.of need).aF upd) i=some o→m i=some o) s.ds
 | .panic pv,s=>l3 s.mem (fun m=>∃ upd,Rp pv upd∧∀ i o,((Mem.of need).aF upd) i=some o→m i=some o) s.ds
 | .exit _,_=>False
theorem vH {P:Program} [Laid P] {f:FuncId} {fn:Func} {n:Nat} {rs:List ResultVar} {c:Code} {xs:List AV} {p:Oid} {need:List (Oid × ar)} {R Rp:AV→List (Oid × Option ar)→Prop} (hf:P.funcs[f]? = some fn) (hn:fn.ntmps=n) (hr:fn.results.toList=rs)
  (hnm:(fn.name != "runtime.NumGoroutine")=true) (hl:(Nat.ble xs.length n)=true) (hok:eY n rs=true) (hb:fn.body=some c)
  (hT:∀ x:Ctx,x.p=p→x.rd=none→Fit P x→T P x n c ⟨cx 0 xs,Mem.of need,0,[]⟩ (eZ P rs need R Rp)):aX P f xs (Oid.under p) need R Rp:=by
 subst hn;subst hr
 have hl:=Nat.le_of_ble_eq_true hl
 refine ⟨by simp only [cL,hf,hb,Option.isSome_some,Bool.true_and];exact hnm,fun x g args w m hm hneed hargs hsp hng=>?_⟩
 refine (gx (rd:=none) (n:=0)).1 (callsIn_of_wp_marks hf hb trivial ?_)
 have hin:=hm.enter (p:=p) hneed
 have hsz:(args++Array.replicate (fn.ntmps - args.size) undef).size=fn.ntmps:=by simp [hargs.1];omega
 have hrel:Rel (x.inner g w need p) fn.ntmps g ⟨cx 0 xs,Mem.of need,0,[]⟩ { tmps:=args++Array.replicate (fn.ntmps - args.size) undef,defers:=[] } w:=by
  refine ⟨hin,hsz,.nil,fun t ht=>?_,fun i hi=>(hsp i hi.under).1⟩
  simp only
  rw [lu]
  split
  ·rename_i h
   rw [Nat.sub_zero,bg (by rw [hargs.1];omega)]
   exact hargs.2 t (by omega)
  ·exact .unk _
 have hpx:Oid.under x.p p:=(hsp p (Oid.az p)).2
 refine wpIn_mono (hT (x.inner g w need p) rfl rfl (hng.inner rfl hm.le) g _ w hrel) fun en a' w' ⟨g',ex,s',h1,h2,h3⟩=>?_
 have fin:l3 s'.mem (fun m=>∃ val upd,ib P m s'.fr fn.results.toList=some val∧R val upd∧∀ i o,((Mem.of need).aF upd) i=some o→m i=some o) s'.ds →
   LeavesInM (Fc none) 0 P fn a'.tmps (fun en w'=>(∃ g' v val upd,en = .returned v∧R val upd∧g.le g'∧(∀ i,¬ Oid.under p i→g'.loc i=g.loc i)∧VR g' val v∧aD x g' (m.aF upd) w') ∨
   (∃ g' e pv upd,en = .panicked [e]∧Rp pv upd∧g.le g'∧(∀ i,¬ Oid.under p i→g'.loc i=g.loc i)∧VR g' pv e.v∧e.recovered=false∧e.goexit=false∧aD x g' (m.aF upd) w')) a'.defers .returning w':=fun h3 =>
  ic (by simp) (fun m1 w1 hm1 ⟨val,upd,r1,r2,r3⟩=>by
   obtain ⟨v,v1,v2⟩:=fE (P:=P) hm1 hok r1 h1.fr
   exact ⟨v,v1,.inl ⟨g',v,val,upd,rfl,r2,h1.mr.le,h1.mr.locs,v2,hm.leave hneed hpx hm1 r3⟩⟩) _ _ _ _ h1.mr h1.df h3
 cases ex with
 | normal=>cases en<;>simp only [AX.fits] at h2;exact fin h3
 | ret=>cases en<;>simp only [AX.fits] at h2;exact fin h3
 | exit i=>exact h3.elim
 | panic pv =>
  have:∃ e:PanicEntry,en = .panic [e]∧VR g' pv e.v∧e.recovered=false∧e.goexit=false:=by
   cases en with
   | panic ch =>
    match ch,h2 with
    | [e],h2=>exact ⟨e,rfl,h2⟩
   | _=>exact h2.elim
  obtain ⟨e,rfl,hv,e1,e2⟩:=this
  exact ic (by simp) (fun m1 w1 hm1 ⟨upd,r2,r3⟩=>.inr ⟨g',e,pv,upd,rfl,r2,h1.mr.le,h1.mr.locs,hv,e1,e2,hm.leave hneed hpx hm1 r3⟩) _ _ _ _ h1.mr h1.df h3
end Go.Ab
namespace Go.Ab
def clr (L:List (Oid × ar)):List (Oid × Option ar):=L.map fun q=>(q.1,none)
def jN (L:List (Oid × ar)):List (Oid × Option ar):=L.map fun q=>(q.1,some q.2)
structure nU (L:List (Oid × ar)) (sp:Oid→Prop) (upd:List (Oid × Option ar)) (L':List (Oid × ar)):Prop where
 got:∀ q ∈ L',((Mem.of L).aF upd) q.1=some q.2
 tou:∀ q ∈ upd,(∃ q' ∈ L,q'.1=q.1)∨sp q.1
 nam:∀ q ∈ L',(∃ q' ∈ L,q'.1=q.1)∨sp q.1
theorem bZ (m:Mem) (a b:List (Oid × Option ar)):m.aF (a++b)=(m.aF a).aF b:=by
 induction a generalizing m with
 | nil=>rfl
 | cons q a ih=>simp only [List.cons_append,Mem.aF,ih]
theorem ee {u:List (Oid × Option ar)} {i:Oid} {m:Mem} (h:∃ q ∈ u,q.1=i):∃ q ∈ u,q.1=i∧(m.aF u) i=q.2:=by
 induction u generalizing m with
 | nil=>obtain ⟨_,h,_⟩:=h;cases h
 | cons q u ih =>
  by_cases h':∃ q ∈ u,q.1=i
  ·obtain ⟨q',h1,h2,h3⟩:=ih (m:=m.set q.1 q.2) h'
   exact ⟨q',by simp [h1],h2,h3⟩
  ·have hno:∀ q',q' ∈ u→q'.1≠i:=fun q' hq e=>h' ⟨q',hq,e⟩
   obtain ⟨q0,h0,rfl⟩:=h
   rcases List.mem_cons.1 h0 with rfl|h0
   ·exact ⟨q0,by simp,rfl,by simp only [Mem.aF];rw [aU hno];simp [Mem.set]⟩
   ·exact absurd rfl (hno q0 h0)
theorem o8 {L L':List (Oid × ar)} {m:Mem} {sp:Oid→Prop} (hL':∀ q ∈ L',m q.1=some q.2) (hn:∀ q ∈ L',(∃ q' ∈ L,q'.1=q.1)∨sp q.1) :
  nU L sp (clr L++jN L') L'∧∀ i o,((Mem.of L).aF (clr L++jN L')) i=some o→m i=some o:=by
 have key:∀ (m0:Mem) i,(∃ q ∈ L',q.1=i)→(m0.aF (clr L++jN L')) i=m i:=by
  intro m0 i hi
  rw [bZ]
  obtain ⟨q,h1,rfl⟩:=hi
  obtain ⟨q',k1,k2,k3⟩:=ee (m:=m0.aF (clr L)) (u:=jN L') (i:=q.1) ⟨(q.1,some q.2),List.mem_map.2 ⟨q,h1,rfl⟩,rfl⟩
  rw [k3]
  obtain ⟨q2,h2,rfl⟩:=List.mem_map.1 k1
  simp only at k2 ⊢
  rw [← k2];exact (hL' q2 h2).symm
 refine ⟨⟨fun q hq=>by rw [key _ _ ⟨q,hq,rfl⟩];exact hL' q hq,fun q hq=>?_,hn⟩,fun i o hio=>?_⟩
 ·rcases List.mem_append.1 hq with h|h
  ·obtain ⟨q',h1,rfl⟩:=List.mem_map.1 h;exact .inl ⟨q',h1,rfl⟩
  ·obtain ⟨q',h1,rfl⟩:=List.mem_map.1 h;exact hn q' h1
 ·by_cases hi:∃ q ∈ L',q.1=i
  ·rw [key _ _ hi] at hio;exact hio
  ·rw [bZ,aU (fun q hq e=>by obtain ⟨q',h1,rfl⟩:=List.mem_map.1 hq;exact hi ⟨q',h1,e⟩)] at hio
   by_cases hk:∃ q ∈ clr L,q.1=i
   ·obtain ⟨q',k1,k2,k3⟩:=ee (m:=Mem.of L) hk
    rw [k3] at hio
    obtain ⟨q2,_,rfl⟩:=List.mem_map.1 k1
    cases hio
   ·rw [aU (fun q hq e=>hk ⟨q,hq,e⟩)] at hio
    obtain ⟨q,h1,h2,_⟩:=Mem.dK hio
    exact absurd ⟨(q.1,none),List.mem_map.2 ⟨q,h1,rfl⟩,h2⟩ hk
def o9 (P:Program) [Laid P] (l:Nat) (xs:List AV) (sp:Oid→Prop) (need:List (Oid × ar)) (R:AV→List (Oid × Option ar)→Prop):Prop :=
 ∀ (x:Ctx) (g:Gh) (args:Array Value) (w:World) (m:Mem),aD x g m w→(∀ q,q ∈ need→m q.1=some q.2)→VRs g xs args→(∀ i,sp i→g.loc i=none∧Oid.under x.p i)→Fit P x →
  ∃ f tmps assign body,(Instr.yield l args).run P w = .ok (.round l f tmps assign body) w ∧
   RoundIn (Fc x.rd) 0 P l f tmps assign body w fun en w'=>∃ g' v val upd,en = .returned v∧R val upd∧g.le g'∧(∀ i,¬ sp i→g'.loc i=g.loc i)∧VR g' val v∧aD x g' (m.aF upd) w'
theorem vI {P:Program} [Laid P] {o:Oper} {ρ:Operand→AV} {sp:Oid→Prop} {need:List (Oid × ar)} {R:AV→List (Oid × Option ar)→Prop} {f:Operand} {args:Array Operand} {ts:Array TypeId} {l:Nat}
  (ho:o.op = .call ⟨.value f,args,ts⟩) (hf:ρ f = .fn (.yield l) [] []) (h:o9 P l (args.toList.map ρ) sp need R):kQ P o ρ sp need R (fun _ _=>False):=by
 intro x g a w m hm hn hop hs hng next Q K _
 have hfv:=hop f (by simp [Op.operands,Call.operands,ho])
 rw [hf] at hfv
 obtain ⟨fa,ca,hu,h1,h2,h3,h4⟩:=hfv.j6
 have hargs:VRs g (args.toList.map ρ) (args.map a.eval):=VRs.map fun t ht=>hop t (by
  have:t ∈ args:=by simpa using ht
  simp [Op.operands,Call.operands,ho,this])
 have e1:fa=#[]:=Array.eq_empty_of_size_eq_zero (by simpa using h1)
 have e2:ca=#[]:=Array.eq_empty_of_size_eq_zero (by simpa using h2)
 subst e1;subst e2
 obtain ⟨fn,tmps,assign,body,hy,hr⟩:=h x g _ w m hm hn hargs hs hng
 refine ⟨fun _ _=>trivial,?_⟩
 rw [Oper.semAt_eq _ _ _ (fun c hc=>by rw [ho] at hc;cases hc)]
 have hrun:(execOp a.eval o).run P w = .ok (.round l fn tmps assign body) w:=by
  simp only [execOp,ho,resolve,Sem.run_bind,hu,Deferred.ofValue,Sem.run_pure,Result.andThen_ok,invoke]
  simpa using hy
 rw [hrun,Oper.uponIn_round]
 refine ⟨fun hd=>absurd hd (by simp [Fc]),hr.1,fun c cs hroom=>?_⟩
 obtain ⟨en,w',⟨g',v,val,upd,rfl,k1,k2,k3,k4,k5⟩,hc⟩:=hr.2 c cs hroom
 exact ⟨.returned v,w',K val upd k1 g' v w' k2 k3 k4 k5,hc⟩
def qO (P:Program) [Laid P] (f:FuncId) (cap:List AV) (p:Oid) (need:List (Oid × ar)) (k:Nat) (V:List (List AV)→List AV→Prop) (S:Bool→List (List AV)→Prop):Prop :=
 ∀ (l:Nat) (J:Bool→List (List AV)→List (Oid × ar)→Prop) (L0:List (Oid × ar)),J true [] L0→(∀ q ∈ L0,∀ q' ∈ need,q.1≠q'.1)→(∀ q ∈ L0,¬ Oid.under p q.1) →
  (∀ pre xs L p',J true pre L→xs.length=k→V pre xs→o9 P l xs (Oid.under p') L (fun val upd=>∃ b L',val = .bool b∧J b (pre++[xs]) L'∧nU L (Oid.under p') upd L')) →
  aX P f (.fn (.yield l) [] []::cap) (Oid.under p) (need++L0) (fun _ upd=>∃ b pre L',S b pre∧J b pre L'∧nU (need++L0) (Oid.under p) upd (need++L')) (fun _ _=>False)
theorem aD.l4 {x:Ctx} {g:Gh} {m:Mem} {w:World} (hm:aD x g m w) {id:Oid} {l n:Nat} {fr:List (Nat × AV)} {r r':Loop} (hi:m id=some (.loop l n fr r)) (hr:r'.tmps=r.tmps) :
  w.heap[l]? = some (.loop r)∧g.loc id=some (some l)∧g.row l=none∧(∀ k,g.com l k=none)∧r.tmps.size=n∧(∀ t,t < n→VR g (F fr t) (r.tmps.getD t undef))∧aD x g (m.set id (some (.loop l n fr r'))) (w.putObj l (.loop r')):=by
 obtain ⟨b,h1,h2,h3,h4⟩:=hm.obj id _ hi
 obtain ⟨rfl,c1,c2,c3⟩:=h4
 have hrow:g.row b=none:=by
  cases hc:g.row b with
  | none=>rfl
  | some r=>obtain ⟨c,t,fz,h1,_⟩:=hm.rows b r hc;rw [c1] at h1;cases h1
 have hlt:=(Array.getElem?_eq_some_iff.1 c1).1
 refine ⟨c1,h1,hrow,h2,c2,c3,hm.fS hi h1 rfl rfl ⟨rfl,Nat.le_refl _⟩ (by simp [World.putObj]) (fun k hk _=>World.putObj_heap_other hk) (fun r hr=>by rw [hrow] at hr;cases hr) (fun c9 t9 fz9 h9=>by rw [c1] at h9;cases h9) ⟨rfl,World.putObj_heap_same hlt,by rw [hr];exact c2,fun t ht=>by rw [hr];exact c3 t ht⟩⟩
theorem aD.both {x:Ctx} {g g0:Gh} {m:Mem} {w w0:World} {p:Oid} {need:List (Oid × ar)} (h:aD (x.inner g0 w0 need p) g m w) {l:Nat} {ob:Obj} (hl:l < w0.heap.size) (hnot:∀ q ∈ need,g0.loc q.1≠some (some l)) (hcom:∀ k,g0.com l k=none)
  (hrow:∀ r,g.row l≠some r) (hnc:∀ c t fz,w.heap[l]? ≠ some (.cells c t fz)):aD (x.inner g0 (w0.putObj l ob) need p) g m (w.putObj l ob)∧w.heap[l]? = w0.heap[l]? := by
 have hmay:¬ (x.inner g0 w0 need p).may l:=by
  rintro (⟨q,hq,hloc⟩|hb)
  ·exact hnot q hq hloc
  ·have hb':w0.heap.size≤l:=hb
   omega
 have hc:∀ k,g.com l k=none:=fun k=>by
  cases hv:g.com l k with
  | none=>rfl
  | some v =>
   rcases h.coms l k v hv with h1|h1
   ·have h1':g0.com l k=some v:=h1
    rw [hcom k] at h1';cases h1'
   ·exact absurd h1 hmay
 have hother:∀ k,k≠l→(w.putObj l ob).heap[k]? = w.heap[k]? := fun k hk=>World.putObj_heap_other hk
 have may':∀ b,(x.inner g0 (w0.putObj l ob) need p).may b↔(x.inner g0 w0 need p).may b:=fun b=>by
  simp only [Ctx.may,Ctx.inner,World.putObj,Array.size_setIfInBounds]
 refine ⟨⟨h.le,h.locs,h.glob,fun b o v hv=>by rw [may'];exact h.coms b o v hv,fun i o hi=>?_,h.inj,fun b k v hv=>?_,h.one,fun b r hr=>?_,h.os,h.tape,h.output,?_,fun b hb hm=>?_,fun t q b hb=>(h.typs t q b hb).imp fun cc ⟨fz,h1⟩=>⟨fz,by rw [hother b (fun e=>by subst e;exact hnc _ _ _ h1)];exact h1⟩⟩,h.kept l hl (fun hh=>hmay (.inl hh))⟩
 ·rcases h.obj0 i o hi with hv|⟨b,h1,h2,h3,h4⟩
  ·exact .inl hv
  exact .inr ⟨b,h1,h2,by rw [may'];exact h3,b9.block (hother b (fun e=>hmay (by rw [← e];exact h3))) h4⟩
 ·have hcell:=h.com b k v hv
  have hne:b≠l:=fun e=>by subst e;rw [hc k] at hv;cases hv
  simp only [World.cell?] at hcell ⊢
  rw [hother b hne];exact hcell
 ·have hne:b≠l:=fun e=>by subst e;exact hrow r hr
  rw [hother b hne];exact h.rows b r hr
 ·have:=h.size
  simp only [Ctx.inner,World.putObj,Array.size_setIfInBounds] at this ⊢;exact this
 ·have hb':b < w0.heap.size:=by simpa [Ctx.inner,World.putObj] using hb
  by_cases e:b=l
  ·subst e
   rw [World.putObj_heap_same (Nat.lt_of_lt_of_le hl h.size)]
   exact (World.putObj_heap_same hl).symm
  ·rw [hother b e,h.kept b hb' hm]
   exact (World.putObj_heap_other e).symm
end Go.Ab
namespace Go.Ab
theorem aD.rd {x:Ctx} {g:Gh} {m:Mem} {w:World} (h:aD x g m w) (r:Option Nat):aD { x with rd:=r } g m w :=
 ⟨h.le,h.locs,h.glob,h.coms,h.obj0,h.inj,h.com,h.one,h.rows,h.os,h.tape,h.output,h.size,h.kept,h.typs⟩
theorem qP {N:List (Oid × ar)} {m:Mem} (hN:∀ q ∈ N,m q.1=some q.2) {u:List (Oid × Option ar)} {i:Oid} {o:ar} (h:((Mem.of N).aF u) i=some o):(m.aF u) i=some o:=by
 by_cases hk:∃ q,q ∈ u∧q.1=i
 ·rw [← h];exact fR hk
 ·have hno:∀ q,q ∈ u→q.1≠i:=fun q hq e=>hk ⟨q,hq,e⟩
  rw [aU hno] at h ⊢
  obtain ⟨q,h1,rfl,rfl⟩:=Mem.dK h
  exact hN q h1
def nV (ps:List Nat) (xs:List AV) (fr:List (Nat × AV)):List (Nat × AV):=(ps.zip xs).foldl (fun fr q=>(q.1,q.2)::fr) fr
theorem nW {g:Gh} {n:Nat}:∀ (ps:List Nat) (xs:List AV) (vs:List Value) (fr:List (Nat × AV)) (tmps:Array Value),tmps.size=n→(∀ t,t < n→VR g (F fr t) (tmps.getD t undef))→xs.length=vs.length →
  (∀ j,j < xs.length→VR g (xs.getD j .undef) (vs.getD j undef)) →
  ((ps.zip vs).foldl (fun tmps q=>tmps.setIfInBounds q.1 q.2) tmps).size=n∧∀ t,t < n→VR g (F (nV ps xs fr) t) (((ps.zip vs).foldl (fun tmps q=>tmps.setIfInBounds q.1 q.2) tmps).getD t undef)
 | [],_,_,fr,tmps,h1,h2,_,_=>⟨h1,h2⟩
 | p::ps,[],[],fr,tmps,h1,h2,_,_=>⟨h1,h2⟩
 | p::ps,x::xs,v::vs,fr,tmps,h1,h2,h3,h4=>by
  have:=nW ps xs vs ((p,x)::fr) (tmps.setIfInBounds p v) (by simpa using h1) (fun t ht=>by
   simp only [F,Array.getD_eq_getD_getElem?,Array.getElem?_setIfInBounds]
   by_cases e:t=p
   ·subst e;rw [if_pos rfl,if_pos rfl,if_pos (by omega)];simpa using h4 0 (by simp)
   ·rw [if_neg e,if_neg (fun h=>e h.symm)]
    have:=h2 t ht
    simpa [Array.getD_eq_getD_getElem?] using this) (by simpa using h3) (fun j hj=>by simpa using h4 (j+1) (by simpa using hj))
  simpa [nV] using this
 | _::_,[],_::_,_,_,_,_,h,_=>by simp at h
 | _::_,_::_,[],_,_,_,_,h,_=>by simp at h
def Am (J:Option Code→List (List AV)→List (Oid × ar)→Prop) (pre:List (List AV)) (L:List (Oid × ar)) (p':Oid):AX→AS→Prop:=fun e s =>
 match (match e with
  | .normal=>some none
  | .ret=>some (some .ret)
  | .exit id=>some (some (.exit id))
  | .panic _=>none) with
 | some jump=>∃ L',J jump pre L'∧(∀ q ∈ L',s.mem q.1=some q.2)∧∀ q ∈ L',(∃ q' ∈ L,q'.1=q.1)∨Oid.under p' q.1
 | none=>False
theorem Ao {P:Program} [Laid P] {n:Nat} {fr:List (Nat × AV)} {l k:Nat} {lid:Oid} {r:Loop} {V:List (List AV)→List AV→Prop} {J:Option Code→List (List AV)→List (Oid × ar)→Prop} {A:List (List AV)→List AV→List (Oid × ar)→Oid→AS→Prop}
  (hst:r.state = .ready) (hps:r.params.size=k)
  (hassign:∀ (y:Ctx) pre xs L1,J none pre L1→xs.length=k→V pre xs→y.rd=some l→Fit P y→T P y n r.assign ⟨nV r.params.toList xs fr,Mem.of L1,0,[]⟩ (fun e s=>e = .normal∧A pre xs L1 y.p s))
  (hbody:∀ (y:Ctx) pre xs L1 s,J none pre L1→xs.length=k→V pre xs→y.rd=some l→Fit P y→A pre xs L1 y.p s→T P y n r.body s (Am J (pre++[xs]) L1 y.p))
  (pre:List (List AV)) (xs:List AV) (L1:List (Oid × ar)) (p':Oid) (hj:J none pre L1) (hxs:xs.length=k) (hv:V pre xs) (hnl:∀ q ∈ L1,q.1≠lid) :
  o9 P l xs (Oid.under p') ((lid,.loop l n fr r)::L1) (fun val upd=>∃ jump L',val = .bool jump.isNone∧J jump (pre++[xs]) L'∧(∀ q ∈ L',q.1≠lid) ∧
   nU ((lid,.loop l n fr r)::L1) (Oid.under p') upd ((lid,.loop l n fr { r with state:=if jump.isNone then .ready else .done,pending:=jump })::L')):=by
 intro y g args w m hm hn hargs hsp hng
 have hlid:=hn _ (List.mem_cons_self)
 simp only at hlid
 obtain ⟨c1,c2,c3,c4,c5,c6,hbusy⟩:=hm.l4 (r':={ r with state:=.busy }) hlid rfl
 have hlt:l < w.heap.size:=(Array.getElem?_eq_some_iff.1 c1).1
 have hLn:∀ q ∈ L1,m q.1=some q.2:=fun q hq=>hn q (List.mem_cons_of_mem _ hq)
 have hnot:∀ q ∈ L1,g.loc q.1≠some (some l):=fun q hq e=>hnl q hq (hm.inj _ _ _ _ l (hLn q hq) hlid e c2)
 have hup:∀ i,Oid.under p' i→i≠lid:=fun i hi e=>by rw [e] at hi;have:=(hsp _ hi).1;rw [c2] at this;cases this
 have hpx:Oid.under y.p p':=(hsp p' (Oid.az p')).2
 refine ⟨r.fn,_,r.assign,r.body,run_yield (P:=P) (args:=args) c1 (by rw [hargs.1,hxs,hps]),roundIn_of_wpIn (F:=Fc y.rd) trivial ?_⟩
 have hbind:=nW (g:=g) (n:=n) r.params.toList xs args.toList fr r.tmps c5 c6 (by simp [hargs.1]) (fun j hj=>by
  have:=hargs.2 j hj
  simpa [List.getD_eq_getElem?_getD,Array.getD_eq_getD_getElem?] using this)
 have htm:(r.params.zip args).foldl (fun tmps (q:Tmp × Value)=>tmps.setIfInBounds q.1 q.2) r.tmps=(r.params.toList.zip args.toList).foldl (fun tmps q=>tmps.setIfInBounds q.1 q.2) r.tmps:=by
  rw [← Array.toList_zip,Array.foldl_toList]
 have hm1:aD { y.inner g w L1 p' with rd:=some l } g (Mem.of L1) w:=(hm.enter (need:=L1) (p:=p') hLn).rd (some l)
 have hrel:Rel { y.inner g w L1 p' with rd:=some l } n g ⟨nV r.params.toList xs fr,Mem.of L1,0,[]⟩ { tmps:=(r.params.zip args).foldl (fun tmps (q:Tmp × Value)=>tmps.setIfInBounds q.1 q.2) r.tmps,defers:=[] } w:=by
  rw [htm]
  exact ⟨hm1,hbind.1,.nil,hbind.2,fun i hi=>(hsp i hi.under).1⟩
 have kmay:∀ {o:Option Nat} {w0:World},w0.heap.size=w.heap.size→¬ (({ y.inner g w0 L1 p' with rd:=o }:Ctx).may0 l):=by
  rintro o w0 _ ⟨q,hq,hloc⟩;exact hnot q hq hloc
 refine wpIn_mono (hassign { y.inner g w L1 p' with rd:=some l } pre xs L1 hj hxs hv rfl (hng.inner rfl hm.le) g _ w hrel) ?_
 rintro e1 a1 w1 ⟨g1,ex1,s1,r1,f1,rfl,hA⟩
 cases e1<;>simp only [AX.fits] at f1
 simp only [Exit.then]
 have k1:w1.heap[l]? = some (.loop r):=(r1.mr.kept l hlt (kmay rfl)).trans c1
 have hrow1:∀ rr,g1.row l≠some rr:=fun rr hrr=>by
  obtain ⟨cc,t,fz,h1,_⟩:=r1.mr.rows l rr hrr;rw [k1] at h1;cases h1
 refine ⟨_,run_beginRound k1 hst,?_⟩
 obtain ⟨hm2,_⟩:=aD.both (x:=y) (g0:=g) (w0:=w) (p:=p') (need:=L1) (ob:=.loop { r with state:=.busy }) (r1.mr.rd none) hlt hnot c4 hrow1 (fun c9 t9 fz9 h9=>by rw [k1] at h9;cases h9)
 have hrel2:Rel { y.inner g (w.putObj l (.loop { r with state:=.busy })) L1 p' with rd:=some l } n g1 s1 a1 (w1.putObj l (.loop { r with state:=.busy })):=⟨hm2.rd (some l),r1.tm,r1.df,r1.fr,r1.young⟩
 refine wpIn_mono (hbody { y.inner g (w.putObj l (.loop { r with state:=.busy })) L1 p' with rd:=some l } pre xs L1 s1 hj hxs hv rfl (hng.inner rfl hm.le) hA g1 _ _ hrel2) ?_
 rintro e3 a3 w3 ⟨g3,ex3,s3,r3,f3,hq⟩
 have k3:w3.heap[l]? = some (.loop { r with state:=.busy }):=(r3.mr.kept l (by simpa [World.putObj,Ctx.inner] using hlt) (kmay (by simp [World.putObj]))).trans (World.putObj_heap_same hlt)
 have fin:∀ jump L',J jump (pre++[xs]) L'→(∀ q ∈ L',s3.mem q.1=some q.2)→(∀ q ∈ L',(∃ q' ∈ L1,q'.1=q.1)∨Oid.under p' q.1) →
   ∃ v w',(Instr.endRound l jump).run P w3 = .ok v w'∧∃ g' v' val upd,(Ending.returned v:Ending) = .returned v'∧(∃ jump L',val = .bool jump.isNone∧J jump (pre++[xs]) L'∧(∀ q ∈ L',q.1≠lid) ∧
    nU ((lid,.loop l n fr r)::L1) (Oid.under p') upd ((lid,.loop l n fr { r with state:=if jump.isNone then .ready else .done,pending:=jump })::L'))∧g.le g'∧(∀ i,¬ Oid.under p' i→g'.loc i=g.loc i)∧VR g' val v'∧aD y g' (m.aF upd) w':=by
  intro jump L' hJ' hL' hN'
  obtain ⟨s1',s2'⟩:=o8 (L:=L1) (sp:=Oid.under p') hL' hN'
  have hL'n:∀ q ∈ L',q.1≠lid:=fun q hq e=>by
   rcases hN' q hq with ⟨q',h1,h2⟩|h1
   ·exact hnl q' h1 (h2.trans e)
   ·exact hup _ h1 e
  have hkey:∀ q ∈ clr L1++jN L',q.1≠lid:=fun q hq e=>by
   rcases List.mem_append.1 hq with h|h
   ·obtain ⟨q',h1,rfl⟩:=List.mem_map.1 h;exact hnl q' h1 e
   ·obtain ⟨q',h1,rfl⟩:=List.mem_map.1 h;exact hL'n q' h1 e
  have hlv:=hbusy.leave (need:=L1) (p:=p') (fun q hq=>by simp only [Mem.set];rw [if_neg (hnl q hq)];exact hLn q hq) hpx (g':=g3) (m':=s3.mem) (w':=w3) (upd:=clr L1++jN L') (r3.mr.rd none) s2'
  have hl3:((m.set lid (some (.loop l n fr { r with state:=.busy }))).aF (clr L1++jN L')) lid=some (.loop l n fr { r with state:=.busy }):=by
   rw [aU hkey];simp [Mem.set]
  obtain ⟨_,_,_,_,_,_,hfin⟩:=hlv.l4 (r':={ r with state:=if jump.isNone then .ready else .done,pending:=jump }) hl3 rfl
  refine ⟨_,_,run_endRound jump k3,g3,_,.bool jump.isNone,(lid,some (.loop l n fr { r with state:=.busy }))::(clr L1++jN L')++[(lid,some (.loop l n fr { r with state:=if jump.isNone then .ready else .done,pending:=jump }))],rfl,⟨jump,L',rfl,hJ',hL'n,?_⟩,r3.mr.le,r3.mr.locs,.bool _,?_⟩
  ·refine ⟨fun q hq=>?_,fun q hq=>?_,fun q hq=>?_⟩
   ·rw [bZ]
    rcases List.mem_cons.1 hq with rfl|hq
    ·simp [Mem.aF,Mem.set]
    ·simp only [Mem.aF,Mem.set]
     rw [if_neg (hL'n q hq),← s1'.got q hq]
     exact fR ⟨(q.1,some q.2),List.mem_append_right _ (List.mem_map.2 ⟨q,hq,rfl⟩),rfl⟩
   ·rcases List.mem_append.1 hq with h|h
    ·rcases List.mem_cons.1 h with rfl|h
     ·exact .inl ⟨_,List.mem_cons_self,rfl⟩
     ·exact (s1'.tou q h).imp (fun ⟨q',h1,h2⟩=>⟨q',List.mem_cons_of_mem _ h1,h2⟩) id
    ·simp only [List.mem_singleton] at h;subst h;exact .inl ⟨_,List.mem_cons_self,rfl⟩
   ·rcases List.mem_cons.1 hq with rfl|hq
    ·exact .inl ⟨_,List.mem_cons_self,rfl⟩
    ·exact (hN' q hq).imp (fun ⟨q',h1,h2⟩=>⟨q',List.mem_cons_of_mem _ h1,h2⟩) id
  ·rw [bZ];exact hfin
 cases ex3 with
 | normal=>cases e3<;>simp only [AX.fits] at f3;obtain ⟨L',q1,q2,q3⟩:=hq;exact fin none L' q1 q2 q3
 | ret=>cases e3<;>simp only [AX.fits] at f3;obtain ⟨L',q1,q2,q3⟩:=hq;exact fin (some .ret) L' q1 q2 q3
 | exit i=>cases e3<;>simp only [AX.fits] at f3;subst f3;obtain ⟨L',q1,q2,q3⟩:=hq;exact fin (some (.exit i)) L' q1 q2 q3
 | panic v=>exact hq.elim
section
variable {P:Program} [Laid P] {x:Ctx} {n:Nat} {Q:AX→AS→Prop} {fr:List (Nat × AV)} {m:Mem} {c:Nat} {ds:List AD}
theorem qQ {t:Nat} {ps:Array Tmp} {assign body:Code} {gf:FuncId} {cap:List AV} {need:List (Oid × ar)} {k:Nat} {V:List (List AV)→List AV→Prop} {S:Bool→List (List AV)→Prop}
  (hrd:x.rd=none) (hng:Fit P x) (ht:(decide (t < n))=true) (hg:F fr t = .fn (.func gf) [] cap) (hps:ps.size=k) (hseq:qO P gf cap (.sub c 2 x.p) need k V S) (hneed:∀ q ∈ need,m q.1=some q.2)
  (J:Option Code→List (List AV)→List (Oid × ar)→Prop) (L:List (Oid × ar)) (hJ:J none [] L) (hL:∀ q ∈ L,m q.1=some q.2) (hdis:∀ q ∈ L,∀ q' ∈ need,q.1≠q'.1)
  (A:List (List AV)→List AV→List (Oid × ar)→Oid→AS→Prop)
  (hassign:∀ (y:Ctx) l pre xs L1,J none pre L1→xs.length=k→V pre xs→y.rd=some l→Fit P y→T P y n assign ⟨nV ps.toList xs fr,Mem.of L1,0,[]⟩ (fun e s=>e = .normal∧A pre xs L1 y.p s))
  (hbody:∀ (y:Ctx) l pre xs L1 s,J none pre L1→xs.length=k→V pre xs→y.rd=some l→Fit P y→A pre xs L1 y.p s→T P y n body s (Am J (pre++[xs]) L1 y.p))
  (hend:∀ pre L' m',S true pre→J none pre L'→(∀ q ∈ L',m' q.1=some q.2)→m' (.sub c 0 x.p)=some .dfr→(∀ i o,m i=some o→(∀ q ∈ L,q.1≠i)→m' i=some o)→(∀ q ∈ L',(∃ q' ∈ need,q'.1=q.1)∨(∃ q' ∈ L,q'.1=q.1)∨Oid.under (.sub c 2 x.p) q.1)→Q .normal ⟨fr,m',c+1,.coll (.sub c 0 x.p)::ds⟩)
  (hstop:∀ pre L' m' cd,S false pre→J (some cd) pre L'→(∀ q ∈ L',m' q.1=some q.2)→m' (.sub c 0 x.p)=some .dfr→(∀ i o,m i=some o→(∀ q ∈ L,q.1≠i)→m' i=some o)→(∀ q ∈ L',(∃ q' ∈ need,q'.1=q.1)∨(∃ q' ∈ L,q'.1=q.1)∨Oid.under (.sub c 2 x.p) q.1)→T P x n cd ⟨fr,m',c+1,.coll (.sub c 0 x.p)::ds⟩ Q) :
  T P x n (.rangeFunc (.tmp t) ps assign body) ⟨fr,m,c,ds⟩ Q:=by
 intro g a w hr
 have htn:t < n:=of_decide_eq_true ht
 have fresh:=hr.fresh
 have hyoung:∀ j,dB x.p c (.sub c j x.p):=fun j=>⟨c,j,Nat.le_refl _,Oid.az _⟩
 have hyu:∀ j i,Oid.under (.sub c j x.p) i→dB x.p c i:=fun j i h=>⟨c,j,Nat.le_refl _,h⟩
 have hdl:g.loc (.sub c 0 x.p)=none:=hr.young _ (hyoung 0)
 have hll:g.loc (.sub c 1 x.p)=none:=hr.young _ (hyoung 1)
 have hne01:(Oid.sub c 0 x.p)≠Oid.sub c 1 x.p:=fun h=>by injection h with _ h;omega
 have hmd:m (.sub c 0 x.p)=none:=fresh _ (hyoung 0)
 have hml:m (.sub c 1 x.p)=none:=fresh _ (hyoung 1)
 refine wpIn_rangeFunc ?_
 intro fn _
 obtain ⟨rec,hrec⟩:∃ rec:LoopState→Option Code→Loop,rec=fun st pe=>{ state:=st,pending:=pe,fn,tmps:=a.tmps,params:=ps,assign,body,defers:=w.heap.size }:=⟨_,rfl⟩
 generalize hl:w.heap.size+1=l
 have h1:=hr.mr.new (i:=.sub c 0 x.p) hdl (hyoung 0).under (o:=.dfr) (ob:=.deferred (some [])) (bC _ _) (fun t9 h9=>by cases h9)
 have hs1:(w.alloc (.deferred (some []))).heap.size=l:=by simp [hl]
 have hl1:(g.bind (.sub c 0 x.p) w.heap.size).loc (.sub c 1 x.p)=none:=by simp only [Gh.bind];rw [if_neg hne01.symm];exact hll
 have h2:=h1.new (i:=.sub c 1 x.p) hl1 (hyoung 1).under (o:=.loop l n fr (rec .ready none)) (ob:=.loop (rec .ready none)) ⟨hs1,bC _ _,by rw [hrec];exact hr.tm,fun t ht=>by
  rw [hrec];exact (hr.fr t ht).mono (Gh.le_trans (Gh.bs hdl) (Gh.bs hl1))⟩ (fun t9 h9=>by cases h9)
 rw [hs1] at h2
 generalize hw2:(w.alloc (.deferred (some []))).alloc (.loop (rec .ready none))=w2 at h2
 generalize hg2:(g.bind (.sub c 0 x.p) w.heap.size).bind (.sub c 1 x.p) l=g2 at h2
 have hle2:g.le g2:=by rw [← hg2];exact Gh.le_trans (Gh.bs hdl) (Gh.bs hl1)
 have hloc2:∀ i,i≠.sub c 0 x.p→i≠.sub c 1 x.p→g2.loc i=g.loc i:=fun i h3 h4=>by rw [← hg2];simp only [Gh.bind];rw [if_neg h4,if_neg h3]
 have hd2:g2.loc (.sub c 0 x.p)=some (some w.heap.size):=by rw [← hg2];simp only [Gh.bind];rw [if_neg hne01];simp
 generalize hm2:(m.set (.sub c 0 x.p) (some .dfr)).set (.sub c 1 x.p) (some (.loop l n fr (rec .ready none)))=m2 at h2
 have m2old:∀ i o,m i=some o→m2 i=some o:=fun i o hi=>by
  rw [← hm2];simp only [Mem.set]
  rw [if_neg (fun e=>by rw [e,hml] at hi;cases hi),if_neg (fun e=>by rw [e,hmd] at hi;cases hi)];exact hi
 have m2l:m2 (.sub c 1 x.p)=some (.loop l n fr (rec .ready none)):=by rw [← hm2];simp [Mem.set]
 have m2d:m2 (.sub c 0 x.p)=some .dfr:=by rw [← hm2];simp only [Mem.set];rw [if_neg hne01];simp
 have hfv:=hr.fr t htn
 rw [hg] at hfv
 obtain ⟨fa,ca,hu,e1,e2,e3,e4⟩:=hfv.j6
 have hfa:fa=#[]:=Array.eq_empty_of_size_eq_zero (by simpa using e1)
 subst hfa
 have ltL:∀ q ∈ L,q.1≠.sub c 1 x.p:=fun q hq e=>by have:=hL q hq;rw [e,hml] at this;cases this
 have hcall:=hseq l (fun b pre LL=>∃ L1 pe,LL=(.sub c 1 x.p,.loop l n fr (rec (if pe.isNone then .ready else .done) pe))::L1∧J pe pre L1∧b=pe.isNone∧∀ q ∈ L1,q.1≠.sub c 1 x.p)
  ((.sub c 1 x.p,.loop l n fr (rec .ready none))::L) ⟨L,none,rfl,hJ,rfl,ltL⟩
  (fun q hq q' hq' e=>by
   rcases List.mem_cons.1 hq with rfl|hq
   ·have:=hneed q' hq';rw [← e,hml] at this;cases this
   ·exact hdis q hq q' hq' e)
  (fun q hq hu=>by
   rcases List.mem_cons.1 hq with rfl|hq
   ·have:=(Oid.apart hu (Oid.az (.sub c 1 x.p))).2;omega
   ·have h8:=hL q hq;have h9:m q.1=none:=fresh _ (hyu 2 _ hu);rw [h9] at h8;cases h8)
  (by
   rintro pre xs LL p' ⟨L1,pe,rfl,hj,hb,hnl⟩ hxs hv
   have hpe:pe=none:=by cases pe with|none=>rfl|some _=>cases hb
   subst hpe
   have hy:=Ao (V:=V) (P:=P) (n:=n) (fr:=fr) (l:=l) (k:=k) (lid:=.sub c 1 x.p) (r:=rec .ready none) (J:=J) (A:=A) (by rw [hrec]) (by rw [hrec];exact hps)
    (fun y pre xs L1=>by rw [hrec];exact hassign y l pre xs L1) (fun y pre xs L1 s=>by rw [hrec];exact hbody y l pre xs L1 s) pre xs L1 p' hj hxs hv hnl
   intro y g' args w' m' h3 h4 h5 h6 h7
   obtain ⟨f,tmps,ags,bo,k1,k2,k3⟩:=hy y g' args w' m' h3 h4 h5 h6 h7
   refine ⟨f,tmps,ags,bo,k1,k2,fun cc cs hroom=>?_⟩
   obtain ⟨en,w'',⟨g'',v,val,upd,rfl,⟨jump,L',q1,q2,q3,q4⟩,q5⟩,hc⟩:=k3 cc cs hroom
   refine ⟨.returned v,w'',⟨g'',v,val,upd,rfl,⟨jump.isNone,_,q1,⟨L',jump,rfl,q2,rfl,q3⟩,?_⟩,q5⟩,hc⟩
   rw [hrec] at q4 ⊢;exact q4)
 have hrun:(callFunc gf (#[.func (.yield l) #[] #[]]++ca)).run P w2 = .ok (.enter gf (#[.func (.yield l) #[] #[]]++ca)) w2:=by
  have he:=hcall.enters
  unfold cL at he
  cases hfn:P.funcs[gf]? with
  | none=>rw [hfn] at he;cases he
  | some fn =>
   rw [hfn] at he
   simp only [Bool.and_eq_true,bne_iff_ne,ne_eq] at he
   obtain ⟨he1,he2⟩:=he
   have hb:fn.body.isNone=false:=by cases hbb:fn.body<;>simp_all
   have hnm:(fn.name == "runtime.NumGoroutine")=false:=by simpa using he2
   simp only [callFunc,Sem.run_bind,run_program,hfn,hnm,hb,Bool.false_eq_true,if_false,Result.andThen_ok,Sem.run_pure]
 refine ⟨l,[{ target:=.collected w.heap.size,args:=#[] }],w2,{ target:=.fn (.func gf) ca,args:=#[.func (.yield l) #[] #[]] },w2,gf,#[.func (.yield l) #[] #[]]++ca,w2,?_,?_,fun _ _=>trivial,?_,fun h=>absurd h (by simp [Fc]),?_⟩
 ·have:=run_enterLoop_outer (P:=P) (w:=w) fn a.tmps ps assign body
  have e1:(Fc x.rd).round=none:=hrd
  rw [e1,this,← hl,← hw2,hrec]
 ·have:a.eval (.tmp t) = .func (.func gf) #[] ca:=hu
  simp only [resolve,Sem.run_bind,this,Deferred.ofValue,Sem.run_pure,Result.andThen_ok]
  simp [Act.eval]
 ·simpa [invoke] using hrun
 ·have hneed2:∀ q ∈ need++(Oid.sub c 1 x.p,ar.loop l n fr (rec .ready none))::L,m2 q.1=some q.2:=fun q hq=>by
   rcases List.mem_append.1 hq with h|h
   ·exact m2old _ _ (hneed q h)
   ·rcases List.mem_cons.1 h with rfl|h
    ·exact m2l
    ·exact m2old _ _ (hL q h)
  have hsp2:∀ i,Oid.under (.sub c 2 x.p) i→g2.loc i=none∧Oid.under x.p i:=fun i hi=>by
   refine ⟨?_,Oid.ay hi⟩
   rw [hloc2 i (fun e=>by rw [e] at hi;have:=(Oid.apart hi (Oid.az (.sub c 0 x.p))).2;omega) (fun e=>by rw [e] at hi;have:=(Oid.apart hi (Oid.az (.sub c 1 x.p))).2;omega)]
   exact hr.young i (hyu 2 i hi)
  refine gx.2 ((hcall.calls x g2 _ w2 m2 h2 hneed2 ?_ hsp2 hng).mono ?_)
  ·refine ⟨by simp [e2,Nat.add_comm],fun j hj=>?_⟩
   cases j with
   | zero=>rw [bg (by simp)];simpa using VR.fn (g:=g2) (.yield l) [] [] #[] #[] rfl rfl (fun j hj=>absurd hj (Nat.not_lt_zero _)) (fun j hj=>absurd hj (Nat.not_lt_zero _))
   | succ j =>
    have:=(e4 j (by simpa using hj)).mono hle2
    rw [dJ (by simp)]
    simpa using this
  ·rintro en w4 (⟨g4,v,val,upd,rfl,⟨b,pre,LL',hS,⟨L',pe,rfl,hj,hb,hnl⟩,hU⟩,k1,k2,k3,k4⟩|⟨_,_,_,_,_,hf,_⟩)
   ·have m4:∀ q ∈ need++(Oid.sub c 1 x.p,ar.loop l n fr (rec (if pe.isNone then .ready else .done) pe))::L',(m2.aF upd) q.1=some q.2:=fun q hq=>qP hneed2 (hU.got q hq)
    have hl4:=m4 (.sub c 1 x.p,.loop l n fr (rec (if pe.isNone then .ready else .done) pe)) (by simp)
    obtain ⟨c1,c2,_,_,_,_,hm5⟩:=k4.l4 (r':={ rec (if pe.isNone then .ready else .done) pe with state:=.exhausted }) hl4 rfl
    have hstate:(rec (if pe.isNone then .ready else .done) pe).state≠.busy:=by rw [hrec];cases pe<;>simp
    have touch:∀ q ∈ upd,q.1 = .sub c 1 x.p∨(∃ q' ∈ need,q'.1=q.1)∨(∃ q' ∈ L,q'.1=q.1)∨Oid.under (.sub c 2 x.p) q.1:=fun q hq=>by
     rcases hU.tou q hq with ⟨q',h1,h2⟩|h1
     ·rcases List.mem_append.1 h1 with h|h
      ·exact .inr (.inl ⟨q',h,h2⟩)
      ·rcases List.mem_cons.1 h with rfl|h
       ·exact .inl h2.symm
       ·exact .inr (.inr (.inl ⟨q',h,h2⟩))
     ·exact .inr (.inr (.inr h1))
    have hd4:(m2.aF upd) (.sub c 0 x.p)=some .dfr:=by
     rw [aU (fun q hq e=>?_)];exact m2d
     rcases touch q hq with h|⟨q',h1,h2⟩|⟨q',h1,h2⟩|h
     ·exact hne01 (e.symm.trans h)
     ·have:=hneed q' h1;rw [h2,e,hmd] at this;cases this
     ·have:=hL q' h1;rw [h2,e,hmd] at this;cases this
     ·rw [e] at h;have:=(Oid.apart h (Oid.az (.sub c 0 x.p))).2;omega
    have hold:∀ i o,m i=some o→(∀ q ∈ L,q.1≠i)→(m2.aF upd) i=some o:=fun i o hi hno=>by
     by_cases hk:∃ q,q ∈ upd∧q.1=i
     ·obtain ⟨q,hq,rfl⟩:=hk
      rcases touch q hq with h|⟨q',h1,h2⟩|⟨q',h1,h2⟩|h
      ·rw [h,hml] at hi;cases hi
      ·have h8:=m4 q' (by simp [h1]);have h9:=hneed q' h1
       rw [h2] at h8 h9;rw [hi] at h9;rw [h8,h9]
      ·exact absurd h2 (hno q' h1)
      ·have h9:m q.1=none:=fresh _ (hyu 2 _ h);rw [h9] at hi;cases hi
     ·rw [aU (fun q hq e=>hk ⟨q,hq,e⟩)];exact m2old i o hi
    have hpend:(rec (if pe.isNone then .ready else .done) pe).pending=pe:=by rw [hrec]
    have hel:(Instr.endLoop l).run P w4 = .ok pe (w4.putObj l (.loop { rec (if pe.isNone then .ready else .done) pe with state:=.exhausted })):=by
     have:=run_endLoop (P:=P) c1 hstate
     rw [this];congr 1
    refine ⟨pe,_,hel,?_⟩
    generalize hmf:(m2.aF upd).set (.sub c 1 x.p) (some (.loop l n fr { rec (if pe.isNone then .ready else .done) pe with state:=.exhausted }))=mf at hm5
    have p1:∀ q ∈ L',mf q.1=some q.2:=fun q hq=>by
     rw [← hmf];simp only [Mem.set];rw [if_neg (hnl q hq)];exact m4 q (by simp [hq])
    have p2:mf (.sub c 0 x.p)=some .dfr:=by rw [← hmf];simp only [Mem.set];rw [if_neg hne01];exact hd4
    have p3:∀ i o,m i=some o→(∀ q ∈ L,q.1≠i)→mf i=some o:=fun i o hi hno=>by
     rw [← hmf];simp only [Mem.set];rw [if_neg (fun e=>by rw [e,hml] at hi;cases hi)];exact hold i o hi hno
    have p4:∀ q ∈ L',(∃ q' ∈ need,q'.1=q.1)∨(∃ q' ∈ L,q'.1=q.1)∨Oid.under (.sub c 2 x.p) q.1:=fun q hq=>by
     rcases hU.nam q (by simp [hq]) with ⟨q',h1,h2⟩|h1
     ·rcases List.mem_append.1 h1 with h|h
      ·exact .inl ⟨q',h,h2⟩
      ·rcases List.mem_cons.1 h with rfl|h
       ·exact absurd h2.symm (hnl q hq)
       ·exact .inr (.inl ⟨q',h,h2⟩)
     ·exact .inr (.inr h1)
    have hle4:g.le g4:=Gh.le_trans hle2 k1
    have hrel:Rel x n g4 ⟨fr,mf,c+1,.coll (.sub c 0 x.p)::ds⟩ { a with defers:=[{ target:=.collected w.heap.size,args:=#[] }]++a.defers } (w4.putObj l (.loop { rec (if pe.isNone then .ready else .done) pe with state:=.exhausted })):=by
     refine ⟨hm5,hr.tm,.cons (.coll _ _ (k1.1 _ _ hd2)) (hr.df.mono hle4),fun t ht=>(hr.fr t ht).mono hle4,fun i hi=>?_⟩
     obtain ⟨c',j,hc',hu'⟩:=hi
     have hc'':c+1≤c':=hc'
     have na:∀ j',¬ Oid.under (.sub c j' x.p) i:=fun j' h=>by have:=(Oid.apart h hu').1;omega
     rw [k2 i (na 2),hloc2 i (fun e=>na 0 (by rw [e];exact Oid.az _)) (fun e=>na 1 (by rw [e];exact Oid.az _))]
     exact hr.young i ⟨c',j,Nat.le_of_succ_le hc'',hu'⟩
    cases pe with
    | none=>subst hb;exact ⟨g4,.normal,_,hrel,trivial,hend pre L' mf hS hj p1 p2 p3 p4⟩
    | some cd=>subst hb;exact hstop pre L' mf cd hS hj p1 p2 p3 p4 g4 _ _ hrel
   ·exact hf.elim
end
end Go.Ab
