/- A part of the proof: the texts FwM, S24, S25, S26, FwN, Z1, Z2, Z3, Z4, Z5, Z6, Z7, Z8, Z9h, Z10, Z11, Z12, Z13, FwS, SortT, Z14, E1, FwW, FwG, FwX, FwK, FwY, G1, G2, SY, G3, G4, FwO, E2, FwQ, E3, Z15, Z16, Z17, Z18, ShelfB, Z19a, Z19, Z20, Z21, Z22, Z24, Z23, Z27, Z28, one behind the other. -/
import Derived.Test.YtpficjpdfbiedaaGreatDoorPNc
import Derived.Shelf.SlMaps.Clone
import Derived.WalkKit
import Derived.Shelf.SlSortCmp.WholeK
import Derived.Test.YtpficjpdfbiedaaGreatDoorProg
import Derived.Laws.MakeOwn
import Derived.Shelf.Small.Bits
set_option linter.unusedVariables false
set_option linter.unusedSimpArgs false
set_option linter.unusedSectionVars false
namespace Go.Ab
section
variable {κ ν:Type} [DecidableEq κ] {ek:κ→AV} {ev:ν→AV}
def wG (ek:κ→AV) (ev:ν→AV) (q:κ × ν × Nat):ME:=⟨ek q.1,ev q.2.1,q.2.2⟩
def prj (q:κ × ν × Nat):κ × ν:=(q.1,q.2.1)
def cx (n:κ):List (κ × ν)→Option ν
 | []=>none
 | q::L=>if n=q.1 then some q.2 else cx n L
def yO (ev:ν→AV) (z:AV):Option ν→AV
 | some b=>ev b
 | none=>z
theorem xr (he:tQ ek) (n:κ) (z:AV):∀ E:List (κ × ν × Nat),gX (ek n) z (E.map (wG ek ev))=yO ev z (cx n (E.map prj))
 | []=>rfl
 | q::L=>by
  have ih:=xr he n z L
  have h1:=he n q.1
  simp only [gX,List.map_cons,cJ,wG,h1,cx,prj] at ih ⊢
  by_cases h:n=q.1
  ·simp [h,yO]
  ·simp only [h,decide_false,Bool.false_eq_true,if_false];exact ih
theorem eQ {n:κ} {b:ν}:∀ {L:List (κ × ν)},(L.map (·.1)).Nodup→(cx n L=some b↔(n,b) ∈ L)
 | [],_=>by simp [cx]
 | q::L,h=>by
  simp only [List.map_cons,List.nodup_cons] at h
  have ih:=eQ (n:=n) (b:=b) h.2
  simp only [cx]
  by_cases hn:n=q.1
  ·subst hn
   rw [if_pos rfl]
   refine ⟨fun e=>?_,fun e=>?_⟩
   ·simp only [Option.some.injEq] at e;subst e;exact List.mem_cons_self
   ·rcases List.mem_cons.1 e with e|e
    ·rw [← e]
    ·exact absurd (List.mem_map_of_mem (f:=(·.1)) e) h.1
  ·rw [if_neg hn,ih]
   exact ⟨List.mem_cons_of_mem _,fun e=>(List.mem_cons.1 e).resolve_left fun e=>hn (by rw [← e])⟩
theorem pE {n:κ} {L L':List (κ × ν)} (hp:L.Perm L') (h:(L.map (·.1)).Nodup):cx n L=cx n L':=by
 have h':(L'.map (·.1)).Nodup:=(hp.map _).nodup_iff.1 h
 cases h1:cx n L with
 | some b=>rw [eq_comm,eQ h',← hp.mem_iff,← eQ h];exact h1
 | none =>
  cases h2:cx n L' with
  | none=>rfl
  | some b=>rw [eQ h',← hp.mem_iff,← eQ h,h1] at h2;cases h2
def uA (ek:κ→AV) (ev:ν→AV) (es:List ME) (L:List (κ × ν)):Prop:=∃ E:List (κ × ν × Nat),es=E.map (wG ek ev)∧(E.map prj).Perm L∧(L.map (·.1)).Nodup
omit [DecidableEq κ] in
theorem uB:uA ek ev [] ([]:List (κ × ν)):=⟨[],rfl,.refl _,List.nodup_nil⟩
theorem uC (he:tQ ek) {es:List ME} {L:List (κ × ν)} (h:uA ek ev es L) (n:κ) (z:AV):gX (ek n) z es=yO ev z (cx n L):=by
 obtain ⟨E,rfl,h2,h3⟩:=h
 rw [xr he,pE h2 ((h2.map _).nodup_iff.2 h3)]
omit [DecidableEq κ] in
theorem rM {es S:List ME} (hp:es.Pairwise fun e e'=>e.born < e'.born) (hs:∀ e ∈ S,e ∈ es) (hn:(S.map (·.born)).Nodup) (hall:∀ e ∈ es,e.born ∈ S.map (·.born)):S.Perm es:=by
 have hne:es.Nodup:=(hp.imp fun {a b} h=>by intro e;subst e;exact Nat.lt_irrefl _ h)
 have hns:S.Nodup:=by
  refine List.Pairwise.imp ?_ (List.pairwise_map.1 hn)
  intro a b h e;exact h (by rw [e])
 refine (List.perm_ext_iff_of_nodup hns hne).2 fun e=>⟨hs e,fun he=>?_⟩
 obtain ⟨e',h1,h2⟩:=List.mem_map.1 (hall e he)
 have h3:e' = e:=by
  apply Classical.byContradiction
  intro hne'
  have hinj:∀ a ∈ es,∀ b ∈ es,¬ a=b→¬ a.born=b.born:=fun a ha b hb hab=>by
   have h5:es.Pairwise fun a b=>¬ a.born=b.born:=hp.imp fun h=>by omega
   obtain ⟨i,hi,rfl⟩:=List.mem_iff_getElem.1 ha
   obtain ⟨j,hj,rfl⟩:=List.mem_iff_getElem.1 hb
   rw [List.pairwise_iff_getElem] at h5
   rcases Nat.lt_trichotomy i j with h|h|h
   ·exact h5 i j hi hj h
   ·subst h;exact absurd rfl hab
   ·exact fun e=>h5 j i hj hi h (Eq.symm e)
  exact hinj e' (hs e' h1) e he hne' h2
 rwa [← h3]
end
section
variable {κ ν:Type} [DecidableEq κ] (lt:κ→κ→Prop) [DecidableRel lt]
structure Ord:Prop where
 irr:∀ a,¬ lt a a
 tr:∀ a b c,lt a b→lt b c→lt a c
 tot:∀ a b,¬ lt a b→¬ a=b→lt b a
def k9 (n:κ):Option ν→List (κ × ν)
 | some b=>[(n,b)]
 | none=>[]
def kp (n:κ) (o:Option ν):List (κ × ν)→List (κ × ν)
 | []=>k9 n o
 | q::L=>if lt q.1 n then q::kp n o L else k9 n o++(if q.1=n then L else q::L)
def cW (L:List (κ × ν)):Prop:=L.Pairwise fun a b=>lt a.1 b.1
variable {lt}
theorem kq {n:κ} {o:Option ν} {x:κ × ν}:∀ {L:List (κ × ν)},x ∈ kp lt n o L→x ∈ k9 n o∨x ∈ L
 | [],h=>.inl h
 | q::L,h=>by
  simp only [kp] at h
  split at h
  ·rcases List.mem_cons.1 h with rfl|h
   ·exact .inr List.mem_cons_self
   ·exact (kq h).imp id (List.mem_cons_of_mem _)
  ·rcases List.mem_append.1 h with h|h
   ·exact .inl h
   ·split at h
    ·exact .inr (List.mem_cons_of_mem _ h)
    ·exact .inr h
omit [DecidableEq κ] [DecidableRel lt] in
theorem kr {n:κ} {o:Option ν} {x:κ × ν} (h:x ∈ k9 n o):x.1=n∧o=some x.2:=by
 cases o with
 | none=>cases h
 | some b=>simp only [k9,List.mem_singleton] at h;subst h;exact ⟨rfl,rfl⟩
theorem fV (ho:Ord lt) (n:κ) (o:Option ν):∀ {L:List (κ × ν)},cW lt L→cW lt (kp lt n o L)
 | [],_=>by cases o<;>simp [kp,k9,cW]
 | q::L,h=>by
  have h2:=List.pairwise_cons.1 h
  have ih:=fV ho n o (L:=L) h2.2
  simp only [kp]
  by_cases hl:lt q.1 n
  ·rw [if_pos hl]
   refine List.pairwise_cons.2 ⟨fun x hx=>?_,ih⟩
   rcases kq hx with hx|hx
   ·rw [(kr hx).1];exact hl
   ·exact h2.1 x hx
  ·rw [if_neg hl]
   refine List.pairwise_append.2 ⟨by cases o<;>simp [k9],?_,fun x hx y hy=>?_⟩
   ·split
    ·exact h2.2
    ·exact h
   ·rw [(kr hx).1]
    by_cases hn:q.1=n
    ·rw [if_pos hn] at hy;rw [← hn];exact h2.1 y hy
    ·rw [if_neg hn] at hy
     have hq:=ho.tot q.1 n hl hn
     rcases List.mem_cons.1 hy with rfl|hy
     ·exact hq
     ·exact ho.tr _ _ _ hq (h2.1 y hy)
end
end Go.Ab
namespace Go.Proofs.YtpficjpdfbiedaaGreatDoor
open Go Go.Ab
set_option maxRecDepth 20000
set_option maxHeartbeats 4000000
def gG (e:ME):Str:=match e.key with
 | .str s=>s
 | _=>[]
def ck (n k:Str):Option Str:=if iy k (n++[47])=true∧¬ 0≤Lib.indexByte (k.drop (n.length+1)) 47 then some (k.drop (n.length+1)) else none
theorem pF {l l':List (Oid × af)} {i:Oid} (h:∀ q ∈ l,¬ i=q.1):Mem.of (l++l') i=Mem.of l' i:=by
 induction l with
 | nil=>rfl
 | cons q l ih=>rw [List.cons_append,Mem.al,if_neg (h q List.mem_cons_self)];exact ih fun q' hq'=>h q' (List.mem_cons_of_mem _ hq')
theorem jG {m:Mem} {B L:List (Oid × af)} (h1:∀ q,q ∈ B→m q.1=some q.2) (h2:∀ q,q ∈ L→m q.1=some q.2):∀ q,q ∈ B++L→m q.1=some q.2 :=
 fun q hq=>(List.mem_append.1 hq).elim (h1 q) (h2 q)
theorem ot {k:AV} (h:aD [.ss] false k=true):∃ s,k = .str s:=by
 cases k<;>simp [aD,AV.isAgg,AV.cells,fits,dw] at h ⊢
theorem wH {es U:List ME} (hp:es.Pairwise fun e e'=>e.born < e'.born) (hs:∀ e ∈ U,e ∈ es) (hn:(U.map (·.born)).Nodup):U.length≤es.length:=by
 have h1:U.Nodup:=List.Pairwise.imp (fun h e=>h (by rw [e])) (List.pairwise_map.1 hn)
 exact h1.length_le_of_subset fun e he=>hs e he
theorem find_born {es:List ME} (hp:es.Pairwise fun e e'=>e.born < e'.born) {e:ME} (he:e ∈ es):es.find? (fun q=>q.born == e.born)=some e:=by
 induction es with
 | nil=>cases he
 | cons a es ih =>
  have h2:=List.pairwise_cons.1 hp
  rcases List.mem_cons.1 he with rfl|he
  ·simp
  ·have:=h2.1 e he
   rw [List.find?_cons_of_neg (by simp;omega)]
   exact ih h2.2 he
theorem rN (b1 b2 o:Oid) (n:Str) (hln:n.length≤140737488355000) (es:List ME) (clock:Nat) (hkl:∀ e ∈ es,(gG e).length≤140737488355328) (p:Oid) (hne1:¬ o=b1) (hne2:¬ o=b2) (hne3:¬ b2=b1) (hb1:¬ Oid.under p b1) (hb2:¬ Oid.under p b2) (ho:¬ Oid.under p o) :
  nD Tryz.prog 176 [.ptr b1 0,.ptr b2 0] p [(b1,.cells [.map o]),(b2,.cells [.str n]),(o,.map [.ss] false es clock)] 1 (fun pre xs=>pre.length < es.length∧∃ s:Str,xs=[.str s]) (fun b pre=>b=true→∃ U:List ME,U.Perm es∧pre=(U.filterMap fun e=>ck n (gG e)).map fun s=>[.str s]):=by
 intro l J L0 hJ hdis hnp hY
 refine cL (by kernel_rfl) fun hcon=>?_
 refine pc (n:=32) (rs:=[]) Tryz.func176 rfl rfl (by decide) rfl rfl rfl ?_;rintro x rfl hrd hng
 have hcL:∀ q ∈ L0,Mem.of L0 q.1=some q.2:=fun q hq=>by
  have:=hcon q (List.mem_append_right _ hq)
  rwa [pF fun q' hq'=>hdis q hq q' hq'] at this
 generalize hQ:eK Tryz.prog [] ([(b1,.cells [.map o]),(b2,.cells [.str n]),(o,.map [.ss] false es clock)]++L0) _ _=Q
 refine zT fun hwf=>?_
 obtain ⟨hw1,hw2⟩:=hwf o [.ss] false es clock (by simp only [bc,bp,Mem.al,Mem.aL,Mem.aN,Mem.aU,bI,bV,List.cons_append,List.nil_append,List.append_nil,↓reduceIte,eq_self,and_true,true_and,and_self,and_false,false_and,reduceCtorEq,Oid.sub.injEq,Nat.reduceEqDiff,hne1,hne2,hne3,Oid.ab hb1,Oid.ab hb2,Oid.ab ho,Oid.aa hb1,Oid.aa hb2,Oid.aa ho])
 have hstr:∀ e ∈ es,e.key = .str (gG e):=fun e he=>by
  obtain ⟨s,hs⟩:=ot (hw1 e he).1
  simp only [gG,hs]
 (try ((first|refine zn ?_|refine ze ?_|refine zk ?_);with_reducible (constructor;repeat constructor));try refine zl ?_)
 refine az nmd [] hng (by kernel_rfl) fun hf C S K hC1 hC hS hK=>?_;simp (disch:=first|omega|assumption) only [go_sem,hne1,hne2,hne3,Oid.ab hb1,Oid.ab hb2,Oid.ab ho,Oid.aa hb1,Oid.aa hb2,Oid.aa ho,aH]
 refine hK ?_;clear hK hS hC hC1 K S C hf
 (try ((first|refine zn ?_|refine ze ?_|refine zk ?_);with_reducible (constructor;repeat constructor));try refine zl ?_)
 have hn0:∀ q ∈ L0,¬ q.1=b1∧¬ q.1=b2∧¬ q.1=o∧¬ q.1 = .sub 0 1 x.p:=fun q hq=>⟨hdis q hq _ List.mem_cons_self,hdis q hq _ (List.mem_cons_of_mem _ List.mem_cons_self),hdis q hq _ (List.mem_cons_of_mem _ (List.mem_cons_of_mem _ List.mem_cons_self)),fun e=>hnp q hq (e ▸ Oid.aj (Oid.ah _))⟩
 refine fh ([(b1,.cells [.map o]),(b2,.cells [.str n]),(o,.map [.ss] false es clock),(.sub 0 1 x.p,.iter (some o) clock [] clock)]++L0) (jG ?_ ?_) ?_
 ·simp only [bc,bp,Mem.al,Mem.aL,Mem.aN,Mem.aU,bI,bV,List.cons_append,List.nil_append,List.append_nil,↓reduceIte,eq_self,and_true,true_and,and_self,and_false,false_and,reduceCtorEq,Oid.sub.injEq,Nat.reduceEqDiff,hne1,hne2,hne3,Oid.ab hb1,Oid.ab hb2,Oid.ab ho,Oid.aa hb1,Oid.aa hb2,Oid.aa ho,aH]
 ·intro q hq
  obtain ⟨a1,a2,a3,a4⟩:=hn0 q hq
  simp only [bc,bp,Mem.al,Mem.aL,Mem.aN,Mem.aU,bI,bV,List.cons_append,List.nil_append,List.append_nil,↓reduceIte,eq_self,and_true,true_and,and_self,and_false,false_and,reduceCtorEq,Oid.sub.injEq,Nat.reduceEqDiff,aH,a1,a2,a3,a4]
  exact hcL q hq
 refine aT [0,1,2,8] (fun q s'=>∃ (c:Nat) (U:List ME) (L:List (Oid × af)),s' = ⟨[(0,.fn (.yield l) [] []),(1,.ptr b1 0),(2,.ptr b2 0),(8,.iter (.sub 0 1 x.p))],Mem.of ([(b1,.cells [.map o]),(b2,.cells [.str n]),(o,.map [.ss] false es clock),(.sub 0 1 x.p,.iter (some o) clock (U.map ME.born) clock)]++L),c,[]⟩∧0 < c∧q=es.length - U.length∧(U.map ME.born).Nodup∧(∀ e ∈ U,e ∈ es)∧J true ((U.filterMap fun e=>ck n (gG e)).map fun s=>[.str s]) L ∧
  (∀ q ∈ L,Mem.of L q.1=some q.2)∧∀ q ∈ L,((∃ q' ∈ L0,q'.1=q.1)∨Oid.under x.p q.1)∧¬ q.1=b1∧¬ q.1=b2∧¬ q.1=o∧¬ q.1 = .sub 0 1 x.p∧∀ d j,c≤d→¬ Oid.under (.sub d j x.p) q.1) es.length ⟨_,[],L0,rfl,by omega,rfl,List.nodup_nil,fun i h=>(by cases h),hJ,hcL,fun q hq=>⟨.inl ⟨q,hq,rfl⟩,(hn0 q hq).1,(hn0 q hq).2.1,(hn0 q hq).2.2.1,(hn0 q hq).2.2.2,fun d j _ h=>hnp q hq (Oid.aj h)⟩⟩ ?_
 rintro q s' ⟨c,U,L,rfl,hc,rfl,hnd,hlt,hj,hcc,hnm⟩
 have hst:U.map ME.born=[]∨es=[]∨∃ e ∈ es,e.born < clock:=by
  cases U with
  | nil=>exact .inl rfl
  | cons e _=>exact .inr (.inr ⟨e,hlt e List.mem_cons_self,(hw1 e (hlt e List.mem_cons_self)).2⟩)
 (try ((first|refine zn ?_|refine ze ?_|refine zk ?_);with_reducible (constructor;repeat constructor));try refine zl ?_)
 refine az nmd [] hng (by kernel_rfl) fun hf C S K hC1 hC hS hK=>?_;simp (disch:=first|omega|assumption) only [go_sem]
 refine hS _ _ _ (fun o' hd ho'=>vR (it:=.sub 0 1 x.p) (id:=o) (since:=clock) (ks:=[.ss]) (ag:=false) (clock:=clock) ho' rfl hst) ?_ ?_ (fun _ _ h=>h.elim)
 ·simp only [bc,bp,Mem.al,Mem.aL,Mem.aN,Mem.aU,bI,bV,List.cons_append,List.nil_append,List.append_nil,↓reduceIte,eq_self,and_true,true_and,and_self,and_false,false_and,reduceCtorEq,Oid.sub.injEq,Nat.reduceEqDiff,hne1,hne2,hne3,Oid.ab hb1,Oid.ab hb2,Oid.ab ho,Oid.aa hb1,Oid.aa hb2,Oid.aa ho]
 rintro val upd (⟨e,he,hns,rfl,rfl⟩|⟨hall,rfl,rfl⟩)
 ·have hfi:=find_born hw2 he
  have hk:=hstr e he
  have hkl1:=hkl e he
  have hnd':((U++[e]).map ME.born).Nodup:=by
   rw [List.map_append]
   exact List.nodup_append.2 ⟨hnd,by simp,fun a ha b hb' e'=>by simp at hb';subst hb';subst e';exact hns ha⟩
  have hlt':∀ j ∈ U++[e],j ∈ es:=fun j hj=>by
   rcases List.mem_append.1 hj with hj|hj
   ·exact hlt j hj
   ·simp at hj;subst hj;exact he
  have hle:=wH hw2 hlt' hnd'
  have hfm:(U.filterMap fun e=>ck n (gG e)).length≤U.length:=List.length_filterMap_le ..
  have hrest:((U++[e]).filterMap fun e=>ck n (gG e))=(U.filterMap fun e=>ck n (gG e))++(ck n (gG e)).toList:=by
   rw [List.filterMap_append];congr 1
  generalize gG e=s at *
  simp (disch:=first|omega|assumption) only [go_sem,hne1,hne2,hne3,Oid.ab hb1,Oid.ab hb2,Oid.ab ho,Oid.aa hb1,Oid.aa hb2,Oid.aa ho,aH,hk]
  refine hK ?_;clear hK hS hC hC1 K S C hf
  (repeat (first|(refine aA rfl rfl ?_)|(refine aB rfl rfl ?_)|(refine az nmd [] hng (by kernel_rfl) fun hf C S K hC1 hC hS hK=>?_;simp (disch:=first|omega|assumption) only [go_sem];refine hK ?_;clear hK hS hC hC1 K S C hf)|((first|refine zv ?_|refine zw ?_|refine zu ?_);with_reducible (constructor;repeat constructor);try refine zl ?_)))
  refine dc ?_
  (repeat (first|(refine aA rfl rfl ?_)|(refine aB rfl rfl ?_)|(refine az nmd [] hng (by kernel_rfl) fun hf C S K hC1 hC hS hK=>?_;simp (disch:=first|omega|assumption) only [go_sem];refine hK ?_;clear hK hS hC hC1 K S C hf)|((first|refine zv ?_|refine zw ?_|refine zu ?_);with_reducible (constructor;repeat constructor);try refine zl ?_)))
  refine az nmd [] hng (by kernel_rfl) fun hf C S K hC1 hC hS hK=>?_;simp (disch:=first|omega|assumption) only [go_sem,hne1,hne2,hne3,Oid.ab hb1,Oid.ab hb2,Oid.ab ho,Oid.aa hb1,Oid.aa hb2,Oid.aa ho,aH,hfi,hk,List.getLast?_concat]
  refine hK ?_;clear hK hS hC hC1 K S C hf
  (repeat (first|(refine aA rfl rfl ?_)|(refine aB rfl rfl ?_)|(refine az nmd [] hng (by kernel_rfl) fun hf C S K hC1 hC hS hK=>?_;simp (disch:=first|omega|assumption) only [go_sem];refine hK ?_;clear hK hS hC hC1 K S C hf)|((first|refine zv ?_|refine zw ?_|refine zu ?_);with_reducible (constructor;repeat constructor);try refine zl ?_)))
  refine az nmd [] hng (by kernel_rfl) fun hf C S K hC1 hC hS hK=>?_;simp (disch:=first|omega|assumption) only [go_sem,hne1,hne2,hne3,Oid.ab hb1,Oid.ab hb2,Oid.ab ho,Oid.aa hb1,Oid.aa hb2,Oid.aa ho,aH]
  refine hC1 _ (mE s (n++[47]) (by omega) (by simp only [List.length_append,List.length_cons,List.length_nil];omega) _) qs0 ?_
  simp (disch:=first|omega|assumption) only [go_sem]
  refine hK ?_;clear hK hS hC hC1 K S C hf
  have hnm2:∀ q ∈ L,((∃ q' ∈ L0,q'.1=q.1)∨Oid.under x.p q.1)∧¬ q.1=b1∧¬ q.1=b2∧¬ q.1=o∧¬ q.1 = .sub 0 1 x.p∧∀ d j,c+4≤d→¬ Oid.under (.sub d j x.p) q.1:=fun q hq=>by
   obtain ⟨a0,a1,a2,a3,a4,a5⟩:=hnm q hq
   exact ⟨a0,a1,a2,a3,a4,fun d j hd=>a5 d j (by omega)⟩
  have hnL:∀ q ∈ L,∀ q' ∈ ([(b1,.cells [.map o]),(b2,.cells [.str n]),(o,.map [.ss] false es clock),(.sub 0 1 x.p,.iter (some o) clock (U.map ME.born++[e.born]) clock)]:List (Oid × af)),¬ q.1=q'.1:=fun q hq=>by
   obtain ⟨_,a1,a2,a3,a4,a5⟩:=hnm q hq
   simp only [bc,bp,Mem.al,Mem.aL,Mem.aN,Mem.aU,bI,bV,List.cons_append,List.nil_append,List.append_nil,↓reduceIte,eq_self,and_true,true_and,and_self,and_false,false_and,reduceCtorEq,Oid.sub.injEq,Nat.reduceEqDiff,a1,a2,a3,a4,not_false_eq_true]
  have hBm:∀ q ∈ ([(b1,.cells [.map o]),(b2,.cells [.str n]),(o,.map [.ss] false es clock),(.sub 0 1 x.p,.iter (some o) clock (U.map ME.born++[e.born]) clock)]:List (Oid × af)),Mem.of ([(b1,.cells [.map o]),(b2,.cells [.str n]),(o,.map [.ss] false es clock),(.sub 0 1 x.p,.iter (some o) clock (U.map ME.born++[e.born]) clock)]++L) q.1=some q.2:=by
   simp only [bc,bp,Mem.al,Mem.aL,Mem.aN,Mem.aU,bI,bV,List.cons_append,List.nil_append,List.append_nil,↓reduceIte,eq_self,and_true,true_and,and_self,and_false,false_and,reduceCtorEq,Oid.sub.injEq,Nat.reduceEqDiff,hne1,hne2,hne3,Oid.ab hb1,Oid.ab hb2,Oid.ab ho,Oid.aa hb1,Oid.aa hb2,Oid.aa ho]
  have hall:=dT hBm hnL hcc
  have hmm:(U++[e]).map ME.born=U.map ME.born++[e.born]:=by simp
  have hlen2:(U++[e]).length=U.length+1:=by simp
  by_cases hp:iy s (n++[47])=true
  ·by_cases hq:0≤Lib.indexByte (s.drop (n.length+1)) 47
   ·have hro:ck n s=none:=if_neg fun h=>h.2 hq
    (repeat (first|(refine aA rfl rfl ?_)|(refine aB rfl rfl ?_)|(refine az nmd [] hng (by kernel_rfl) fun hf C S K hC1 hC hS hK=>?_;simp (disch:=first|omega|assumption) only [go_sem];refine hK ?_;clear hK hS hC hC1 K S C hf)|((first|refine zv ?_|refine zw ?_|refine zu ?_);with_reducible (constructor;repeat constructor);try refine zl ?_)))
    refine az nmd [(1,21),(6,26)] hng (by kernel_rfl) fun hf C S K hC1 hC hS hK=>?_;simp (disch:=first|omega|assumption) only [go_sem,hp]
    refine hC1 _ (jm (s.drop (n.length+1)) 47 _) qs0 ?_
    simp (disch:=first|omega|assumption) only [go_sem,hq]
    refine hK ?_;clear hK hS hC hC1 K S C hf
    refine qw0 ?_
    refine ⟨_,Mem.of ([(b1,.cells [.map o]),(b2,.cells [.str n]),(o,.map [.ss] false es clock),(.sub 0 1 x.p,.iter (some o) clock (U.map ME.born++[e.born]) clock)]++L),?_,il hall,c+1+1+1+1,U++[e],L,by rw [hmm];rfl,by omega,rfl,hnd',hlt',?_,hcc,hnm2⟩
    ·rw [hlen2] at hle ⊢;omega
    ·rw [hrest,hro];simpa using hj
   ·have hro:ck n s=some (s.drop (n.length+1)):=if_pos ⟨hp,hq⟩
    (repeat (first|(refine aA rfl rfl ?_)|(refine aB rfl rfl ?_)|(refine az nmd [] hng (by kernel_rfl) fun hf C S K hC1 hC hS hK=>?_;simp (disch:=first|omega|assumption) only [go_sem];refine hK ?_;clear hK hS hC hC1 K S C hf)|((first|refine zv ?_|refine zw ?_|refine zu ?_);with_reducible (constructor;repeat constructor);try refine zl ?_)))
    refine az nmd [(1,21),(6,26)] hng (by kernel_rfl) fun hf C S K hC1 hC hS hK=>?_;simp (disch:=first|omega|assumption) only [go_sem,hp]
    refine hC1 _ (jm (s.drop (n.length+1)) 47 _) qs0 ?_
    simp (disch:=first|omega|assumption) only [go_sem,hq]
    generalize hr:s.drop (n.length+1)=r at *
    refine hS _ _ _ (fun o' hd ho'=>iU ho' rfl (hY _ [.str r] L (.sub (c+1+1+1) 9 x.p) hj rfl ⟨by rw [List.length_map];rw [hlen2] at hle;omega,r,rfl⟩)) (fun q hq=>hall q (List.mem_append_right _ hq)) ?_ (fun _ _ h=>h.elim)
    rintro val upd ⟨b,L',rfl,hj',hU⟩
    have hym:=lA hU (fun q hq=>hall q (List.mem_append_right _ hq)) hBm ?_
    rotate_left
    ·intro q hq
     refine ⟨fun q' hq'=>hnL q' hq' q hq,fun hu=>?_⟩
     simp only [List.mem_cons,List.not_mem_nil,or_false] at hq
     rcases hq with rfl|rfl|rfl|rfl
     ·exact hb1 (Oid.aj hu)
     ·exact hb2 (Oid.aj hu)
     ·exact ho (Oid.aj hu)
     ·have:=(Oid.apart hu (Oid.ah _)).1;omega
    have hcl:∀ q ∈ L',Mem.of L' q.1=some q.2:=fun q hq=>by
     obtain ⟨o',ho'⟩:=Mem.jE hq
     obtain ⟨q',h1,h2,h3⟩:=Mem.cF ho'
     have h4:=hym q (List.mem_append_right _ hq)
     have h5:=hym q' (List.mem_append_right _ h1)
     rw [h2,h4,h3] at h5
     rw [ho'];exact h5.symm
    simp (disch:=first|omega|assumption) only [go_sem]
    refine hK ?_;clear hK hS hC hC1 K S C hf
    (repeat (first|(refine aA rfl rfl ?_)|(refine aB rfl rfl ?_)|(refine az nmd [] hng (by kernel_rfl) fun hf C S K hC1 hC hS hK=>?_;simp (disch:=first|omega|assumption) only [go_sem];refine hK ?_;clear hK hS hC hC1 K S C hf)|((first|refine zv ?_|refine zw ?_|refine zu ?_);with_reducible (constructor;repeat constructor);try refine zl ?_)))
    refine fh ([(b1,.cells [.map o]),(b2,.cells [.str n]),(o,.map [.ss] false es clock),(.sub 0 1 x.p,.iter (some o) clock (U.map ME.born++[e.born]) clock)]++L') (by rw [← Mem.aN];exact hym) ?_
    have hnm':∀ q ∈ L',((∃ q' ∈ L0,q'.1=q.1)∨Oid.under x.p q.1)∧¬ q.1=b1∧¬ q.1=b2∧¬ q.1=o∧¬ q.1 = .sub 0 1 x.p∧∀ d j,c+1+1+1+1≤d→¬ Oid.under (.sub d j x.p) q.1:=fun q hq=>by
     rcases hU.nam q hq with ⟨q',h1,h2⟩|h1
     ·obtain ⟨a0,a1,a2,a3,a4,a5⟩:=hnm q' h1
      rw [h2] at a0 a1 a2 a3 a4 a5
      exact ⟨a0,a1,a2,a3,a4,fun d j hd=>a5 d j (by omega)⟩
     ·have hu:=Oid.aj h1
      refine ⟨.inr hu,fun e=>hb1 (e ▸ hu),fun e=>hb2 (e ▸ hu),fun e=>ho (e ▸ hu),fun e=>?_,fun d j hd h2=>?_⟩
      ·rw [e] at h1;have:=(Oid.apart h1 (Oid.ah _)).1;omega
      ·have:=(Oid.apart h1 h2).1;omega
    have hmap:((U++[e]).filterMap fun e=>ck n (gG e)).map (fun s=>[AV.str s])=((U.filterMap fun e=>ck n (gG e)).map fun s=>[AV.str s])++[[.str r]]:=by rw [hrest,hro];simp
    have hnL':∀ q ∈ L',∀ q' ∈ ([(b1,.cells [.map o]),(b2,.cells [.str n]),(o,.map [.ss] false es clock),(.sub 0 1 x.p,.iter (some o) clock (U.map ME.born++[e.born]) clock)]:List (Oid × af)),¬ q.1=q'.1:=fun q hq=>by
     obtain ⟨_,a1,a2,a3,a4,a5⟩:=hnm' q hq
     simp only [bc,bp,Mem.al,Mem.aL,Mem.aN,Mem.aU,bI,bV,List.cons_append,List.nil_append,List.append_nil,↓reduceIte,eq_self,and_true,true_and,and_self,and_false,false_and,reduceCtorEq,Oid.sub.injEq,Nat.reduceEqDiff,a1,a2,a3,a4,not_false_eq_true]
    have hall':=dT (L:=L') (B:=[(b1,.cells [.map o]),(b2,.cells [.str n]),(o,.map [.ss] false es clock),(.sub 0 1 x.p,.iter (some o) clock (U.map ME.born++[e.born]) clock)]) (fun q hq=>by
     have:=hym q (List.mem_append_left _ hq)
     revert q
     simp only [bc,bp,Mem.al,Mem.aL,Mem.aN,Mem.aU,bI,bV,List.cons_append,List.nil_append,List.append_nil,↓reduceIte,eq_self,and_true,true_and,and_self,and_false,false_and,reduceCtorEq,Oid.sub.injEq,Nat.reduceEqDiff,hne1,hne2,hne3,Oid.ab hb1,Oid.ab hb2,Oid.ab ho,Oid.aa hb1,Oid.aa hb2,Oid.aa ho,implies_true]) hnL' hcl
    cases b with
    | true =>
     refine qw0 ?_
     rw [← hmap] at hj'
     refine ⟨_,Mem.of ([(b1,.cells [.map o]),(b2,.cells [.str n]),(o,.map [.ss] false es clock),(.sub 0 1 x.p,.iter (some o) clock (U.map ME.born++[e.born]) clock)]++L'),?_,il hall',c+1+1+1+1,U++[e],L',by rw [hmm];rfl,by omega,rfl,hnd',hlt',hj',hcl,hnm'⟩
     rw [hlen2] at hle ⊢;omega
    | false =>
     refine aA rfl rfl (ar ?_)
     subst hQ
     have hsw:=ic (L:=[(b1,.cells [.map o]),(b2,.cells [.str n]),(o,.map [.ss] false es clock)]++L0) (L':=[(b1,.cells [.map o]),(b2,.cells [.str n]),(o,.map [.ss] false es clock)]++L') (m:=Mem.of ([(b1,.cells [.map o]),(b2,.cells [.str n]),(o,.map [.ss] false es clock),(.sub 0 1 x.p,.iter (some o) clock (U.map ME.born++[e.born]) clock)]++L')) (sp:=Oid.under x.p) (fun q hq=>hall' q (by
       rcases List.mem_append.1 hq with hq|hq
       ·exact List.mem_append_left _ (by simp only [List.mem_cons,List.not_mem_nil,or_false] at hq ⊢;rcases hq with h|h|h<;>simp [h])
       ·exact List.mem_append_right _ hq)) (fun q hq=>by
       rcases List.mem_append.1 hq with hq|hq
       ·exact .inl ⟨q,List.mem_append_left _ hq,rfl⟩
       ·rcases (hnm' q hq).1 with ⟨q',h1,h2⟩|h
        ·exact .inl ⟨q',List.mem_append_right _ h1,h2⟩
        ·exact .inr h)
     exact cn _ _ rfl ⟨false,_,L',fun h=>(by cases h),hj',hsw.1⟩ hsw.2
  ·have hro:ck n s=none:=if_neg fun h=>hp h.1
   rw [Bool.not_eq_true] at hp
   (repeat (first|(refine aA rfl rfl ?_)|(refine aB rfl rfl ?_)|(refine az nmd [] hng (by kernel_rfl) fun hf C S K hC1 hC hS hK=>?_;simp (disch:=first|omega|assumption) only [go_sem];refine hK ?_;clear hK hS hC hC1 K S C hf)|((first|refine zv ?_|refine zw ?_|refine zu ?_);with_reducible (constructor;repeat constructor);try refine zl ?_)))
   refine az nmd [(1,21),(6,26)] hng (by kernel_rfl) fun hf C S K hC1 hC hS hK=>?_;simp (disch:=first|omega|assumption) only [go_sem,hp]
   refine hK ?_;clear hK hS hC hC1 K S C hf
   refine qw0 ?_
   refine ⟨_,Mem.of ([(b1,.cells [.map o]),(b2,.cells [.str n]),(o,.map [.ss] false es clock),(.sub 0 1 x.p,.iter (some o) clock (U.map ME.born++[e.born]) clock)]++L),?_,il hall,c+1+1+1+1,U++[e],L,by rw [hmm];rfl,by omega,rfl,hnd',hlt',?_,hcc,hnm2⟩
   ·rw [hlen2] at hle ⊢;omega
   ·rw [hrest,hro];simpa using hj
 ·simp (disch:=first|omega|assumption) only [go_sem]
  refine hK ?_;clear hK hS hC hC1 K S C hf
  (try ((first|refine zn ?_|refine ze ?_|refine zk ?_);with_reducible (constructor;repeat constructor));try refine zl ?_)
  subst hQ
  have hfull:=rM hw2 hlt hnd fun e he=>hall e he (hw1 e he).2
  have hnL:∀ q ∈ L,∀ q' ∈ ([(b1,.cells [.map o]),(b2,.cells [.str n]),(o,.map [.ss] false es clock),(.sub 0 1 x.p,.iter (some o) clock (U.map ME.born) clock)]:List (Oid × af)),¬ q.1=q'.1:=fun q hq=>by
   obtain ⟨_,a1,a2,a3,a4,a5⟩:=hnm q hq
   simp only [bc,bp,Mem.al,Mem.aL,Mem.aN,Mem.aU,bI,bV,List.cons_append,List.nil_append,List.append_nil,↓reduceIte,eq_self,and_true,true_and,and_self,and_false,false_and,reduceCtorEq,Oid.sub.injEq,Nat.reduceEqDiff,a1,a2,a3,a4,not_false_eq_true]
  have hall':=dT (L:=L) (B:=[(b1,.cells [.map o]),(b2,.cells [.str n]),(o,.map [.ss] false es clock),(.sub 0 1 x.p,.iter (some o) clock (U.map ME.born) clock)]) (by
   simp only [bc,bp,Mem.al,Mem.aL,Mem.aN,Mem.aU,bI,bV,List.cons_append,List.nil_append,List.append_nil,↓reduceIte,eq_self,and_true,true_and,and_self,and_false,false_and,reduceCtorEq,Oid.sub.injEq,Nat.reduceEqDiff,hne1,hne2,hne3,Oid.ab hb1,Oid.ab hb2,Oid.ab ho,Oid.aa hb1,Oid.aa hb2,Oid.aa ho]) hnL hcc
  have hsw:=ic (L:=[(b1,.cells [.map o]),(b2,.cells [.str n]),(o,.map [.ss] false es clock)]++L0) (L':=[(b1,.cells [.map o]),(b2,.cells [.str n]),(o,.map [.ss] false es clock)]++L) (m:=Mem.of ([(b1,.cells [.map o]),(b2,.cells [.str n]),(o,.map [.ss] false es clock),(.sub 0 1 x.p,.iter (some o) clock (U.map ME.born) clock)]++L)) (sp:=Oid.under x.p) (fun q hq=>hall' q (by
     rcases List.mem_append.1 hq with hq|hq
     ·exact List.mem_append_left _ (by simp only [List.mem_cons,List.not_mem_nil,or_false] at hq ⊢;rcases hq with h|h|h<;>simp [h])
     ·exact List.mem_append_right _ hq)) (fun q hq=>by
     rcases List.mem_append.1 hq with hq|hq
     ·exact .inl ⟨q,List.mem_append_left _ hq,rfl⟩
     ·rcases (hnm q hq).1 with ⟨q',h1,h2⟩|h
      ·exact .inl ⟨q',List.mem_append_right _ h1,h2⟩
      ·exact .inr h)
  refine aB rfl rfl ?_
  (try ((first|refine zn ?_|refine ze ?_|refine zk ?_);with_reducible (constructor;repeat constructor));try refine zl ?_)
  refine dS ?_
  exact eo _ _ rfl ⟨true,_,L,fun _=>⟨U,hfull,rfl⟩,hj,hsw.1⟩ hsw.2
end Go.Proofs.YtpficjpdfbiedaaGreatDoor
namespace Go.Proofs.YtpficjpdfbiedaaGreatDoor
open Go Go.Ab
set_option maxRecDepth 20000
set_option maxHeartbeats 4000000
theorem lK (t:Nat) (a:AV) (fr:List (Nat × AV)):gb [t] [a] fr=(t,a)::fr:=rfl
theorem iA {P:Program} [Laid P] {x:Ctx} {n:Nat} {a:Code} {Q:AX→AS→Prop} {fr:List (Nat × AV)} {m:Mem} {c:Nat} {ds:List AD} (h:(∀ i,cG x.p c i→m i=none)→T P x n a ⟨fr,m,c,ds⟩ Q):T P x n a ⟨fr,m,c,ds⟩ Q :=
 fun g a w hr=>h hr.fresh g a w hr
theorem lL {P:Program} [Laid P] {x:Ctx} {n:Nat} {a:Code} {Q:AX→AS→Prop} {s:AS} (h:T P x n a s (after P x n Q [])):T P x n a s Q:=iM h fun _ _ h=>h
def pG (l:List Str) (v:AV) (L:List (Oid × af)) (sp:Oid→Prop):Prop :=
 (l=[]∧v = .nilSl∧L=[])∨(¬ l=[]∧∃ id,v = .sl id 1 l.length∧L=[(id,.arr 1 (l.map .str))]∧sp id)
theorem pG.mono {l:List Str} {v:AV} {L:List (Oid × af)} {sp sp':Oid→Prop} (h:pG l v L sp) (hs:∀ i,sp i→sp' i):pG l v L sp':=h.imp id fun ⟨a,i,b,c,d⟩=>⟨a,i,b,c,hs i d⟩
theorem mI (gf:FuncId) (cap:List AV) (need:List (Oid × af)) (N:Nat) (S:Bool→List (List AV)→Prop) (hN:N≤2000000000000) (p:Oid) (hnp:∀ q ∈ need,¬ Oid.under p q.1) (hna:∀ q ∈ need,∀ sz xs,¬ q.2 = .arr sz xs)
  (hseq:∀ p',Oid.under p p'→nD Tryz.prog gf cap p' need 1 (fun pre xs=>pre.length < N∧∃ h:Str,xs=[.str h]) S) :
  bK Tryz.prog 189 [.nilSl,.fn (.func gf) [] cap] (Oid.under p) need (fun v u=>∃ l L',S true (l.map fun h=>[.str h])∧pG l v L' (Oid.under p)∧u=eL L') (fun _ _=>False):=by
 refine cL (by kernel_rfl) fun hcon=>?_
 refine pc (n:=13) (rs:=[.tmp 4]) Tryz.func189 rfl rfl (by decide) rfl rfl rfl ?_;rintro x rfl hrd hng
 have hnb:∀ q ∈ need,¬ q.1 = .sub 0 0 x.p:=fun q hq e=>hnp q hq (e ▸ Oid.aj (Oid.ah _))
 generalize hQ:eK Tryz.prog _ need _ _=Q
 (try ((first|refine zn ?_|refine ze ?_|refine zk ?_);with_reducible (constructor;repeat constructor));try refine zl ?_)
 refine az nmd [] hng (by kernel_rfl) fun hf C S K hC1 hC hS hK=>?_;simp (disch:=first|omega|assumption) only [go_sem,aH]
 refine hK ?_;clear hK hS hC hC1 K S C hf
 refine qw0 ?_
 refine nE (S:=S) hrd hng (by decide) rfl rfl (hseq _ (Oid.aj (Oid.ah _))) ?_
  (fun jump pre L=>jump=none∧∃ (l:List Str) (v:AV) (L1:List (Oid × af)),pre=l.map (fun h=>[.str h])∧pG l v L1 (fun id=>¬ id = .sub 0 0 x.p)∧L=(.sub 0 0 x.p,.cells [v])::L1)
  [(.sub 0 0 x.p,.cells [.nilSl])] ⟨rfl,[],.nilSl,[],rfl,.inl ⟨rfl,rfl,rfl⟩,rfl⟩ ?_ ?_
  (fun _ xs L1 p' s=>∃ h:Str,xs=[.str h]∧F s.fr 5 = .str h∧F s.fr 2 = .ptr (.sub 0 0 x.p) 0∧(∀ q,q ∈ L1→s.mem q.1=some q.2)∧s.ds=[]∧0 < s.c∧¬ p' = x.p) ?_ ?_ ?_ ?_
 ·intro q hq
  rw [aH,if_neg (hnb q hq)];exact hcon q hq
 ·intro q hq
  simp only [List.mem_singleton] at hq
  subst hq
  rw [aH,if_pos rfl]
 ·intro q hq q' hq' e
  simp only [List.mem_singleton] at hq
  subst hq
  exact hnb q' hq' e.symm
 ·rintro y l0 pre xs L1 ⟨_,l,v,L2,rfl,hr,rfl⟩ _ ⟨hlen,h,rfl⟩ hyr hyg
  refine lL (iA fun hf=>?_)
  replace hng:=hyg
  have hfy:=hf (.sub 0 0 y.p) ⟨0,0,Nat.le_refl _,Oid.ah _⟩
  have hb:¬ Oid.sub 0 0 y.p = .sub 0 0 x.p:=fun e=>by rw [e] at hfy;simp [Mem.al] at hfy
  have hb2:¬ y.p=x.p:=fun e=>hb (by rw [e])
  generalize hrest:L2=rest at hfy ⊢
  rw [Mem.al,if_neg hb] at hfy
  have hdis:∀ q ∈ L2,¬ q.1 = .sub 0 0 x.p∧Mem.of L2 q.1=some q.2:=by
   rcases hr with ⟨_,_,rfl⟩|⟨_,id,_,rfl,hid⟩
   ·intro q hq;cases hq
   ·intro q hq
    simp only [List.mem_singleton] at hq
    subst hq
    exact ⟨hid,by simp [Mem.al]⟩
  refine az nmd [] hng (by kernel_rfl) fun hf C S K hC1 hC hS hK=>?_;simp (disch:=first|omega|assumption) only [go_sem,aH,hb2,lK]
  refine hK ?_;clear hK hS hC hC1 K S C hf
  refine dS ⟨rfl,h,rfl,rfl,rfl,?_,rfl,by simp,hb2⟩
  refine jG (B:=[(.sub 0 0 x.p,.cells [v])]) ?_ ?_
  ·simp only [bc,bp,Mem.al,Mem.aL,Mem.aN,Mem.aU,bI,bV,List.cons_append,List.nil_append,List.append_nil,↓reduceIte,eq_self,and_true,true_and,and_self,and_false,false_and,reduceCtorEq,Oid.sub.injEq,Nat.reduceEqDiff,aH,hb2,AV.cells]
  ·intro q hq
   subst hrest
   obtain ⟨a2,a3⟩:=hdis q hq
   simp only [bc,bp,Mem.al,Mem.aL,Mem.aN,Mem.aU,bI,bV,List.cons_append,List.nil_append,List.append_nil,↓reduceIte,eq_self,and_true,true_and,and_self,and_false,false_and,reduceCtorEq,Oid.sub.injEq,Nat.reduceEqDiff,aH,hb2,a2]
   exact a3
 ·rintro y l0 pre xs L1 ⟨fr,m,c,ds⟩ ⟨_,l,v,L2,rfl,hr,rfl⟩ _ ⟨hlen,_,_⟩ hyr hyg ⟨h,rfl,h5,h2,hm,rfl,hc,hb2⟩
  simp only at h5 h2 hm hc
  refine lL (xL [(5,.str h),(2,.ptr (.sub 0 0 x.p) 0)] rfl (by simp [h5,h2]) (fh _ hm (iA fun hf=>?_)))
  replace hng:=hyg
  have hfy:∀ j,Mem.of ((Oid.sub 0 0 x.p,af.cells [v])::L2) (.sub c j y.p)=none:=fun j=>hf _ ⟨c,j,Nat.le_refl _,Oid.ah _⟩
  clear hf
  have hb3:¬ x.p=y.p:=fun e=>hb2 e.symm
  rcases hr with ⟨rfl,rfl,rfl⟩|⟨hl,id,rfl,rfl,hid⟩
  ·(repeat (first|(refine aA rfl rfl ?_)|(refine aB rfl rfl ?_)|(refine az nmd [] hng (by kernel_rfl) fun hf C S K hC1 hC hS hK=>?_;simp (disch:=first|omega|assumption) only [go_sem];refine hK ?_;clear hK hS hC hC1 K S C hf)|((first|refine zv ?_|refine zw ?_|refine zu ?_);with_reducible (constructor;repeat constructor);try refine zl ?_)))
   refine dc ?_
   (repeat (first|(refine aA rfl rfl ?_)|(refine aB rfl rfl ?_)|(refine az nmd [] hng (by kernel_rfl) fun hf C S K hC1 hC hS hK=>?_;simp (disch:=first|omega|assumption) only [go_sem];refine hK ?_;clear hK hS hC hC1 K S C hf)|((first|refine zv ?_|refine zw ?_|refine zu ?_);with_reducible (constructor;repeat constructor);try refine zl ?_)))
   refine az nmd [] hng (by kernel_rfl) fun hf C S K hC1 hC hS hK=>?_;simp (disch:=first|omega|assumption) only [go_sem,aH,hb2,hb3,xq]
   refine hK ?_;clear hK hS hC hC1 K S C hf
   (try ((first|refine zn ?_|refine ze ?_|refine zk ?_);with_reducible (constructor;repeat constructor));try refine zl ?_)
   refine dS ⟨[(.sub 0 0 x.p,.cells [.sl (.sub c 3 y.p) 1 1]),(.sub c 3 y.p,.arr 1 [.str h])],⟨rfl,[h],_,_,rfl,.inr ⟨by simp,.sub c 3 y.p,rfl,rfl,fun e=>by simp at e⟩,rfl⟩,?_,?_⟩
   ·simp only [bc,bp,Mem.al,Mem.aL,Mem.aN,Mem.aU,bI,bV,List.cons_append,List.nil_append,List.append_nil,↓reduceIte,eq_self,and_true,true_and,and_self,and_false,false_and,reduceCtorEq,Oid.sub.injEq,Nat.reduceEqDiff,hb2,hb3]
   ·intro q hq
    simp only [List.mem_cons,List.not_mem_nil,or_false] at hq
    rcases hq with rfl|rfl
    ·exact .inl ⟨_,List.mem_cons_self,rfl⟩
    ·exact .inr (Oid.aj (Oid.ah _))
  ·simp only [List.length_map] at hlen
   have hi1:¬ Oid.sub c 3 y.p=id:=fun e=>by have:=hfy 3;rw [e] at this;simp only [Mem.al,if_neg hid] at this;simp at this
   have hi2:¬ id=Oid.sub c 3 y.p:=fun e=>hi1 e.symm
   (repeat (first|(refine aA rfl rfl ?_)|(refine aB rfl rfl ?_)|(refine az nmd [] hng (by kernel_rfl) fun hf C S K hC1 hC hS hK=>?_;simp (disch:=first|omega|assumption) only [go_sem];refine hK ?_;clear hK hS hC hC1 K S C hf)|((first|refine zv ?_|refine zw ?_|refine zu ?_);with_reducible (constructor;repeat constructor);try refine zl ?_)))
   refine dc ?_
   (repeat (first|(refine aA rfl rfl ?_)|(refine aB rfl rfl ?_)|(refine az nmd [] hng (by kernel_rfl) fun hf C S K hC1 hC hS hK=>?_;simp (disch:=first|omega|assumption) only [go_sem];refine hK ?_;clear hK hS hC hC1 K S C hf)|((first|refine zv ?_|refine zw ?_|refine zu ?_);with_reducible (constructor;repeat constructor);try refine zl ?_)))
   refine az nmd [] hng (by kernel_rfl) fun hf C S K hC1 hC hS hK=>?_;simp (disch:=first|omega|assumption) only [go_sem,aH,hb2,hb3,hid,hi1,hi2]
   refine hK ?_;clear hK hS hC hC1 K S C hf
   (try ((first|refine zn ?_|refine ze ?_|refine zk ?_);with_reducible (constructor;repeat constructor));try refine zl ?_)
   refine dS ⟨[(.sub 0 0 x.p,.cells [.sl (.sub c 3 y.p) 1 (l++[h]).length]),(.sub c 3 y.p,.arr 1 ((l++[h]).map .str))],⟨rfl,l++[h],_,_,by simp,.inr ⟨by simp,.sub c 3 y.p,rfl,rfl,fun e=>by simp at e⟩,rfl⟩,?_,?_⟩
   ·simp only [bc,bp,Mem.al,Mem.aL,Mem.aN,Mem.aU,bI,bV,List.cons_append,List.nil_append,List.append_nil,↓reduceIte,eq_self,and_true,true_and,and_self,and_false,false_and,reduceCtorEq,Oid.sub.injEq,Nat.reduceEqDiff,hb2,hb3,List.length_append,List.map_append,List.length_cons,List.length_nil,List.map_cons,List.map_nil]
   ·intro q hq
    simp only [List.mem_cons,List.not_mem_nil,or_false] at hq
    rcases hq with rfl|rfl
    ·exact .inl ⟨_,List.mem_cons_self,rfl⟩
    ·exact .inr (Oid.aj (Oid.ah _))
 ·rintro pre L' m' hS ⟨_,l,v,L2,rfl,hr,rfl⟩ hL' hd hold hnm
  have hmx:=hL' _ List.mem_cons_self
  have hne:∀ q ∈ need,m' q.1=some q.2:=fun q hq=>hold q.1 q.2 (by rw [aH,if_neg (hnb q hq)];exact hcon q hq) (by simp only [List.mem_singleton];rintro q' rfl e;exact hnb q hq e.symm)
  refine fh ([(.sub 0 0 x.p,.cells [v]),(.sub (0+1+1) 0 x.p,.dfr)]++(L2++need)) (jG (B:=[(.sub 0 0 x.p,.cells [v]),(.sub (0+1+1) 0 x.p,.dfr)]) ?_ (jG (fun q hq=>hL' q (List.mem_cons_of_mem _ hq)) hne)) ?_
  ·intro q hq
   simp only [List.mem_cons,List.not_mem_nil,or_false] at hq
   rcases hq with rfl|rfl
   ·exact hmx
   ·exact hd
  have hnid:∀ id xs,L2=[(id,.arr 1 xs)]→(∀ q ∈ need,¬ q.1=id)∧¬ id = .sub 2 0 x.p:=fun id xs e=>by
   have h1:=hL' (id,.arr 1 xs) (by rw [e];exact List.mem_cons_of_mem _ List.mem_cons_self)
   simp only at h1
   refine ⟨fun q hq e1=>?_,fun e1=>?_⟩
   ·have h2:=hne q hq
    rw [e1,h1,Option.some.injEq] at h2
    exact hna q hq _ _ h2.symm
   ·rw [e1,hd] at h1;cases h1
  have hrow2:pG l v L2 (Oid.under x.p):=by
   rcases hr with hr|⟨hl,id,rfl,rfl,hid⟩
   ·exact .inl hr
   ·refine .inr ⟨hl,id,rfl,rfl,?_⟩
    rcases hnm _ (List.mem_cons_of_mem _ List.mem_cons_self) with ⟨q',h1,h2⟩|⟨q',h1,h2⟩|h
    ·exact absurd h2 ((hnid id _ rfl).1 q' h1)
    ·simp only [List.mem_singleton] at h1
     subst h1
     exact absurd h2.symm hid
    ·exact Oid.aj h
  have hin:∀ q ∈ L2++need,¬ q.1 = .sub 0 0 x.p∧¬ q.1 = .sub 2 0 x.p∧Mem.of (L2++need) q.1=some q.2:=by
   have hn2:∀ q ∈ need,¬ q.1 = .sub 2 0 x.p:=fun q hq e=>hnp q hq (e ▸ Oid.aj (Oid.ah _))
   rcases hr with ⟨_,_,rfl⟩|⟨_,id,_,rfl,hid⟩
   ·exact fun q hq=>⟨hnb q hq,hn2 q hq,hcon q hq⟩
   ·intro q hq
    rcases List.mem_append.1 hq with hq|hq
    ·simp only [List.mem_singleton] at hq
     subst hq
     exact ⟨hid,(hnid id _ rfl).2,by rw [List.cons_append,Mem.al,if_pos rfl]⟩
    ·exact ⟨hnb q hq,hn2 q hq,by rw [List.cons_append,Mem.al,if_neg ((hnid id _ rfl).1 q hq)];exact hcon q hq⟩
  generalize hrest:L2++need=rest
  (repeat (first|(refine aA rfl rfl ?_)|(refine aB rfl rfl ?_)|(refine az nmd [] hng (by kernel_rfl) fun hf C S K hC1 hC hS hK=>?_;simp (disch:=first|omega|assumption) only [go_sem];refine hK ?_;clear hK hS hC hC1 K S C hf)|((first|refine zv ?_|refine zw ?_|refine zu ?_);with_reducible (constructor;repeat constructor);try refine zl ?_)))
  refine ar ?_
  subst hQ
  refine ⟨?_,_,eL L2,rfl,⟨l,L2,hS,?_,rfl⟩,?_⟩
  ·simp only [bc,bp,Mem.al,Mem.aL,Mem.aN,Mem.aU,bI,bV,List.cons_append,List.nil_append,List.append_nil,↓reduceIte,eq_self,and_true,true_and,and_self,and_false,false_and,reduceCtorEq,Oid.sub.injEq,Nat.reduceEqDiff,aH]
  ·exact hrow2
  ·intro i o h
   have:∃ q ∈ L2++need,q.1=i∧q.2=o:=by
    by_cases hk:∃ q ∈ eL L2,q.1=i
    ·obtain ⟨q',k1,k2,k3⟩:=ib (m:=Mem.of need) hk
     rw [k3] at h
     obtain ⟨q,h1,rfl⟩:=List.mem_map.1 k1
     exact ⟨q,List.mem_append_left _ h1,k2,Option.some.inj h⟩
    ·rw [aI fun q hq e=>hk ⟨q,hq,e⟩] at h
     obtain ⟨q,h1,h2,h3⟩:=Mem.cF h
     exact ⟨q,List.mem_append_right _ h1,h2,h3⟩
   obtain ⟨q,hq,rfl,rfl⟩:=this
   obtain ⟨a1,a2,a3⟩:=hin q hq
   show ((Mem.of ((Oid.sub 0 0 x.p,af.cells [v])::(Oid.sub 2 0 x.p,af.dfr)::rest)).set (.sub 2 0 x.p) none) q.1=some q.2
   subst hrest
   simp only [Mem.set,if_neg a2,Mem.al,if_neg a1]
   exact a3
 ·rintro pre L' m' cd _ ⟨h,_⟩
  cases h
theorem pH (gf:FuncId) (cap:List AV) (need:List (Oid × af)) (N:Nat) (Sq:Bool→List (List AV)→Prop) (hN:N≤2000000000000) (p:Oid) (hnp:∀ q ∈ need,¬ Oid.under p q.1) (hna:∀ q ∈ need,∀ sz xs,¬ q.2 = .arr sz xs)
  (hseq:∀ p',Oid.under p p'→nD Tryz.prog gf cap p' need 1 (fun pre xs=>pre.length < N∧∃ h:Str,xs=[.str h]) Sq) :
  bK Tryz.prog 174 [.fn (.func gf) [] cap] (Oid.under p) need (fun v u=>∃ l L',Sq true (l.map fun h=>[.str h])∧pG l v L' (Oid.under p)∧u=eL L') (fun _ _=>False):=by
 refine cL (by kernel_rfl) fun hcon=>?_
 refine pc (n:=5) (rs:=[.tmp 2]) Tryz.func174 rfl rfl (by decide) rfl rfl rfl ?_;rintro x rfl hrd hng
 refine qw0 ?_
 refine az nmd [] hng (by kernel_rfl) fun hf C S K hC1 hC hS hK=>?_;simp (disch:=first|omega|assumption) only [go_sem]
 refine hC _ _ _ (mI gf cap need N Sq hN _ (fun q hq h=>hnp q hq (Oid.aj h)) hna fun p' h=>hseq p' (Oid.aj h)) hcon ?_ (fun _ _ h=>h.elim)
 rintro val upd ⟨l,L',hSq,hr,rfl⟩
 simp (disch:=first|omega|assumption) only [go_sem]
 refine hK ?_;clear hK hS hC hC1 K S C hf
 (try ((first|refine zn ?_|refine ze ?_|refine zk ?_);with_reducible (constructor;repeat constructor));try refine zl ?_)
 refine ar (cn _ _ rfl ⟨l,L',hSq,hr.mono fun _ h=>Oid.aj h,rfl⟩ ?_)
 intro i o h
 rw [Mem.aN] at h;exact h
theorem str_inj {a b:List Str} (e:a.map (fun h=>[AV.str h])=b.map fun h=>[AV.str h]):a=b:=(List.map_inj_right (fun x y h=>by simpa using h)).1 e
theorem rO (gf:FuncId) (cap:List AV) (need:List (Oid × af)) (N:Nat) (l0:List Str) (Sq:Bool→List (List AV)→Prop) (hN:N≤2000000000000) (hl0:l0.length≤N) (p:Oid) (hnp:∀ q ∈ need,¬ Oid.under p q.1) (hna:∀ q ∈ need,∀ sz xs,¬ q.2 = .arr sz xs)
  (hseq:∀ p',Oid.under p p'→nD Tryz.prog gf cap p' need 1 (fun pre xs=>pre.length < N∧∃ h:Str,xs=[.str h]) Sq)
  (hall:∀ l:List Str,Sq true (l.map fun h=>[.str h])→l.Perm l0) :
  ak Tryz.prog 156 [.fn (.func gf) [] cap] (Oid.under p) ⟨need,.list 1 ((bY l0).map .str),[]⟩:=by
 refine (cL (by kernel_rfl) fun hcon=>?_:bK Tryz.prog _ _ _ need (fun v u=>v=_∧u=[]) (fun _ _=>False)).ok
 refine pc (n:=9) (rs:=[.tmp 2]) Tryz.func156 rfl rfl (by decide) rfl rfl rfl ?_;rintro x rfl hrd hng
 refine qw0 ?_
 refine az nmd [] hng (by kernel_rfl) fun hf C S K hC1 hC hS hK=>?_;simp (disch:=first|omega|assumption) only [go_sem]
 refine hC _ _ _ (pH gf cap need N Sq hN _ (fun q hq h=>hnp q hq (Oid.aj h)) hna fun p' h=>hseq p' (Oid.aj h)) hcon ?_ (fun _ _ h=>h.elim)
 rintro val upd ⟨l,L',hSq,hr,rfl⟩
 have hp:=hall l hSq
 have hse:bY l=bY l0:=k8 hp
 rcases hr with ⟨rfl,rfl,rfl⟩|⟨hl,id,rfl,rfl,hid⟩
 ·simp (disch:=first|omega|assumption) only [go_sem,eL,List.map_nil]
  refine hK ?_;clear hK hS hC hC1 K S C hf
  (repeat (first|(refine aA rfl rfl ?_)|(refine aB rfl rfl ?_)|(refine az nmd [] hng (by kernel_rfl) fun hf C S K hC1 hC hS hK=>?_;simp (disch:=first|omega|assumption) only [go_sem];refine hK ?_;clear hK hS hC hC1 K S C hf)|((first|refine zv ?_|refine zw ?_|refine zu ?_);with_reducible (constructor;repeat constructor);try refine zl ?_)))
  refine qr1 (oq _) ?_
  refine td ?_
  refine rq 3 1 rfl ?_
  refine qw0 ?_
  exact ar (cn (.list 1 ((bY l0).map .str)) [] (by rw [← hse,show bY []=[] by simp [bY]];rfl) ⟨rfl,rfl⟩ fun _ _ h=>h)
 ·have hid2:=Oid.aj hid
  have hnid:∀ q ∈ need,¬ q.1=id:=fun q hq e=>hnp q hq (e ▸ hid2)
  simp (disch:=first|omega|assumption) only [go_sem,eL,List.map_cons,List.map_nil]
  refine hK ?_;clear hK hS hC hC1 K S C hf
  (repeat (first|(refine aA rfl rfl ?_)|(refine aB rfl rfl ?_)|(refine az nmd [] hng (by kernel_rfl) fun hf C S K hC1 hC hS hK=>?_;simp (disch:=first|omega|assumption) only [go_sem];refine hK ?_;clear hK hS hC hC1 K S C hf)|((first|refine zv ?_|refine zw ?_|refine zu ?_);with_reducible (constructor;repeat constructor);try refine zl ?_)))
  have hlen:l.length≤2000000000000:=by rw [hp.length_eq];omega
  refine az nmd [] hng (by kernel_rfl) fun hf C S K hC1 hC hS hK=>?_;simp (disch:=first|omega|assumption) only [go_sem]
  refine hC1 _ (pD l hl (by omega) id _) (by simp (disch:=first|omega|assumption) only [go_sem,aH]) ?_
  simp (disch:=first|omega|assumption) only [go_sem]
  refine hK ?_;clear hK hS hC hC1 K S C hf
  refine td ?_
  refine cm id 1 ((bY l).map .str) (by simp (disch:=first|omega|assumption) only [go_sem,aH]) ?_
  simp (disch:=first|omega|assumption) only [go_sem,iz]
  refine qw0 ?_
  refine ar (cn (.list 1 ((bY l0).map .str)) [] (by rw [← hse];rfl) ⟨rfl,rfl⟩ fun i o h=>?_)
  have h':Mem.of need i=some o:=h
  have hi:¬ i=id:=fun e=>by obtain ⟨q,h1,h2,h3⟩:=Mem.cF h';exact hnid q h1 (h2.trans e)
  rw [aH,if_neg hi,aH,if_neg hi,aH,if_neg hi];exact h'
def ku (n:Str) (es:List ME):List Str:=es.filterMap fun e=>ck n (gG e)
theorem uD (o:Oid) (n:Str) (p:Oid) (ho:¬ Oid.under p o):ak Tryz.prog 157 [.map o,.str n] (Oid.under p) ⟨[],.fn (.func 176) [] [.ptr (.sub 0 0 p) 0,.ptr (.sub 0 1 p) 0],[(.sub 0 0 p,some (.cells [.map o])),(.sub 0 1 p,some (.cells [.str n]))]⟩:=by
 refine aK (n:=6) (rs:=[.tmp 4]) Tryz.func157 rfl rfl (by decide) rfl rfl rfl ?_;rintro x rfl hrd hng
 refine qw0 ?_
 refine ar (cn _ _ rfl ⟨rfl,rfl⟩ ?_)
 intro i o' h
 rw [Mem.aN] at h
 exact h
theorem uE (o:Oid) (n:Str) (hln:n.length≤140737488355000) (es:List ME) (clock:Nat) (hkl:∀ e ∈ es,(gG e).length≤140737488355328) (hel:es.length≤2000000000000) (p:Oid) (ho:¬ Oid.under p o) :
  ak Tryz.prog 132 [.map o,.str n] (Oid.under p) ⟨[(o,.map [.ss] false es clock)],.list 1 ((bY (ku n es)).map .str),[]⟩:=by
 refine aK (n:=9) (rs:=[.tmp 4]) Tryz.func132 rfl rfl (by decide) rfl rfl rfl ?_;rintro x rfl hrd hng
 have hu12:∀ j,Oid.under (.sub 1 2 x.p) (.sub 0 j (.sub 1 2 x.p)):=fun j=>Oid.aj (Oid.ah _)
 have hapt:∀ j p',Oid.under (.sub 1 3 x.p) p'→¬ Oid.under p' (.sub 0 j (.sub 1 2 x.p)):=fun j p' h h2=>by
  have:=(Oid.apart (Oid.fm h h2) (hu12 j)).2
  omega
 refine qw0 ?_
 refine az nmd [] hng (by kernel_rfl) fun hf C S K hC1 hC hS hK=>?_;simp (disch:=first|omega|assumption) only [go_sem]
 refine hC1 _ (uD o n _ (fun h=>ho (Oid.aj h))) qs0 ?_
 simp (disch:=first|omega|assumption) only [go_sem]
 refine hC1 _ (rO 176 [.ptr (.sub 0 0 (.sub 1 2 x.p)) 0,.ptr (.sub 0 1 (.sub 1 2 x.p)) 0] [(.sub 0 0 (.sub 1 2 x.p),.cells [.map o]),(.sub 0 1 (.sub 1 2 x.p),.cells [.str n]),(o,.map [.ss] false es clock)] es.length (ku n es) _ hel (List.length_filterMap_le _ _) _ ?_ ?_
  (fun p' hp=>rN (.sub 0 0 (.sub 1 2 x.p)) (.sub 0 1 (.sub 1 2 x.p)) o n hln es clock hkl p' ?_ ?_ ?_ ?_ ?_ ?_) ?_) ?_ ?_
 ·intro q hq
  simp only [List.mem_cons,List.not_mem_nil,or_false] at hq
  rcases hq with rfl|rfl|rfl
  ·exact hapt 0 _ (Oid.ah _)
  ·exact hapt 1 _ (Oid.ah _)
  ·exact fun h=>ho (Oid.aj h)
 ·intro q hq
  simp only [List.mem_cons,List.not_mem_nil,or_false] at hq
  rcases hq with rfl|rfl|rfl<;>(intro sz xs e;cases e)
 ·exact fun e=>ho (e ▸ Oid.aj (hu12 0))
 ·exact fun e=>ho (e ▸ Oid.aj (hu12 1))
 ·simp
 ·exact hapt 0 _ hp
 ·exact hapt 1 _ hp
 ·exact fun h=>ho (Oid.aj (Oid.fm hp h))
 ·intro l hl
  obtain ⟨U,h1,h2⟩:=hl rfl
  rw [str_inj h2]
  exact h1.filterMap _
 ·have h0:=fun j=>Oid.aa (fun h=>ho (Oid.aj h):¬ Oid.under (.sub 1 2 x.p) o) 0 j
  have h1:=fun j=>Oid.ab (fun h=>ho (Oid.aj h):¬ Oid.under (.sub 1 2 x.p) o) 0 j
  simp only [bc,bp,Mem.al,Mem.aL,Mem.aN,Mem.aU,bI,bV,List.cons_append,List.nil_append,List.append_nil,↓reduceIte,eq_self,and_true,true_and,and_self,and_false,false_and,reduceCtorEq,Oid.sub.injEq,Nat.reduceEqDiff,aH,h0,h1]
 ·simp (disch:=first|omega|assumption) only [go_sem]
  refine hK ?_;clear hK hS hC hC1 K S C hf
  refine qw0 ?_
  refine ar (cn _ _ rfl ⟨rfl,rfl⟩ fun i o' h=>?_)
  have h':Mem.of [(o,af.map [.ss] false es clock)] i=some o':=h
  rw [Mem.al] at h'
  split at h'
  ·rename_i e
   subst e
   have h0:=fun j=>Oid.aa (fun h=>ho (Oid.aj h):¬ Oid.under (.sub 1 2 x.p) i) 0 j
   have h1:=fun j=>Oid.ab (fun h=>ho (Oid.aj h):¬ Oid.under (.sub 1 2 x.p) i) 0 j
   simp only [bc,bp,Mem.al,Mem.aL,Mem.aN,Mem.aU,bI,bV,List.cons_append,List.nil_append,List.append_nil,↓reduceIte,eq_self,and_true,true_and,and_self,and_false,false_and,reduceCtorEq,Oid.sub.injEq,Nat.reduceEqDiff,aH,h0,h1]
   exact h'
  ·cases h'
end Go.Proofs.YtpficjpdfbiedaaGreatDoor
namespace Go.Proofs.YtpficjpdfbiedaaGreatDoor
open Go Go.Ab
set_option maxRecDepth 20000
set_option maxHeartbeats 4000000
end Go.Proofs.YtpficjpdfbiedaaGreatDoor
namespace Go.Ab
section
variable {P:Program} [Laid P] {x:Ctx} {n:Nat} {Q:AX→AS→Prop} {fr:List (Nat × AV)} {m:Mem} {c:Nat} {ds:List AD} {ks:List Pc}
theorem ao.cells {x:Ctx} {g:Gh} {m:Mem} {w:World} (h:ao x g m w) {i:Oid} {vs ws:List AV} (hi:m i=some (.cells vs)) (hw:cU vs ws):ao x g (m.set i (some (.cells ws))) w:=by
 obtain ⟨b,hb,_,_,cc,t,fz,h1,h2,h3,h4⟩:=h.obj i _ hi
 exact h.gN hi hb rfl rfl ⟨rfl,Nat.le_refl _⟩ (Nat.le_refl _) (fun _ _ _=>rfl) (fun r hr=>h.rows b r hr) (fun _ t' fz' h9=>⟨_,_,h9⟩)
  ⟨cc,t,fz,h1,h2.trans hw.length,h3,fun j hj=>hw.at j _ _ (h4 j (by rw [hw.length];exact hj))⟩
def Gho (x:Ctx) (n:Nat) (R:AS→Prop) (s:AS):Prop:=∀ g a w,Rel x n g s a w→∃ g' s',Rel x n g' s' a w∧R s'
theorem Gho.now {R:AS→Prop} {s:AS} (h:R s):Gho x n R s:=fun g _ _ hr=>⟨g,s,hr,h⟩
theorem Gho.step {R:AS→Prop} {s s':AS} (hg:∀ g a w,Rel x n g s a w→∃ g',Rel x n g' s' a w) (h:Gho x n R s'):Gho x n R s:=fun g a w hr=>let ⟨g',hr'⟩:=hg g a w hr;h g' a w hr'
theorem Rel.cells {g:Gh} {a:Act} {w:World} (hr:Rel x n g ⟨fr,m,c,ds⟩ a w) (i:Oid) (vs ws:List AV) (hi:m i=some (.cells vs)) (hw:cU vs ws):∃ g',Rel x n g' ⟨fr,m.set i (some (.cells ws)),c,ds⟩ a w :=
 ⟨g,hr.mr.cells hi hw,hr.tm,hr.df,hr.fr,hr.young⟩
theorem wI {a:Code} (i:Oid) (vs ws:List AV) (hi:m i=some (.cells vs)) (hw:cU vs ws) (h:T P x n a ⟨fr,m.set i (some (.cells ws)),c,ds⟩ Q):T P x n a ⟨fr,m,c,ds⟩ Q :=
 eU (s:=⟨fr,m,c,ds⟩) ⟨fr,m.set i (some (.cells ws)),c,ds⟩ (fun _ _ _ hr=>hr.cells i vs ws hi hw) h
theorem Rel.freeze {g:Gh} {a:Act} {w:World} (hr:Rel x n g ⟨fr,m,c,ds⟩ a w) (i:Oid) (sz:Nat) (xs:List AV) (hi:m i=some (.arr sz xs)) :
  ∃ g',Rel x n g' ⟨frz i sz xs fr,m.set i none,c,ds⟩ a w∧g.le g'∧g'.loc=g.loc∧∀ v u,VR g v u→VR g' (mg i sz xs v) u:=by
 obtain ⟨g',h1,h2,h3,h4⟩:=hr.mr.freeze hi
 have key:∀ v u,VR g v u→VR g' (mg i sz xs v) u:=fun v u hv=>by
  unfold mg
  split
  ·split
   ·rename_i e
    obtain ⟨rfl,rfl,rfl⟩:=e
    have:=h4 _ _ hv (Nat.le_refl _)
    rwa [List.take_length] at this
   ·exact hv.mono h1
  ·exact hv.mono h1
 exact ⟨g',⟨h3,hr.tm,hr.df.mono h1,fun t ht=>by rw [tf];exact key _ _ (hr.fr t ht),fun k hk=>by rw [h2];exact hr.young k hk⟩,h1,by funext k;exact h2 k,key⟩
inductive Frz (i:Oid) (sz:Nat) (xs:List AV):List AV→List AV→Prop
 | nil:Frz i sz xs [] []
 | keep {v:AV} {vs ws:List AV} (h:Frz i sz xs vs ws):Frz i sz xs (v::vs) (v::ws)
 | gN {n:Nat} {vs ws:List AV} (hn:n=xs.length) (h:Frz i sz xs vs ws):Frz i sz xs (.sl i sz n::vs) (.list sz xs::ws)
theorem Frz.at {i:Oid} {sz:Nat} {xs vs ws:List AV} (h:Frz i sz xs vs ws):vs.length=ws.length∧∀ j,ws.getD j .undef=vs.getD j .undef∨ws.getD j .undef=mg i sz xs (vs.getD j .undef):=by
 induction h with
 | nil=>exact ⟨rfl,fun _=>.inl rfl⟩
 | keep _ ih =>
  refine ⟨by simp [ih.1],fun j=>?_⟩
  cases j with
  | zero=>exact .inl rfl
  | succ j=>simpa using ih.2 j
 | gN hn _ ih =>
  refine ⟨by simp [ih.1],fun j=>?_⟩
  cases j with
  | zero=>right;simp [mg,hn]
  | succ j=>simpa using ih.2 j
theorem Rel.wJ {g:Gh} {a:Act} {w:World} (hr:Rel x n g ⟨fr,m,c,ds⟩ a w) (i j:Oid) (sz:Nat) (xs vs ws:List AV) (hi:m i=some (.arr sz xs)) (hj:m j=some (.cells vs)) (hij:¬ j=i) (hw:Frz i sz xs vs ws) :
  ∃ g',Rel x n g' ⟨frz i sz xs fr,(m.set i none).set j (some (.cells ws)),c,ds⟩ a w:=by
 obtain ⟨g',hr',h1,h2,key⟩:=hr.freeze i sz xs hi
 refine ⟨g',?_,hr'.tm,hr'.df,hr'.fr,hr'.young⟩
 obtain ⟨b',hb,_,_,cc,t,fz,k1,k2,k3,k4⟩:=hr.mr.obj j _ hj
 have hj':(m.set i none) j=some (.cells vs):=by simp only [Mem.set,if_neg hij];exact hj
 have h3:=hr'.mr
 refine h3.gN hj' (by rw [h2];exact hb) rfl rfl ⟨rfl,Nat.le_refl _⟩ (Nat.le_refl _) (fun _ _ _=>rfl) (fun r hr'=>h3.rows b' r hr') (fun _ t' fz' h9=>⟨_,_,h9⟩)
  ⟨cc,t,fz,k1,k2.trans hw.at.1,k3,fun q hq=>?_⟩
 have k5:=k4 q (by rw [hw.at.1];exact hq)
 rcases hw.at.2 q with e|e<;>rw [e]
 ·exact k5.mono h1
 ·exact key _ _ k5
theorem rP {a:Code} (i j:Oid) (sz:Nat) (xs vs ws:List AV) (hi:m i=some (.arr sz xs)) (hj:m j=some (.cells vs)) (hij:¬ j=i) (hw:Frz i sz xs vs ws) (h:T P x n a ⟨frz i sz xs fr,(m.set i none).set j (some (.cells ws)),c,ds⟩ Q):T P x n a ⟨fr,m,c,ds⟩ Q :=
 eU (s:=⟨fr,m,c,ds⟩) ⟨frz i sz xs fr,(m.set i none).set j (some (.cells ws)),c,ds⟩ (fun _ _ _ hr=>hr.wJ i j sz xs vs ws hi hj hij hw) h
end
theorem eC.wK (sz:Nat):eC .nilSl (.list sz []):=fun _ _ h=>by rw [h.bh];exact .listNil _
theorem cU.refl:∀ l:List AV,cU l l
 | []=>.nil
 | _::l=>.cons (.refl _) (cU.refl l)
end Go.Ab
namespace Go.Proofs.YtpficjpdfbiedaaGreatDoor
open Go Go.Ab
abbrev PL:=List (Str × Bits)
theorem eR (a b:UInt8) (x y:Str):ltS (a::x) (b::y)=true↔a.toNat < b.toNat∨(a.toNat=b.toNat∧ltS x y=true):=by
 simp only [ltS,Op.bytesLess,Bool.or_eq_true,Bool.and_eq_true,decide_eq_true_eq,beq_iff_eq,UInt8.lt_iff_toNat_lt,← UInt8.toNat_inj]
theorem lM:∀ a b c:Str,ltS a b=true→ltS b c=true→ltS a c=true
 | [],_,[],_,h=>by cases ‹Str› <;> simp [ltS,Op.bytesLess] at h
 | [],_,_::_,_,_=>rfl
 | _::_,[],_,h,_=>by simp [ltS,Op.bytesLess] at h
 | _::_,_::_,[],_,h=>by simp [ltS,Op.bytesLess] at h
 | a::x,b::y,c::z,h1,h2=>by
  rw [eR] at h1 h2 ⊢
  rcases h1 with h1|⟨h1,h3⟩<;>rcases h2 with h2|⟨h2,h4⟩
  ·exact .inl (by omega)
  ·exact .inl (by omega)
  ·exact .inl (by omega)
  ·exact .inr ⟨by omega,lM x y z h3 h4⟩
theorem qF:∀ a:Str,ltS a a=false
 | []=>rfl
 | a::x=>by
  have:=qF x
  rw [Bool.eq_false_iff] at this ⊢
  intro h
  rw [eR] at h
  rcases h with h|⟨_,h⟩
  ·omega
  ·exact this h
theorem qG:∀ a b:Str,ltS a b=false→ltS b a=false→a=b
 | [],[],_,_=>rfl
 | [],_::_,h,_=>by simp [ltS,Op.bytesLess] at h
 | _::_,[],_,h=>by simp [ltS,Op.bytesLess] at h
 | a::x,b::y,h1,h2=>by
  rw [Bool.eq_false_iff] at h1 h2
  have h3:=fun h=>h1 ((eR a b x y).2 h)
  have h4:=fun h=>h2 ((eR b a y x).2 h)
  have hab:a.toNat=b.toNat:=by
   rcases Nat.lt_trichotomy a.toNat b.toNat with h|h|h
   ·exact absurd (.inl h) h3
   ·exact h
   ·exact absurd (.inl h) h4
  have:=qG x y (by rw [Bool.eq_false_iff];exact fun h=>h3 (.inr ⟨hab,h⟩)) (by rw [Bool.eq_false_iff];exact fun h=>h4 (.inr ⟨hab.symm,h⟩))
  rw [this,UInt8.toNat_inj.1 hab]
theorem qH:∀ (p a b:Str),ltS (p++a) (p++b)=ltS a b
 | [],_,_=>rfl
 | c::p,a,b=>by
  have ih:=qH p a b
  rw [Bool.eq_iff_iff,List.cons_append,List.cons_append,eR,ih]
  constructor
  ·rintro (h|⟨_,h⟩)
   ·omega
   ·exact h
  ·exact fun h=>.inr ⟨rfl,h⟩
theorem uF:∀ {a b:Str},ltS a b=true→a < b
 | [],[],h=>by simp [ltS,Op.bytesLess] at h
 | [],_::_,_=>by simp
 | _::_,[],h=>by simp [ltS,Op.bytesLess] at h
 | a::x,b::y,h=>by
  rw [eR] at h
  rw [List.cons_lt_cons_iff,UInt8.lt_iff_toNat_lt,← UInt8.toNat_inj]
  exact h.imp id fun ⟨h1,h2⟩=>⟨h1,uF h2⟩
def ltB (a b:Str):Prop:=ltS a b=true
instance:DecidableRel ltB:=fun a b=>inferInstanceAs (Decidable (ltS a b=true))
theorem uG:Ord ltB where
 irr a h:=by rw [ltB,qF] at h;cases h
 tr:=lM
 tot a b h hn:=by
  cases h2:ltS b a with
  | true=>exact h2
  | false=>exact absurd (qG a b (Bool.eq_false_iff.2 h) h2) hn
def ou (L:PL) (n:Str):Bits:=if n=[] then ⟨2,7,[]⟩ else (cx n L).getD Bits.no
def pI (n:Str) (b:Bits) (L:PL):PL:=if n=[] then L else kp ltB n (if b.k=0 then none else some b) L
def dr (L:PL) (n:Str):List Str:=L.filterMap fun q=>ck n q.1
def jA (es:List ME) (L:PL):Prop:=uA AV.str Bits.av es L
theorem encS:tQ AV.str:=rL
theorem uH:jA [] []:=uB
theorem uI {es:List ME} {L:PL} (h:jA es L) (n:Str):gX (.str n) (.agg [.int .i64 0,.int .i64 0,.str []]) es=((cx n L).getD Bits.no).av:=by
 rw [uC encS h]
 cases cx n L<;>rfl
theorem rQ {L:PL} (hs:cW ltB L) (n:Str) (b:Bits):cW ltB (pI n b L):=by
 unfold pI
 split
 ·exact hs
 ·exact fV uG _ _ hs
theorem pJ {k p:Str} (h:iy k p=true):k=p++k.drop p.length:=by
 simp only [iy,Bool.and_eq_true,decide_eq_true_eq] at h
 have:=List.take_append_drop p.length k
 rw [h.2] at this
 exact this.symm
theorem fI {n k r:Str} (h:ck n k=some r):k=(n++[47])++r:=by
 unfold ck at h
 split at h
 ·rename_i hc
  simp only [Option.some.injEq] at h
  have:=pJ hc.1
  rw [← h]
  simpa using this
 ·cases h
theorem rR {L:PL} (hs:cW ltB L) (n:Str):(dr L n).Pairwise (· ≤ ·):=by
 unfold dr
 rw [List.pairwise_filterMap]
 refine hs.imp fun {a b} h r hr r' hr'=>?_
 rw [ltB,fI hr,fI hr',qH] at h
 exact List.le_of_lt (uF h)
theorem rS {es:List ME} {L:PL} (h:jA es L) (hs:cW ltB L) (n:Str):bY (ku n es)=dr L n:=by
 refine uz ?_ (rR hs n)
 obtain ⟨E,rfl,h2,_⟩:=h
 have h3:ku n (E.map (wG AV.str Bits.av))=(E.map prj).filterMap fun q=>ck n q.1:=by
  unfold ku
  rw [List.filterMap_map,List.filterMap_map]
  rfl
 rw [h3]
 exact h2.filterMap _
structure POk (L:PL):Prop where
 len:L.length≤1000000
 key:∀ q ∈ L,q.1.length≤1000000
 val:∀ q ∈ L,q.2.ok
theorem uJ {es:List ME} {L:PL} (h:jA es L):es.length=L.length:=by
 obtain ⟨E,rfl,h2,_⟩:=h
 rw [List.length_map,← h2.length_eq,List.length_map]
theorem uK {es:List ME} {L:PL} (h:jA es L) (ho:POk L):∀ e ∈ es,(gG e).length≤1000000:=by
 obtain ⟨E,rfl,h2,_⟩:=h
 intro e he
 obtain ⟨q,h3,rfl⟩:=List.mem_map.1 he
 exact ho.key (prj q) (h2.mem_iff.1 (List.mem_map_of_mem h3))
theorem pL {L:PL} (ho:POk L) {n r:Str} (h:r ∈ dr L n):r.length≤1000000:=by
 obtain ⟨q,h1,h2⟩:=List.mem_filterMap.1 h
 have h3:=ho.key q h1
 rw [fI h2,List.length_append] at h3
 omega
theorem wL {l:List Str} {k:Nat} (hk:k≤4000000000) (h:∀ s ∈ l,s.length≤k):(aC l).length≤l.length * (k+100):=by
 induction l with
 | nil=>simp [aC]
 | cons a l ih =>
  have h1:=ih fun s hs=>h s (List.mem_cons_of_mem _ hs)
  have h2:=h a List.mem_cons_self
  have h3:=bs a
  have h4:=Lib.itoa_length_le a.length (by omega) (by omega)
  simp only [aC,List.length_append,List.length_cons,Nat.add_mul,Nat.one_mul]
  omega
theorem pM {L:PL} (ho:POk L) (n:Str):(aC (dr L n)).length≤100000000000000∧(dr L n).length≤1000000:=by
 have h1:=wL (k:=1000000) (by decide) fun s hs=>pL ho (n:=n) hs
 have h2:(dr L n).length≤L.length:=List.length_filterMap_le _ _
 have h3:=ho.len
 refine ⟨Nat.le_trans h1 ?_,by omega⟩
 have:(dr L n).length * (1000000+100)≤1000000 * (1000000+100):=Nat.mul_le_mul_right _ (by omega)
 omega
end Go.Proofs.YtpficjpdfbiedaaGreatDoor
namespace Go.Proofs.YtpficjpdfbiedaaGreatDoor
open Go Go.Ab
set_option maxRecDepth 20000
set_option maxHeartbeats 4000000
instance:Inhabited Bits:=⟨Bits.no⟩
end Go.Proofs.YtpficjpdfbiedaaGreatDoor
namespace Go.Proofs.YtpficjpdfbiedaaGreatDoor
open Go Go.Ab
set_option maxRecDepth 20000
set_option maxHeartbeats 4000000
end Go.Proofs.YtpficjpdfbiedaaGreatDoor
namespace Go.Proofs.YtpficjpdfbiedaaGreatDoor
open Go Go.Ab
set_option maxRecDepth 20000
set_option maxHeartbeats 4000000
abbrev WL:=List (Str × Unit)
end Go.Proofs.YtpficjpdfbiedaaGreatDoor
namespace Go.Proofs.YtpficjpdfbiedaaGreatDoor
open Go Go.Ab
set_option maxRecDepth 20000
set_option maxHeartbeats 4000000
def yP (tr:Bool) (n:Str) (W:WL):WL:=if n=[] then W else if tr then kp ltB n (some ()) W else W
end Go.Proofs.YtpficjpdfbiedaaGreatDoor
namespace Go.Proofs.YtpficjpdfbiedaaGreatDoor
open Go Go.Ab
set_option maxRecDepth 20000
set_option maxHeartbeats 4000000
end Go.Proofs.YtpficjpdfbiedaaGreatDoor
namespace Go.Proofs.YtpficjpdfbiedaaGreatDoor
open Go Go.Ab
set_option maxRecDepth 20000
set_option maxHeartbeats 4000000
end Go.Proofs.YtpficjpdfbiedaaGreatDoor
namespace Go.Proofs.YtpficjpdfbiedaaGreatDoor
open Go Go.Ab
set_option maxRecDepth 20000
set_option maxHeartbeats 4000000
end Go.Proofs.YtpficjpdfbiedaaGreatDoor
namespace Go.Proofs.YtpficjpdfbiedaaGreatDoor
open Go Go.Ab
set_option maxRecDepth 20000
set_option maxHeartbeats 4000000
theorem uL (n:Str) (b:Bits) (L:PL):(pI n b L).length≤L.length+1:=by
 unfold pI
 split
 ·omega
 ·generalize (if b.k=0 then none else some b)=o
  induction L with
  | nil=>cases o<;>simp [kp,k9]
  | cons q L ih =>
   simp only [kp]
   split
   ·simp only [List.length_cons];omega
   ·have:(k9 n o).length≤1:=by cases o<;>simp [k9]
    simp only [List.length_append,List.length_cons]
    split
    ·omega
    ·rw [List.length_cons];omega
theorem kv {n:Str} {b:Bits} {L:PL} {q:Str × Bits} (h:q ∈ pI n b L):q=(n,b)∨q ∈ L:=by
 unfold pI at h
 split at h
 ·exact .inr h
 ·refine (kq h).imp (fun h=>?_) id
  obtain ⟨h1,h2⟩:=kr h
  split at h2
  ·cases h2
  ·simp only [Option.some.injEq] at h2
   rw [Prod.ext_iff];exact ⟨h1,h2.symm⟩
end Go.Proofs.YtpficjpdfbiedaaGreatDoor
namespace Go.Proofs.YtpficjpdfbiedaaGreatDoor
open Go Go.Ab
set_option maxRecDepth 20000
set_option maxHeartbeats 4000000
abbrev RL:=List ((Str × Bool) × Str)
def ltF (a b:Str × Bool):Prop:=ltB a.1 b.1∨(a.1=b.1∧a.2=false∧b.2=true)
instance:DecidableRel ltF:=fun a b=>inferInstanceAs (Decidable (ltB a.1 b.1∨(a.1=b.1∧a.2=false∧b.2=true)))
theorem z1:Ord ltF where
 irr a h:=by
  rcases h with h|⟨_,h1,h2⟩
  ·exact uG.irr _ h
  ·rw [h1] at h2;cases h2
 tr a b c h1 h2:=by
  rcases h1 with h1|⟨h1,h3,h4⟩<;>rcases h2 with h2|⟨h2,h5,h6⟩
  ·exact .inl (uG.tr _ _ _ h1 h2)
  ·exact .inl (h2 ▸ h1)
  ·exact .inl (h1 ▸ h2)
  ·rw [h4] at h5;cases h5
 tot a b h hn:=by
  obtain ⟨a1,a2⟩:=a
  obtain ⟨b1,b2⟩:=b
  by_cases he:a1=b1
  ·subst he
   right
   refine ⟨rfl,?_,?_⟩
   ·cases b2 with
    | false=>rfl
    | true =>
     cases a2 with
     | false=>exact absurd (.inr ⟨rfl,rfl,rfl⟩) h
     | true=>exact absurd rfl hn
   ·cases a2 with
    | true=>rfl
    | false =>
     cases b2 with
     | false=>exact absurd rfl hn
     | true=>exact absurd (.inr ⟨rfl,rfl,rfl⟩) h
  ·exact .inl (uG.tot a1 b1 (fun h'=>h (.inl h')) he)
def wM (q:Str × Bool):AV:=.agg [.str q.1,.bool q.2]
def tchAV (q:(Str × Bool) × Str):AV:=.agg [.str q.1.1,.bool q.1.2,.str q.2]
def pN (L:PL) (f:Str × Bool):Str:=if f.2=true then aC (dr L f.1) else pC (ou L f.1)
def uM (old:PL) (W:WL) (f:Str × Bool) (R:RL):RL:=if f.2=false∧(cx f.1 W).isSome=true then R else if (cx f R).isSome=true then R else kp ltF f (some (pN old f)) R
theorem wN {L:PL} (h:POk L) (n:Str):(ou L n).ok:=by
 unfold ou
 split
 ·exact ⟨⟨by decide,by decide⟩,⟨by decide,by decide⟩,by decide⟩
 ·cases h2:cx n L with
  | none=>exact ⟨⟨by decide,by decide⟩,⟨by decide,by decide⟩,by decide⟩
  | some b =>
   have:∀ {L:PL},cx n L=some b→∃ q ∈ L,q.2=b:=by
    intro L
    induction L with
    | nil=>intro h;cases h
    | cons q L ih =>
     intro h
     simp only [cx] at h
     split at h
     ·exact ⟨q,List.mem_cons_self,Option.some.inj h⟩
     ·obtain ⟨q',h3,h4⟩:=ih h;exact ⟨q',List.mem_cons_of_mem _ h3,h4⟩
   obtain ⟨q,h3,h4⟩:=this h2
   rw [Option.getD_some,← h4]
   exact h.val q h3
def zH (L:PL):Prop:=∀ q ∈ L,0≤q.2.k∧0≤q.2.m
end Go.Proofs.YtpficjpdfbiedaaGreatDoor
namespace Go.Proofs.YtpficjpdfbiedaaGreatDoor
open Go Go.Ab
set_option maxRecDepth 20000
set_option maxHeartbeats 4000000
theorem rT (o:Oid) (eso:List ME) (co:Nat) (old:PL) (hm:jA eso old) (hs:cW ltB old) (ho:POk old) (n:Str) (hn:n.length≤140737488355000) (f:Bool) (p:Oid) (hp:p.mono=false) (u1:¬ Oid.under p o) :
  ak Tryz.prog 105 [.map o,wM (n,f)] (Oid.under p) ⟨[(o,.map [.ss] false eso co)],.str (pN old (n,f)),[]⟩:=by
 have u1':∀ c i,¬ Oid.under (.sub c i p) o:=fun c i h=>u1 (Oid.aj h)
 have hkl:=fun e he=>Nat.le_trans (uK hm ho e he) (show 1000000≤140737488355328 by decide)
 have hol:=ho.len
 have hel:eso.length≤2000000000000:=by rw [uJ hm];omega
 have hnm:=fun p h=>uE o n hn eso co hkl hel p h
 rw [rS hm hs] at hnm
 obtain ⟨l1,l2⟩:=pM ho n
 have hen:=fun p hp=>cZ (dr old n) (by omega) (by omega) p hp
 have hat:=fun p h=>zG o o eso co p h h n ((cx n old).getD Bits.no) (uI hm n)
 have hgp:(if n=[] then (⟨2,7,[]⟩:Bits) else (cx n old).getD Bits.no)=ou old n:=rfl
 rw [hgp] at hat
 have hv:=fun p hp=>ux (ou old n) (wN ho n) p hp
 simp only [wM]
 refine aK (n:=17) (rs:=[.tmp 4]) Tryz.func105 rfl rfl (by decide) rfl rfl rfl ?_;rintro x rfl hrd hng
 refine qr .o (uu u1) trivial ?_
 cases f with
 | true =>
  rw [show pN old (n,true)=aC (dr old n) from if_pos rfl]
  generalize dr old n=A at *
  (repeat (first|(refine aA rfl rfl ?_)|(refine aB rfl rfl ?_)|(refine az nmd [] hng (by kernel_rfl) fun hf C S K hC1 hC hS hK=>?_;simp (disch:=first|omega|assumption) only [go_sem,Oid.aa u1,Oid.ab u1];(repeat ((first|refine hC1 _ (hnm _ (u1' _ _)) (by simp (disch:=first|omega|assumption) only [go_sem]) ?_|refine hC1 _ (hen _ (ay rfl hp)) (by simp (disch:=first|omega|assumption) only [go_sem]) ?_);simp (disch:=first|omega|assumption) only [go_sem]));refine hK ?_;clear hK hS hC hC1 K S C hf)|((first|refine zn ?_|refine ze ?_|refine zk ?_);with_reducible (constructor;repeat constructor);try refine zl ?_)))
  refine ar (a7 rfl ?_ ?_)
  all_goals simp only [List.mem_cons,List.not_mem_nil,or_false,forall_eq_or_imp,forall_eq,Option.some.injEq,forall_eq',Mem.al,eq_self,if_true,↓reduceIte,reduceCtorEq,implies_true,not_true_eq_false,false_imp_iff,true_and,and_true,false_and,and_false,imp_self,Oid.aa u1,Oid.ab u1]
 | false =>
  rw [show pN old (n,false)=pC (ou old n) from if_neg Bool.false_ne_true]
  generalize ou old n=B at *
  simp only [Bits.av] at hat hv
  (repeat (first|(refine aA rfl rfl ?_)|(refine aB rfl rfl ?_)|(refine az nmd [] hng (by kernel_rfl) fun hf C S K hC1 hC hS hK=>?_;simp (disch:=first|omega|assumption) only [go_sem,Oid.aa u1,Oid.ab u1];(repeat ((first|refine hC1 _ (hat _ (u1' _ _)) (by simp (disch:=first|omega|assumption) only [go_sem]) ?_|refine hC1 _ (hv _ (ay rfl hp)) (by simp (disch:=first|omega|assumption) only [go_sem]) ?_);simp (disch:=first|omega|assumption) only [go_sem]));refine hK ?_;clear hK hS hC hC1 K S C hf)|((first|refine zn ?_|refine ze ?_|refine zk ?_);with_reducible (constructor;repeat constructor);try refine zl ?_)))
  refine ar (a7 rfl ?_ ?_)
  all_goals simp only [List.mem_cons,List.not_mem_nil,or_false,forall_eq_or_imp,forall_eq,Option.some.injEq,forall_eq',Mem.al,eq_self,if_true,↓reduceIte,reduceCtorEq,implies_true,not_true_eq_false,false_imp_iff,true_and,and_true,false_and,and_false,imp_self,Oid.aa u1,Oid.ab u1]
section
variable (st t tr o rd wr:Oid) (hn:[wr,rd,o,tr,t,st].Nodup) (es eso esr esw:List ME) (clock co cr cw:Nat)
include hn
end
end Go.Proofs.YtpficjpdfbiedaaGreatDoor
namespace Go.Proofs.YtpficjpdfbiedaaGreatDoor
open Go Go.Ab
set_option maxRecDepth 100000
set_option maxHeartbeats 2000000
end Go.Proofs.YtpficjpdfbiedaaGreatDoor
namespace Go.Proofs.YtpficjpdfbiedaaGreatDoor
open Go Go.Ab
set_option maxRecDepth 20000
set_option maxHeartbeats 4000000
section
variable (st t tr o rd wr:Oid) (hn:[wr,rd,o,tr,t,st].Nodup) (es eso esr esw:List ME) (clock co cr cw:Nat)
include hn
end
end Go.Proofs.YtpficjpdfbiedaaGreatDoor
namespace Go.Ab
open Go.Proofs Go.Shelf Go.Sort
section
variable {α:Type} [Inhabited α] (enc:α→List Value) (k:Nat)
end
end Go.Ab
namespace Go.Proofs
end Go.Proofs
namespace Go.Proofs.YtpficjpdfbiedaaGreatDoor
open Go Go.Ab
open Go.Proofs (ltOf)
set_option maxRecDepth 20000
set_option maxHeartbeats 4000000
abbrev Tch:=(Str × Bool) × Str
instance:Inhabited Tch:=⟨(([],false),[])⟩
end Go.Proofs.YtpficjpdfbiedaaGreatDoor
namespace Go.Proofs.YtpficjpdfbiedaaGreatDoor
open Go Go.Ab
set_option maxRecDepth 20000
theorem qI:∀ (k:Nat) (s:Str) (l:List Str),s.length≤k→dD s=some l→aC l=s
 | 0,s,l,hk,h=>by
  obtain rfl:=List.length_eq_zero_iff.1 (Nat.le_zero.1 hk)
  rw [ix] at h
  obtain rfl:=Option.some.inj h;rfl
 | k+1,s,l,hk,h=>by
  by_cases h0:s=[]
  ·subst h0
   rw [ix] at h
   obtain rfl:=Option.some.inj h;rfl
  by_cases hok:okS s
  ·rw [iY h0 hok,Option.map_eq_some_iff] at h
   obtain ⟨t,ht,rfl⟩:=h
   have hlt:=iw h0
   have ih:=qI k _ t (by omega) ht
   rw [aC,ih]
   obtain ⟨a1,a2,a3,a4⟩:=hok
   have hnum:Lib.itoa (aX (bJ s))=bJ s:=by
    simp only [cv,Bool.and_eq_true,decide_eq_true_eq] at a2;exact a2.2
   have hpos:=oa a2
   have hsz:(bQ s:Int)=aX (bJ s):=by unfold bQ;omega
   have hlen:((bl s).take (bQ s)).length=bQ s:=by rw [List.length_take];omega
   have hidx:=kj 58 s
   obtain ⟨i,e1,e2,e3,e4⟩:=hidx.resolve_left (fun h=>by omega)
   have hcol:colon s=i:=by unfold colon;omega
   have hs:s=bJ s++58::bl s:=by
    have h1:s.drop i=58::s.drop (i+1):=by rw [gF e2,e3]
    have h2:=(List.take_append_drop i s).symm
    rw [h1] at h2
    unfold bJ bl
    rw [hcol];exact h2
   have hr:bl s=(bl s).take (bQ s)++44::(bl s).drop (bQ s+1):=by
    have h1:(bl s).drop (bQ s)=44::(bl s).drop (bQ s+1):=by rw [gF (by omega),a4]
    have h2:=(List.take_append_drop (bQ s) (bl s)).symm
    rw [h1] at h2;exact h2
   rw [chunk,hlen,hsz,hnum]
   conv=>rhs;rw [hs,hr]
   simp only [List.append_assoc,List.singleton_append,List.cons_append,List.nil_append]
  ·rw [cM h0 hok] at h;cases h
theorem iB {s:Str} {l:List Str} (h:dD s=some l):aC l=s:=qI s.length s l (Nat.le_refl _) h
def kx (b:Bool):Str:=if b=true then [49] else [48]
def spT:List Tch→List Str
 | []=>[]
 | t::l=>t.1.1::kx t.1.2::t.2::spT l
def eD:List Str→Option (List Tch)
 | []=>some []
 | a::b::c::l=>if b=[48]∨b=[49] then (eD l).map (((a,decide (b=[49])),c)::·) else none
 | _=>none
theorem uN:∀ (l:List Str) (t:List Tch),eD l=some t→spT t=l
 | [],t,h=>by obtain rfl:=Option.some.inj h;rfl
 | [_],t,h=>by cases h
 | [_,_],t,h=>by cases h
 | a::b::c::l,t,h=>by
  simp only [eD] at h
  split at h
  ·rename_i hb
   rw [Option.map_eq_some_iff] at h
   obtain ⟨u,hu,rfl⟩:=h
   rw [spT,uN l u hu]
   congr 2
   rcases hb with rfl|rfl<;>rfl
  ·cases h
def aR (l:List Tch):Str:=aC (spT l)
def dv (s:Str):Option (List Tch):=(dD s).bind eD
theorem e6:∀ l:List Tch,(spT l).length=3 * l.length
 | []=>rfl
 | _::l=>by simp only [spT,List.length_cons,e6 l];omega
theorem qJ:∀ (l:List Tch) (s:Str),s ∈ spT l→s.length≤1∨∃ t ∈ l,s=t.1.1∨s=t.2
 | t::l,s,h=>by
  simp only [spT,List.mem_cons] at h
  rcases h with rfl|rfl|rfl|h
  ·exact .inr ⟨t,List.mem_cons_self,.inl rfl⟩
  ·left;unfold kx;split<;>decide
  ·exact .inr ⟨t,List.mem_cons_self,.inr rfl⟩
  ·rcases qJ l s h with h|⟨t',h1,h2⟩
   ·exact .inl h
   ·exact .inr ⟨t',List.mem_cons_of_mem _ h1,h2⟩
theorem kz {s:Str} {l:List Tch} (h:dv s=some l):aR l=s:=by
 unfold dv at h
 rw [Option.bind_eq_some_iff] at h
 obtain ⟨t,h1,h2⟩:=h
 unfold aR
 rw [uN t l h2];exact iB h1
structure Mm where
 key:Str
 rd:List Tch
 wr:List Tch
 st:Int
 out:Str
 err:Str
def Mm.no:Mm:=⟨[],[],[],0,[],[]⟩
def e7 (m:Mm):Str:=aC [m.key,aR m.rd,aR m.wr,Lib.itoa m.st,m.out,m.err]
def mk6 (k:Str) (r w:Option (List Tch)) (n o e:Str):Option Mm:=match r,w with
 | some r,some w=>if cv n=true then some ⟨k,r,w,aX n,o,e⟩ else none
 | _,_=>none
def dZ (s:Str):Option Mm:=match dD s with
 | some [k,r,w,n,o,e]=>mk6 k (dv r) (dv w) n o e
 | _=>none
theorem rU {l:List Tch} {c:Nat} (h:(spT l).length≤c) (hc:∀ s ∈ spT l,s.length≤c) (h9:c≤100000):(aR l).length≤c * (c+1000):=by
 unfold aR
 have key:∀ q:List Str,(∀ s ∈ q,s.length≤c)→(aC q).length≤q.length * (c+1000):=by
  intro q
  induction q with
  | nil=>intro _;simp [aC]
  | cons s q ih =>
   intro hq
   have h1:=ih fun s hs=>hq s (List.mem_cons_of_mem _ hs)
   have h2:=hq s List.mem_cons_self
   have h3:=bs s
   have h4:=Lib.itoa_length_le s.length (by omega) (by omega)
   rw [aC,List.length_append,List.length_cons,Nat.add_mul]
   omega
 exact Nat.le_trans (key _ hc) (Nat.mul_le_mul_right _ h)
structure Mm.small (m:Mm) (c:Nat):Prop where
 k:m.key.length≤c
 o:m.out.length≤c
 e:m.err.length≤c
 r:∀ t ∈ m.rd,t.1.1.length≤c∧t.2.length≤c
 w:∀ t ∈ m.wr,t.1.1.length≤c∧t.2.length≤c
 rl:m.rd.length≤c
 wl:m.wr.length≤c
theorem jn {l:List Tch} {c:Nat} (hl:l.length≤c) (h:∀ t ∈ l,t.1.1.length≤c∧t.2.length≤c) (h1:1≤c) (h9:c≤1000):(aR l).length≤20000000:=by
 have:=rU (l:=l) (c:=3 * c) (by rw [e6];omega) (fun s hs=>by
  rcases qJ l s hs with hs|⟨t,ht,rfl|rfl⟩
  ·omega
  ·have:=(h t ht).1;omega
  ·have:=(h t ht).2;omega) (by omega)
 have h2:3 * c * (3 * c+1000)≤3000 * 4000:=Nat.mul_le_mul (by omega) (by omega)
 omega
theorem uO {s:Str} {m:Mm} (h:dZ s=some m):e7 m=s:=by
 unfold dZ at h
 split at h
 ·rename_i k r w n o e hd
  unfold mk6 at h
  split at h
  ·rename_i r' w' hr hw
   split at h
   ·rename_i hn
    obtain rfl:=Option.some.inj h
    have hnum:Lib.itoa (aX n)=n:=by
     simp only [cv,Bool.and_eq_true,decide_eq_true_eq] at hn;exact hn.2
    unfold e7
    simp only
    rw [kz hr,kz hw,hnum];exact iB hd
   ·cases h
  ·cases h
 ·cases h
end Go.Proofs.YtpficjpdfbiedaaGreatDoor
namespace Go.Ab
abbrev W32:=BitVec 32
def w32 (x:W32):AV:=.int .u32 x.toNat
theorem ov:IntKind.u32.bits=32:=rfl
theorem wrap32 (n:Int):IntKind.u32.wrap n=((BitVec.ofInt 32 n).toNat:Int):=by
 rw [BitVec.toNat_ofInt]
 have e:IntKind.u32.wrap n=n % (2 ^ 32:Int):=by simp [IntKind.wrap,IntKind.signed,IntKind.bits]
 rw [e]
 have:=Int.emod_nonneg n (show (2 ^ 32:Int)≠0 by decide)
 omega
theorem ofInt32 (x:W32):BitVec.ofInt 32 (x.toNat:Int)=x:=by
 rw [BitVec.ofInt_natCast,BitVec.ofNat_toNat,BitVec.setWidth_eq]
theorem pO (a b:W32):cl .add .u32 (a.toNat:Int) (b.toNat:Int)=some (.int .u32 ((a+b).toNat:Int)):=by
 rw [show cl .add .u32 (a.toNat:Int) (b.toNat:Int)=some (.int .u32 (IntKind.u32.wrap ((a.toNat:Int)+(b.toNat:Int)))) from rfl,wrap32,BitVec.ofInt_add,ofInt32,ofInt32]
theorem kA (a b:W32):cl .and .u32 (a.toNat:Int) (b.toNat:Int)=some (.int .u32 ((a &&& b).toNat:Int)):=by
 rw [show cl .and .u32 (a.toNat:Int) (b.toNat:Int)=some (.int .u32 (IntKind.u32.wrap (BitVec.ofInt 32 a.toNat &&& BitVec.ofInt 32 b.toNat).toNat)) from rfl,wrap32,ofInt32,ofInt32,ofInt32]
theorem rV (a b:W32):cl .or .u32 (a.toNat:Int) (b.toNat:Int)=some (.int .u32 ((a ||| b).toNat:Int)):=by
 rw [show cl .or .u32 (a.toNat:Int) (b.toNat:Int)=some (.int .u32 (IntKind.u32.wrap (BitVec.ofInt 32 a.toNat ||| BitVec.ofInt 32 b.toNat).toNat)) from rfl,wrap32,ofInt32,ofInt32,ofInt32]
theorem pP (a b:W32):cl .xor .u32 (a.toNat:Int) (b.toNat:Int)=some (.int .u32 ((a ^^^ b).toNat:Int)):=by
 rw [show cl .xor .u32 (a.toNat:Int) (b.toNat:Int)=some (.int .u32 (IntKind.u32.wrap (BitVec.ofInt 32 a.toNat ^^^ BitVec.ofInt 32 b.toNat).toNat)) from rfl,wrap32,ofInt32,ofInt32,ofInt32]
theorem mL (a:W32) (b:Int):dp .shl .u32 (a.toNat:Int) b=gd (0≤b) (some (.int .u32 ((a <<< b.toNat).toNat:Int))):=by
 unfold dp gd
 by_cases h:0≤b
 ·rw [if_neg (by omega),if_pos h]
  simp only [ov,wrap32]
  congr 3
  rw [BitVec.toNat_shiftLeft,Nat.shiftLeft_eq]
  have e:((a.toNat:Int) * 2 ^ (min b.toNat 32))=((a.toNat * 2 ^ (min b.toNat 32):Nat):Int):=by push_cast;rfl
  rw [e,BitVec.ofInt_natCast,BitVec.toNat_ofNat]
  by_cases h2:b.toNat≤32
  ·rw [Nat.min_eq_left h2]
  ·rw [Nat.min_eq_right (by omega),Nat.mul_mod_left]
   have e2:b.toNat=32+(b.toNat - 32):=by omega
   rw [e2,Nat.pow_add,← Nat.mul_assoc,Nat.mul_right_comm,Nat.mul_mod_left]
 ·rw [if_pos (by omega),if_neg h]
theorem mM (a:W32) (b:Int):dp .shr .u32 (a.toNat:Int) b=gd (0≤b) (some (.int .u32 ((a >>> b.toNat).toNat:Int))):=by
 unfold dp gd
 by_cases h:0≤b
 ·rw [if_neg (by omega),if_pos h]
  simp only [ov]
  congr 2
  rw [BitVec.toNat_ushiftRight,Nat.shiftRight_eq_div_pow]
  have e:(2:Int) ^ (min b.toNat 32)=((2 ^ (min b.toNat 32):Nat):Int):=by push_cast;rfl
  rw [e,Int.fdiv_eq_ediv_of_nonneg _ (Int.natCast_nonneg _),← Int.natCast_ediv]
  congr 1
  by_cases h2:b.toNat≤32
  ·rw [Nat.min_eq_left h2]
  ·rw [Nat.min_eq_right (by omega),Nat.div_eq_of_lt a.isLt,Nat.div_eq_of_lt]
   exact Nat.lt_of_lt_of_le a.isLt (Nat.pow_le_pow_right (by decide) (by omega))
 ·rw [if_pos (by omega),if_neg h]
theorem rW (x:UInt8):IntKind.u32.wrap (x.toNat:Int)=((BitVec.ofNat 32 x.toNat).toNat:Int):=by
 rw [wrap32,BitVec.ofInt_natCast]
attribute [go_sem high] pO kA rV pP mL mM rW
theorem wO (x:W32):(w32 x).one=true:=rfl
theorem bR {l:List W32} {i:Nat} (h:i < l.length) (d:AV):(l.map w32).getD i d = .int .u32 ((l.getD i 0).toNat:Int):=by
 simp [List.getD_eq_getElem?_getD,List.getElem?_map,List.getElem?_eq_getElem h,w32]
def fJ (x:W32) (n:Nat):W32:=x >>> n ||| x <<< (32 - n)
end Go.Ab
namespace Go.Ab
structure S8 where
 a:W32
 b:W32
 c:W32
 d:W32
 e:W32
 f:W32
 g:W32
 h:W32
def S8.l (x:S8):List W32:=[x.a,x.b,x.c,x.d,x.e,x.f,x.g,x.h]
def z6 (e:W32):W32:=fJ e 6 ^^^ fJ e 11 ^^^ fJ e 25
def z7 (a:W32):W32:=fJ a 2 ^^^ fJ a 13 ^^^ fJ a 22
def chP (e f g:W32):W32:=g ^^^ (e &&& (f ^^^ g))
def yQ (a b c:W32):W32:=(a &&& b) ||| (c &&& (a ||| b))
theorem zI (e f g:W32):(e &&& f) ^^^ (~~~e &&& g)=chP e f g:=by
 unfold chP
 apply BitVec.eq_of_getLsbD_eq
 intro i hi
 simp only [BitVec.getLsbD_xor,BitVec.getLsbD_and,BitVec.getLsbD_not,hi,decide_true,Bool.true_and]
 cases e.getLsbD i<;>cases f.getLsbD i<;>cases g.getLsbD i<;>rfl
theorem yR (a b c:W32):(a &&& b) ^^^ (a &&& c) ^^^ (b &&& c)=yQ a b c:=by
 unfold yQ
 apply BitVec.eq_of_getLsbD_eq
 intro i hi
 simp only [BitVec.getLsbD_xor,BitVec.getLsbD_and,BitVec.getLsbD_or]
 cases a.getLsbD i<;>cases b.getLsbD i<;>cases c.getLsbD i<;>rfl
def S8.rnd (x:S8) (k w:W32):S8 :=
 let t:=x.h+z6 x.e+chP x.e x.f x.g+k+w
 let u:=z7 x.a+yQ x.a x.b x.c
 ⟨t+u,x.a,x.b,x.c,x.d+t,x.e,x.f,x.g⟩
def fW (K W:List W32) (x:S8):Nat→S8
 | 0=>x
 | n+1=>(fW K W x n).rnd (K.getD n 0) (W.getD n 0)
def ow (b:UInt8):W32:=BitVec.ofNat 32 b.toNat
def wd (b:List UInt8):W32:=ow (b.getD 0 0) <<< 24 ||| ow (b.getD 1 0) <<< 16 ||| ow (b.getD 2 0) <<< 8 ||| ow (b.getD 3 0)
def rX (x:W32):W32:=fJ x 7 ^^^ fJ x 18 ^^^ x >>> 3
def rY (y:W32):W32:=fJ y 17 ^^^ fJ y 19 ^^^ y >>> 10
def jo (b:List UInt8) (l:List W32) (i:Nat):W32 :=
 if i < 16 then wd (b.drop (4 * i)) else l.getD (i - 16) 0+l.getD (i - 7) 0+rX (l.getD (i - 15) 0)+rY (l.getD (i - 2) 0)
def aS (b:List UInt8):Nat→List W32
 | 0=>[]
 | n+1=>aS b n++[jo b (aS b n) n]
theorem bL (b:List UInt8):∀ n,(aS b n).length=n
 | 0=>rfl
 | n+1=>by simp [aS,bL b n]
def bd (b:List UInt8) (n:Nat):List W32:=aS b n++List.replicate (64 - n) 0
theorem pQ (b:List UInt8) {n:Nat} (h:n≤64):(bd b n).length=64:=by
 simp [bd,bL];omega
theorem e8 (b:List UInt8) {n i:Nat} (h:i < n):(bd b n).getD i 0=(aS b n).getD i 0:=by
 simp [bd,List.getD_eq_getElem?_getD,List.getElem?_append_left (show i < (aS b n).length by rw [bL];exact h)]
theorem kB (b:List UInt8) {n:Nat} (h:n < 64):(bd b n).set n (jo b (aS b n) n)=bd b (n+1):=by
 unfold bd
 rw [List.set_append_right _ _ (by rw [bL];exact Nat.le_refl _),bL,Nat.sub_self]
 have e:List.replicate (64 - n) (0:W32)=0::List.replicate (64 - (n+1)) 0:=by
  rw [← List.replicate_succ];congr 1;omega
 rw [e,List.set_cons_zero]
 simp [aS]
theorem pR (b:List UInt8):bd b 64=aS b 64:=by simp [bd]
def ee (h x:List W32) (n:Nat):List W32:=(List.range 8).map fun j=>if j < n then h.getD j 0+x.getD j 0 else h.getD j 0
theorem cV (h x:List W32) (n:Nat):(ee h x n).length=8:=by simp [ee]
theorem ox (h x:List W32) (n:Nat) {j:Nat} (hj:j < 8):(ee h x n).getD j 0=if j < n then h.getD j 0+x.getD j 0 else h.getD j 0:=by
 simp [ee,List.getD_eq_getElem?_getD,hj]
theorem yS {h:List W32} (hh:h.length=8) (x:List W32):ee h x 0=h:=by
 apply List.ext_getElem (by rw [cV,hh])
 intro j h1 h2
 simp [ee,List.getD_eq_getElem?_getD,h2]
theorem uP (h x:List W32) {n:Nat} (hn:n < 8):(ee h x n).set n (h.getD n 0+x.getD n 0)=ee h x (n+1):=by
 apply List.ext_getElem (by simp [cV])
 intro j h1 h2
 simp only [List.getElem_set]
 simp only [ee,List.getElem_map,List.getElem_range]
 by_cases e:n=j
 ·subst e;rw [if_pos rfl,if_pos (by omega)]
 ·rw [if_neg e]
  by_cases e2:j < n
  ·rw [if_pos e2,if_pos (by omega)]
  ·rw [if_neg e2,if_neg (by omega)]
def S8.of (l:List W32):S8:=⟨l.getD 0 0,l.getD 1 0,l.getD 2 0,l.getD 3 0,l.getD 4 0,l.getD 5 0,l.getD 6 0,l.getD 7 0⟩
theorem S8.zJ (x:S8):S8.of x.l=x:=rfl
def dV (K:List W32) (h:List W32) (b:List UInt8):List W32:=ee h (fW K (aS b 64) (S8.of h) 64).l 8
def bM (K:List W32):Nat→List W32→List UInt8→List W32
 | 0,h,_=>h
 | n+1,h,t=>bM K n (dV K h (t.take 64)) (t.drop 64)
def ef (n i:Nat):UInt8:=UInt8.ofNat (n * 8 / 2 ^ (8 * i))
def e9 (n:Nat):List UInt8:=128::List.replicate ((64+56 - 1 - n % 64) % 64) 0++[ef n 7,ef n 6,ef n 5,ef n 4,ef n 3,ef n 2,ef n 1,ef n 0]
theorem iC (n:Nat):(e9 n).length=1+(64+56 - 1 - n % 64) % 64+8:=by simp [e9];omega
theorem uQ (s:List UInt8):∃ k,(s++e9 s.length).length=64 * (k+1):=by
 rw [List.length_append,iC]
 refine ⟨(s.length+(1+(64+56 - 1 - s.length % 64) % 64+8)) / 64 - 1,?_⟩
 omega
def yT:List UInt8:=[48,49,50,51,52,53,54,55,56,57,97,98,99,100,101,102]
def mN (x:W32) (k:Nat):UInt8:=yT.getD ((x >>> k) &&& 15).toNat 0
def fb (x:W32):List UInt8:=[mN x 28,mN x 24,mN x 20,mN x 16,mN x 12,mN x 8,mN x 4,mN x 0]
def aM:List W32:=[
 1116352408,1899447441,3049323471,3921009573,961987163,1508970993,2453635748,2870763221,
 3624381080,310598401,607225278,1426881987,1925078388,2162078206,2614888103,3248222580,
 3835390401,4022224774,264347078,604807628,770255983,1249150122,1555081692,1996064986,
 2554220882,2821834349,2952996808,3210313671,3336571891,3584528711,113926993,338241895,
 666307205,773529912,1294757372,1396182291,1695183700,1986661051,2177026350,2456956037,
 2730485921,2820302411,3259730800,3345764771,3516065817,3600352804,4094571909,275423344,
 430227734,506948616,659060556,883997877,958139571,1322822218,1537002063,1747873779,
 1955562222,2024104815,2227730452,2361852424,2428436474,2756734187,3204031479,3329325298]
def iD:List W32:=[1779033703,3144134277,1013904242,2773480762,1359893119,2600822924,528734635,1541459225]
def jB (s:List UInt8):List UInt8:=((bM aM ((s++e9 s.length).length / 64) iD (s++e9 s.length)).map fb).flatten
theorem jq (K:List W32):∀ (n:Nat) (h:List W32) (t:List UInt8),h.length=8→(bM K n h t).length=8
 | 0,_,_,hh=>hh
 | n+1,h,t,_=>jq K n _ _ (cV _ _ _)
theorem uR (s:List UInt8):(jB s).length=64:=by
 unfold jB
 have h:=jq aM ((s++e9 s.length).length / 64) iD (s++e9 s.length) rfl
 generalize bM aM ((s++e9 s.length).length / 64) iD (s++e9 s.length)=l at h
 rw [List.length_flatten,List.map_map]
 have e:(List.length ∘ fb)=fun _=>8:=rfl
 rw [e,List.map_const',h];rfl
end Go.Ab
namespace Go.Ab
theorem la {P:Program} [Laid P] {o:Oper} {ρ:Operand→AV} {sp:Oid→Prop} {t el:TypeId} {y z:Operand} {nid:Oid} {sz n bytes:Nat} {agg:Bool} {k1 k2:IntKind} {v0:AV} (ho:o.op = .makeSlice t y z) (hy:ρ y = .int k1 n) (hz:ρ z = .int k2 n)
  (htk:tyk P t=some (.slice el agg sz bytes)) (hzer:zer P el=some v0.cells) (hone:v0.cells.all AV.one=true) (hsz:v0.cells.length=sz) (h0:0 < sz) (hb:bytes * n≤281474976710656) (h63:n≤9223372036854775807) (hs:sp nid) (hnt:nid.tyd=none) :
  aw P o ρ sp ⟨[],.sl nid sz n,[(nid,some (.arr sz (List.replicate n v0)))]⟩:=by
 intro x g a w m hm _ hop hsp hng next Q K
 have vy:=hop y (by simp [Op.operands,ho])
 have vz:=hop z (by simp [Op.operands,ho])
 rw [hy] at vy;rw [hz] at vz
 have hyv:=vy.aJ
 have hzv:=vz.aJ
 have htk':P.underlying t=some (.slice el)∧∃ i,P.info? el=some i∧i.bytes=bytes∧i.size=sz:=by
  unfold tyk at htk
  split at htk<;>try (cases htk;done)
  ·rename_i e hu
   split at htk
   ·rename_i q i hq hi
    simp only [Option.some.injEq,TyK.slice.injEq] at htk
    obtain ⟨rfl,-,h3,h4⟩:=htk
    refine ⟨hu,i,hi,h4,?_⟩
    obtain ⟨d,i',_,hi',_,hn'⟩:=cO (b:=q.1) (n:=q.2) hq
    rw [hi] at hi';simp only [Option.some.injEq] at hi';subst hi'
    rw [hn',h3]
   ·cases htk
  ·rename_i n' e' hu
   cases hs':shp P e'<;>simp [hs'] at htk
  ·rename_i fs hu
   cases hmm:(fs.toList.mapM fun f=>(shp P f.type).map fun q=>(f.offset,q.1,q.2))<;>simp [hmm] at htk
 obtain ⟨hu,i,hi,hbi,hsi⟩:=htk'
 obtain ⟨zv,hzv0,hzc⟩:∃ zv,i.zero=some zv∧(bD zv).cells=v0.cells:=by
  simp only [zer,hi,Option.bind_some] at hzer
  cases hzz:i.zero with
  | none=>rw [hzz] at hzer;cases hzer
  | some zv=>rw [hzz] at hzer;exact ⟨zv,rfl,by simpa using hzer⟩
 have hzs:zv.cells.size=sz:=by rw [← cb,hzc,hsz]
 have hcell:∀ (g:Gh) j,j < sz→VR g (v0.cells.getD j .undef) (zv.cells.getD j undef):=fun g j hj=>by
  rw [← hzc];exact dk g zv j (by rw [hzc,hsz];exact hj)
 have hbb:(i.bytes:Int) * (n:Int)≤281474976710656:=by
  rw [hbi,← Int.natCast_mul]
  omega
 have hrun:=run_make (P:=P) w t el i zv hu hi hzv0 k1 k2 (n:Int) (n:Int) (by omega) (Int.le_refl _) hbb (by omega)
 simp only [Int.toNat_natCast,hsi] at hrun
 have hex:(execOp a.eval o).run P w = .ok (.value (.slice (some ⟨w.heap.size,0,none⟩) n n)) (w.alloc (.cells (madeCells zv.cells (n * sz)) el)):=by
  simp only [execOp,ho,hyv,hzv,Sem.run_bind,hrun,Result.andThen_ok,Sem.run_pure]
 refine ⟨fun _ _=>trivial,?_⟩
 rw [Oper.semAt_eq _ _ _ (fun c hc=>by rw [ho] at hc;cases hc),hex,Oper.uponIn_value]
 obtain ⟨hl,hun⟩:=hsp nid hs
 have hrn:g.row w.heap.size=none:=hm.fN (Nat.le_refl _)
 have hcs:∀ i j,i < n→j < sz→(madeCells zv.cells (n * sz)).getD (i * sz+j) undef=zv.cells.getD j undef:=fun i j hi hj=>by
  have hlt:i * sz+j < n * sz:=by
   have:(i+1) * sz≤n * sz:=Nat.mul_le_mul_right _ hi
   rw [Nat.add_mul,Nat.one_mul] at this;omega
  have hmod:(i * sz+j) % sz=j:=by rw [Nat.mul_comm,Nat.mul_add_mod,Nat.mod_eq_of_lt hj]
  simp only [madeCells,Array.getD_eq_getD_getElem?,Array.getElem?_map,Array.getElem?_range,hlt,if_true,Option.map_some,Option.getD_some,hzs,hmod]
  rw [getElem!_def,Array.getElem?_eq_getElem (show j < zv.cells.size by rw [hzs];exact hj)]
  rfl
 have hone':∀ j,j < sz→(zv.cells.getD j undef).oneCell' = true:=fun j hj=>by
  have h1:=hcell g j hj
  have h2:(v0.cells.getD j .undef).one=true:=by
   rw [List.all_eq_true] at hone
   rw [List.getD_eq_getElem?_getD,List.getElem?_eq_getElem (by rw [hsz];exact hj),Option.getD_some]
   exact hone _ (List.getElem_mem _)
  generalize v0.cells.getD j .undef=q at h1 h2
  generalize zv.cells.getD j undef=r at h1 ⊢
  cases q<;>first|(simp [AV.one] at h2;done)|(cases h1<;>rfl)
 have hgetr:∀ i,i < n→(List.replicate n v0).getD i .undef=v0:=fun i hi=>by
  rw [List.getD_eq_getElem?_getD,List.getElem?_replicate,if_pos hi];rfl
 have hnew:=hm.new hl hun (o:=.arr sz (List.replicate n v0)) (ob:=.cells (madeCells zv.cells (n * sz)) el) ⟨madeCells zv.cells (n * sz),el,(0,0),aV w _,by rw [List.length_replicate,size_madeCells];exact Nat.le_refl _,fun j _ hj=>by omega,fun i hi=>by
  rw [List.length_replicate] at hi
  rw [hgetr i hi];exact hsz,fun j hj=>by
  rw [List.length_replicate] at hj
  have hd:j / sz < n:=Nat.div_lt_of_lt_mul (by rw [Nat.mul_comm];exact hj)
  have:=hcs (j / sz) (j % sz) hd (Nat.mod_lt _ h0)
  rw [Nat.mul_comm (j / sz) sz,Nat.div_add_mod] at this
  rw [this];exact hone' _ (Nat.mod_lt _ h0),fun i j hi hj=>by
  rw [List.length_replicate] at hi
  rw [hgetr i hi,hcs i j hi hj];exact hcell _ j hj⟩ (fun t ht=>by rw [hnt] at ht;cases ht)
 refine K ((g.bind nid w.heap.size).measure w.heap.size (n * sz)) _ _ (Gh.le_trans (Gh.aP hl) (Gh.bZ (.inl hrn))) (fun j hj=>?_) ?_ (hnew.measure ⟨madeCells zv.cells (n * sz),el,(0,0),aV w _,size_madeCells _ _⟩ (.inl hrn))
 ·have hne:¬ j=nid:=fun e=>by subst e;exact hj hs
  simp only [Gh.bind,Gh.measure];rw [if_neg hne]
 ·exact .sl _ _ _ _ _ (by simp [Gh.bind,Gh.measure]) (Nat.le_refl _) (by simp [Gh.measure])
theorem aw.nd {P:Program} [Laid P] {o:Oper} {ρ:Operand→AV} {sp:Oid→Prop} {e:Eff} (h:aw P o ρ sp e):jg P o ρ sp e.need (fun v u=>v=e.val∧u=e.upd) (fun _ _=>False) :=
 fun x g a w m hm hn hop hs hng next Q K _=>h x g a w m hm hn hop hs hng next Q fun g' v w' h1 h2 h3 h4=>K _ _ ⟨rfl,rfl⟩ g' v w' h1 h2 h3 h4
end Go.Ab
namespace Go.Ab
abbrev Bk:=List Oid × (Oid→af)
def bk (B:Bk):List (Oid × af):=B.1.map fun i=>(i,B.2 i)
def sb (N:List Oid) (f:Oid→af):List (Oid × Option af):=N.map fun i=>(i,some (f i))
def Mem.blk (A:List (Oid × af)) (Bs:List Bk):Mem:=Mem.of (A++(Bs.map bk).flatten)
def Mem.cons (a:Oid × af) (m:Mem):Mem:=m.set a.1 (some a.2)
def iE (p:Oid) (N:List Oid):Prop:=∀ i ∈ N,¬ Oid.under p i
theorem iE.sub {p:Oid} {N:List Oid} (h:iE p N) (c i:Nat):iE (.sub c i p) N:=fun j hj hu=>h j hj (Oid.aj hu)
theorem iE.mem {p:Oid} {N:List Oid} (h:iE p N) {c i:Nat}:Oid.sub c i p ∉ N:=fun hm=>h _ hm (Oid.aj (Oid.ah _))
theorem iE.z8 {p:Oid} {N:List Oid} (h:iE p N) {c i c' i':Nat}:Oid.sub c' i' (.sub c i p) ∉ N:=fun hm=>h _ hm (Oid.aj (Oid.aj (Oid.ah _)))
def lb (p:Oid) (c:Nat) (N:List Oid):Prop:=∀ i ∈ N,¬ cG p c i
theorem lb.sub {p:Oid} {c0:Nat} {N:List Oid} (h:lb p c0 N) {c:Nat} (hc:c0≤c) (i:Nat):iE (.sub c i p) N:=fun j hj hu=>h j hj ⟨c,i,hc,hu⟩
theorem lb.mono {p:Oid} {c0 c:Nat} {N:List Oid} (h:lb p c0 N) (hc:c0≤c):lb p c N:=fun j hj hu=>h j hj (hu.mono hc)
theorem lb.mem {p:Oid} {c0:Nat} {N:List Oid} (h:lb p c0 N) {c i:Nat} (hc:c0≤c):Oid.sub c i p ∉ N:=fun hm=>h _ hm ⟨c,i,hc,Oid.ah _⟩
theorem iE.C {p:Oid} {N:List Oid} (h:iE p N) (c:Nat):lb p c N:=fun j hj hu=>h j hj hu.under
theorem Mem.kC (q:Oid × af) (A:List (Oid × af)) (Bs:List Bk) (i:Oid):Mem.blk (q::A) Bs i=if i=q.1 then some q.2 else Mem.blk A Bs i:=rfl
theorem Mem.uS (q:Oid × af) (A:List (Oid × af)) (Bs:List Bk):Mem.cons q (Mem.blk A Bs)=Mem.blk (q::A) Bs:=rfl
theorem oy (A:List (Oid × af)) (Bs:List Bk):(Mem.blk A Bs).aG []=Mem.blk A Bs:=rfl
theorem jr (i:Oid) (o:af) (F:List (Oid × af)):∀ A,(Mem.of (A++F)).set i (some o)=Mem.of (bV i (some o) A++F)
 | []=>rfl
 | q::A=>by
  have ih:=jr i o F A
  simp only [bV]
  by_cases h:i=q.1
  ·rw [if_pos h];funext k;simp only [List.cons_append,Mem.of,Mem.set];subst h;split<;>rfl
  ·rw [if_neg h];funext k;simp only [List.cons_append,Mem.of];rw [← ih];simp only [Mem.set]
   by_cases h1:k=i
   ·rw [if_pos h1,if_pos h1,if_neg (fun h2=>h (h1.symm.trans h2))]
   ·rw [if_neg h1,if_neg h1]
theorem mO (A:List (Oid × af)) (Bs:List Bk) (i:Oid) (o:af) (u:List (Oid × Option af)):(Mem.blk A Bs).aG ((i,some o)::u)=(Mem.blk (bV i (some o) A) Bs).aG u:=by
 show ((Mem.of _).set i (some o)).aG u=_
 rw [jr];rfl
def del (i:Oid) (B:Bk):Bk:=(B.1.filter fun j=>decide (¬ j=i),B.2)
def km (i:Oid):List Bk→List Bk
 | []=>[]
 | B::Bs=>del i B::km i Bs
theorem uT (Bs:List Bk) (i:Oid):((Bs.map bk).flatten.filter fun q=>decide (¬ q.1=i))=((km i Bs).map bk).flatten:=by
 induction Bs with
 | nil=>rfl
 | cons B Bs ih =>
  simp only [List.map_cons,List.flatten_cons,List.filter_append,ih,km]
  congr 1
  simp only [bk,del,List.filter_map]
  rfl
theorem qK (i:Oid):∀ L:List (Oid × af),(Mem.of L).set i none=Mem.of (L.filter fun q=>decide (¬ q.1=i))
 | []=>by funext k;simp [Mem.of,Mem.set,Mem.emp]
 | q::L=>by
  have ih:=qK i L
  by_cases h:q.1=i
  ·rw [List.filter_cons_of_neg (by simpa using h),← ih];funext k;simp only [Mem.of,Mem.set];subst h;split<;>rfl
  ·rw [List.filter_cons_of_pos (by simpa using h)]
   show _=(Mem.of _).set q.1 (some q.2)
   rw [← ih];funext k;simp only [Mem.of,Mem.set]
   by_cases h1:k=i
   ·rw [if_pos h1,if_neg (fun h2=>h (h2.symm.trans h1)),if_pos h1]
   ·rw [if_neg h1,if_neg h1]
theorem js (i:Oid):∀ A:List (Oid × af),bV i none A=A.filter fun q=>decide (¬ q.1=i)
 | []=>rfl
 | q::A=>by
  have ih:=js i A
  simp only [bV]
  by_cases h:i=q.1
  ·rw [if_pos h,List.filter_cons_of_neg (by simpa using h.symm),ih]
  ·rw [if_neg h,List.filter_cons_of_pos (by simpa using fun e=>h e.symm),ih]
theorem mP (A:List (Oid × af)) (Bs:List Bk) (i:Oid):(Mem.blk A Bs).set i none=Mem.blk (bV i none A) (km i Bs):=by
 show (Mem.of _).set i none=Mem.of _
 rw [qK,List.filter_append,js,uT]
theorem uU (i:Oid):km i []=[]:=rfl
theorem rZ (i:Oid) (B:Bk) (Bs:List Bk):km i (B::Bs)=del i B::km i Bs:=rfl
theorem qL {i:Oid} {N:List Oid} {f:Oid→af} (h:i ∉ N):del i (N,f)=(N,f):=by
 simp only [del,Prod.mk.injEq,and_true]
 exact List.filter_eq_self.2 fun j hj=>by rw [decide_eq_true_eq];rintro rfl;exact h hj
theorem mF {c k:Nat} {p:Oid} {N:List Oid} {f:Oid→af} (h:iE p N):del (.sub c k p) (N,f)=(N,f):=qL h.mem
theorem wP (N:List Oid) (f:Oid→af) (i:Oid):∀ m:Mem,(m.aG (sb N f)) i=if i ∈ N then some (f i) else m i:=by
 induction N with
 | nil=>intro m;simp [sb,Mem.aG]
 | cons j N ih =>
  intro m
  show ((m.set j (some (f j))).aG (sb N f)) i=_
  rw [ih]
  by_cases h1:i ∈ N
  ·rw [if_pos h1,if_pos (List.mem_cons_of_mem _ h1)]
  ·rw [if_neg h1]
   by_cases h2:i=j
   ·subst h2;rw [if_pos List.mem_cons_self];simp [Mem.set]
   ·rw [if_neg (by simp [h1,h2])];simp [Mem.set,h2]
theorem xt (N:List Oid) (f:Oid→af) (F:List (Oid × af)) (i:Oid):Mem.of (bk (N,f)++F) i=if i ∈ N then some (f i) else Mem.of F i:=by
 induction N with
 | nil=>simp [bk]
 | cons j N ih =>
  show (Mem.of (bk (N,f)++F)).set j (some (f j)) i=_
  simp only [Mem.set]
  by_cases h2:i=j
  ·subst h2;rw [if_pos rfl,if_pos List.mem_cons_self]
  ·rw [if_neg h2,ih]
   by_cases h1:i ∈ N
   ·rw [if_pos h1,if_pos (List.mem_cons_of_mem _ h1)]
   ·rw [if_neg h1,if_neg (by simp [h1,h2])]
theorem gI (N:List Oid) (f:Oid→af) (Bs:List Bk) (i:Oid):Mem.blk [] ((N,f)::Bs) i=if i ∈ N then some (f i) else Mem.blk [] Bs i:=xt N f _ i
theorem eE {B:Bk} {q:Oid × af}:q ∈ bk B↔q.1 ∈ B.1∧q.2=B.2 q.1:=by
 simp only [bk,List.mem_map]
 constructor
 ·rintro ⟨i,h1,rfl⟩;exact ⟨h1,rfl⟩
 ·rintro ⟨h1,h2⟩;exact ⟨q.1,h1,by rw [← h2]⟩
theorem uV (N:List Oid) (f:Oid→af) (Bs:List Bk):(∀ q,q ∈ bk (N,f)→Mem.blk [] ((N,f)::Bs) q.1=some q.2)=True:=eq_true fun q hq=>by
 obtain ⟨h1,h2⟩:=eE.1 hq
 rw [gI,if_pos h1,h2]
theorem yU {a:Oid × af} {A:List (Oid × af)} {Bs:List Bk} {N:List Oid} {f:Oid→af} (h:a.1 ∉ N):(∀ q,q ∈ bk (N,f)→Mem.blk (a::A) Bs q.1=some q.2)=(∀ q,q ∈ bk (N,f)→Mem.blk A Bs q.1=some q.2):=by
 refine propext ⟨fun k q hq=>?_,fun k q hq=>?_⟩
 ·have:=k q hq
  rwa [Mem.kC,if_neg (fun e:q.1=a.1=>h (e ▸ (eE.1 hq).1))] at this
 ·rw [Mem.kC,if_neg (fun e:q.1=a.1=>h (e ▸ (eE.1 hq).1))];exact k q hq
theorem yV (B:Bk):Mem.of (bk B)=Mem.blk [] [B]:=by simp [Mem.blk]
theorem yW (A:List (Oid × af)):Mem.of A=Mem.blk A []:=by simp [Mem.blk]
section
variable {P:Program} {rs:List ResultVar} {fr:List (Nat × AV)} {m:Mem} {c:Nat} {val:AV} {N:List Oid} {f g:Oid→af} {Rp:AV→List (Oid × Option af)→Prop}
end
theorem ak.Aa {P:Program} [Laid P] {f:FuncId} {xs:List AV} {sp:Oid→Prop} {L0:List (Oid × af)} {v:AV} {U:List (Oid × Option af)} {N:List Oid} {F G:Oid→af}
  (h:ak P f xs sp ⟨L0,v,U⟩) (hL:∀ q,q ∈ L0→q ∈ bk (N,F)) (hU:∀ q,q ∈ U→q.1 ∈ N) (hf:∀ i,i ∈ N→((Mem.of (bk (N,F))).aG U) i=some (G i)):ak P f xs sp ⟨bk (N,F),v,sb N G⟩ :=
 ⟨h.enters,fun x g args w m hm hn ha hs hx=>by
  refine (h.calls x g args w m hm (fun q hq=>hn q (hL q hq)) ha hs hx).mono fun en w' ⟨g',v',h1,h2,h3,h4,h5⟩=>⟨g',v',h1,h2,h3,h4,?_⟩
  have:m.aG U=m.aG (sb N G):=by
   funext i
   rw [wP]
   by_cases hi:i ∈ N
   ·rw [if_pos hi,← hf i hi]
    refine oU ?_
    rw [hn (i,F i) (eE.2 ⟨hi,rfl⟩)]
    have:=xt N F [] i
    rw [List.append_nil,if_pos hi] at this
    exact this.symm
   ·rw [if_neg hi,aI fun q hq (e:q.1=i)=>hi (e ▸ hU q hq)]
  simp only at h5 ⊢
  rw [← this];exact h5⟩
def zK (F:Oid→af) (i:Oid) (o:af):Oid→af:=fun j=>if j=i then o else F j
theorem bk2 (F:Oid→af) (a b:Oid):bk ([a,b],F)=[(a,F a),(b,F b)]:=rfl
theorem bk1 (F:Oid→af) (a:Oid):bk ([a],F)=[(a,F a)]:=rfl
theorem ak.one {P:Program} [Laid P] {f:FuncId} {xs:List AV} {sp:Oid→Prop} {r:Oid} {o o':af} {v:AV} {F:Oid→af} (h:ak P f xs sp ⟨[(r,o)],v,[(r,some o')]⟩) (hF:F r=o):ak P f xs sp ⟨bk ([r],F),v,sb [r] (zK F r o')⟩:=by
 refine h.Aa ?_ (fun q hq=>by rw [List.mem_singleton.1 hq];simp) fun i hi=>?_
 ·rw [bk1,hF];exact fun q hq=>hq
 ·rw [List.mem_singleton.1 hi]
  show ((Mem.of _).set r (some o')) r=_
  simp [Mem.set,zK]
attribute [go_sem] Mem.kC oy mO mP uU rZ qL mF Mem.uS uV
end Go.Ab
namespace Go.Ab
end Go.Ab
namespace Go.Proofs.YtpficjpdfbiedaaGreatDoor
open Go Go.Ab
set_option maxRecDepth 20000
set_option maxHeartbeats 400000
theorem zL:∀ n:Nat,n < 32→0 < n→IntKind.u64.wrap (BitVec.ofInt IntKind.u64.bits (IntKind.u64.wrap (0 - (n:Int))) &&& BitVec.ofInt IntKind.u64.bits 31).toNat=((32 - n:Nat):Int):=by decide
theorem zM:∀ n:Nat,n < 32→0 < n→IntKind.u64.wrap (32 - ((32 - n:Nat):Int))=(n:Int):=by decide
theorem wQ {n:Nat} (h:n < 32) (h0:0 < n):cl .and .u64 (IntKind.u64.wrap (0 - (n:Int))) 31=some (.int .u64 ((32 - n:Nat):Int)):=congrArg (fun z=>some (AV.int .u64 z)) (zL n h h0)
theorem wR {n:Nat} (h:n < 32) (h0:0 < n):cl .sub .u64 32 ((32 - n:Nat):Int)=some (.int .u64 (n:Int)):=congrArg (fun z=>some (AV.int .u64 z)) (zM n h h0)
attribute [go_sem high] wQ wR
theorem wS (x:W32) (n:Nat) (h0:0 < n) (h:n < 32) (p:Oid):ak Tryz.prog 138 [.int .u32 x.toNat,.int .i64 (0 - (n:Int))] (Oid.under p) ⟨[],.int .u32 (fJ x n).toNat,[]⟩:=by
 have h3:fJ x n=x <<< (32 - n) ||| x >>> n:=BitVec.or_comm _ _
 refine aK (n:=17) (rs:=[.tmp 4]) Tryz.func138 rfl rfl (by decide) rfl rfl rfl ?_;rintro x rfl hrd hng
 refine qw0 ?_
 rw [h3]
 exact ar (a6 rfl)
theorem bS (x:W32) (n:Nat) (h0:0 < n) (h:n < 32) (p:Oid):ak Tryz.prog 111 [.int .u32 x.toNat,.int .i64 n] (Oid.under p) ⟨[],.int .u32 (fJ x n).toNat,[]⟩:=by
 have hr:=fun p=>wS x n h0 h p
 refine aK (n:=9) (rs:=[.tmp 4]) Tryz.func111 rfl rfl (by decide) rfl rfl rfl ?_;rintro x rfl hrd hng
 refine qw0 ?_
 refine qr1 (hr _) ?_
 refine qw0 ?_
 exact ar (a6 rfl)
theorem wT (b:List UInt8) (h:4≤b.length) (p:Oid):ak Tryz.prog 137 [.str b] (Oid.under p) ⟨[],.int .u32 (wd b).toNat,[]⟩:=by
 refine aK (n:=21) (rs:=[.tmp 2]) Tryz.func137 rfl rfl (by decide) rfl rfl rfl ?_;rintro x rfl hrd hng
 refine qw0 ?_
 refine qd (.d [] [] [2]) trivial trivial ?_
 refine qw0 ?_
 exact ar (a6 rfl)
theorem qM:∀ l:List W32,(l.map w32).all AV.one=true
 | []=>rfl
 | _::l=>by simp [wO,qM l]
theorem bm:aM.length=64:=rfl
theorem oz:gu Tryz.prog 145 [(0,.int .u32 1116352408),(1,.int .u32 1899447441),(2,.int .u32 3049323471),(3,.int .u32 3921009573),(4,.int .u32 961987163),(5,.int .u32 1508970993),(6,.int .u32 2453635748),(7,.int .u32 2870763221),(8,.int .u32 3624381080),(9,.int .u32 310598401),(10,.int .u32 607225278),(11,.int .u32 1426881987),(12,.int .u32 1925078388),(13,.int .u32 2162078206),(14,.int .u32 2614888103),(15,.int .u32 3248222580),(16,.int .u32 3835390401),(17,.int .u32 4022224774),(18,.int .u32 264347078),(19,.int .u32 604807628),(20,.int .u32 770255983),(21,.int .u32 1249150122),(22,.int .u32 1555081692),(23,.int .u32 1996064986),(24,.int .u32 2554220882),(25,.int .u32 2821834349),(26,.int .u32 2952996808),(27,.int .u32 3210313671),(28,.int .u32 3336571891),(29,.int .u32 3584528711),(30,.int .u32 113926993),(31,.int .u32 338241895),(32,.int .u32 666307205),(33,.int .u32 773529912),(34,.int .u32 1294757372),(35,.int .u32 1396182291),(36,.int .u32 1695183700),(37,.int .u32 1986661051),(38,.int .u32 2177026350),(39,.int .u32 2456956037),(40,.int .u32 2730485921),(41,.int .u32 2820302411),(42,.int .u32 3259730800),(43,.int .u32 3345764771),(44,.int .u32 3516065817),(45,.int .u32 3600352804),(46,.int .u32 4094571909),(47,.int .u32 275423344),(48,.int .u32 430227734),(49,.int .u32 506948616),(50,.int .u32 659060556),(51,.int .u32 883997877),(52,.int .u32 958139571),(53,.int .u32 1322822218),(54,.int .u32 1537002063),(55,.int .u32 1747873779),(56,.int .u32 1955562222),(57,.int .u32 2024104815),(58,.int .u32 2227730452),(59,.int .u32 2361852424),(60,.int .u32 2428436474),(61,.int .u32 2756734187),(62,.int .u32 3204031479),(63,.int .u32 3329325298)]=some (.agg (aM.map w32)):=by kernel_rfl
theorem r0 (fr:List (Nat × AV)):gu Tryz.prog 145 (prs (evA fr) (#[(0,.const (.int .u32 1116352408)),(1,.const (.int .u32 1899447441)),(2,.const (.int .u32 3049323471)),(3,.const (.int .u32 3921009573)),(4,.const (.int .u32 961987163)),(5,.const (.int .u32 1508970993)),(6,.const (.int .u32 2453635748)),(7,.const (.int .u32 2870763221)),(8,.const (.int .u32 3624381080)),(9,.const (.int .u32 310598401)),(10,.const (.int .u32 607225278)),(11,.const (.int .u32 1426881987)),(12,.const (.int .u32 1925078388)),(13,.const (.int .u32 2162078206)),(14,.const (.int .u32 2614888103)),(15,.const (.int .u32 3248222580)),(16,.const (.int .u32 3835390401)),(17,.const (.int .u32 4022224774)),(18,.const (.int .u32 264347078)),(19,.const (.int .u32 604807628)),(20,.const (.int .u32 770255983)),(21,.const (.int .u32 1249150122)),(22,.const (.int .u32 1555081692)),(23,.const (.int .u32 1996064986)),(24,.const (.int .u32 2554220882)),(25,.const (.int .u32 2821834349)),(26,.const (.int .u32 2952996808)),(27,.const (.int .u32 3210313671)),(28,.const (.int .u32 3336571891)),(29,.const (.int .u32 3584528711)),(30,.const (.int .u32 113926993)),(31,.const (.int .u32 338241895)),(32,.const (.int .u32 666307205)),(33,.const (.int .u32 773529912)),(34,.const (.int .u32 1294757372)),(35,.const (.int .u32 1396182291)),(36,.const (.int .u32 1695183700)),(37,.const (.int .u32 1986661051)),(38,.const (.int .u32 2177026350)),(39,.const (.int .u32 2456956037)),(40,.const (.int .u32 2730485921)),(41,.const (.int .u32 2820302411)),(42,.const (.int .u32 3259730800)),(43,.const (.int .u32 3345764771)),(44,.const (.int .u32 3516065817)),(45,.const (.int .u32 3600352804)),(46,.const (.int .u32 4094571909)),(47,.const (.int .u32 275423344)),(48,.const (.int .u32 430227734)),(49,.const (.int .u32 506948616)),(50,.const (.int .u32 659060556)),(51,.const (.int .u32 883997877)),(52,.const (.int .u32 958139571)),(53,.const (.int .u32 1322822218)),(54,.const (.int .u32 1537002063)),(55,.const (.int .u32 1747873779)),(56,.const (.int .u32 1955562222)),(57,.const (.int .u32 2024104815)),(58,.const (.int .u32 2227730452)),(59,.const (.int .u32 2361852424)),(60,.const (.int .u32 2428436474)),(61,.const (.int .u32 2756734187)),(62,.const (.int .u32 3204031479)),(63,.const (.int .u32 3329325298))]:Array (Nat × Operand)).toList)=some (.agg (aM.map w32)):=oz
attribute [go_sem ↓] r0
attribute [go_sem] qM bm List.append_nil
theorem uW (p:Oid):ak Tryz.prog 109 [] (Oid.under p) ⟨[],.agg (aM.map w32),[]⟩:=by
 refine aK (n:=2) (rs:=[.cell 0 145]) Tryz.func109 rfl rfl (by decide) rfl rfl rfl ?_;rintro x rfl hrd hng
 refine qw0 ?_
 exact ar (aq (by simp (disch:=first|omega|assumption) only [go_sem];rfl))
theorem mQ {l:List W32} {i:Nat} (h:i < l.length) (x:W32):List.take i (l.map w32)++[AV.int .u32 (x.toNat:Int)]++List.drop (i+1) (l.map w32)=(l.set i x).map w32:=by
 rw [List.set_eq_take_append_cons_drop,if_pos h]
 simp [w32]
theorem dW {l:List W32} {i:Nat} (h:i < l.length):(List.drop i (l.map w32)).getD 0 AV.undef = .int .u32 ((l.getD i 0).toNat:Int):=by
 rw [bE,Nat.add_zero];exact bR h _
theorem oA (b:List UInt8) (l:List W32) {i:Nat} (h:i < 16):jo b l i=wd (b.drop (4 * i)):=if_pos h
theorem uX (b:List UInt8) {i:Nat} (h:¬ i < 16):jo b (aS b i) i=(bd b i).getD (i - 16) 0+(bd b i).getD (i - 7) 0+rX ((bd b i).getD (i - 15) 0)+rY ((bd b i).getD (i - 2) 0):=by
 rw [jo,if_neg h,e8 b (by omega),e8 b (by omega),e8 b (by omega),e8 b (by omega)]
theorem uY (b:List UInt8) (h:b.length=64) (p:Oid):ak Tryz.prog 110 [.str b] (Oid.under p) ⟨[],.agg ((aS b 64).map w32),[]⟩:=by
 refine aK (n:=57) (rs:=[.cell 2 145]) Tryz.func110 rfl rfl (by decide) rfl rfl rfl ?_;rintro x rfl hrd hng
 refine qw0 ?_
 refine aT [0,2,6] (fun k s'=>∃ i c:Nat,s' = ⟨[(0,.str b),(2,.ptr (.sub 0 0 x.p) 0),(6,.int .i64 i)],Mem.of [(.sub 0 0 x.p,.cells ((bd b i).map w32))],c,[]⟩∧k=64 - i∧i≤64) _ ⟨0,_,rfl,rfl,by omega⟩ ?_
 rintro k s' ⟨i,c,rfl,rfl,hi⟩
 have hl:=pQ b hi
 refine qw0 ?_
 refine aY rfl rfl (fun hb=>?_) (fun hb=>?_)
 ·have hlt:i < 64:=by omega
  refine qw0 ?_
  refine aY rfl rfl (fun hb=>?_) (fun hb=>?_)
  ·have h16:i < 16:=by omega
   have f4:((4:Int) * i).toNat=4 * i:=by omega
   have hw:=fun p=>wT (b.drop (4 * i)) (by rw [List.length_drop];omega) p
   have hs:=kB b hlt
   rw [oA b _ h16] at hs
   have hset:=mQ (l:=bd b i) (i:=i) (by omega) (wd (b.drop (4 * i)))
   rw [hs] at hset
   refine qw0 ?_
   have h63:i≤63:=by omega
   refine az nmd [] hng (by kernel_rfl) fun hf C S K hC1 hC hS hK=>?_;simp (disch:=first|omega|assumption) only [go_sem,f4,hl,hset,h63,Nat.zero_add,Nat.mul_one]
   refine hC1 _ (hw _) (fun _ h=>by cases h) ?_
   simp (disch:=first|omega|assumption) only [go_sem,f4,hl,hset,h63,Nat.zero_add,Nat.mul_one]
   refine hK ?_;clear hK hS hC hC1 K S C hf
   refine qw0 ?_
   exact ⟨_,_,by omega,fun _ _ h=>h,i+1,_,rfl,rfl,by omega⟩
  ·have h16:¬ i < 16:=by omega
   have hs:=kB b hlt
   rw [uX b h16] at hs
   have hset:=mQ (l:=bd b i) (i:=i) (by omega) ((bd b i).getD (i - 16) 0+(bd b i).getD (i - 7) 0+rX ((bd b i).getD (i - 15) 0)+rY ((bd b i).getD (i - 2) 0))
   rw [hs] at hset
   have g15:=dW (l:=bd b i) (i:=i - 15) (by omega)
   have g2:=dW (l:=bd b i) (i:=i - 2) (by omega)
   have g16:=dW (l:=bd b i) (i:=i - 16) (by omega)
   have g7:=dW (l:=bd b i) (i:=i - 7) (by omega)
   have f15:((i:Int) - 15).toNat=i - 15:=by omega
   have f2:((i:Int) - 2).toNat=i - 2:=by omega
   have f16:((i:Int) - 16).toNat=i - 16:=by omega
   have f7:((i:Int) - 7).toNat=i - 7:=by omega
   have p15:0 < 64 - (i - 15):=by omega
   have p2:0 < 64 - (i - 2):=by omega
   have p16:0 < 64 - (i - 16):=by omega
   have p7:0 < 64 - (i - 7):=by omega
   refine qw0 ?_
   refine bA nmd [] [] mixed hng (by kernel_rfl) [0,2,3,4,5,6] fun hf C S K hC hS hK=>?_;simp (disch:=first|omega|assumption) only [go_sem,hl,f15,f2,p15,p2,g15,g2,Nat.zero_add,Nat.mul_one]
   (first|refine hK (aE rfl) ?_|refine hK (by simp (disch:=first|omega|assumption) only [go_sem,List.reverse_cons,List.reverse_nil,ne_eq,not_false_eq_true,implies_true]) ?_);clear hK hS hC K S C hf
   (try ((first|refine zn ?_|refine ze ?_|refine zk ?_);with_reducible (constructor;repeat constructor));try refine zl ?_)
   generalize (bd b i).getD (i - 15) 0=X at hset
   generalize (bd b i).getD (i - 2) 0=Y at hset
   have h63:i≤63:=by omega
   clear g15 g2 p15 p2 f15 f2 hs
   simp only [rX,rY] at hset
   refine bA nmd [] [(4,11),(8,11),(4,13),(8,13),(4,20),(8,20),(4,22),(8,22)] mixed hng (by kernel_rfl) [0,2,6] fun hf C S K hC hS hK=>?_;simp (disch:=first|omega|assumption) only [go_sem,hl,f16,f7,p16,p7,g16,g7,h63,hset,Nat.zero_add,Nat.mul_one]
   refine hC _ (bS X 7 (by decide) (by decide) _) (fun _ h=>by cases h) ?_
   simp (disch:=first|omega|assumption) only [go_sem,hl,f16,f7,p16,p7,g16,g7,h63,hset,Nat.zero_add,Nat.mul_one]
   refine hC _ (bS X 18 (by decide) (by decide) _) (fun _ h=>by cases h) ?_
   simp (disch:=first|omega|assumption) only [go_sem,hl,f16,f7,p16,p7,g16,g7,h63,hset,Nat.zero_add,Nat.mul_one]
   refine hC _ (bS Y 17 (by decide) (by decide) _) (fun _ h=>by cases h) ?_
   simp (disch:=first|omega|assumption) only [go_sem,hl,f16,f7,p16,p7,g16,g7,h63,hset,Nat.zero_add,Nat.mul_one]
   refine hC _ (bS Y 19 (by decide) (by decide) _) (fun _ h=>by cases h) ?_
   simp (disch:=first|omega|assumption) only [go_sem,hl,f16,f7,p16,p7,g16,g7,h63,hset,Nat.zero_add,Nat.mul_one]
   (first|refine hK (aE rfl) ?_|refine hK (by simp (disch:=first|omega|assumption) only [go_sem,List.reverse_cons,List.reverse_nil,ne_eq,not_false_eq_true,implies_true]) ?_);clear hK hS hC K S C hf
   refine qw0 ?_
   exact ⟨_,_,by omega,fun _ _ h=>h,i+1,_,rfl,rfl,by omega⟩
 ·obtain rfl:i=64:=by omega
  have ht:List.take 64 ((bd b 64).map w32)=(bd b 64).map w32:=List.take_of_length_le (by rw [List.length_map,hl];exact Nat.le_refl _)
  have hd:List.drop 64 ((bd b 64).map w32)=[]:=List.drop_of_length_le (by rw [List.length_map,hl];exact Nat.le_refl _)
  rw [← pR]
  refine qw (ai hl (ai ht hd)) ?_
  exact ar (aq (qs (ai hl (ai ht hd))))
end Go.Proofs.YtpficjpdfbiedaaGreatDoor
namespace Go.Proofs.YtpficjpdfbiedaaGreatDoor
open Go Go.Ab
set_option maxRecDepth 20000
set_option maxHeartbeats 1000000
def b7 (s:S8):List AV:=[.int .u32 s.a.toNat,.int .u32 s.b.toNat,.int .u32 s.c.toNat,.int .u32 s.d.toNat,.int .u32 s.e.toNat,.int .u32 s.f.toNat,.int .u32 s.g.toNat,.int .u32 s.h.toNat]
theorem oB (s:S8):b7 s=s.l.map w32:=rfl
theorem qN:(default:W32)=0:=rfl
theorem z64:zer Tryz.prog 145=some ((List.replicate 64 (0:W32)).map w32):=by kernel_rfl
theorem wU:(List.replicate 64 (0:W32)).length=64:=rfl
theorem uZ:List.drop 64 ((List.replicate 64 (0:W32)).map w32)=[]:=rfl
attribute [go_sem] z64 wU uZ
theorem yX (q:Oid) (h:S8) (b:List UInt8) (hb:b.length=64) (p:Oid) (hq:¬ Oid.under p q):ak Tryz.prog 63 [.ptr q 0,.str b] (Oid.under p) ⟨[(q,.cells (b7 h))],.tuple [],[(q,some (.cells ((dV aM h.l b).map w32)))]⟩:=by
 have hC:=uW
 have hW:=fun p=>uY b hb p
 have hlW:=bL b 64
 unfold dV
 rw [S8.zJ]
 generalize aS b 64=W at hW hlW ⊢
 refine aK (n:=104) (rs:=[]) Tryz.func63 rfl rfl (by decide) rfl rfl rfl ?_;rintro x rfl hrd hng
 refine qw0 ?_
 refine qr .o (uu hq) (cq (hC _) trivial) ?_
 simp only [b7]
 refine qw (uu hq) ?_
 refine qr .o (uu hq) (cq (hW _) trivial) ?_
 refine aT [0,4,5,18,19] (fun k s'=>∃ (i c:Nat) (X:S8),s' = ⟨[(0,.ptr q 0),(4,.ptr (.sub 0 1 x.p) 0),(5,.ptr (.sub 1 3 x.p) 0),(18,.agg (W.map w32)),(19,.int .i64 i)],Mem.of [(q,.cells (b7 h)),(.sub 0 1 x.p,.cells (aM.map w32)),(.sub 1 3 x.p,.cells (b7 X))],c,[]⟩∧k=64 - i∧i≤64∧X=fW aM W h i) _ ⟨0,_,h,rfl,rfl,by omega,rfl⟩ ?_
 rintro k s' ⟨i,c,X,rfl,rfl,hi,hX⟩
 refine qw0 ?_
 refine aY rfl rfl (fun hb=>?_) (fun hb=>?_)
 ·have hlt:i < 64:=by omega
  have gK:=dW (l:=aM) (i:=i) (by rw [bm];exact hlt)
  have gW:(W.map w32).getD i AV.undef = .int .u32 ((W.getD i 0).toNat:Int):=bR (by omega) _
  have pK:0 < 64 - i:=by omega
  have hR:fW aM W h (i+1)=X.rnd (aM.getD i 0) (W.getD i 0):=by rw [hX];rfl
  clear hX
  generalize aM.getD i 0=kk at gK hR
  obtain ⟨xa,xb,xc,xd,xe,xf,xg,xh⟩:=X
  simp only [b7]
  (try ((first|refine zn ?_|refine ze ?_|refine zk ?_);with_reducible (constructor;repeat constructor));try refine zl ?_)
  refine az nmd [] hng (by kernel_rfl) fun hf C S K hC1 hC hS hK=>?_;simp (disch:=first|omega|assumption) only [go_sem,Oid.aa hq,Oid.ab hq,hlW,w32,qN,Nat.mul_one,Nat.zero_add]
  refine hK ?_;clear hK hS hC hC1 K S C hf
  generalize W.getD i 0=ww at hR ⊢
  refine qd (.d [] [] [0,4,5,6,7,8,9,18,19]) (uu hq) trivial ?_
  refine bA nmd [] [(1,3),(1,5),(1,8),(3,12),(5,12),(8,12),(3,15),(5,15),(8,15),(3,17),(5,17),(8,17),(3,24),(5,24),(8,24)] mixed hng (by kernel_rfl) [0,4,5,9,10,18,19] fun hf C S K hC hS hK=>?_;simp (disch:=first|omega|assumption) only [go_sem,Oid.aa hq,Oid.ab hq,bm,pK,gK,Nat.mul_one,Nat.zero_add]
  refine hC _ (bS xe 6 (by decide) (by decide) _) (fun _ h=>by cases h) ?_
  simp (disch:=first|omega|assumption) only [go_sem,Oid.aa hq,Oid.ab hq,bm,pK,gK,Nat.mul_one,Nat.zero_add]
  refine hC _ (bS xe 11 (by decide) (by decide) _) (fun _ h=>by cases h) ?_
  simp (disch:=first|omega|assumption) only [go_sem,Oid.aa hq,Oid.ab hq,bm,pK,gK,Nat.mul_one,Nat.zero_add]
  refine hC _ (bS xe 25 (by decide) (by decide) _) (fun _ h=>by cases h) ?_
  simp (disch:=first|omega|assumption) only [go_sem,Oid.aa hq,Oid.ab hq,bm,pK,gK,Nat.mul_one,Nat.zero_add]
  (first|refine hK (aE rfl) ?_|refine hK (by simp (disch:=first|omega|assumption) only [go_sem,List.reverse_cons,List.reverse_nil,ne_eq,not_false_eq_true,implies_true]) ?_);clear hK hS hC K S C hf
  (try ((first|refine zn ?_|refine ze ?_|refine zk ?_);with_reducible (constructor;repeat constructor));try refine zl ?_)
  refine bA nmd [] [(1,10),(3,10),(6,10),(1,13),(3,13),(6,13),(1,16),(3,16),(6,16)] mixed hng (by kernel_rfl) [0,4,5,10,11,18,19] fun hf C S K hC hS hK=>?_;simp (disch:=first|omega|assumption) only [go_sem,Oid.aa hq,Oid.ab hq,bm,pK,gK,Nat.mul_one,Nat.zero_add]
  refine hC _ (bS xa 2 (by decide) (by decide) _) (fun _ h=>by cases h) ?_
  simp (disch:=first|omega|assumption) only [go_sem,Oid.aa hq,Oid.ab hq,bm,pK,gK,Nat.mul_one,Nat.zero_add]
  refine hC _ (bS xa 13 (by decide) (by decide) _) (fun _ h=>by cases h) ?_
  simp (disch:=first|omega|assumption) only [go_sem,Oid.aa hq,Oid.ab hq,bm,pK,gK,Nat.mul_one,Nat.zero_add]
  refine hC _ (bS xa 22 (by decide) (by decide) _) (fun _ h=>by cases h) ?_
  simp (disch:=first|omega|assumption) only [go_sem,Oid.aa hq,Oid.ab hq,bm,pK,gK,Nat.mul_one,Nat.zero_add]
  (first|refine hK (aE rfl) ?_|refine hK (by simp (disch:=first|omega|assumption) only [go_sem,List.reverse_cons,List.reverse_nil,ne_eq,not_false_eq_true,implies_true]) ?_);clear hK hS hC K S C hf
  (try ((first|refine zn ?_|refine ze ?_|refine zk ?_);with_reducible (constructor;repeat constructor));try refine zl ?_)
  have h81:(8 - 1:Nat)=7:=rfl
  have m77:min 7 7=7:=rfl
  have m78:min 7 8=7:=rfl
  refine qd (.d [] [] [0,4,5,10,11,18,19]) (ai (uu hq) (ai h81 (ai m77 m78))) trivial ?_
  refine qw (uu hq) ?_
  exact ⟨_,_,by omega,fun _ _ h=>h,i+1,_,S8.rnd ⟨xa,xb,xc,xd,xe,xf,xg,xh⟩ kk ww,rfl,rfl,by omega,hR.symm⟩
 ·obtain rfl:i=64:=by omega
  rw [← hX]
  clear hX
  have e0:b7 h=(ee h.l X.l 0).map w32:=by rw [yS rfl];rfl
  rw [e0,show b7 X=X.l.map w32 from rfl]
  clear e0 hW hC
  refine qw (uu hq) ?_
  refine aT [0,5,89] (fun k s'=>∃ i c:Nat,s' = ⟨[(0,.ptr q 0),(5,.ptr (.sub 1 3 x.p) 0),(89,.int .i64 i)],Mem.of [(q,.cells ((ee h.l X.l i).map w32)),(.sub 0 1 x.p,.cells (aM.map w32)),(.sub 1 3 x.p,.cells (X.l.map w32))],c,[]⟩∧k=8 - i∧i≤8) _ ⟨0,_,rfl,rfl,by omega⟩ ?_
  rintro k s' ⟨i,c,rfl,rfl,hi⟩
  refine qw0 ?_
  refine aY rfl rfl (fun hb=>?_) (fun hb=>?_)
  ·have hlt:i < 8:=by omega
   have hl:=cV h.l X.l i
   have hx:X.l.length=8:=rfl
   have d1:=dW (l:=ee h.l X.l i) (i:=i) (by omega)
   rw [ox _ _ _ hlt,if_neg (Nat.lt_irrefl i)] at d1
   have d2:=dW (l:=X.l) (i:=i) (by omega)
   have p8:0 < 8 - i:=by omega
   have h7:i≤7:=by omega
   have hset:=mQ (l:=ee h.l X.l i) (i:=i) (by omega) (h.l.getD i 0+X.l.getD i 0)
   rw [uP _ _ hlt] at hset
   refine qw (uu hq) ?_
   refine bA nmd [] [] mixed hng (by kernel_rfl) [0,5,89] fun hf C S K hC hS hK=>?_;simp (disch:=first|omega|assumption) only [go_sem,Oid.aa hq,Oid.ab hq,hl,hx,d1,d2,p8,h7,hset,Nat.mul_one,Nat.zero_add]
   (first|refine hK (aE rfl) ?_|refine hK (by simp (disch:=first|omega|assumption) only [go_sem,List.reverse_cons,List.reverse_nil,ne_eq,not_false_eq_true,implies_true]) ?_);clear hK hS hC K S C hf
   refine qw0 ?_
   exact ⟨_,_,by omega,fun _ _ h=>h,i+1,_,rfl,rfl,by omega⟩
  ·obtain rfl:i=8:=by omega
   refine qw (uu hq) ?_
   refine dS (rK rfl ?_ ?_)
   all_goals simp only [List.mem_cons,List.not_mem_nil,or_false,forall_eq_or_imp,forall_eq,Option.some.injEq,forall_eq',Mem.al,eq_self,if_true,↓reduceIte,reduceCtorEq,implies_true,not_true_eq_false,false_imp_iff,true_and,and_true,false_and,and_false,imp_self,Oid.aa hq,Oid.ab hq]
end Go.Proofs.YtpficjpdfbiedaaGreatDoor
namespace Go.Proofs.YtpficjpdfbiedaaGreatDoor
open Go Go.Ab
set_option maxRecDepth 20000
theorem fK {P:Program} [Laid P] {o:Oper} {ρ:Operand→AV} {sp:Oid→Prop} {s d el:TypeId} {y:Operand} {id:Oid} {l:Str} {ag:Bool} {sz bt:Nat} (ho:o.op = .convert s d y) (hy:ρ y = .sl id 1 l.length) (h0:0 < l.length)
  (hs:tyk P s=some (.slice el ag sz bt)) (h8:u8K (tyk P el)=true) (hd:tyk P d=some .str):aw P o ρ sp ⟨[(id,.arr 1 (l.map byA))],.str l,[]⟩:=by
 refine aw.of fun x g a w m hm hn hop _=>?_
 have hv:=hop y (by simp [Op.operands,ho])
 rw [hy] at hv
 obtain ⟨ds,hds,rfl,_⟩:=ax hs
 obtain ⟨dd,hdd,rfl⟩:=ax hd
 have he8:P.underlying el=some (.int .u8):=by
  unfold u8K at h8
  split at h8
  ·rename_i hk;obtain ⟨d8,h9,rfl⟩:=ax hk;exact h9
  ·cases h8
 obtain ⟨b,cap,hu,hb,hcap,hrw⟩:=hv.cN.resolve_left (fun h=>by omega)
 obtain ⟨b',h1,h2,h3,h4⟩:=hm.fj (hn (id,.arr 1 (l.map byA)) (by simp)) hb
 rw [hb] at h1;simp only [Option.some.injEq] at h1;subst h1
 obtain ⟨c,t,fz,c1,c2,c3,c4,c5,c6⟩:=h4
 have hcell:∀ j (hj:j < l.length),w.cell? ((⟨b,0,none⟩:Addr).add j)=some (.int .u8 (l[j].toNat:Int)):=fun j hj=>by
  have h6:=c6 j 0 (by simpa using hj) (by omega)
  have hx:(l.map byA).getD j .undef=byA l[j]:=by rw [List.getD_eq_getElem?_getD,List.getElem?_map,List.getElem?_eq_getElem hj];rfl
  rw [hx] at h6
  have h7:(byA l[j]).cells.getD 0 .undef = .int .u8 (l[j].toNat:Int):=rfl
  rw [h7] at h6
  have h8:=h6.aJ
  have hsz:j < c.size:=by simp at c2;omega
  have hadd:((⟨b,0,none⟩:Addr).add j)=⟨b,j,none⟩:=by
   unfold Addr.add
   by_cases hj0:j=0
   ·subst hj0;simp
   ·simp [hj0]
  rw [hadd]
  rw [Array.getD_eq_getD_getElem?] at h8
  rw [show j * 1+0=j by omega,Array.getElem?_eq_getElem hsz] at h8
  simp only [Option.getD_some] at h8
  simp [World.cell?,c1,Array.getElem?_eq_getElem hsz,h8]
 have hrun:=run_convert_bytes_back (P:=P) w s d el ⟨b,0,none⟩ cap l hds he8 hdd hcell
 refine ⟨g,.value (.string ⟨l.toArray⟩),_,w,?_,.inl rfl,Gh.le_refl g,fun _ _=>rfl,.str _ _ rfl,hm⟩
 simp [execOp,ho,hu,hrun]
end Go.Proofs.YtpficjpdfbiedaaGreatDoor
namespace Go.Proofs.YtpficjpdfbiedaaGreatDoor
open Go Go.Ab
set_option maxRecDepth 20000
set_option maxHeartbeats 1000000
def b8 (n:Nat):Nat:=(64+56 - 1 - n % 64) % 64
def lN (n:Nat):Nat→List UInt8
 | 0=>[]
 | i+1=>ef n i::lN n i
def kD (n i:Nat):List UInt8:=(128::List.replicate (b8 n+(8 - i)) 0)++lN n i
theorem lO (n:Nat):∀ i,(lN n i).length=i
 | 0=>rfl
 | i+1=>by rw [lN,List.length_cons,lO n i]
theorem u0 (n:Nat) {i:Nat} (h:i≤8):(kD n i).length=1+b8 n+8:=by
 simp only [kD,List.length_append,List.length_cons,List.length_replicate,lO];omega
theorem u3 (n:Nat):kD n 8=e9 n:=rfl
theorem u4 (n:Nat) {i:Nat} (h:i < 8):(kD n i).set (b8 n+8 - i) (ef n i)=kD n (i+1):=by
 have e:kD n i=(128::List.replicate (b8 n+(8 - (i+1))) 0)++0::lN n i:=by
  have e1:b8 n+(8 - i)=(b8 n+(8 - (i+1)))+1:=by omega
  rw [kD,e1,List.replicate_succ']
  simp
 have e2:b8 n+8 - i=((128:UInt8)::List.replicate (b8 n+(8 - (i+1))) 0).length+0:=by
  simp only [List.length_cons,List.length_replicate];omega
 rw [e,e2,List.set_append_right _ _ (by omega),Nat.add_sub_cancel_left,List.set_cons_zero]
 rfl
theorem yY (n:Nat):(List.replicate (1+b8 n+8) (0:UInt8)).set 0 128=kD n 0:=by
 have e:1+b8 n+8=(b8 n+8)+1:=by omega
 rw [e,List.replicate_succ,List.set_cons_zero]
 simp [kD,lN]
theorem zN (k:Nat):IntKind.u8.wrap (k:Int)=((UInt8.ofNat k).toNat:Int):=by
 have e:IntKind.u8.wrap (k:Int)=(k:Int) % (2 ^ 8:Int):=by simp [IntKind.wrap,IntKind.signed,IntKind.bits]
 rw [e,UInt8.toNat_ofNat']
 omega
theorem oC (n:Nat) {i:Nat} (h:i < 8):IntKind.u8.wrap (((n:Int) * 8).fdiv (2 ^ (8 * i)))=((ef n i).toNat:Int):=by
 have e:(2:Int) ^ (8 * i)=((2 ^ (8 * i):Nat):Int):=by push_cast;rfl
 rw [e,Int.fdiv_eq_ediv_of_nonneg _ (Int.natCast_nonneg _),show (n:Int) * 8=((n * 8:Nat):Int) by push_cast;rfl,← Int.natCast_ediv,zN]
 rfl
theorem qO (l:List UInt8) (i:Nat) (b:UInt8):(l.map byA).set i (AV.int .u8 (b.toNat:Int))=(l.set i b).map byA:=by
 rw [show AV.int .u8 (b.toNat:Int)=byA b from rfl,List.map_set]
theorem pS (n:Nat) (hn:n≤4000000000) (p:Oid):ak Tryz.prog 62 [.int .i64 n] (Oid.under p) ⟨[],.str (e9 n),[]⟩:=by
 have hz:b8 n < 64:=Nat.mod_lt _ (by decide)
 have h64:n % 64 < 64:=Nat.mod_lt _ (by decide)
 have e1:(n:Int).tmod 64=((n % 64:Nat):Int):=cT _ 64
 have e2:((119:Int) - ((n % 64:Nat):Int)).tmod 64=(b8 n:Int):=by
  rw [show (119:Int) - ((n % 64:Nat):Int)=((64+56 - 1 - n % 64:Nat):Int) by omega,show (64:Int)=((64:Nat):Int) from rfl,cT];rfl
 have e3:(1:Int)+(b8 n:Int)+8=((1+b8 n+8:Nat):Int):=by omega
 refine aK (n:=33) (rs:=[.tmp 2]) Tryz.func62 rfl rfl (by decide) rfl rfl rfl ?_;rintro x rfl hrd hng
 refine qw0 ?_
 refine az nmd [] hng (by kernel_rfl) fun hf C S K hC1 hC hS hK=>?_;simp (disch:=first|omega|assumption) only [go_sem,e1,e2,e3]
 refine hS _ _ _ (fun o' hd ho'=>(la (nid:=.sub 1 6 x.p) (n:=1+b8 n+8) (v0:=.int .u8 0) (sz:=1) (bytes:=1) ho' rfl rfl rfl rfl rfl rfl (by omega) (by omega) (by omega) (Oid.ah _) rfl).nd) (fun _ h=>by cases h) ?_ (fun _ _ h=>h.elim)
 rintro _ _ ⟨rfl,rfl⟩
 simp (disch:=first|omega|assumption) only [go_sem,e1,e2,e3]
 refine hK ?_;clear hK hS hC hC1 K S C hf
 (try ((first|refine zn ?_|refine ze ?_|refine zk ?_);with_reducible (constructor;repeat constructor));try refine zl ?_)
 rw [show List.replicate (1+b8 n+8) (AV.int .u8 0)=(List.replicate (1+b8 n+8) (0:UInt8)).map byA from by rw [List.map_replicate];rfl]
 have h0:=qO (List.replicate (1+b8 n+8) (0:UInt8)) 0 128
 rw [yY] at h0
 have hr:(List.replicate (1+b8 n+8) (0:UInt8)).length=1+b8 n+8:=List.length_replicate
 generalize List.replicate (1+b8 n+8) (0:UInt8)=R at h0 hr ⊢
 change (R.map byA).set 0 (AV.int .u8 128)=_ at h0
 refine qw (ai hr h0) ?_
 refine aT [0,3,14] (fun k s'=>∃ i c:Nat,s' = ⟨[(0,.int .i64 n),(3,.sl (.sub 1 6 x.p) 1 (1+b8 n+8)),(14,.int .i64 i)],Mem.of [(.sub 1 6 x.p,.arr 1 ((kD n i).map byA))],c,[]⟩∧k=8 - i∧i≤8) _ ⟨0,_,rfl,rfl,by omega⟩ ?_
 rintro k s' ⟨i,c,rfl,rfl,hi⟩
 refine qw0 ?_
 refine aY rfl rfl (fun hb=>?_) (fun hb=>?_)
 ·have hlt:i < 8:=by omega
  have hl:=u0 n hi
  have hset:=qO (kD n i) (b8 n+8 - i) (ef n i)
  rw [u4 n hlt] at hset
  have f1:(((1+b8 n+8:Nat):Int) - 1 - i).toNat=b8 n+8 - i:=by omega
  have hv:=oC n hlt
  have hm:min ((8:Int) * i).toNat 64=8 * i:=by omega
  refine qw0 ?_
  have hlt2:b8 n+8 - i < 1+b8 n+8:=by omega
  refine qr .o (ai hl (ai hset (ai f1 (ai hv (ai hm hlt2))))) trivial ?_
  refine qw0 ?_
  exact ⟨_,_,by omega,fun _ _ h=>h,i+1,_,rfl,rfl,by omega⟩
 ·obtain rfl:i=8:=by omega
  rw [u3]
  refine qw0 ?_
  have hpl:=iC n
  refine az nmd [] hng (by kernel_rfl) fun hf C S K hC1 hC hS hK=>?_;simp (disch:=first|omega|assumption) only [go_sem]
  refine hS _ _ _ (fun o' hd ho'=>(fK (id:=.sub 1 6 x.p) (l:=e9 n) ho' (by rw [hpl];rfl) (by rw [hpl];omega) rfl rfl rfl).nd) qs0 ?_ (fun _ _ h=>h.elim)
  rintro _ _ ⟨rfl,rfl⟩
  simp (disch:=first|omega|assumption) only [go_sem]
  refine hK ?_;clear hK hS hC hC1 K S C hf
  refine qw0 ?_
  exact ar (aq rfl)
theorem pT (a:W32):cl .and .u32 (a.toNat:Int) 15=some (.int .u32 ((a &&& 15).toNat:Int)):=kA a 15
attribute [go_sem high] pT
theorem oD (a:W32):(a &&& 15).toNat < 16:=by
 have h:(a &&& 15).toNat≤(15:W32).toNat:=by rw [BitVec.toNat_and];exact Nat.and_le_right
 exact Nat.lt_succ_of_le h
theorem lP (x:W32) {j:Nat} (h:j < 8):(fb x).take (j+1)=(fb x).take j++[mN x (28 - 4 * j)]:=by
 have hj:j=0∨j=1∨j=2∨j=3∨j=4∨j=5∨j=6∨j=7:=by omega
 rcases hj with rfl|rfl|rfl|rfl|rfl|rfl|rfl|rfl<;>rfl
def eS (l:List W32):List UInt8:=(l.map fb).flatten
theorem lQ {l:List W32} {i:Nat} (h:i < l.length):eS (l.take (i+1))=eS (l.take i)++fb (l.getD i 0):=by
 unfold eS
 rw [List.take_add_one,List.getElem?_eq_getElem h,List.getD_eq_getElem?_getD,List.getElem?_eq_getElem h,List.map_append,List.flatten_append]
 simp
theorem iF (l:List W32):(eS l).length=8 * l.length:=by
 unfold eS
 induction l with
 | nil=>rfl
 | cons x l ih=>simp only [List.map_cons,List.flatten_cons,List.length_append,List.length_cons,ih];simp [fb];omega
theorem pU (X:S8) (p:Oid):ak Tryz.prog 64 [.agg (b7 X)] (Oid.under p) ⟨[],.str (eS X.l),[]⟩:=by
 have hx8:X.l.length=8:=rfl
 rw [show b7 X=X.l.map w32 from rfl]
 generalize X.l=l at hx8 ⊢
 refine aK (n:=26) (rs:=[.tmp 2]) Tryz.func64 rfl rfl (by decide) rfl rfl rfl ?_;rintro x rfl hrd hng
 refine qw0 ?_
 refine fD 3 1 rfl ?_
 simp (disch:=first|omega|assumption) only [go_sem]
 have t8:List.take 8 (l.map w32)=l.map w32:=List.take_of_length_le (by rw [List.length_map,hx8];exact Nat.le_refl _)
 refine qw (ai hx8 t8) ?_
 refine aT [3,7,8] (fun k s'=>∃ (i c d e:Nat),s' = ⟨[(3,.sl (.sub d e x.p) 1 (8 * i)),(7,.agg (l.map w32)),(8,.int .i64 i)],Mem.of [(.sub 0 0 x.p,.cells (l.map w32)),(.sub d e x.p,.arr 1 ((eS (l.take i)).map byA))],c,[]⟩∧k=8 - i∧i≤8∧0 < d∧d < c) _ ⟨0,_,2,0,rfl,rfl,by omega,by omega,by omega⟩ ?_
 rintro k s' ⟨i,c,d,e,rfl,rfl,hi,hd,hdc⟩
 refine qw0 ?_
 refine aY rfl rfl (fun hb=>?_) (fun hb=>?_)
 ·have hlt:i < 8:=by omega
  have gW:(l.map w32).getD i AV.undef = .int .u32 ((l.getD i 0).toNat:Int):=bR (by omega) _
  have hht:=lQ (l:=l) (i:=i) (by omega)
  have hhl:=iF (l.take i)
  rw [List.length_take,Nat.min_eq_left (by omega)] at hhl
  (repeat (first|(refine aA rfl rfl ?_)|(refine aB rfl rfl ?_)|(refine az nmd [] hng (by kernel_rfl) fun hf C S K hC1 hC hS hK=>?_;simp (disch:=first|omega|assumption) only [go_sem,hx8,w32,qN,Nat.mul_one,Nat.zero_add];refine hK ?_;clear hK hS hC hC1 K S C hf)|((first|refine zn ?_|refine ze ?_|refine zk ?_);with_reducible (constructor;repeat constructor);try refine zl ?_)))
  generalize l.getD i 0=X at hht ⊢
  generalize eS (l.take i)=D at hht hhl ⊢
  refine aT [3,5,6,7,8] (fun k s'=>∃ (j c d e:Nat) (kk:Int),s' = ⟨[(3,.sl (.sub d e x.p) 1 (8 * i+j)),(5,.int .u32 X.toNat),(6,.int .i64 kk),(7,.agg (l.map w32)),(8,.int .i64 i)],Mem.of [(.sub 0 0 x.p,.cells (l.map w32)),(.sub d e x.p,.arr 1 ((D++(fb X).take j).map byA))],c,[]⟩∧k=8 - j∧j≤8∧kk=28 - 4 * (j:Int)∧0 < d∧d < c) _ ⟨0,_,d,e,28,by rw [List.take_zero,List.append_nil];rfl,rfl,by omega,by omega,by omega,by omega⟩ ?_
  rintro k s' ⟨j,c,d,e,kk,rfl,rfl,hj,hkk,hd,hdc⟩
  refine qw0 ?_
  refine aY rfl rfl (fun hb=>?_) (fun hb=>?_)
  ·have hj8:j < 8:=by omega
   have fk:kk.toNat=28 - 4 * j:=by omega
   have hht2:=lP X hj8
   have hl15:=oD (X >>> (28 - 4 * j))
   have hDl:(D++(fb X).take j).length=8 * i+j:=by
    rw [List.length_append,hhl,List.length_take,Nat.min_eq_left (show j≤(fb X).length by show j≤8;omega)]
   have hrow:(D++(fb X).take (j+1)).map byA=(D++(fb X).take j).map byA++[AV.int .u8 ((yT.getD (X >>> (28 - 4 * j) &&& 15).toNat 0).toNat:Int)]:=by
    rw [hht2,← List.append_assoc,List.map_append];rfl
   generalize D++(fb X).take j=DD at hDl hrow ⊢
   refine qw0 ?_
   refine qr .o (ai fk hDl) trivial ?_
   refine qw0 ?_
   exact ⟨_,_,by omega,fun _ _ h=>h,j+1,c+1+1+1,c+1,7,kk - 4,by rw [hrow];rfl,rfl,by omega,by omega,by omega,by omega⟩
  ·obtain rfl:j=8:=by omega
   refine qw0 ?_
   exact ⟨_,_,by omega,fun _ _ h=>h,i+1,c+1+1,d,e,by rw [hht];rfl,rfl,by omega,by omega,by omega⟩
 ·obtain rfl:i=8:=by omega
  have hl8:l.take 8=l:=List.take_of_length_le (by omega)
  have hhl:=iF l
  rw [hx8] at hhl
  rw [hl8]
  refine qw0 ?_
  refine az nmd [] hng (by kernel_rfl) fun hf C S K hC1 hC hS hK=>?_;simp (disch:=first|omega|assumption) only [go_sem]
  refine hS _ _ _ (fun o' hd ho'=>(fK (id:=.sub d e x.p) (l:=eS l) ho' (by rw [hhl];rfl) (by rw [hhl];omega) rfl rfl rfl).nd) qs0 ?_ (fun _ _ h=>h.elim)
  rintro _ _ ⟨rfl,rfl⟩
  simp (disch:=first|omega|assumption) only [go_sem]
  refine hK ?_;clear hK hS hC hC1 K S C hf
  refine qw0 ?_
  exact ar (aq rfl)
end Go.Proofs.YtpficjpdfbiedaaGreatDoor
namespace Go.Proofs.YtpficjpdfbiedaaGreatDoor
open Go Go.Ab
set_option maxRecDepth 20000
set_option maxHeartbeats 1000000
theorem qP:∀ {l:List W32},l.length=8→(S8.of l).l=l
 | [_,_,_,_,_,_,_,_],_=>rfl
theorem oE (s:List UInt8):jB s=eS (bM aM ((s++e9 s.length).length / 64) iD (s++e9 s.length)):=rfl
def xu:S8:=⟨1779033703,3144134277,1013904242,2773480762,1359893119,2600822924,528734635,1541459225⟩
theorem yZ (s:List UInt8) (hl:s.length≤2000000000) (p:Oid):ak Tryz.prog 23 [.str s] (Oid.under p) ⟨[],.str (jB s),[]⟩:=by
 have hpad:=fun p=>pS s.length (by omega) p
 obtain ⟨m0,hm0⟩:=uQ s
 have hpl:=iC s.length
 rw [oE]
 generalize ht:s++e9 s.length=total at hm0
 refine aK (n:=20) (rs:=[.tmp 2]) Tryz.func23 rfl rfl (by decide) rfl rfl rfl ?_;rintro x rfl hrd hng
 refine qw0 ?_
 refine qr .o ht (cq (hpad _) trivial) ?_
 refine aT [3,4] (fun k s'=>∃ (r:List UInt8) (X:S8) (c m:Nat),s' = ⟨[(3,.ptr (.sub 1 1 x.p) 0),(4,.str r)],Mem.of [(.sub 1 1 x.p,.cells (b7 X))],c,[]⟩∧k=m∧r.length=64 * m∧1 < c∧bM aM m X.l r=bM aM (total.length / 64) iD total) _ ⟨total,xu,_,m0+1,rfl,rfl,hm0,by omega,by rw [hm0,Nat.mul_div_cancel_left _ (by decide)];rfl⟩ ?_
 rintro k s' ⟨r,X,c,m,rfl,rfl,hr,hc,hbl⟩
 refine qw0 ?_
 refine rp rfl rfl (fun hb=>?_) (fun hb=>?_)
 ·have hb':¬ r=[]:=by simpa using hb
  obtain ⟨n,rfl⟩:∃ n,k=n+1:=by
   cases k with
   | zero=>exact absurd (List.eq_nil_of_length_eq_zero (by omega)) hb'
   | succ n=>exact ⟨n,rfl⟩
  have hadd:=fun p hq=>yX (.sub 1 1 x.p) X (r.take 64) (by rw [List.length_take];omega) p hq
  have h8:(dV aM X.l (r.take 64)).length=8:=cV _ _ _
  rw [← qP h8,← oB] at hadd
  have hbl2:bM aM (n+1) X.l r=bM aM n (S8.of (dV aM X.l (r.take 64))).l (r.drop 64):=by rw [qP h8];rfl
  rw [hbl2] at hbl
  clear hbl2
  generalize S8.of (dV aM X.l (r.take 64))=Y at hadd hbl
  refine qw0 ?_
  refine az nmd [] hng (by kernel_rfl) fun hf C S K hC1 hC hS hK=>?_;simp (disch:=first|omega|assumption) only [go_sem]
  refine hC1 _ (hadd _ (fun h=>by have:=(Oid.apart h (Oid.ah _)).1;omega)) qs0 ?_
  simp (disch:=first|omega|assumption) only [go_sem]
  refine hK ?_;clear hK hS hC hC1 K S C hf
  refine qw0 ?_
  exact ⟨_,_,by omega,fun _ _ h=>h,r.drop 64,Y,_,n,rfl,rfl,by rw [List.length_drop];omega,by omega,hbl⟩
 ·have hb':r=[]:=by simpa using hb
  subst hb'
  obtain rfl:k=0:=by simp at hr;omega
  have hX:X.l=bM aM (total.length / 64) iD total:=hbl
  have hd:=fun p=>pU X p
  rw [hX] at hd
  have c8:(b7 X).length=8:=rfl
  have t8:List.take 8 (b7 X)=b7 X:=rfl
  refine qw0 ?_
  refine qr .o (ai c8 t8) (cq (hd _) trivial) ?_
  refine qw0 ?_
  exact ar (a6 rfl)
end Go.Proofs.YtpficjpdfbiedaaGreatDoor
namespace Go.Ab
theorem oF {P:Program} [Laid P] {o:Oper} {ρ:Operand→AV} {sp:Oid→Prop} {t el:TypeId} {y z:Operand} {nid:Oid} {sz n cp bytes:Nat} {agg:Bool} {k1 k2:IntKind} {v0:AV} (ho:o.op = .makeSlice t y z) (hy:ρ y = .int k1 n) (hz:ρ z = .int k2 cp) (hnc:n≤cp)
  (htk:tyk P t=some (.slice el agg sz bytes)) (hzer:zer P el=some v0.cells) (hone:v0.cells.all AV.one=true) (hsz:v0.cells.length=sz) (h0:0 < sz) (hb:bytes * cp≤281474976710656) (h63:cp≤9223372036854775807) (hs:sp nid) (hnt:nid.tyd=none) :
  aw P o ρ sp ⟨[],.sl nid sz n,[(nid,some (.arr sz (List.replicate n v0)))]⟩:=by
 intro x g a w m hm _ hop hsp hng next Q K
 have vy:=hop y (by simp [Op.operands,ho])
 have vz:=hop z (by simp [Op.operands,ho])
 rw [hy] at vy;rw [hz] at vz
 have hyv:=vy.aJ
 have hzv:=vz.aJ
 have htk':P.underlying t=some (.slice el)∧∃ i,P.info? el=some i∧i.bytes=bytes∧i.size=sz:=by
  unfold tyk at htk
  split at htk<;>try (cases htk;done)
  ·rename_i e hu
   split at htk
   ·rename_i q i hq hi
    simp only [Option.some.injEq,TyK.slice.injEq] at htk
    obtain ⟨rfl,-,h3,h4⟩:=htk
    refine ⟨hu,i,hi,h4,?_⟩
    obtain ⟨d,i',_,hi',_,hn'⟩:=cO (b:=q.1) (n:=q.2) hq
    rw [hi] at hi';simp only [Option.some.injEq] at hi';subst hi'
    rw [hn',h3]
   ·cases htk
  ·rename_i n' e' hu
   cases hs':shp P e'<;>simp [hs'] at htk
  ·rename_i fs hu
   cases hmm:(fs.toList.mapM fun f=>(shp P f.type).map fun q=>(f.offset,q.1,q.2))<;>simp [hmm] at htk
 obtain ⟨hu,i,hi,hbi,hsi⟩:=htk'
 obtain ⟨zv,hzv0,hzc⟩:∃ zv,i.zero=some zv∧(bD zv).cells=v0.cells:=by
  simp only [zer,hi,Option.bind_some] at hzer
  cases hzz:i.zero with
  | none=>rw [hzz] at hzer;cases hzer
  | some zv=>rw [hzz] at hzer;exact ⟨zv,rfl,by simpa using hzer⟩
 have hzs:zv.cells.size=sz:=by rw [← cb,hzc,hsz]
 have hcell:∀ (g:Gh) j,j < sz→VR g (v0.cells.getD j .undef) (zv.cells.getD j undef):=fun g j hj=>by
  rw [← hzc];exact dk g zv j (by rw [hzc,hsz];exact hj)
 have hbb:(i.bytes:Int) * (cp:Int)≤281474976710656:=by
  rw [hbi,← Int.natCast_mul]
  omega
 have hrun:=run_make (P:=P) w t el i zv hu hi hzv0 k1 k2 (n:Int) (cp:Int) (by omega) (by omega) hbb (by omega)
 simp only [Int.toNat_natCast,hsi] at hrun
 have hex:(execOp a.eval o).run P w = .ok (.value (.slice (some ⟨w.heap.size,0,none⟩) n cp)) (w.alloc (.cells (madeCells zv.cells (cp * sz)) el)):=by
  simp only [execOp,ho,hyv,hzv,Sem.run_bind,hrun,Result.andThen_ok,Sem.run_pure]
 refine ⟨fun _ _=>trivial,?_⟩
 rw [Oper.semAt_eq _ _ _ (fun c hc=>by rw [ho] at hc;cases hc),hex,Oper.uponIn_value]
 obtain ⟨hl,hun⟩:=hsp nid hs
 have hrn:g.row w.heap.size=none:=hm.fN (Nat.le_refl _)
 have hcs:∀ i j,i < n→j < sz→(madeCells zv.cells (cp * sz)).getD (i * sz+j) undef=zv.cells.getD j undef:=fun i j hi hj=>by
  have hlt:i * sz+j < cp * sz:=by
   have:(i+1) * sz≤cp * sz:=Nat.mul_le_mul_right _ (by omega)
   rw [Nat.add_mul,Nat.one_mul] at this;omega
  have hmod:(i * sz+j) % sz=j:=by rw [Nat.mul_comm,Nat.mul_add_mod,Nat.mod_eq_of_lt hj]
  simp only [madeCells,Array.getD_eq_getD_getElem?,Array.getElem?_map,Array.getElem?_range,hlt,if_true,Option.map_some,Option.getD_some,hzs,hmod]
  rw [getElem!_def,Array.getElem?_eq_getElem (show j < zv.cells.size by rw [hzs];exact hj)]
  rfl
 have hone':∀ j,j < sz→(zv.cells.getD j undef).oneCell' = true:=fun j hj=>by
  have h1:=hcell g j hj
  have h2:(v0.cells.getD j .undef).one=true:=by
   rw [List.all_eq_true] at hone
   rw [List.getD_eq_getElem?_getD,List.getElem?_eq_getElem (by rw [hsz];exact hj),Option.getD_some]
   exact hone _ (List.getElem_mem _)
  generalize v0.cells.getD j .undef=q at h1 h2
  generalize zv.cells.getD j undef=r at h1 ⊢
  cases q<;>first|(simp [AV.one] at h2;done)|(cases h1<;>rfl)
 have hgetr:∀ i,i < n→(List.replicate n v0).getD i .undef=v0:=fun i hi=>by
  rw [List.getD_eq_getElem?_getD,List.getElem?_replicate,if_pos hi];rfl
 have hnew:=hm.new hl hun (o:=.arr sz (List.replicate n v0)) (ob:=.cells (madeCells zv.cells (cp * sz)) el) ⟨madeCells zv.cells (cp * sz),el,(0,0),aV w _,by rw [List.length_replicate,size_madeCells];exact Nat.mul_le_mul_right _ hnc,fun j _ hj=>by omega,fun i hi=>by
  rw [List.length_replicate] at hi
  rw [hgetr i hi];exact hsz,fun j hj=>by
  rw [List.length_replicate] at hj
  have hd:j / sz < n:=Nat.div_lt_of_lt_mul (by rw [Nat.mul_comm];exact hj)
  have:=hcs (j / sz) (j % sz) hd (Nat.mod_lt _ h0)
  rw [Nat.mul_comm (j / sz) sz,Nat.div_add_mod] at this
  rw [this];exact hone' _ (Nat.mod_lt _ h0),fun i j hi hj=>by
  rw [List.length_replicate] at hi
  rw [hgetr i hi,hcs i j hi hj];exact hcell _ j hj⟩ (fun t ht=>by rw [hnt] at ht;cases ht)
 refine K ((g.bind nid w.heap.size).measure w.heap.size (cp * sz)) _ _ (Gh.le_trans (Gh.aP hl) (Gh.bZ (.inl hrn))) (fun j hj=>?_) ?_ (hnew.measure ⟨madeCells zv.cells (cp * sz),el,(0,0),aV w _,size_madeCells _ _⟩ (.inl hrn))
 ·have hne:¬ j=nid:=fun e=>by subst e;exact hj hs
  simp only [Gh.bind,Gh.measure];rw [if_neg hne]
 ·exact .sl _ _ _ _ _ (by simp [Gh.bind,Gh.measure]) hnc (by simp [Gh.measure])
theorem pV {P:Program} [Laid P] {o:Oper} {ρ:Operand→AV} {sp:Oid→Prop} {t el:TypeId} {y a1 a2 a3:Operand} {sz by':Nat} {ag:Bool} {xs:List AV} {k1 k2 k3:IntKind} {l h:Nat} (ho:o.op = .slice t y (some a1) (some a2) (some a3)) (hy:ρ y = .list sz xs)
  (h1:ρ a1 = .int k1 l) (h2:ρ a2 = .int k2 h) (h3:ρ a3 = .int k3 h) (htk:tyk P t=some (.slice el ag sz by')) (hlh:l < h) (hle:h≤xs.length):aw P o ρ sp ⟨[],.list sz ((xs.take h).drop l),[]⟩:=by
 refine aw.plain fun g a w hop=>?_
 have vy:=hop y (by simp [Op.operands,ho])
 have v1:=hop a1 (by simp [Op.operands,ho])
 have v2:=hop a2 (by simp [Op.operands,ho])
 have v3:=hop a3 (by simp [Op.operands,ho])
 rw [hy] at vy;rw [h1] at v1;rw [h2] at v2;rw [h3] at v3
 obtain ⟨d,hd,rfl,hs,_⟩:=ax htk
 rcases vy.di with ⟨rfl,_⟩|⟨b,c,cap,cs,hu,hcap,hln,hc1,hc2⟩
 ·exact absurd hle (by simp;omega)
 have hlen:((xs.take h).drop l).length=h - l:=by simp;omega
 have hget:∀ i,i < h - l→((xs.take h).drop l).getD i .undef=xs.getD (l+i) .undef:=fun i hi=>by
  rw [bE,getD_take _ _ _ _ (by omega)]
 have key:VR g (.list sz ((xs.take h).drop l)) (.slice (some ⟨b,c+l * sz,none⟩) (h - l) (h - l)):=by
  have:=VR.list (g:=g) sz ((xs.take h).drop l) b (c+l * sz) (h - l) (fun i j=>cs (l+i) j) (by omega)
   (fun i hi=>by rw [hlen] at hi;rw [hget i hi];exact hln _ (by omega))
   (fun i j hi hj=>by
    rw [hlen] at hi
    have:=hc1 (l+i) j (by omega) hj
    rw [Nat.add_mul,← Nat.add_assoc] at this;exact this)
   (fun i j hi hj=>by rw [hlen] at hi;rw [hget i hi];exact hc2 _ _ (by omega) hj)
  rwa [hlen] at this
 refine ⟨_,?_,key⟩
 have e0:¬ h=l:=by omega
 have hc':h≤cap:=by omega
 have hlh':l≤h:=by omega
 simp [execOp,ho,Instr.sliceAt,ae hd,Instr.slice,hu,v1.aJ,v2.aJ,v3.aJ,Instr.sliceBounds,Instr.sliceBound,asIntOf,hc',hlh',run_sizeOf hs,addr_add,e0]
end Go.Ab
namespace Go.Proofs.YtpficjpdfbiedaaGreatDoor
open Go Go.Ab
set_option maxRecDepth 20000
set_option maxHeartbeats 1000000
theorem pW (a b:List Tch):spT (a++b)=spT a++spT b:=by
 induction a with
 | nil=>rfl
 | cons t a ih=>simp only [List.cons_append,spT,ih]
theorem oG {l:List Tch} {i:Nat} (h:i < l.length):spT (l.take (i+1))=spT (l.take i)++[(l.getD i default).1.1,kx (l.getD i default).1.2,(l.getD i default).2]:=by
 rw [List.take_add_one,List.getElem?_eq_getElem h,List.getD_eq_getElem?_getD,List.getElem?_eq_getElem h,pW]
 rfl
theorem oH (l:List Tch) (hn:l.length≤1000000) (hl:(aR l).length≤140737488355328) (p:Oid) (hp:p.mono=false):ak Tryz.prog 36 [.list 3 (l.map tchAV)] (Oid.under p) ⟨[],.str (aR l),[]⟩:=by
 have hl3:=e6 l
 have hE:=fun p hp=>cZ (spT l) hl (by omega) p hp
 have e3:(3:Int) * (l.length:Int)=((3 * l.length:Nat):Int):=by omega
 refine aK (n:=30) (rs:=[.tmp 2]) Tryz.func36 rfl rfl (by decide) rfl rfl rfl ?_;rintro x rfl hrd hng
 refine qw0 ?_
 refine az nmd [] hng (by kernel_rfl) fun hf C S K hC1 hC hS hK=>?_;simp (disch:=first|omega|assumption) only [go_sem,e3,List.length_map]
 refine hS _ _ _ (fun o' hd ho'=>(oF (nid:=.sub 1 3 x.p) (n:=0) (cp:=3 * l.length) (v0:=.str []) (sz:=1) (bytes:=16) ho' rfl rfl (by omega) rfl rfl rfl rfl (by omega) (by omega) (by omega) (Oid.ah _) rfl).nd) (fun _ h=>by cases h) ?_ (fun _ _ h=>h.elim)
 rintro _ _ ⟨rfl,rfl⟩
 simp (disch:=first|omega|assumption) only [go_sem,e3,List.length_map,List.replicate_zero]
 refine hK ?_;clear hK hS hC hC1 K S C hf
 (repeat (first|(refine aA rfl rfl ?_)|(refine aB rfl rfl ?_)|(refine az nmd [] hng (by kernel_rfl) fun hf C S K hC1 hC hS hK=>?_;simp (disch:=first|omega|assumption) only [go_sem,List.length_map];refine hK ?_;clear hK hS hC hC1 K S C hf)|((first|refine zn ?_|refine ze ?_|refine zk ?_);with_reducible (constructor;repeat constructor);try refine zl ?_)))
 refine aT [3,11,12,13] (fun k s'=>∃ (i c d j:Nat),s' = ⟨[(3,.sl (.sub d j x.p) 1 (3 * i)),(11,.list 3 (l.map tchAV)),(12,.int .i64 l.length),(13,.int .i64 i)],Mem.of [(.sub d j x.p,.arr 1 ((spT (l.take i)).map AV.str))],c,[]⟩∧k=l.length - i∧i≤l.length∧d < c) _ ⟨0,_,1,3,rfl,rfl,Nat.zero_le _,by omega⟩ ?_
 rintro k s' ⟨i,c,d,j,rfl,rfl,hi,hdc⟩
 refine qw0 ?_
 refine aY rfl rfl (fun hb=>?_) (fun hb=>?_)
 ·have hlt:i < l.length:=by omega
  have ht:=oG (l:=l) hlt
  have hsl:=e6 (l.take i)
  rw [List.length_take,Nat.min_eq_left hi] at hsl
  generalize hg:l.getD i default=g at ht
  obtain ⟨⟨gp,gf⟩,gv⟩:=g
  generalize spT (l.take i)=D at ht hsl ⊢
  have hDl:(D.map AV.str).length=3 * i:=by rw [List.length_map,hsl]
  cases gf
  ·(repeat (first|(refine aA rfl rfl ?_)|(refine aB rfl rfl ?_)|(refine az nmd [] hng (by kernel_rfl) fun hf C S K hC1 hC hS hK=>?_;simp (disch:=first|omega|assumption) only [go_sem,hg,tchAV,AV.cells,List.length_map,hsl];refine hK ?_;clear hK hS hC hC1 K S C hf)|((first|refine zn ?_|refine ze ?_|refine zk ?_);with_reducible (constructor;repeat constructor);try refine zl ?_)))
   exact ⟨_,Mem.of [(.sub (c+1+1+1+1) 7 x.p,.arr 1 ((spT (l.take (i+1))).map AV.str))],by omega,ij (by rw [ht,List.map_append];simp (disch:=first|omega|assumption) only [go_sem,kx,Bool.false_eq_true,if_true,if_false]),i+1,c+1+1+1+1+1+1,c+1+1+1+1,7,rfl,rfl,by omega,by omega⟩
  ·(repeat (first|(refine aA rfl rfl ?_)|(refine aB rfl rfl ?_)|(refine az nmd [] hng (by kernel_rfl) fun hf C S K hC1 hC hS hK=>?_;simp (disch:=first|omega|assumption) only [go_sem,hg,tchAV,AV.cells,List.length_map,hsl];refine hK ?_;clear hK hS hC hC1 K S C hf)|((first|refine zn ?_|refine ze ?_|refine zk ?_);with_reducible (constructor;repeat constructor);try refine zl ?_)))
   exact ⟨_,Mem.of [(.sub (c+1+1+1+1+1) 7 x.p,.arr 1 ((spT (l.take (i+1))).map AV.str))],by omega,ij (by rw [ht,List.map_append];simp (disch:=first|omega|assumption) only [go_sem,kx,Bool.false_eq_true,if_true,if_false]),i+1,c+1+1+1+1+1+1+1,c+1+1+1+1+1,7,rfl,rfl,by omega,by omega⟩
 ·obtain rfl:i=l.length:=by omega
  rw [List.take_length]
  refine qw0 ?_
  (refine cm (.sub d j x.p) _ _ (by simp (disch:=first|omega|assumption) only [go_sem];rfl) ?_;simp (disch:=first|omega|assumption) only [go_sem])
  simp (disch:=first|omega|assumption) only [go_sem,hl3]
  refine qr1 (hE _) ?_
  refine qw0 ?_
  exact ar (a6 rfl)
theorem kE (m:Mm) (hr:m.rd.length≤1000000) (hw:m.wr.length≤1000000) (hlr:(aR m.rd).length≤140737488355328) (hlw:(aR m.wr).length≤140737488355328) (hs:-9223372036854775808≤m.st∧m.st≤9223372036854775807) (hl:(e7 m).length≤140737488355328) (p:Oid) (hp:p.mono=false):ak Tryz.prog 16 [.agg [.str m.key,.list 3 (m.rd.map tchAV),.list 3 (m.wr.map tchAV),.int .i64 m.st,.str m.out,.str m.err]] (Oid.under p) ⟨[],.str (e7 m),[]⟩:=by
 have hS1:=fun p hp=>oH m.rd hr hlr p hp
 have hS2:=fun p hp=>oH m.wr hw hlw p hp
 have hI:=fun p hp=>er m.st hs.1 hs.2 p hp
 have hE:=fun p hp=>cZ [m.key,aR m.rd,aR m.wr,Lib.itoa m.st,m.out,m.err] hl (by simp) p hp
 rw [show aC [m.key,aR m.rd,aR m.wr,Lib.itoa m.st,m.out,m.err]=e7 m from rfl] at hE
 simp only [List.map_cons,List.map_nil] at hE
 generalize e7 m=E at hE ⊢
 clear hl hlr hlw
 refine aK (n:=23) (rs:=[.tmp 2]) Tryz.func16 rfl rfl (by decide) rfl rfl rfl ?_;rintro x rfl hrd hng
 refine qw0 ?_
 refine qd (.d [(1,4),(4,6),(1,7),(4,10),(7,10),(1,11),(4,14),(7,14),(11,14),(4,17),(7,17),(11,17)] [] [2]) trivial (cq (hS1 _) (cq (hS2 _) (cq (hI _) (cq (hE _) trivial)))) ?_
 refine qw0 ?_
 exact ar (a6 rfl)
theorem u5 (a e:List Str) (cwd:Str) (um:Int) (inp:Str) (ha:(aC a).length≤100000000) (he:(aC e).length≤100000000) (ha2:a.length≤1000000) (he2:e.length≤1000000) (hc:cwd.length≤100000000) (hi:inp.length≤100000000) (hu:-9223372036854775808≤um∧um≤9223372036854775807) (p:Oid) (hp:p.mono=false) :
  ak Tryz.prog 10 [.list 1 (a.map AV.str),.list 1 (e.map AV.str),.str cwd,.int .i64 um,.str inp] (Oid.under p) ⟨[],.str (jB (aC [aC a,aC e,cwd,Lib.itoa um,inp])),[]⟩:=by
 have h1:=fun p hp=>cZ a (by omega) (by omega) p hp
 have h2:=fun p hp=>cZ e (by omega) (by omega) p hp
 have h3:=fun p hp=>er um hu.1 hu.2 p hp
 have hlen:(aC [aC a,aC e,cwd,Lib.itoa um,inp]).length≤1000000000:=by
  have one:∀ s:Str,s.length≤100000000→(chunk s).length≤100000100:=fun s h=>by
   have h1:=bs s
   have h2:=Lib.itoa_length_le s.length (by omega) (by omega)
   omega
  have c1:=one _ ha
  have c2:=one _ he
  have c3:=one _ hc
  have c5:=one _ hi
  have hii:=Lib.itoa_length_le um hu.1 hu.2
  have c4:=one (Lib.itoa um) (by omega)
  simp only [aC,List.length_append,List.length_nil];omega
 have h4:=fun p hp=>cZ [aC a,aC e,cwd,Lib.itoa um,inp] (by omega) (by simp) p hp
 have h5:=fun p=>yZ (aC [aC a,aC e,cwd,Lib.itoa um,inp]) (by omega) p
 simp only [List.map_cons,List.map_nil] at h4
 generalize jB (aC [aC a,aC e,cwd,Lib.itoa um,inp])=K0 at h5 ⊢
 generalize aC [aC a,aC e,cwd,Lib.itoa um,inp]=E0 at h4 h5
 refine aK (n:=22) (rs:=[.tmp 10]) Tryz.func10 rfl rfl (by decide) rfl rfl rfl ?_;rintro x rfl hrd hng
 refine qw0 ?_
 refine qr .o trivial (cq (h1 _) (cq (h2 _) (cq (h3 _) (cq (h4 _) (cq (h5 _) trivial))))) ?_
 refine qw0 ?_
 exact ar (a6 rfl)
end Go.Proofs.YtpficjpdfbiedaaGreatDoor
namespace Go.Ab
def u6 (P:Program) [Laid P] (f:FuncId) (cap:List AV) (p:Oid) (need:List (Oid × af)) (k:Nat) (V:List (List AV)→List AV→Prop) (S:Bool→List (List AV)→Prop):Prop :=
 ∀ (l:Nat) (J:Bool→List (List AV)→List (Oid × af)→Prop) (L0:List (Oid × af)),J true [] L0→(∀ q ∈ L0,∀ q' ∈ need,q.1≠q'.1)→(∀ q ∈ L0,¬ Oid.under p q.1) →
  (∀ pre xs L p',p'.mono=false→J true pre L→xs.length=k→V pre xs→ig P l xs (Oid.under p') L (fun val upd=>∃ b L',val = .bool b∧J b (pre++[xs]) L'∧fg L (Oid.under p') upd L')) →
  bK P f (.fn (.yield l) [] []::cap) (Oid.under p) (need++L0) (fun _ upd=>∃ b pre L',S b pre∧J b pre L'∧fg (need++L0) (Oid.under p) upd (need++L')) (fun _ _=>False)
theorem sc {P:Program} [Laid P] {n:Nat} {fr:List (Nat × AV)} {l k:Nat} {lid:Oid} {r:Loop} {V:List (List AV)→List AV→Prop} {J:Option Code→List (List AV)→List (Oid × af)→Prop} {A:List (List AV)→List AV→List (Oid × af)→Oid→AS→Prop}
  (hst:r.state = .ready) (hps:r.params.size=k)
  (hassign:∀ (y:Ctx) pre xs L1,J none pre L1→xs.length=k→V pre xs→y.rd=some l→Fit P y→y.p.mono=false→T P y n r.assign ⟨gb r.params.toList xs fr,Mem.of L1,0,[]⟩ (fun e s=>e = .normal∧A pre xs L1 y.p s))
  (hbody:∀ (y:Ctx) pre xs L1 s,J none pre L1→xs.length=k→V pre xs→y.rd=some l→Fit P y→y.p.mono=false→A pre xs L1 y.p s→T P y n r.body s (mc J (pre++[xs]) L1 y.p))
  (pre:List (List AV)) (xs:List AV) (L1:List (Oid × af)) (p':Oid) (hpm:p'.mono=false) (hj:J none pre L1) (hxs:xs.length=k) (hv:V pre xs) (hnl:∀ q ∈ L1,q.1≠lid) :
  ig P l xs (Oid.under p') ((lid,.loop l n fr r)::L1) (fun val upd=>∃ jump L',val = .bool jump.isNone∧J jump (pre++[xs]) L'∧(∀ q ∈ L',q.1≠lid) ∧
   fg ((lid,.loop l n fr r)::L1) (Oid.under p') upd ((lid,.loop l n fr { r with state:=if jump.isNone then .ready else .done,pending:=jump })::L')):=by
 intro y g args w m hm hn hargs hsp hng
 have hlid:=hn _ (List.mem_cons_self)
 simp only at hlid
 obtain ⟨c1,c2,c3,c4,c5,c6,hbusy⟩:=hm.eM (r':={ r with state:=.busy }) hlid rfl
 have hlt:l < w.heap.size:=(Array.getElem?_eq_some_iff.1 c1).1
 have hLn:∀ q ∈ L1,m q.1=some q.2:=fun q hq=>hn q (List.mem_cons_of_mem _ hq)
 have hnot:∀ q ∈ L1,g.loc q.1≠some (some l):=fun q hq e=>hnl q hq (hm.inj _ _ _ _ l (hLn q hq) hlid e c2)
 have hup:∀ i,Oid.under p' i→i≠lid:=fun i hi e=>by rw [e] at hi;have:=(hsp _ hi).1;rw [c2] at this;cases this
 have hpx:Oid.under y.p p':=(hsp p' (Oid.ah p')).2
 refine ⟨r.fn,_,r.assign,r.body,run_yield (P:=P) (args:=args) c1 (by rw [hargs.1,hxs,hps]),roundIn_of_wpIn (F:=Fc y.rd) trivial ?_⟩
 have hbind:=iV (g:=g) (n:=n) r.params.toList xs args.toList fr r.tmps c5 c6 (by simp [hargs.1]) (fun j hj=>by
  have:=hargs.2 j hj
  simpa [List.getD_eq_getElem?_getD,Array.getD_eq_getD_getElem?] using this)
 have htm:(r.params.zip args).foldl (fun tmps (q:Tmp × Value)=>tmps.setIfInBounds q.1 q.2) r.tmps=(r.params.toList.zip args.toList).foldl (fun tmps q=>tmps.setIfInBounds q.1 q.2) r.tmps:=by
  rw [← Array.toList_zip,Array.foldl_toList]
 have hm1:ao { y.inner g w L1 p' with rd:=some l } g (Mem.of L1) w:=(hm.enter (need:=L1) (p:=p') hLn).rd (some l)
 have hrel:Rel { y.inner g w L1 p' with rd:=some l } n g ⟨gb r.params.toList xs fr,Mem.of L1,0,[]⟩ { tmps:=(r.params.zip args).foldl (fun tmps (q:Tmp × Value)=>tmps.setIfInBounds q.1 q.2) r.tmps,defers:=[] } w:=by
  rw [htm]
  exact ⟨hm1,hbind.1,.nil,hbind.2,fun i hi=>(hsp i hi.under).1⟩
 have kmay:∀ {o:Option Nat} {w0:World},w0.heap.size=w.heap.size→¬ (({ y.inner g w0 L1 p' with rd:=o }:Ctx).may0 l):=by
  rintro o w0 _ ⟨q,hq,hloc⟩;exact hnot q hq hloc
 refine wpIn_mono (hassign { y.inner g w L1 p' with rd:=some l } pre xs L1 hj hxs hv rfl (hng.inner rfl hm.le) hpm g _ w hrel) ?_
 rintro e1 a1 w1 ⟨g1,ex1,s1,r1,f1,rfl,hA⟩
 cases e1<;>simp only [AX.fits] at f1
 simp only [Exit.then]
 have k1:w1.heap[l]? = some (.loop r):=(r1.mr.kept l hlt (kmay rfl)).trans c1
 have hrow1:∀ rr,g1.row l≠some rr:=fun rr hrr=>by
  obtain ⟨cc,t,fz,h1,_⟩:=r1.mr.rows l rr hrr;rw [k1] at h1;cases h1
 refine ⟨_,run_beginRound k1 hst,?_⟩
 obtain ⟨hm2,_⟩:=ao.both (x:=y) (g0:=g) (w0:=w) (p:=p') (need:=L1) (ob:=.loop { r with state:=.busy }) (r1.mr.rd none) hlt hnot c4 hrow1 (fun c9 t9 fz9 h9=>by rw [k1] at h9;cases h9)
 have hrel2:Rel { y.inner g (w.putObj l (.loop { r with state:=.busy })) L1 p' with rd:=some l } n g1 s1 a1 (w1.putObj l (.loop { r with state:=.busy })):=⟨hm2.rd (some l),r1.tm,r1.df,r1.fr,r1.young⟩
 refine wpIn_mono (hbody { y.inner g (w.putObj l (.loop { r with state:=.busy })) L1 p' with rd:=some l } pre xs L1 s1 hj hxs hv rfl (hng.inner rfl hm.le) hpm hA g1 _ _ hrel2) ?_
 rintro e3 a3 w3 ⟨g3,ex3,s3,r3,f3,hq⟩
 have k3:w3.heap[l]? = some (.loop { r with state:=.busy }):=(r3.mr.kept l (by simpa [World.putObj,Ctx.inner] using hlt) (kmay (by simp [World.putObj]))).trans (World.putObj_heap_same hlt)
 have fin:∀ jump L',J jump (pre++[xs]) L'→(∀ q ∈ L',s3.mem q.1=some q.2)→(∀ q ∈ L',(∃ q' ∈ L1,q'.1=q.1)∨Oid.under p' q.1) →
   ∃ v w',(Instr.endRound l jump).run P w3 = .ok v w'∧∃ g' v' val upd,(Ending.returned v:Ending) = .returned v'∧(∃ jump L',val = .bool jump.isNone∧J jump (pre++[xs]) L'∧(∀ q ∈ L',q.1≠lid) ∧
    fg ((lid,.loop l n fr r)::L1) (Oid.under p') upd ((lid,.loop l n fr { r with state:=if jump.isNone then .ready else .done,pending:=jump })::L'))∧g.le g'∧(∀ i,¬ Oid.under p' i→g'.loc i=g.loc i)∧VR g' val v'∧ao y g' (m.aG upd) w':=by
  intro jump L' hJ' hL' hN'
  obtain ⟨s1',s2'⟩:=ic (L:=L1) (sp:=Oid.under p') hL' hN'
  have hL'n:∀ q ∈ L',q.1≠lid:=fun q hq e=>by
   rcases hN' q hq with ⟨q',h1,h2⟩|h1
   ·exact hnl q' h1 (h2.trans e)
   ·exact hup _ h1 e
  have hkey:∀ q ∈ clr L1++eL L',q.1≠lid:=fun q hq e=>by
   rcases List.mem_append.1 hq with h|h
   ·obtain ⟨q',h1,rfl⟩:=List.mem_map.1 h;exact hnl q' h1 e
   ·obtain ⟨q',h1,rfl⟩:=List.mem_map.1 h;exact hL'n q' h1 e
  have hlv:=hbusy.leave (need:=L1) (p:=p') (fun q hq=>by simp only [Mem.set];rw [if_neg (hnl q hq)];exact hLn q hq) hpx (g':=g3) (m':=s3.mem) (w':=w3) (upd:=clr L1++eL L') (r3.mr.rd none) s2'
  have hl3:((m.set lid (some (.loop l n fr { r with state:=.busy }))).aG (clr L1++eL L')) lid=some (.loop l n fr { r with state:=.busy }):=by
   rw [aI hkey];simp [Mem.set]
  obtain ⟨_,_,_,_,_,_,hfin⟩:=hlv.eM (r':={ r with state:=if jump.isNone then .ready else .done,pending:=jump }) hl3 rfl
  refine ⟨_,_,run_endRound jump k3,g3,_,.bool jump.isNone,(lid,some (.loop l n fr { r with state:=.busy }))::(clr L1++eL L')++[(lid,some (.loop l n fr { r with state:=if jump.isNone then .ready else .done,pending:=jump }))],rfl,⟨jump,L',rfl,hJ',hL'n,?_⟩,r3.mr.le,r3.mr.locs,.bool _,?_⟩
  ·refine ⟨fun q hq=>?_,fun q hq=>?_,fun q hq=>?_⟩
   ·rw [cK]
    rcases List.mem_cons.1 hq with rfl|hq
    ·simp [Mem.aG,Mem.set]
    ·simp only [Mem.aG,Mem.set]
     rw [if_neg (hL'n q hq),← s1'.got q hq]
     exact dK ⟨(q.1,some q.2),List.mem_append_right _ (List.mem_map.2 ⟨q,hq,rfl⟩),rfl⟩
   ·rcases List.mem_append.1 hq with h|h
    ·rcases List.mem_cons.1 h with rfl|h
     ·exact .inl ⟨_,List.mem_cons_self,rfl⟩
     ·exact (s1'.tou q h).imp (fun ⟨q',h1,h2⟩=>⟨q',List.mem_cons_of_mem _ h1,h2⟩) id
    ·simp only [List.mem_singleton] at h;subst h;exact .inl ⟨_,List.mem_cons_self,rfl⟩
   ·rcases List.mem_cons.1 hq with rfl|hq
    ·exact .inl ⟨_,List.mem_cons_self,rfl⟩
    ·exact (hN' q hq).imp (fun ⟨q',h1,h2⟩=>⟨q',List.mem_cons_of_mem _ h1,h2⟩) id
  ·rw [cK];exact hfin
 cases ex3 with
 | normal=>cases e3<;>simp only [AX.fits] at f3;obtain ⟨L',q1,q2,q3⟩:=hq;exact fin none L' q1 q2 q3
 | ret=>cases e3<;>simp only [AX.fits] at f3;obtain ⟨L',q1,q2,q3⟩:=hq;exact fin (some .ret) L' q1 q2 q3
 | exit i=>cases e3<;>simp only [AX.fits] at f3;subst f3;obtain ⟨L',q1,q2,q3⟩:=hq;exact fin (some (.exit i)) L' q1 q2 q3
 | panic v=>exact hq.elim
section
variable {P:Program} [Laid P] {x:Ctx} {n:Nat} {Q:AX→AS→Prop} {fr:List (Nat × AV)} {m:Mem} {c:Nat} {ds:List AD}
theorem iG {t:Nat} {ps:Array Tmp} {assign body:Code} {gf:FuncId} {cap:List AV} {need:List (Oid × af)} {k:Nat} {V:List (List AV)→List AV→Prop} {S:Bool→List (List AV)→Prop}
  (hrd:x.rd=none) (hng:Fit P x) (ht:(decide (t < n))=true) (hg:F fr t = .fn (.func gf) [] cap) (hps:ps.size=k) (hseq:u6 P gf cap (.sub c 2 x.p) need k V S) (hneed:∀ q ∈ need,m q.1=some q.2)
  (J:Option Code→List (List AV)→List (Oid × af)→Prop) (L:List (Oid × af)) (hJ:J none [] L) (hL:∀ q ∈ L,m q.1=some q.2) (hdis:∀ q ∈ L,∀ q' ∈ need,q.1≠q'.1)
  (A:List (List AV)→List AV→List (Oid × af)→Oid→AS→Prop)
  (hassign:∀ (y:Ctx) l pre xs L1,J none pre L1→xs.length=k→V pre xs→y.rd=some l→Fit P y→y.p.mono=false→T P y n assign ⟨gb ps.toList xs fr,Mem.of L1,0,[]⟩ (fun e s=>e = .normal∧A pre xs L1 y.p s))
  (hbody:∀ (y:Ctx) l pre xs L1 s,J none pre L1→xs.length=k→V pre xs→y.rd=some l→Fit P y→y.p.mono=false→A pre xs L1 y.p s→T P y n body s (mc J (pre++[xs]) L1 y.p))
  (hend:∀ pre L' m',S true pre→J none pre L'→(∀ q ∈ L',m' q.1=some q.2)→m' (.sub c 0 x.p)=some .dfr→(∀ i o,m i=some o→(∀ q ∈ L,q.1≠i)→m' i=some o)→(∀ q ∈ L',(∃ q' ∈ need,q'.1=q.1)∨(∃ q' ∈ L,q'.1=q.1)∨Oid.under (.sub c 2 x.p) q.1)→Q .normal ⟨fr,m',c+1,.coll (.sub c 0 x.p)::ds⟩)
  (hstop:∀ pre L' m' cd,S false pre→J (some cd) pre L'→(∀ q ∈ L',m' q.1=some q.2)→m' (.sub c 0 x.p)=some .dfr→(∀ i o,m i=some o→(∀ q ∈ L,q.1≠i)→m' i=some o)→(∀ q ∈ L',(∃ q' ∈ need,q'.1=q.1)∨(∃ q' ∈ L,q'.1=q.1)∨Oid.under (.sub c 2 x.p) q.1)→T P x n cd ⟨fr,m',c+1,.coll (.sub c 0 x.p)::ds⟩ Q) :
  T P x n (.rangeFunc (.tmp t) ps assign body) ⟨fr,m,c,ds⟩ Q:=by
 intro g a w hr
 have htn:t < n:=of_decide_eq_true ht
 have fresh:=hr.fresh
 have hyoung:∀ j,cG x.p c (.sub c j x.p):=fun j=>⟨c,j,Nat.le_refl _,Oid.ah _⟩
 have hyu:∀ j i,Oid.under (.sub c j x.p) i→cG x.p c i:=fun j i h=>⟨c,j,Nat.le_refl _,h⟩
 have hdl:g.loc (.sub c 0 x.p)=none:=hr.young _ (hyoung 0)
 have hll:g.loc (.sub c 1 x.p)=none:=hr.young _ (hyoung 1)
 have hne01:(Oid.sub c 0 x.p)≠Oid.sub c 1 x.p:=fun h=>by injection h with _ h;omega
 have hmd:m (.sub c 0 x.p)=none:=fresh _ (hyoung 0)
 have hml:m (.sub c 1 x.p)=none:=fresh _ (hyoung 1)
 refine wpIn_rangeFunc ?_
 intro fn _
 obtain ⟨rec,hrec⟩:∃ rec:LoopState→Option Code→Loop,rec=fun st pe=>{ state:=st,pending:=pe,fn,tmps:=a.tmps,params:=ps,assign,body,defers:=w.heap.size }:=⟨_,rfl⟩
 generalize hl:w.heap.size+1=l
 have h1:=hr.mr.new (i:=.sub c 0 x.p) hdl (hyoung 0).under (o:=.dfr) (ob:=.deferred (some [])) (aV _ _) (fun t9 h9=>by cases h9)
 have hs1:(w.alloc (.deferred (some []))).heap.size=l:=by simp [hl]
 have hl1:(g.bind (.sub c 0 x.p) w.heap.size).loc (.sub c 1 x.p)=none:=by simp only [Gh.bind];rw [if_neg hne01.symm];exact hll
 have h2:=h1.new (i:=.sub c 1 x.p) hl1 (hyoung 1).under (o:=.loop l n fr (rec .ready none)) (ob:=.loop (rec .ready none)) ⟨hs1,aV _ _,by rw [hrec];exact hr.tm,fun t ht=>by
  rw [hrec];exact (hr.fr t ht).mono (Gh.le_trans (Gh.aP hdl) (Gh.aP hl1))⟩ (fun t9 h9=>by cases h9)
 rw [hs1] at h2
 generalize hw2:(w.alloc (.deferred (some []))).alloc (.loop (rec .ready none))=w2 at h2
 generalize hg2:(g.bind (.sub c 0 x.p) w.heap.size).bind (.sub c 1 x.p) l=g2 at h2
 have hle2:g.le g2:=by rw [← hg2];exact Gh.le_trans (Gh.aP hdl) (Gh.aP hl1)
 have hloc2:∀ i,i≠.sub c 0 x.p→i≠.sub c 1 x.p→g2.loc i=g.loc i:=fun i h3 h4=>by rw [← hg2];simp only [Gh.bind];rw [if_neg h4,if_neg h3]
 have hd2:g2.loc (.sub c 0 x.p)=some (some w.heap.size):=by rw [← hg2];simp only [Gh.bind];rw [if_neg hne01];simp
 generalize hm2:(m.set (.sub c 0 x.p) (some .dfr)).set (.sub c 1 x.p) (some (.loop l n fr (rec .ready none)))=m2 at h2
 have m2old:∀ i o,m i=some o→m2 i=some o:=fun i o hi=>by
  rw [← hm2];simp only [Mem.set]
  rw [if_neg (fun e=>by rw [e,hml] at hi;cases hi),if_neg (fun e=>by rw [e,hmd] at hi;cases hi)];exact hi
 have m2l:m2 (.sub c 1 x.p)=some (.loop l n fr (rec .ready none)):=by rw [← hm2];simp [Mem.set]
 have m2d:m2 (.sub c 0 x.p)=some .dfr:=by rw [← hm2];simp only [Mem.set];rw [if_neg hne01];simp
 have hfv:=hr.fr t htn
 rw [hg] at hfv
 obtain ⟨fa,ca,hu,e1,e2,e3,e4⟩:=hfv.gh
 have hfa:fa=#[]:=Array.eq_empty_of_size_eq_zero (by simpa using e1)
 subst hfa
 have ltL:∀ q ∈ L,q.1≠.sub c 1 x.p:=fun q hq e=>by have:=hL q hq;rw [e,hml] at this;cases this
 have hcall:=hseq l (fun b pre LL=>∃ L1 pe,LL=(.sub c 1 x.p,.loop l n fr (rec (if pe.isNone then .ready else .done) pe))::L1∧J pe pre L1∧b=pe.isNone∧∀ q ∈ L1,q.1≠.sub c 1 x.p)
  ((.sub c 1 x.p,.loop l n fr (rec .ready none))::L) ⟨L,none,rfl,hJ,rfl,ltL⟩
  (fun q hq q' hq' e=>by
   rcases List.mem_cons.1 hq with rfl|hq
   ·have:=hneed q' hq';rw [← e,hml] at this;cases this
   ·exact hdis q hq q' hq' e)
  (fun q hq hu=>by
   rcases List.mem_cons.1 hq with rfl|hq
   ·have:=(Oid.apart hu (Oid.ah (.sub c 1 x.p))).2;omega
   ·have h8:=hL q hq;have h9:m q.1=none:=fresh _ (hyu 2 _ hu);rw [h9] at h8;cases h8)
  (by
   rintro pre xs LL p' hpm ⟨L1,pe,rfl,hj,hb,hnl⟩ hxs hv
   have hpe:pe=none:=by cases pe with|none=>rfl|some _=>cases hb
   subst hpe
   have hy:=sc (V:=V) (P:=P) (n:=n) (fr:=fr) (l:=l) (k:=k) (lid:=.sub c 1 x.p) (r:=rec .ready none) (J:=J) (A:=A) (by rw [hrec]) (by rw [hrec];exact hps)
    (fun y pre xs L1=>by rw [hrec];exact hassign y l pre xs L1) (fun y pre xs L1 s=>by rw [hrec];exact hbody y l pre xs L1 s) pre xs L1 p' hpm hj hxs hv hnl
   intro y g' args w' m' h3 h4 h5 h6 h7
   obtain ⟨f,tmps,ags,bo,k1,k2,k3⟩:=hy y g' args w' m' h3 h4 h5 h6 h7
   refine ⟨f,tmps,ags,bo,k1,k2,fun cc cs hroom=>?_⟩
   obtain ⟨en,w'',⟨g'',v,val,upd,rfl,⟨jump,L',q1,q2,q3,q4⟩,q5⟩,hc⟩:=k3 cc cs hroom
   refine ⟨.returned v,w'',⟨g'',v,val,upd,rfl,⟨jump.isNone,_,q1,⟨L',jump,rfl,q2,rfl,q3⟩,?_⟩,q5⟩,hc⟩
   rw [hrec] at q4 ⊢;exact q4)
 have hrun:(callFunc gf (#[.func (.yield l) #[] #[]]++ca)).run P w2 = .ok (.enter gf (#[.func (.yield l) #[] #[]]++ca)) w2:=by
  have he:=hcall.enters
  unfold db at he
  cases hfn:P.funcs[gf]? with
  | none=>rw [hfn] at he;cases he
  | some fn =>
   rw [hfn] at he
   simp only [Bool.and_eq_true,bne_iff_ne,ne_eq] at he
   obtain ⟨he1,he2⟩:=he
   have hb:fn.body.isNone=false:=by cases hbb:fn.body<;>simp_all
   have hnm:(fn.name == "runtime.NumGoroutine")=false:=by simpa using he2
   simp only [callFunc,Sem.run_bind,run_program,hfn,hnm,hb,Bool.false_eq_true,if_false,Result.andThen_ok,Sem.run_pure]
 refine ⟨l,[{ target:=.collected w.heap.size,args:=#[] }],w2,{ target:=.fn (.func gf) ca,args:=#[.func (.yield l) #[] #[]] },w2,gf,#[.func (.yield l) #[] #[]]++ca,w2,?_,?_,fun _ _=>trivial,?_,fun h=>absurd h (by simp [Fc]),?_⟩
 ·have:=run_enterLoop_outer (P:=P) (w:=w) fn a.tmps ps assign body
  have e1:(Fc x.rd).round=none:=hrd
  rw [e1,this,← hl,← hw2,hrec]
 ·have:a.eval (.tmp t) = .func (.func gf) #[] ca:=hu
  simp only [resolve,Sem.run_bind,this,Deferred.ofValue,Sem.run_pure,Result.andThen_ok]
  simp [Act.eval]
 ·simpa [invoke] using hrun
 ·have hneed2:∀ q ∈ need++(Oid.sub c 1 x.p,af.loop l n fr (rec .ready none))::L,m2 q.1=some q.2:=fun q hq=>by
   rcases List.mem_append.1 hq with h|h
   ·exact m2old _ _ (hneed q h)
   ·rcases List.mem_cons.1 h with rfl|h
    ·exact m2l
    ·exact m2old _ _ (hL q h)
  have hsp2:∀ i,Oid.under (.sub c 2 x.p) i→g2.loc i=none∧Oid.under x.p i:=fun i hi=>by
   refine ⟨?_,Oid.aj hi⟩
   rw [hloc2 i (fun e=>by rw [e] at hi;have:=(Oid.apart hi (Oid.ah (.sub c 0 x.p))).2;omega) (fun e=>by rw [e] at hi;have:=(Oid.apart hi (Oid.ah (.sub c 1 x.p))).2;omega)]
   exact hr.young i (hyu 2 i hi)
  refine dN.2 ((hcall.calls x g2 _ w2 m2 h2 hneed2 ?_ hsp2 hng).mono ?_)
  ·refine ⟨by simp [e2,Nat.add_comm],fun j hj=>?_⟩
   cases j with
   | zero=>rw [aZ (by simp)];simpa using VR.fn (g:=g2) (.yield l) [] [] #[] #[] rfl rfl (fun j hj=>absurd hj (Nat.not_lt_zero _)) (fun j hj=>absurd hj (Nat.not_lt_zero _))
   | succ j =>
    have:=(e4 j (by simpa using hj)).mono hle2
    rw [bX (by simp)]
    simpa using this
  ·rintro en w4 (⟨g4,v,val,upd,rfl,⟨b,pre,LL',hS,⟨L',pe,rfl,hj,hb,hnl⟩,hU⟩,k1,k2,k3,k4⟩|⟨_,_,_,_,_,hf,_⟩)
   ·have m4:∀ q ∈ need++(Oid.sub c 1 x.p,af.loop l n fr (rec (if pe.isNone then .ready else .done) pe))::L',(m2.aG upd) q.1=some q.2:=fun q hq=>j4 hneed2 (hU.got q hq)
    have hl4:=m4 (.sub c 1 x.p,.loop l n fr (rec (if pe.isNone then .ready else .done) pe)) (by simp)
    obtain ⟨c1,c2,_,_,_,_,hm5⟩:=k4.eM (r':={ rec (if pe.isNone then .ready else .done) pe with state:=.exhausted }) hl4 rfl
    have hstate:(rec (if pe.isNone then .ready else .done) pe).state≠.busy:=by rw [hrec];cases pe<;>simp
    have touch:∀ q ∈ upd,q.1 = .sub c 1 x.p∨(∃ q' ∈ need,q'.1=q.1)∨(∃ q' ∈ L,q'.1=q.1)∨Oid.under (.sub c 2 x.p) q.1:=fun q hq=>by
     rcases hU.tou q hq with ⟨q',h1,h2⟩|h1
     ·rcases List.mem_append.1 h1 with h|h
      ·exact .inr (.inl ⟨q',h,h2⟩)
      ·rcases List.mem_cons.1 h with rfl|h
       ·exact .inl h2.symm
       ·exact .inr (.inr (.inl ⟨q',h,h2⟩))
     ·exact .inr (.inr (.inr h1))
    have hd4:(m2.aG upd) (.sub c 0 x.p)=some .dfr:=by
     rw [aI (fun q hq e=>?_)];exact m2d
     rcases touch q hq with h|⟨q',h1,h2⟩|⟨q',h1,h2⟩|h
     ·exact hne01 (e.symm.trans h)
     ·have:=hneed q' h1;rw [h2,e,hmd] at this;cases this
     ·have:=hL q' h1;rw [h2,e,hmd] at this;cases this
     ·rw [e] at h;have:=(Oid.apart h (Oid.ah (.sub c 0 x.p))).2;omega
    have hold:∀ i o,m i=some o→(∀ q ∈ L,q.1≠i)→(m2.aG upd) i=some o:=fun i o hi hno=>by
     by_cases hk:∃ q,q ∈ upd∧q.1=i
     ·obtain ⟨q,hq,rfl⟩:=hk
      rcases touch q hq with h|⟨q',h1,h2⟩|⟨q',h1,h2⟩|h
      ·rw [h,hml] at hi;cases hi
      ·have h8:=m4 q' (by simp [h1]);have h9:=hneed q' h1
       rw [h2] at h8 h9;rw [hi] at h9;rw [h8,h9]
      ·exact absurd h2 (hno q' h1)
      ·have h9:m q.1=none:=fresh _ (hyu 2 _ h);rw [h9] at hi;cases hi
     ·rw [aI (fun q hq e=>hk ⟨q,hq,e⟩)];exact m2old i o hi
    have hpend:(rec (if pe.isNone then .ready else .done) pe).pending=pe:=by rw [hrec]
    have hel:(Instr.endLoop l).run P w4 = .ok pe (w4.putObj l (.loop { rec (if pe.isNone then .ready else .done) pe with state:=.exhausted })):=by
     have:=run_endLoop (P:=P) c1 hstate
     rw [this];congr 1
    refine ⟨pe,_,hel,?_⟩
    generalize hmf:(m2.aG upd).set (.sub c 1 x.p) (some (.loop l n fr { rec (if pe.isNone then .ready else .done) pe with state:=.exhausted }))=mf at hm5
    have p1:∀ q ∈ L',mf q.1=some q.2:=fun q hq=>by
     rw [← hmf];simp only [Mem.set];rw [if_neg (hnl q hq)];exact m4 q (by simp [hq])
    have p2:mf (.sub c 0 x.p)=some .dfr:=by rw [← hmf];simp only [Mem.set];rw [if_neg hne01];exact hd4
    have p3:∀ i o,m i=some o→(∀ q ∈ L,q.1≠i)→mf i=some o:=fun i o hi hno=>by
     rw [← hmf];simp only [Mem.set];rw [if_neg (fun e=>by rw [e,hml] at hi;cases hi)];exact hold i o hi hno
    have p4:∀ q ∈ L',(∃ q' ∈ need,q'.1=q.1)∨(∃ q' ∈ L,q'.1=q.1)∨Oid.under (.sub c 2 x.p) q.1:=fun q hq=>by
     rcases hU.nam q (by simp [hq]) with ⟨q',h1,h2⟩|h1
     ·rcases List.mem_append.1 h1 with h|h
      ·exact .inl ⟨q',h,h2⟩
      ·rcases List.mem_cons.1 h with rfl|h
       ·exact absurd h2.symm (hnl q hq)
       ·exact .inr (.inl ⟨q',h,h2⟩)
     ·exact .inr (.inr h1)
    have hle4:g.le g4:=Gh.le_trans hle2 k1
    have hrel:Rel x n g4 ⟨fr,mf,c+1,.coll (.sub c 0 x.p)::ds⟩ { a with defers:=[{ target:=.collected w.heap.size,args:=#[] }]++a.defers } (w4.putObj l (.loop { rec (if pe.isNone then .ready else .done) pe with state:=.exhausted })):=by
     refine ⟨hm5,hr.tm,.cons (.coll _ _ (k1.1 _ _ hd2)) (hr.df.mono hle4),fun t ht=>(hr.fr t ht).mono hle4,fun i hi=>?_⟩
     obtain ⟨c',j,hc',hu'⟩:=hi
     have hc'':c+1≤c':=hc'
     have na:∀ j',¬ Oid.under (.sub c j' x.p) i:=fun j' h=>by have:=(Oid.apart h hu').1;omega
     rw [k2 i (na 2),hloc2 i (fun e=>na 0 (by rw [e];exact Oid.ah _)) (fun e=>na 1 (by rw [e];exact Oid.ah _))]
     exact hr.young i ⟨c',j,Nat.le_of_succ_le hc'',hu'⟩
    cases pe with
    | none=>subst hb;exact ⟨g4,.normal,_,hrel,trivial,hend pre L' mf hS hj p1 p2 p3 p4⟩
    | some cd=>subst hb;exact hstop pre L' mf cd hS hj p1 p2 p3 p4 g4 _ _ hrel
   ·exact hf.elim
end
end Go.Ab
namespace Go.Proofs.YtpficjpdfbiedaaGreatDoor
open Go Go.Ab
set_option maxRecDepth 20000
set_option maxHeartbeats 4000000
def Mm.av (m:Mm):AV:=.agg [.str m.key,.list 3 (m.rd.map tchAV),.list 3 (m.wr.map tchAV),.int .i64 m.st,.str m.out,.str m.err]
instance:Inhabited Mm:=⟨Mm.no⟩
def oI (B L0 L:List (Oid × af)) (p:Oid):Prop:=∀ q ∈ L,((∃ q' ∈ L0,q'.1=q.1)∨Oid.under p q.1)∧∀ q' ∈ B,¬ q.1=q'.1
theorem kF {B L0 L L':List (Oid × af)} {m:Mem} {p p':Oid} {upd:List (Oid × Option af)} (hU:fg L (Oid.under p') upd L') (hm:∀ q ∈ B++L,m q.1=some q.2) (hn:oI B L0 L p) (hpp:∀ i,Oid.under p' i→Oid.under p i) (hB:∀ q ∈ B,¬ Oid.under p q.1) :
  (∀ q ∈ B++L',(m.aG upd) q.1=some q.2)∧oI B L0 L' p∧∀ q ∈ L',Mem.of L' q.1=some q.2:=by
 have hym:=lA (B:=B) hU (fun q hq=>hm q (List.mem_append_right _ hq)) (fun q hq=>hm q (List.mem_append_left _ hq)) fun q hq=>⟨fun q' hq'=>(hn q' hq').2 q hq,fun hu=>hB q hq (hpp _ hu)⟩
 refine ⟨hym,fun q hq=>?_,fun q hq=>?_⟩
 ·rcases hU.nam q hq with ⟨q',h1,h2⟩|h1
  ·have:=hn q' h1
   rw [h2] at this;exact this
  ·exact ⟨.inr (hpp _ h1),fun q' hq' e=>hB q' hq' (e ▸ hpp _ h1)⟩
 ·obtain ⟨o',ho'⟩:=Mem.jE hq
  obtain ⟨q',h1,h2,h3⟩:=Mem.cF ho'
  have h4:=hym q (List.mem_append_right _ hq)
  have h5:=hym q' (List.mem_append_right _ h1)
  rw [h2,h4,h3] at h5
  rw [ho'];exact h5.symm
theorem iH {B L0 L:List (Oid × af)} {p:Oid} {m:Mem} (hm:∀ q ∈ B++L,m q.1=some q.2) (hn:oI B L0 L p):fg (B++L0) (Oid.under p) (clr (B++L0)++eL (B++L)) (B++L)∧∀ i o,((Mem.of (B++L0)).aG (clr (B++L0)++eL (B++L))) i=some o→m i=some o :=
 ic hm fun q hq=>by
  rcases List.mem_append.1 hq with hq|hq
  ·exact .inl ⟨q,List.mem_append_left _ hq,rfl⟩
  ·rcases (hn q hq).1 with ⟨q',h1,h2⟩|h
   ·exact .inl ⟨q',List.mem_append_right _ h1,h2⟩
   ·exact .inr h
def ew (l:List Mm) (k:Nat):List (List AV):=(List.range k).map fun j=>[.int .i64 ((l.length - 1 - j:Nat):Int),(l.getD (l.length - 1 - j) default).av]
theorem kG (l:List Mm) (k:Nat):ew l (k+1)=ew l k++[[.int .i64 ((l.length - 1 - k:Nat):Int),(l.getD (l.length - 1 - k) default).av]]:=by
 simp [ew,List.range_succ]
theorem u7 (b:Oid) (l:List Mm) (hl:l.length≤4000000000) (p:Oid) (hp:p.mono=false) (hbb:¬ Oid.under p b) :
  u6 Tryz.prog 102 [.ptr b 0] p [(b,.cells [.list 6 (l.map Mm.av)])] 2 (fun pre xs=>pre.length < l.length∧xs=[.int .i64 ((l.length - 1 - pre.length:Nat):Int),(l.getD (l.length - 1 - pre.length) default).av]) (fun e pre=>∃ k,k≤l.length∧pre=ew l k∧(e=true→k=l.length)):=by
 intro y J L0 hJ hdis hnp hY
 refine cL (by kernel_rfl) fun hcon=>?_
 refine pc (n:=19) (rs:=[]) Tryz.func102 rfl rfl (by decide) rfl rfl rfl ?_;rintro x rfl hrd hng
 have hd0:∀ q ∈ L0,∀ q' ∈ ([(b,.cells [.list 6 (l.map Mm.av)])]:List (Oid × af)),¬ q.1=q'.1:=hdis
 have hcL:∀ q ∈ L0,Mem.of L0 q.1=some q.2:=fun q hq=>by
  have:=hcon q (List.mem_append_right _ hq)
  rwa [pF fun q' hq'=>hdis q hq q' hq'] at this
 generalize hQ:eK Tryz.prog [] ([(b,.cells [.list 6 (l.map Mm.av)])]++L0) _ _=Q
 (try ((first|refine zn ?_|refine ze ?_|refine zk ?_);with_reducible (constructor;repeat constructor));try refine zl ?_)
 refine az nmd [] hng (by kernel_rfl) fun hf C S K hC1 hC hS hK=>?_;simp (disch:=first|omega|assumption) only [go_sem,Oid.ab hbb,Oid.aa hbb,aH]
 refine hK ?_;clear hK hS hC hC1 K S C hf
 (try ((first|refine zn ?_|refine ze ?_|refine zk ?_);with_reducible (constructor;repeat constructor));try refine zl ?_)
 refine aT [0,1,3] (fun q s'=>∃ (c k:Nat) (i:Int) (L:List (Oid × af)),s' = ⟨[(0,.fn (.yield y) [] []),(1,.ptr b 0),(3,.int .i64 i)],Mem.of ([(b,.cells [.list 6 (l.map Mm.av)])]++L),c,[]⟩∧q=l.length - k∧k≤l.length∧i=(l.length:Int) - 1 - k∧J true (ew l k) L∧(∀ q ∈ L,Mem.of L q.1=some q.2)∧oI [(b,.cells [.list 6 (l.map Mm.av)])] L0 L x.p) _ ⟨_,0,_,L0,rfl,rfl,Nat.zero_le _,by omega,hJ,hcL,fun q hq=>⟨.inl ⟨q,hq,rfl⟩,hd0 q hq⟩⟩ ?_
 rintro q s' ⟨c,k,i,L,rfl,rfl,hk,hi,hj,hcc,hnm⟩
 refine qw0 ?_
 have hall:=dT (L:=L) (B:=[(b,.cells [.list 6 (l.map Mm.av)])]) (by simp only [bc,bp,Mem.al,Mem.aL,Mem.aN,Mem.aU,bI,bV,List.cons_append,List.nil_append,List.append_nil,↓reduceIte,eq_self,and_true,true_and,and_self,and_false,false_and,reduceCtorEq,Oid.sub.injEq,Nat.reduceEqDiff]) (fun q hq=>(hnm q hq).2) hcc
 refine aY rfl rfl (fun hb=>?_) (fun hb=>?_)
 ·have hlt:k < l.length:=by omega
  have hn:i.toNat=l.length - 1 - k:=by omega
  have hni:((l.length - 1 - k:Nat):Int)=i:=by omega
  have hbl:(ew l k).length=k:=by simp [ew]
  have hbs:=kG l k
  rw [hni] at hbs
  have hY1:=hY (ew l k) [.int .i64 i,(l.getD (l.length - 1 - k) default).av] L (.sub (c+1) 6 x.p) (ay rfl hp) hj rfl ⟨by omega,by rw [hbl,hni]⟩
  rw [← hbs] at hY1
  generalize hg:l.getD (l.length - 1 - k) default=g at hY1 hbs
  obtain ⟨gk,gr,gw,gs,go,ge⟩:=g
  (try ((first|refine zn ?_|refine ze ?_|refine zk ?_);with_reducible (constructor;repeat constructor));try refine zl ?_)
  refine az nmd [] hng (by kernel_rfl) fun hf C S K hC1 hC hS hK=>?_;simp (disch:=first|omega|assumption) only [go_sem,Oid.ab hbb,Oid.aa hbb,aH,hn,hg,Mm.av,AV.cells]
  simp only [Mm.av] at hY1
  refine hS _ _ _ (fun o' hd ho'=>iU ho' rfl hY1) (fun q hq=>hall q (List.mem_append_right _ hq)) ?_ (fun _ _ h=>h.elim)
  rintro val upd ⟨e,L',rfl,hj',hU⟩
  obtain ⟨hym,hnm',hcl⟩:=kF (B:=[(b,.cells [.list 6 (l.map Mm.av)])]) (L0:=L0) (p:=x.p) hU hall hnm (fun _ h=>Oid.aj h) (fun q hq=>by rw [List.mem_singleton.1 hq];exact hbb)
  simp (disch:=first|omega|assumption) only [go_sem]
  refine hK ?_;clear hK hS hC hC1 K S C hf
  (try ((first|refine zn ?_|refine ze ?_|refine zk ?_);with_reducible (constructor;repeat constructor));try refine zl ?_)
  refine fh ([(b,.cells [.list 6 (l.map Mm.av)])]++L') (by rw [← Mem.aN];exact hym) ?_
  have hall':=dT (L:=L') (B:=[(b,.cells [.list 6 (l.map Mm.av)])]) (by simp only [bc,bp,Mem.al,Mem.aL,Mem.aN,Mem.aU,bI,bV,List.cons_append,List.nil_append,List.append_nil,↓reduceIte,eq_self,and_true,true_and,and_self,and_false,false_and,reduceCtorEq,Oid.sub.injEq,Nat.reduceEqDiff]) (fun q hq=>(hnm' q hq).2) hcl
  cases e with
  | true =>
   refine qw0 ?_
   exact ⟨_,Mem.of ([(b,.cells [.list 6 (l.map Mm.av)])]++L'),by omega,il hall',_,k+1,i - 1,L',rfl,rfl,by omega,by omega,hj',hcl,hnm'⟩
  | false =>
   refine aA rfl rfl (ar ?_)
   subst hQ
   have hsw:=iH (m:=Mem.of ([(b,.cells [.list 6 (l.map Mm.av)])]++L')) hall' hnm'
   exact cn _ _ rfl ⟨false,_,L',⟨k+1,by omega,rfl,fun h=>by cases h⟩,hj',hsw.1⟩ hsw.2
 ·obtain rfl:k=l.length:=by omega
  (try ((first|refine zn ?_|refine ze ?_|refine zk ?_);with_reducible (constructor;repeat constructor));try refine zl ?_)
  subst hQ
  have hsw:=iH (m:=Mem.of ([(b,.cells [.list 6 (l.map Mm.av)])]++L)) hall hnm
  refine dS ?_
  exact eo _ _ rfl ⟨true,_,L,⟨_,Nat.le_refl _,rfl,fun _=>rfl⟩,hj,hsw.1⟩ hsw.2
def chk (l:List Str) (k:Nat):List AV:=[.str (l.getD (3 * k) default),.str (l.getD (3 * k+1) default),.str (l.getD (3 * k+2) default)]
theorem y0 {l:List Str} {k:Nat} (h:3 * k+3≤l.length):((l.map AV.str).take (3 * k+3)).drop (3 * k)=chk l k:=by
 have e:∀ i,i < l.length→(l.map AV.str).drop i = .str (l.getD i default)::(l.map AV.str).drop (i+1):=fun i hi=>by
  rw [List.drop_eq_getElem_cons (by simpa using hi),List.getElem_map,List.getD_eq_getElem?_getD,List.getElem?_eq_getElem hi];rfl
 rw [List.drop_take,Nat.add_sub_cancel_left,e _ (by omega),e _ (by omega),e _ (by omega)]
 rfl
def iZ (l:List Str) (k:Nat):List (List AV):=(List.range k).map fun j=>[.list 1 (chk l j)]
theorem lR (l:List Str) (k:Nat):iZ l (k+1)=iZ l k++[[.list 1 (chk l k)]]:=by
 simp [iZ,List.range_succ]
theorem sd (b b2:Oid) (l:List Str) (n:Nat) (hn:l.length=3 * n) (hl:l.length≤4000000000) (p:Oid) (hp:p.mono=false) (hne:¬ b2=b) (hbb:¬ Oid.under p b) (hb2:¬ Oid.under p b2) :
  u6 Tryz.prog 118 [.ptr b 0,.ptr b2 0] p [(b,.cells [.list 1 (l.map AV.str)]),(b2,.cells [.int .i64 3])] 1 (fun pre xs=>pre.length < n∧xs=[.list 1 (chk l pre.length)]) (fun e pre=>∃ k,k≤n∧pre=iZ l k∧(e=true→k=n)):=by
 intro y J L0 hJ hdis hnp hY
 refine cL (by kernel_rfl) fun hcon=>?_
 refine pc (n:=31) (rs:=[]) Tryz.func118 rfl rfl (by decide) rfl rfl rfl ?_;rintro x rfl hrd hng
 have hd0:∀ q ∈ L0,∀ q' ∈ ([(b,.cells [.list 1 (l.map AV.str)]),(b2,.cells [.int .i64 3])]:List (Oid × af)),¬ q.1=q'.1:=hdis
 have hcL:∀ q ∈ L0,Mem.of L0 q.1=some q.2:=fun q hq=>by
  have:=hcon q (List.mem_append_right _ hq)
  rwa [pF fun q' hq'=>hdis q hq q' hq'] at this
 generalize hQ:eK Tryz.prog [] ([(b,.cells [.list 1 (l.map AV.str)]),(b2,.cells [.int .i64 3])]++L0) _ _=Q
 (try ((first|refine zn ?_|refine ze ?_|refine zk ?_);with_reducible (constructor;repeat constructor));try refine zl ?_)
 refine az nmd [] hng (by kernel_rfl) fun hf C S K hC1 hC hS hK=>?_;simp (disch:=first|omega|assumption) only [go_sem,hne,Oid.ab hbb,Oid.aa hbb,Oid.ab hb2,Oid.aa hb2,aH]
 refine hK ?_;clear hK hS hC hC1 K S C hf
 (try ((first|refine zn ?_|refine ze ?_|refine zk ?_);with_reducible (constructor;repeat constructor));try refine zl ?_)
 refine aT [0,1,2,4] (fun q s'=>∃ (c k:Nat) (i:Int) (L:List (Oid × af)),s' = ⟨[(0,.fn (.yield y) [] []),(1,.ptr b 0),(2,.ptr b2 0),(4,.int .i64 i)],Mem.of ([(b,.cells [.list 1 (l.map AV.str)]),(b2,.cells [.int .i64 3])]++L),c,[]⟩∧q=n - k∧k≤n∧i=3 * (k:Int)∧J true (iZ l k) L∧(∀ q ∈ L,Mem.of L q.1=some q.2)∧oI [(b,.cells [.list 1 (l.map AV.str)]),(b2,.cells [.int .i64 3])] L0 L x.p) _ ⟨_,0,_,L0,rfl,rfl,Nat.zero_le _,by omega,hJ,hcL,fun q hq=>⟨.inl ⟨q,hq,rfl⟩,hd0 q hq⟩⟩ ?_
 rintro q s' ⟨c,k,i,L,rfl,rfl,hk,hi,hj,hcc,hnm⟩
 (repeat (first|(refine aA rfl rfl ?_)|(refine aB rfl rfl ?_)|(refine az nmd [] hng (by kernel_rfl) fun hf C S K hC1 hC hS hK=>?_;simp (disch:=first|omega|assumption) only [go_sem,hne,Oid.ab hbb,Oid.aa hbb,Oid.ab hb2,Oid.aa hb2,List.length_map];refine hK ?_;clear hK hS hC hC1 K S C hf)|((first|refine zn ?_|refine ze ?_|refine zk ?_);with_reducible (constructor;repeat constructor);try refine zl ?_)))
 have hBm:∀ q ∈ ([(b,.cells [.list 1 (l.map AV.str)]),(b2,.cells [.int .i64 3])]:List (Oid × af)),Mem.of ([(b,.cells [.list 1 (l.map AV.str)]),(b2,.cells [.int .i64 3])]++L) q.1=some q.2:=by
  simp only [bc,bp,Mem.al,Mem.aL,Mem.aN,Mem.aU,bI,bV,List.cons_append,List.nil_append,List.append_nil,↓reduceIte,eq_self,and_true,true_and,and_self,and_false,false_and,reduceCtorEq,Oid.sub.injEq,Nat.reduceEqDiff,hne]
 have hall:=dT (L:=L) (B:=[(b,.cells [.list 1 (l.map AV.str)]),(b2,.cells [.int .i64 3])]) hBm (fun q hq=>(hnm q hq).2) hcc
 refine aY rfl rfl (fun hb=>?_) (fun hb=>?_)
 ·obtain rfl:i=((3 * k:Nat):Int):=by omega
  have hlt:k < n:=by omega
  have hi0:(((3 * k:Nat):Int)).toNat=3 * k:=by omega
  have hmin:¬ ((l.length - 3 * k:Nat):Int) < 3:=by omega
  have hcl:(iZ l k).length=k:=by simp [iZ]
  have hcs:=lR l k
  have hce:=y0 (l:=l) (k:=k) (by omega)
  have hY1:=hY (iZ l k) [.list 1 (chk l k)] L (.sub (c+1+1) 10 x.p) (ay rfl hp) hj rfl ⟨by omega,by rw [hcl]⟩
  rw [← hcs] at hY1
  generalize chk l k=CH at hY1 hce
  (try ((first|refine zn ?_|refine ze ?_|refine zk ?_);with_reducible (constructor;repeat constructor));try refine zl ?_)
  refine bA nmd [] [] mixed hng (by kernel_rfl) [0,1,2,4,5] fun hf C S K hC hS hK=>?_;simp (disch:=first|omega|assumption) only [go_sem,hne,Oid.ab hbb,Oid.aa hbb,Oid.ab hb2,Oid.aa hb2,aH,hi0,List.length_map,List.length_drop,hmin]
  (first|refine hK (aE rfl) ?_|refine hK (by simp (disch:=first|omega|assumption) only [go_sem,List.reverse_cons,List.reverse_nil,ne_eq,not_false_eq_true,implies_true]) ?_);clear hK hS hC K S C hf
  (try ((first|refine zn ?_|refine ze ?_|refine zk ?_);with_reducible (constructor;repeat constructor));try refine zl ?_)
  refine az nmd [] hng (by kernel_rfl) fun hf C S K hC1 hC hS hK=>?_;simp (disch:=first|omega|assumption) only [go_sem,hne,Oid.ab hbb,Oid.aa hbb,Oid.ab hb2,Oid.aa hb2,aH]
  refine hS _ _ _ (fun o' hd ho'=>(pV (sz:=1) (xs:=l.map AV.str) (l:=3 * k) (h:=3 * k+3) ho' rfl rfl rfl rfl rfl (by omega) (by rw [List.length_map];omega)).nd) (fun _ h=>by cases h) ?_ (fun _ _ h=>h.elim)
  rintro _ _ ⟨rfl,rfl⟩
  simp (disch:=first|omega|assumption) only [go_sem,hne,Oid.ab hbb,Oid.aa hbb,Oid.ab hb2,Oid.aa hb2,aH,hce]
  refine hS _ _ _ (fun o' hd ho'=>iU ho' rfl hY1) (fun q hq=>hall q (List.mem_append_right _ hq)) ?_ (fun _ _ h=>h.elim)
  rintro val upd ⟨e,L',rfl,hj',hU⟩
  have hBp:∀ q ∈ ([(b,.cells [.list 1 (l.map AV.str)]),(b2,.cells [.int .i64 3])]:List (Oid × af)),¬ Oid.under x.p q.1:=fun q hq=>by
   simp only [List.mem_cons,List.not_mem_nil,or_false] at hq
   rcases hq with rfl|rfl<;>assumption
  obtain ⟨hym,hnm',hcl'⟩:=kF (B:=[(b,.cells [.list 1 (l.map AV.str)]),(b2,.cells [.int .i64 3])]) (L0:=L0) (p:=x.p) hU hall hnm (fun _ h=>Oid.aj h) hBp
  simp (disch:=first|omega|assumption) only [go_sem]
  refine hK ?_;clear hK hS hC hC1 K S C hf
  (try ((first|refine zn ?_|refine ze ?_|refine zk ?_);with_reducible (constructor;repeat constructor));try refine zl ?_)
  refine fh ([(b,.cells [.list 1 (l.map AV.str)]),(b2,.cells [.int .i64 3])]++L') (by rw [← Mem.aN];exact hym) ?_
  have hall':=dT (L:=L') (B:=[(b,.cells [.list 1 (l.map AV.str)]),(b2,.cells [.int .i64 3])]) (by simp only [bc,bp,Mem.al,Mem.aL,Mem.aN,Mem.aU,bI,bV,List.cons_append,List.nil_append,List.append_nil,↓reduceIte,eq_self,and_true,true_and,and_self,and_false,false_and,reduceCtorEq,Oid.sub.injEq,Nat.reduceEqDiff,hne]) (fun q hq=>(hnm' q hq).2) hcl'
  cases e with
  | true =>
   refine qw (ai hne (ai (Oid.ab hbb) (ai (Oid.aa hbb) (ai (Oid.ab hb2) (Oid.aa hb2))))) ?_
   exact ⟨_,Mem.of ([(b,.cells [.list 1 (l.map AV.str)]),(b2,.cells [.int .i64 3])]++L'),by omega,il hall',_,k+1,((3 * k:Nat):Int)+3,L',rfl,rfl,by omega,by omega,hj',hcl',hnm'⟩
  | false =>
   refine aA rfl rfl (ar ?_)
   subst hQ
   have hsw:=iH (m:=Mem.of ([(b,.cells [.list 1 (l.map AV.str)]),(b2,.cells [.int .i64 3])]++L')) hall' hnm'
   exact cn _ _ rfl ⟨false,_,L',⟨k+1,by omega,rfl,fun h=>by cases h⟩,hj',hsw.1⟩ hsw.2
 ·obtain rfl:k=n:=by omega
  (try ((first|refine zn ?_|refine ze ?_|refine zk ?_);with_reducible (constructor;repeat constructor));try refine zl ?_)
  subst hQ
  have hsw:=iH (m:=Mem.of ([(b,.cells [.list 1 (l.map AV.str)]),(b2,.cells [.int .i64 3])]++L)) hall hnm
  refine dS ?_
  exact eo _ _ rfl ⟨true,_,L,⟨_,Nat.le_refl _,rfl,fun _=>rfl⟩,hj,hsw.1⟩ hsw.2
end Go.Proofs.YtpficjpdfbiedaaGreatDoor
namespace Go.Proofs.YtpficjpdfbiedaaGreatDoor
open Go Go.Ab
structure Tr where
 old:PL
 R:RL
 W:WL
structure St where
 L:PL
 t:Option Tr
def Tr.read (q:Tr) (f:Str × Bool):Tr:={ q with R:=uM q.old q.W f q.R }
def Tr.put (q:Tr) (n:Str):Tr:={ q with W:=yP true n q.W }
def St.read (s:St) (f:Str × Bool):St:=⟨s.L,s.t.map fun q=>q.read f⟩
def St.put (s:St) (n:Str) (b:Bits):St:=⟨pI n b s.L,s.t.map fun q=>q.put n⟩
def St.begin (s:St):St:=⟨s.L,some ⟨s.L,[],[]⟩⟩
structure TOK (q:Tr):Prop where
 so:cW ltB q.old
 sr:cW ltF q.R
 sw:cW ltB q.W
 po:POk q.old
 no:zH q.old
structure SOK (s:St):Prop where
 sl:cW ltB s.L
 po:POk s.L
 no:zH s.L
 tr:∀ q,s.t=some q→TOK q
theorem pX {old:PL} {W:WL} {f:Str × Bool} {R:RL} (h:cW ltF R):cW ltF (uM old W f R):=by
 unfold uM
 split
 ·exact h
 ·split
  ·exact h
  ·exact fV z1 _ _ h
theorem se {tr:Bool} {n:Str} {W:WL} (h:cW ltB W):cW ltB (yP tr n W):=by
 unfold yP
 split
 ·exact h
 ·split
  ·exact fV uG _ _ h
  ·exact h
theorem SOK.read {s:St} (h:SOK s) (f:Str × Bool):SOK (s.read f) :=
 ⟨h.sl,h.po,h.no,fun q hq=>by
  simp only [St.read,Option.map_eq_some_iff] at hq
  obtain ⟨a,h1,rfl⟩:=hq
  have k:=h.tr a h1
  exact ⟨k.so,pX k.sr,k.sw,k.po,k.no⟩⟩
def wV (st:Oid) (s:St) (N:List Oid) (F:Oid→af):Prop:=N.Nodup∧match s.t with
 | none=>∃ (t:Oid) (es:List ME) (clock:Nat),N=[st,t]∧F st = .cells [.map t,.nilPtr]∧F t = .map [.ss] false es clock∧jA es s.L
 | some q=>∃ (t tr o rd wr:Oid) (es eso esr esw:List ME) (clock co cr cw:Nat),N=[st,t,tr,o,rd,wr]∧F st = .cells [.map t,.ptr tr 0]∧F t = .map [.ss] false es clock∧F tr = .cells [.map o,.map rd,.map wr] ∧
   F o = .map [.ss] false eso co∧F rd = .map [.ss,.sb] true esr cr∧F wr = .map [.ss] false esw cw∧jA es s.L∧jA eso q.old∧uA wM AV.str esr q.R∧uA AV.str (fun _:Unit=>.bool true) esw q.W
end Go.Proofs.YtpficjpdfbiedaaGreatDoor
namespace Go.Proofs.YtpficjpdfbiedaaGreatDoor
open Go Go.Ab
set_option maxRecDepth 20000
set_option maxHeartbeats 4000000
end Go.Proofs.YtpficjpdfbiedaaGreatDoor
namespace Go.Proofs.YtpficjpdfbiedaaGreatDoor
open Go Go.Ab
theorem SOK.put {s:St} (h:SOK s) (n:Str) (b:Bits) (hl:s.L.length < 1000000) (hn:n.length≤1000000) (hb:b.ok) (hb2:0≤b.k∧0≤b.m):SOK (s.put n b) :=
 ⟨rQ h.sl n b,⟨Nat.le_trans (uL n b s.L) hl,fun q hq=>by
   rcases kv hq with rfl|hq
   ·exact hn
   ·exact h.po.key q hq,fun q hq=>by
   rcases kv hq with rfl|hq
   ·exact hb
   ·exact h.po.val q hq⟩,fun q hq=>by
   rcases kv hq with rfl|hq
   ·exact hb2
   ·exact h.no q hq,fun q hq=>by
  simp only [St.put,Option.map_eq_some_iff] at hq
  obtain ⟨a,h1,rfl⟩:=hq
  have k:=h.tr a h1
  exact ⟨k.so,k.sr,se k.sw,k.po,k.no⟩⟩
end Go.Proofs.YtpficjpdfbiedaaGreatDoor
namespace Go.Proofs.YtpficjpdfbiedaaGreatDoor
open Go Go.Ab
set_option maxRecDepth 20000
set_option maxHeartbeats 4000000
end Go.Proofs.YtpficjpdfbiedaaGreatDoor
namespace Go.Proofs
open Go.Shelf
end Go.Proofs
namespace Go.Proofs.YtpficjpdfbiedaaGreatDoor
open Go Go.Ab
set_option maxRecDepth 20000
set_option maxHeartbeats 4000000
end Go.Proofs.YtpficjpdfbiedaaGreatDoor
namespace Go.Proofs.YtpficjpdfbiedaaGreatDoor
open Go Go.Ab
set_option maxRecDepth 20000
set_option maxHeartbeats 40000000
section
variable (st t tr o rd wr:Oid) (hn:[wr,rd,o,tr,t,st].Nodup) (es eso esr esw:List ME) (clock co cr cw:Nat)
include hn
end
end Go.Proofs.YtpficjpdfbiedaaGreatDoor
namespace Go.Proofs.YtpficjpdfbiedaaGreatDoor
open Go Go.Ab
set_option maxRecDepth 20000
set_option maxHeartbeats 4000000
def St.halt (s:St):St:=⟨s.L,none⟩
def St.reads (s:St):List Tch:=match s.t with|none=>[]|some q=>q.R
def St.writes (s:St):List Tch:=match s.t with|none=>[]|some q=>q.W.map fun w=>((w.1,false),pC (ou s.L w.1))
theorem SOK.begin {s:St} (h:SOK s):SOK s.begin:=⟨h.sl,h.po,h.no,fun q hq=>by
 simp only [St.begin,Option.some.injEq] at hq
 subst hq
 exact ⟨h.sl,List.Pairwise.nil,List.Pairwise.nil,h.po,h.no⟩⟩
theorem SOK.halt {s:St} (h:SOK s):SOK s.halt:=⟨h.sl,h.po,h.no,fun q hq=>by cases hq⟩
theorem sf {st:Oid} {s:St} {N:List Oid} {F:Oid→af} (h:wV st s N F):∃ (t:Oid) (tv:AV) (es:List ME) (clock:Nat),st ∈ N∧t ∈ N∧¬ t=st∧F st = .cells [.map t,tv]∧F t = .map [.ss] false es clock∧jA es s.L:=by
 obtain ⟨L,t0⟩:=s
 obtain ⟨hnd,h⟩:=h
 cases t0 with
 | none =>
  obtain ⟨t,es,clock,rfl,k1,k2,k3⟩:=h
  exact ⟨t,_,es,clock,by simp,by simp,fun e=>by simp [e] at hnd,k1,k2,k3⟩
 | some q =>
  obtain ⟨t,tr,o,rd,wr,es,eso,esr,esw,clock,co,cr,cw,rfl,k1,k2,k3,k4,k5,k6,m1,m2,m3,m4⟩:=h
  exact ⟨t,_,es,clock,by simp,by simp,fun e=>by simp [e] at hnd,k1,k2,m1⟩
end Go.Proofs.YtpficjpdfbiedaaGreatDoor
namespace Go.Proofs.YtpficjpdfbiedaaGreatDoor
open Go Go.Ab
set_option maxRecDepth 20000
set_option maxHeartbeats 4000000
end Go.Proofs.YtpficjpdfbiedaaGreatDoor
namespace Go.Proofs.YtpficjpdfbiedaaGreatDoor
open Go Go.Ab
set_option maxRecDepth 20000
set_option maxHeartbeats 4000000
end Go.Proofs.YtpficjpdfbiedaaGreatDoor
namespace Go.Proofs.YtpficjpdfbiedaaGreatDoor
open Go Go.Ab
set_option maxRecDepth 20000
set_option maxHeartbeats 4000000
structure Ae (h:Tch):Prop where
 key:h.1.1.length≤1000000
 len:h.2.length≤4000000000
 ok:(wD h.2).1.ok
 pos:0≤(wD h.2).1.k∧0≤(wD h.2).1.m
 fine:(wD h.2).2=0
 plain:h.1.2=false
end Go.Proofs.YtpficjpdfbiedaaGreatDoor
namespace Go.Proofs.YtpficjpdfbiedaaGreatDoor
open Go Go.Ab
set_option maxRecDepth 20000
set_option maxHeartbeats 4000000
theorem kH (l:List Tch) (hl:l.length≤4000000000) (p:Oid):ak Tryz.prog 37 [.list 3 (l.map tchAV),.list 3 (l.map tchAV)] (Oid.under p) ⟨[],.bool true,[]⟩:=by
 refine aK (n:=26) (rs:=[.tmp 4]) Tryz.func37 rfl rfl (by decide) rfl rfl rfl ?_;rintro x rfl hrd hng
 (repeat (first|(refine aA rfl rfl ?_)|(refine aB rfl rfl ?_)|(refine az nmd [] hng (by kernel_rfl) fun hf C S K hC1 hC hS hK=>?_;simp (disch:=first|omega|assumption) only [go_sem,List.length_map,decide_true,decide_false,ne_eq,not_true_eq_false,not_false_eq_true];(repeat ((first|refine hC1 _ () (by simp (disch:=first|omega|assumption) only [go_sem]) ?_);simp (disch:=first|omega|assumption) only [go_sem]));refine hK ?_;clear hK hS hC hC1 K S C hf)|((first|refine zn ?_|refine ze ?_|refine zk ?_);with_reducible (constructor;repeat constructor);try refine zl ?_)))
 refine aT [0,1,5] (fun k s'=>∃ i c:Nat,s' = ⟨[(0,.list 3 (l.map tchAV)),(1,.list 3 (l.map tchAV)),(5,.int .i64 i)],Mem.of [],c,[]⟩∧k=l.length - i∧i≤l.length) _ ⟨0,_,rfl,rfl,Nat.zero_le _⟩ ?_
 rintro k s' ⟨i,c,rfl,rfl,hi⟩
 (repeat (first|(refine aA rfl rfl ?_)|(refine aB rfl rfl ?_)|(refine az nmd [] hng (by kernel_rfl) fun hf C S K hC1 hC hS hK=>?_;simp (disch:=first|omega|assumption) only [go_sem,List.length_map];(repeat ((first|refine hC1 _ () (by simp (disch:=first|omega|assumption) only [go_sem]) ?_);simp (disch:=first|omega|assumption) only [go_sem]));refine hK ?_;clear hK hS hC hC1 K S C hf)|((first|refine zn ?_|refine ze ?_|refine zk ?_);with_reducible (constructor;repeat constructor);try refine zl ?_)))
 refine aY rfl rfl (fun hb=>?_) (fun hb=>?_)
 ·have hlt:i < l.length:=by omega
  generalize hq:l.getD i default=q
  obtain ⟨⟨qn,qf⟩,qv⟩:=q
  (try ((first|refine zn ?_|refine ze ?_|refine zk ?_);with_reducible (constructor;repeat constructor));try refine zl ?_)
  refine bA nmd [] [] mixed hng (by kernel_rfl) [0,1,5,25] fun hf C S K hC hS hK=>?_;simp (disch:=first|omega|assumption) only [go_sem,hq,tchAV,AV.cells]
  (first|refine hK (aE rfl) ?_|refine hK (by simp (disch:=first|omega|assumption) only [go_sem,List.reverse_cons,List.reverse_nil,ne_eq,not_false_eq_true,implies_true]) ?_);clear hK hS hC K S C hf
  (repeat (first|(refine aA rfl rfl ?_)|(refine aB rfl rfl ?_)|(refine az nmd [] hng (by kernel_rfl) fun hf C S K hC1 hC hS hK=>?_;simp (disch:=first|omega|assumption) only [go_sem];refine hK ?_;clear hK hS hC hC1 K S C hf)|((first|refine zn ?_|refine ze ?_|refine zk ?_);with_reducible (constructor;repeat constructor);try refine zl ?_)))
  exact ⟨_,_,by omega,fun _ _ h=>h,i+1,_,rfl,rfl,by omega⟩
 ·(repeat (first|(refine aA rfl rfl ?_)|(refine aB rfl rfl ?_)|(refine az nmd [] hng (by kernel_rfl) fun hf C S K hC1 hC hS hK=>?_;simp (disch:=first|omega|assumption) only [go_sem];refine hK ?_;clear hK hS hC hC1 K S C hf)|((first|refine zn ?_|refine ze ?_|refine zk ?_);with_reducible (constructor;repeat constructor);try refine zl ?_)))
  exact ar (a6 rfl)
def fc (L:PL) (l:List Tch):Bool:=l.all fun h=>pN L h.1 == h.2
def u9 (L:PL) (h:Tch):Bool:=!(pN L h.1 == h.2)
theorem pY (bx st t:Oid) (tv:AV) (es:List ME) (clock:Nat) (L:PL) (hm:jA es L) (hs:cW ltB L) (ho:POk L) (h:Tch) (hn:h.1.1.length≤140737488355000) (p:Oid) (hp:p.mono=false) (hbx:¬ Oid.under p bx) (hst:¬ Oid.under p st) (ht:¬ Oid.under p t) (d1:¬ st=bx) (d2:¬ t=bx) (d3:¬ t=st) :
  ak Tryz.prog 104 [tchAV h,.ptr bx 0] (Oid.under p) ⟨[(bx,.cells [.ptr st 0]),(st,.cells [.map t,tv]),(t,.map [.ss] false es clock)],.bool (u9 L h),[]⟩:=by
 obtain ⟨⟨qn,qf⟩,qv⟩:=h
 have hv:=fun p hp u=>rT t es clock L hm hs ho qn hn qf p hp u
 unfold u9
 generalize pN L (qn,qf)=V at hv ⊢
 simp only [tchAV,wM] at hv ⊢
 refine aK (n:=17) (rs:=[.tmp 3]) Tryz.func104 rfl rfl (by decide) rfl rfl rfl ?_;rintro x rfl hrd hng
 (try ((first|refine zn ?_|refine ze ?_|refine zk ?_);with_reducible (constructor;repeat constructor));try refine zl ?_)
 refine az nmd [] hng (by kernel_rfl) fun hf C S K hC1 hC hS hK=>?_;simp (disch:=first|omega|assumption) only [go_sem]
 refine hK ?_;clear hK hS hC hC1 K S C hf
 (try ((first|refine zn ?_|refine ze ?_|refine zk ?_);with_reducible (constructor;repeat constructor));try refine zl ?_)
 refine bA nmd [] [(9,11)] mixed hng (by kernel_rfl) [3] fun hf C S K hC hS hK=>?_;simp (disch:=first|omega|assumption) only [go_sem,Oid.aa hbx,Oid.ab hbx,Oid.aa hst,Oid.ab hst,Oid.aa ht,Oid.ab ht,d1,d2,d3]
 refine hC _ (hv _ (ay rfl hp) (fun h=>ht (Oid.aj h))) (by simp (disch:=first|omega|assumption) only [go_sem,Oid.aa hbx,Oid.ab hbx,Oid.aa hst,Oid.ab hst,Oid.aa ht,Oid.ab ht,d1,d2,d3]) ?_
 simp (disch:=first|omega|assumption) only [go_sem,Oid.aa hbx,Oid.ab hbx,Oid.aa hst,Oid.ab hst,Oid.aa ht,Oid.ab ht,d1,d2,d3]
 (first|refine hK (aE rfl) ?_|refine hK (by simp (disch:=first|omega|assumption) only [go_sem,List.reverse_cons,List.reverse_nil,ne_eq,not_false_eq_true,implies_true]) ?_);clear hK hS hC K S C hf
 (repeat (first|(refine aA rfl rfl ?_)|(refine aB rfl rfl ?_)|(refine az nmd [] hng (by kernel_rfl) fun hf C S K hC1 hC hS hK=>?_;simp (disch:=first|omega|assumption) only [go_sem];refine hK ?_;clear hK hS hC hC1 K S C hf)|((first|refine zn ?_|refine ze ?_|refine zk ?_);with_reducible (constructor;repeat constructor);try refine zl ?_)))
 refine ar (a7 ?_ ?_ ?_)
 ·have hbq:decide (V≠qv) = !(V == qv):=by by_cases h:V=qv<;>simp [h]
  simp (disch:=first|omega|assumption) only [go_sem,hbq]
 ·all_goals simp only [List.mem_cons,List.not_mem_nil,or_false,forall_eq_or_imp,forall_eq,Option.some.injEq,forall_eq',Mem.al,eq_self,if_true,↓reduceIte,reduceCtorEq,implies_true,not_true_eq_false,false_imp_iff,true_and,and_true,false_and,and_false,imp_self,Oid.aa hbx,Oid.ab hbx,Oid.aa hst,Oid.ab hst,Oid.aa ht,Oid.ab ht,d1,d2,d3]
 ·all_goals simp only [List.mem_cons,List.not_mem_nil,or_false,forall_eq_or_imp,forall_eq,Option.some.injEq,forall_eq',Mem.al,eq_self,if_true,↓reduceIte,reduceCtorEq,implies_true,not_true_eq_false,false_imp_iff,true_and,and_true,false_and,and_false,imp_self,Oid.aa hbx,Oid.ab hbx,Oid.aa hst,Oid.ab hst,Oid.aa ht,Oid.ab ht,d1,d2,d3]
def ixT (q:Tch→Bool):List Tch→Int
 | []=>-1
 | s::l=>if q s=true then 0 else if ixT q l = -1 then -1 else ixT q l+1
theorem kI {q:Tch→Bool}:∀ {l:List Tch},l.any q=false→ixT q l = -1
 | [],_=>rfl
 | s::l,h=>by
  simp only [List.any_cons,Bool.or_eq_false_iff] at h
  simp [ixT,h.1,kI h.2]
theorem va {q:Tch→Bool}:∀ {l:List Tch} {i:Nat},i < l.length→(l.take i).any q=false→q (l.getD i default)=true→ixT q l=i
 | [],_,h,_,_=>by simp at h
 | s::l,0,_,_,h=>by
  have h':q s=true:=h
  simp [ixT,h']
 | s::l,i+1,h,h1,h2=>by
  simp only [List.take_succ_cons,List.any_cons,Bool.or_eq_false_iff] at h1
  have ih:=va (l:=l) (i:=i) (by simpa using h) h1.2 h2
  simp only [ixT,h1.1,ih,Bool.false_eq_true,if_false]
  rw [if_neg (by omega)];omega
theorem wW {q:Tch→Bool} (l:List Tch):decide (0≤ixT q l)=l.any q:=by
 cases h:l.any q with
 | false=>rw [kI h];rfl
 | true =>
  have key:∀ l:List Tch,l.any q=true→0≤ixT q l:=by
   intro l
   induction l with
   | nil=>intro h;cases h
   | cons s l ih =>
    intro h
    simp only [ixT]
    split
    ·omega
    ·rename_i hs
     have:=ih (by simpa [hs] using h)
     rw [if_neg (by omega)];omega
  exact decide_eq_true (key l h)
theorem sg {q:Tch→Bool} {l:List Tch} {i:Nat} (hi:i < l.length) (h:(l.take i).any q=false) (h2:q (l.getD i default)=false):(l.take (i+1)).any q=false:=by
 rw [List.take_add_one,List.any_append,h,List.getElem?_eq_getElem hi]
 rw [List.getD_eq_getElem?_getD,List.getElem?_eq_getElem hi] at h2
 simpa using h2
section
variable (bx st t:Oid) (oo:AV) (tv:AV) (es:List ME) (clock:Nat) (q:Tch→Bool) (fu:FuncId) (l:List Tch) (hl:l.length≤4000000000) (d1:¬ st=bx) (d2:¬ t=bx) (d3:¬ t=st)
 (hq:∀ h ∈ l,∀ p:Oid,p.mono=false→¬ Oid.under p bx→¬ Oid.under p st→¬ Oid.under p t→ak Tryz.prog fu [tchAV h,.ptr bx 0] (Oid.under p) ⟨[(bx,.cells [.ptr st 0]),(st,.cells [.map t,tv]),(t,.map [.ss] false es clock)],.bool (q h),[]⟩)
include hl hq d1 d2 d3
theorem sh (p:Oid) (hp:p.mono=false) (hbx:¬ Oid.under p bx) (hst:¬ Oid.under p st) (ht:¬ Oid.under p t) :
  ak Tryz.prog 134 [.list 3 (l.map tchAV),.fn (.func fu) [] [.ptr bx 0]] (Oid.under p) ⟨[(bx,.cells [.ptr st 0]),(st,.cells [.map t,tv]),(t,.map [.ss] false es clock)],.int .i64 (ixT q l),[]⟩:=by
 have hb':∀ c i,¬ Oid.under (.sub c i p) bx:=fun c i h=>hbx (Oid.aj h)
 have hst':∀ c i,¬ Oid.under (.sub c i p) st:=fun c i h=>hst (Oid.aj h)
 have ht':∀ c i,¬ Oid.under (.sub c i p) t:=fun c i h=>ht (Oid.aj h)
 refine aK (n:=19) (rs:=[.tmp 4]) Tryz.func134 rfl rfl (by decide) rfl rfl rfl ?_;rintro x rfl hrd hng
 refine qw0 ?_
 refine aT [0,1,7,8] (fun k s'=>∃ i c:Nat,s' = ⟨[(0,.list 3 (l.map tchAV)),(1,.fn (.func fu) [] [.ptr bx 0]),(7,.int .i64 l.length),(8,.int .i64 i)],Mem.of [(bx,.cells [.ptr st 0]),(st,.cells [.map t,tv]),(t,.map [.ss] false es clock)],c,[]⟩∧k=l.length - i∧i≤l.length∧(l.take i).any q=false) _ ⟨0,_,rfl,rfl,Nat.zero_le _,by simp⟩ ?_
 rintro k s' ⟨i,c,rfl,rfl,hi,hno⟩
 refine qw0 ?_
 refine aY rfl rfl (fun hb=>?_) (fun hb=>?_)
 ·have hlt:i < l.length:=by omega
  have hq1:=hq (l.getD i default) (by rw [ik hlt];exact List.getElem_mem hlt)
  generalize hg:l.getD i default=g at hq1
  obtain ⟨b,hbq⟩:∃ b,q g=b:=⟨_,rfl⟩
  rw [hbq] at hq1
  obtain ⟨⟨gn,gf⟩,gv⟩:=g
  simp only [tchAV] at hq1
  refine qw0 ?_
  refine az nmd [] hng (by kernel_rfl) fun hf C S K hC1 hC hS hK=>?_;simp (disch:=first|omega|assumption) only [go_sem,hg,tchAV,AV.cells]
  refine hC1 _ (hq1 _ (ay rfl hp) (hb' _ _) (hst' _ _) (ht' _ _)) (qs (ai (uu hbx) (ai (uu hst) (ai (uu ht) (ai d1 (ai d2 d3)))))) ?_
  simp (disch:=first|omega|assumption) only [go_sem,Oid.aa hbx,Oid.ab hbx,Oid.aa hst,Oid.ab hst,Oid.aa ht,Oid.ab ht,d1,d2,d3]
  refine hK ?_;clear hK hS hC hC1 K S C hf
  (try ((first|refine zn ?_|refine ze ?_|refine zk ?_);with_reducible (constructor;repeat constructor));try refine zl ?_)
  refine rp rfl rfl (fun hb=>?_) (fun hb=>?_)
  ·rw [va hlt hno (by rw [hg,hbq];exact hb)]
   refine qw0 ?_
   refine ar (a7 rfl ?_ ?_)
   all_goals simp only [List.mem_cons,List.not_mem_nil,or_false,forall_eq_or_imp,forall_eq,Option.some.injEq,forall_eq',Mem.al,eq_self,if_true,↓reduceIte,reduceCtorEq,implies_true,not_true_eq_false,false_imp_iff,true_and,and_true,false_and,and_false,imp_self,Oid.aa hbx,Oid.ab hbx,Oid.aa hst,Oid.ab hst,Oid.aa ht,Oid.ab ht,d1,d2,d3]
  ·have hn:=sg hlt hno (by rw [hg,hbq];exact hb)
   refine qw0 ?_
   exact ⟨_,_,by omega,fun _ _ h=>h,i+1,_,rfl,rfl,by omega,hn⟩
 ·obtain rfl:i=l.length:=by omega
  rw [List.take_length] at hno
  rw [kI hno]
  refine qw0 ?_
  refine ar (a7 rfl ?_ ?_)
  all_goals simp only [List.mem_cons,List.not_mem_nil,or_false,forall_eq_or_imp,forall_eq,Option.some.injEq,forall_eq',Mem.al,eq_self,if_true,↓reduceIte,reduceCtorEq,implies_true,not_true_eq_false,false_imp_iff,true_and,and_true,false_and,and_false,imp_self,Oid.aa hbx,Oid.ab hbx,Oid.aa hst,Oid.ab hst,Oid.aa ht,Oid.ab ht,d1,d2,d3]
theorem mR (p:Oid) (hp:p.mono=false) (hbx:¬ Oid.under p bx) (hst:¬ Oid.under p st) (ht:¬ Oid.under p t) :
  ak Tryz.prog 103 [.list 3 (l.map tchAV),.fn (.func fu) [] [.ptr bx 0]] (Oid.under p) ⟨[(bx,.cells [.ptr st 0]),(st,.cells [.map t,tv]),(t,.map [.ss] false es clock)],.bool (l.any q),[]⟩:=by
 have hi:=fun p hp a b c=>sh bx st t tv es clock q fu l hl d1 d2 d3 hq p hp a b c
 have han:=wW (q:=q) l
 refine aK (n:=9) (rs:=[.tmp 4]) Tryz.func103 rfl rfl (by decide) rfl rfl rfl ?_;rintro x rfl hrd hng
 refine qw0 ?_
 refine az nmd [] hng (by kernel_rfl) fun hf C S K hC1 hC hS hK=>?_;simp (disch:=first|omega|assumption) only [go_sem]
 refine hC1 _ (hi _ (ay rfl hp) (fun h=>hbx (Oid.aj h)) (fun h=>hst (Oid.aj h)) (fun h=>ht (Oid.aj h))) (qs (ai (uu hbx) (ai (uu hst) (ai (uu ht) (ai d1 (ai d2 d3)))))) ?_
 simp (disch:=first|omega|assumption) only [go_sem,Oid.aa hbx,Oid.ab hbx,Oid.aa hst,Oid.ab hst,Oid.aa ht,Oid.ab ht,d1,d2,d3,han]
 refine hK ?_;clear hK hS hC hC1 K S C hf
 refine qw0 ?_
 refine ar (a7 rfl ?_ ?_)
 all_goals simp only [List.mem_cons,List.not_mem_nil,or_false,forall_eq_or_imp,forall_eq,Option.some.injEq,forall_eq',Mem.al,eq_self,if_true,↓reduceIte,reduceCtorEq,implies_true,not_true_eq_false,false_imp_iff,true_and,and_true,false_and,and_false,imp_self,Oid.aa hbx,Oid.ab hbx,Oid.aa hst,Oid.ab hst,Oid.aa ht,Oid.ab ht,d1,d2,d3]
end
theorem sj (st t:Oid) (tv:AV) (es:List ME) (clock:Nat) (L:PL) (hm:jA es L) (hs:cW ltB L) (ho:POk L) (l:List Tch) (hl:l.length≤4000000000) (hn:∀ h ∈ l,h.1.1.length≤140737488355000) (d3:¬ t=st) (p:Oid) (hp:p.mono=false) (hst:¬ Oid.under p st) (ht:¬ Oid.under p t) :
  ak Tryz.prog 60 [.ptr st 0,.list 3 (l.map tchAV)] (Oid.under p) ⟨[(st,.cells [.map t,tv]),(t,.map [.ss] false es clock)],.bool (fc L l),[]⟩:=by
 have hag:(!(l.any (u9 L)))=fc L l:=by
  unfold fc u9
  rw [List.not_any_eq_all_not]
  congr 1
  funext h
  rw [Bool.not_not]
 refine aK (n:=9) (rs:=[.tmp 4]) Tryz.func60 rfl rfl (by decide) rfl rfl rfl ?_;rintro x rfl hrd hng
 have hbx:∀ c i,¬ c=0→¬ Oid.under (.sub c i x.p) (.sub 0 0 x.p):=fun c i hc h=>hc (Oid.apart h (Oid.ah _)).1
 have d1:¬ st = .sub 0 0 x.p:=fun e=>hst (e ▸ Oid.aj (Oid.ah _))
 have d2:¬ t = .sub 0 0 x.p:=fun e=>ht (e ▸ Oid.aj (Oid.ah _))
 have d1':¬ .sub 0 0 x.p=st:=fun e=>d1 e.symm
 have d2':¬ .sub 0 0 x.p=t:=fun e=>d2 e.symm
 refine qr0 ?_
 refine az nmd [] hng (by kernel_rfl) fun hf C S K hC1 hC hS hK=>?_;simp (disch:=first|omega|assumption) only [go_sem,d1,d2,d1',d2',d3]
 refine hC1 _ (mR (.sub 0 0 x.p) st t tv es clock (u9 L) 104 l hl d1 d2 d3 (fun h hh p hp b1 b2 b3=>pY (.sub 0 0 x.p) st t tv es clock L hm hs ho h (hn h hh) p hp b1 b2 b3 d1 d2 d3) _ (ay rfl hp) (hbx _ _ (by omega)) (fun h=>hst (Oid.aj h)) (fun h=>ht (Oid.aj h))) (qs (ai d1 (ai d2 (ai d1' (ai d2' d3))))) ?_
 simp (disch:=first|omega|assumption) only [go_sem,d1,d2,d1',d2',d3,hag]
 refine hK ?_;clear hK hS hC hC1 K S C hf
 refine qw0 ?_
 refine ar (a7 rfl ?_ ?_)
 all_goals simp only [List.mem_cons,List.not_mem_nil,or_false,forall_eq_or_imp,forall_eq,Option.some.injEq,forall_eq',Mem.al,eq_self,if_true,↓reduceIte,reduceCtorEq,implies_true,not_true_eq_false,false_imp_iff,true_and,and_true,false_and,and_false,imp_self,d1,d2,d1',d2',d3]
theorem ak.y1 {P:Program} [Laid P] {f:FuncId} {xs:List AV} {sp:Oid→Prop} {L0:List (Oid × af)} {v:AV} {B:Bk} (h:ak P f xs sp ⟨L0,v,[]⟩) (hL:∀ q,q ∈ L0→q ∈ bk B):ak P f xs sp ⟨bk B,v,[]⟩ :=
 ⟨h.enters,fun x g args w m hm hn ha hs hx=>h.calls x g args w m hm (fun q hq=>hn q (hL q hq)) ha hs hx⟩
end Go.Proofs.YtpficjpdfbiedaaGreatDoor
namespace Go.Proofs.YtpficjpdfbiedaaGreatDoor
open Go Go.Ab
set_option maxRecDepth 20000
set_option maxHeartbeats 4000000
end Go.Proofs.YtpficjpdfbiedaaGreatDoor
namespace Go.Proofs.YtpficjpdfbiedaaGreatDoor
open Go Go.Ab
set_option maxRecDepth 20000
set_option maxHeartbeats 4000000
def two (a:Oid) (x y:af):Oid→af:=fun i=>if i=a then x else y
theorem y2 {a b:Oid} (x y:af) (h:¬ b=a):bk ([a,b],two a x y)=[(a,x),(b,y)]:=by
 simp only [bk2,two,if_true,if_neg h]
theorem sk {a b:Oid} (x y:af) (h:¬ b=a) (Bs:List Bk):Mem.blk [(a,x),(b,y)] Bs=Mem.blk [] (([a,b],two a x y)::Bs):=by
 unfold Mem.blk
 simp only [List.map_cons,List.flatten_cons,y2 x y h,List.nil_append,List.cons_append]
theorem vb {a b:Oid} (h:¬ b=a):wV a ⟨[],none⟩ [a,b] (two a (.cells [.map b,.nilPtr]) (.map [.ss] false [] 0)) :=
 ⟨(by have h':¬ a=b:=fun e=>h e.symm;simp [h']),b,[],0,rfl,if_pos rfl,if_neg h,uH⟩
theorem wX:SOK ⟨[],none⟩:=⟨List.Pairwise.nil,⟨by simp,fun q hq=>(by cases hq),fun q hq=>(by cases hq)⟩,fun q hq=>(by cases hq),fun q hq=>(by cases hq)⟩
theorem pZ {st:Oid} {s:St} {N:List Oid} {F:Oid→af} (h:wV st s N F) (hs:SOK s) (l:List Tch) (hl:l.length≤4000000000) (hn:∀ h ∈ l,h.1.1.length≤140737488355000) (p:Oid) (hp:p.mono=false) (ho:iE p N) :
  ak Tryz.prog 60 [.ptr st 0,.list 3 (l.map tchAV)] (Oid.under p) ⟨bk (N,F),.bool (fc s.L l),[]⟩:=by
 obtain ⟨t,tv,es,clock,h1,h2,hts,k1,k2,k3⟩:=sf h
 have hc:=sj st t tv es clock s.L k3 hs.sl hs.po l hl hn hts p hp (ho st h1) (ho t h2)
 refine ak.y1 hc fun q hq=>eE.2 ?_
 simp only [List.mem_cons,List.not_mem_nil,or_false] at hq
 rcases hq with rfl|rfl
 ·exact ⟨h1,k1.symm⟩
 ·exact ⟨h2,k2.symm⟩
end Go.Proofs.YtpficjpdfbiedaaGreatDoor
