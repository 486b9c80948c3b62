/- A part of the proof: the texts Z16, Z17, K1, K2, FwR, FwZ, FwX, K3, K4, K5, K6, K7, K8, KB, KC, KD, KE, KF, KG, KH, KI, KJ, one behind the other. -/
import Derived.Test.YtpficjpdfbiedaaGreatDoorPOd
import Derived.Recover
import Derived.Laws.MakeOwn
set_option linter.unusedVariables false
set_option linter.unusedSimpArgs false
set_option linter.unusedSectionVars false
namespace Go.Proofs.YtpficjpdfbiedaaGreatDoor
open Go Go.Ab
set_option maxRecDepth 20000
set_option maxHeartbeats 4000000
theorem HW (r:Oid) (L:PL) (hL:L.length≤1000000) (n:Str) (o1 r1 w1 b1 o2 r2 w2 b2:AV) (hT:∀ p,¬ Oid.under p r→aj Tryz.prog 133 [.ptr r 0,.str n,.bool false] (Oid.under p) ⟨[(r,.cells [.list 4 (L.map aI),o1,r1,w1,b1])],.tuple [],[(r,some (.cells [.list 4 (L.map aI),o2,r2,w2,b2]))]⟩)
  (p:Oid) (hr:¬ Oid.under p r):aj Tryz.prog 124 [.ptr r 0,.str n] (Oid.under p) ⟨[(r,.cells [.list 4 (L.map aI),o1,r1,w1,b1])],(aF L n).av,[(r,some (.cells [.list 4 (L.map aI),o2,r2,w2,b2]))]⟩:=by
 have hr':∀ c i,¬ Oid.under (.sub c i p) r:=fun c i h=>hr (Oid.af h)
 have hg:=fun p=>vM L (by omega) n p
 generalize aF L n=B at hg ⊢
 simp only [Bits.av] at hg ⊢
 refine aA (n:=14) (rs:=[.cell 4 123]) Tryz.func124 rfl rfl (by decide) rfl rfl rfl ?_;rintro x rfl hrd hng
 (repeat (first|(refine aB rfl rfl ?_)|(refine aC rfl rfl ?_)|(refine ar nmd [] hng (by kernel_rfl) fun hf C S K hC1 hC hS hK=>?_;simp (disch:=first|omega|assumption) only [go_sem,Oid.ab hr,Oid.aa hr];(repeat ((first|refine hC1 _ (hT _ (hr' _ _)) (by simp (disch:=first|omega|assumption) only [go_sem]) ?_|refine hC1 _ (hg _) (by simp (disch:=first|omega|assumption) only [go_sem]) ?_);simp (disch:=first|omega|assumption) only [go_sem]));refine hK ?_;clear hK hS hC hC1 K S C hf)|((first|refine zn ?_|refine ze ?_|refine zk ?_);with_reducible (constructor;repeat constructor);try refine zl ?_)))
 refine ay (aP (qs (uu hr)) ?_ ?_)
 all_goals simp only [List.mem_cons,List.not_mem_nil,or_false,forall_eq_or_imp,forall_eq,Option.some.injEq,forall_eq',Mem.ao,eq_self,if_true,↓reduceIte,reduceCtorEq,implies_true,not_true_eq_false,false_imp_iff,true_and,and_true,false_and,and_false,imp_self,Oid.ab hr,Oid.aa hr]
theorem y8 (r:Oid) (L:PL) (hL:POk L) (n:Str) (hn:n.length≤140737488355000) (o1 r1 w1 b1 o2 r2 w2 b2:AV) (hT:∀ p,¬ Oid.under p r→aj Tryz.prog 133 [.ptr r 0,.str n,.bool true] (Oid.under p) ⟨[(r,.cells [.list 4 (L.map aI),o1,r1,w1,b1])],.tuple [],[(r,some (.cells [.list 4 (L.map aI),o2,r2,w2,b2]))]⟩)
  (p:Oid) (hr:¬ Oid.under p r):aj Tryz.prog 101 [.ptr r 0,.str n] (Oid.under p) ⟨[(r,.cells [.list 4 (L.map aI),o1,r1,w1,b1])],.list 1 ((aR L n).map AV.str),[(r,some (.cells [.list 4 (L.map aI),o2,r2,w2,b2]))]⟩:=by
 have hr':∀ c i,¬ Oid.under (.sub c i p) r:=fun c i h=>hr (Oid.af h)
 have hg:=fun p=>mi L hL n hn p
 generalize aR L n=B at hg ⊢
 refine aA (n:=14) (rs:=[.tmp 4]) Tryz.func101 rfl rfl (by decide) rfl rfl rfl ?_;rintro x rfl hrd hng
 (repeat (first|(refine aB rfl rfl ?_)|(refine aC rfl rfl ?_)|(refine ar nmd [] hng (by kernel_rfl) fun hf C S K hC1 hC hS hK=>?_;simp (disch:=first|omega|assumption) only [go_sem,Oid.ab hr,Oid.aa hr];(repeat ((first|refine hC1 _ (hT _ (hr' _ _)) (by simp (disch:=first|omega|assumption) only [go_sem]) ?_|refine hC1 _ (hg _) (by simp (disch:=first|omega|assumption) only [go_sem]) ?_);simp (disch:=first|omega|assumption) only [go_sem]));refine hK ?_;clear hK hS hC hC1 K S C hf)|((first|refine zn ?_|refine ze ?_|refine zk ?_);with_reducible (constructor;repeat constructor);try refine zl ?_)))
 refine ay (aP (qs (uu hr)) ?_ ?_)
 all_goals simp only [List.mem_cons,List.not_mem_nil,or_false,forall_eq_or_imp,forall_eq,Option.some.injEq,forall_eq',Mem.ao,eq_self,if_true,↓reduceIte,reduceCtorEq,implies_true,not_true_eq_false,false_imp_iff,true_and,and_true,false_and,and_false,imp_self,Oid.ab hr,Oid.aa hr]
def gq (r:Oid) (s:St) (N:List Oid) (F:Oid→ah):Prop:=N=[r]∧match s.t with
 | none=>∃ OO:AV,F r = .cells [.list 4 (s.L.map aI),OO,.list 3 [],.list 1 [],.bool false]
 | some q=>F r = .cells [.list 4 (s.L.map aI),.list 4 (q.old.map aI),.list 3 (q.R.map aS),.list 1 (q.W.map fun w=>.str w.1),.bool true]
theorem qL {r:Oid} {s:St} {N:List Oid} {F:Oid→ah} (h:gq r s N F) (hs:SOK s) (hR:∀ q,s.t=some q→q.R.length≤1000000∧q.W.length≤1000000) (g:Str × Bool) (hn:g.1.length≤140737488355000) (f:FuncId) (xs:List AV) (v:AV)
  (h0:∀ (o1 r1 w1 b1 o2 r2 w2 b2:AV),(∀ p,¬ Oid.under p r→aj Tryz.prog 133 [.ptr r 0,.str g.1,.bool g.2] (Oid.under p) ⟨[(r,.cells [.list 4 (s.L.map aI),o1,r1,w1,b1])],.tuple [],[(r,some (.cells [.list 4 (s.L.map aI),o2,r2,w2,b2]))]⟩) →
   ∀ p,¬ Oid.under p r→aj Tryz.prog f xs (Oid.under p) ⟨[(r,.cells [.list 4 (s.L.map aI),o1,r1,w1,b1])],v,[(r,some (.cells [.list 4 (s.L.map aI),o2,r2,w2,b2]))]⟩) :
  ∃ F',gq r (s.read g) N F'∧∀ p,p.mono=false→bd p N→aj Tryz.prog f xs (Oid.under p) ⟨bk (N,F),v,sb N F'⟩:=by
 obtain ⟨L,t0⟩:=s
 obtain ⟨rfl,h⟩:=h
 cases t0 with
 | none =>
  obtain ⟨OO,hF⟩:=h
  refine ⟨oJ F r (.cells [.list 4 (L.map aI),OO,.list 3 [],.list 1 [],.bool false]),⟨rfl,OO,by rw [bC,if_pos rfl];rfl⟩,fun p _ ho=>?_⟩
  exact (h0 OO (.list 3 []) (.list 1 []) (.bool false) OO (.list 3 []) (.list 1 []) (.bool false) (fun p hp=>mV (y0 r L OO (.list 3 []) (.list 1 []) g.1 g.2 p hp) (by simp)) p (ho r (by simp))).one hF
 | some q =>
  have hT:=hs.tr q rfl
  obtain ⟨hR1,hW1⟩:=hR q rfl
  refine ⟨oJ F r (.cells [.list 4 (L.map aI),.list 4 (q.old.map aI),.list 3 ((fH q.old q.W g q.R).map aS),.list 1 (q.W.map fun w=>.str w.1),.bool true]),⟨rfl,by rw [bC,if_pos rfl];rfl⟩,fun p _ ho=>?_⟩
  exact (h0 _ _ _ _ _ _ _ _ (fun p hp=>y1 r (.list 4 (L.map aI)) q.old hT.po hT.no q.R hR1 hT.sr q.W hW1 g.1 hn g.2 p hp) p (ho r (by simp))).one h
theorem HX {r:Oid} {s:St} {N:List Oid} {F:Oid→ah} (h:gq r s N F) (hs:SOK s) (hR:∀ q,s.t=some q→q.R.length≤1000000∧q.W.length≤1000000) (n:Str) (hn:n.length≤140737488355000) :
  ∃ F',gq r (s.read (n,false)) N F'∧∀ p,p.mono=false→bd p N→aj Tryz.prog 124 [.ptr r 0,.str n] (Oid.under p) ⟨bk (N,F),(aF s.L n).av,sb N F'⟩ :=
 qL h hs hR (n,false) hn _ _ _ fun o1 r1 w1 b1 o2 r2 w2 b2 hT p hp=>HW r s.L hs.po.len n o1 r1 w1 b1 o2 r2 w2 b2 hT p hp
theorem vQ {r:Oid} {s:St} {N:List Oid} {F:Oid→ah} (h:gq r s N F) (hs:SOK s) (hR:∀ q,s.t=some q→q.R.length≤1000000∧q.W.length≤1000000) (n:Str) (hn:n.length≤140737488355000) :
  ∃ F',gq r (s.read (n,true)) N F'∧∀ p,p.mono=false→bd p N→aj Tryz.prog 101 [.ptr r 0,.str n] (Oid.under p) ⟨bk (N,F),.list 1 ((aR s.L n).map AV.str),sb N F'⟩ :=
 qL h hs hR (n,true) hn _ _ _ fun o1 r1 w1 b1 o2 r2 w2 b2 hT p hp=>y8 r s.L hs.po n hn o1 r1 w1 b1 o2 r2 w2 b2 hT p hp
end Go.Proofs.YtpficjpdfbiedaaGreatDoor
namespace Go.Proofs.YtpficjpdfbiedaaGreatDoor
open Go Go.Ab
theorem oQ {n:Str} {W:WL} (h:aW ltB W):(fG true n W).length≤W.length+1:=by
 unfold fG
 split
 ·omega
 ·rw [if_pos rfl]
  have:=(cJ gm n (some ()) h).length_eq
  rw [this,List.length_append]
  have:=List.length_filter_le (fun q=>decide (¬ q.1=n)) W
  simp only [eO,List.length_singleton];omega
theorem SOK.put {s:St} (h:SOK s) (n:Str) (b:Bits) (hl:s.L.length < 1000000) (hn:n.length≤1000000) (hb:b.ok) (hb2:0≤b.k∧0≤b.m):SOK (s.put n b) :=
 ⟨gF h.sl n b,⟨Nat.le_trans (jH n b s.L) hl,fun q hq=>by
   rcases oO hq with rfl|hq
   ·exact hn
   ·exact h.po.key q hq,fun q hq=>by
   rcases oO hq with rfl|hq
   ·exact hb
   ·exact h.po.val q hq⟩,fun q hq=>by
   rcases oO hq with rfl|hq
   ·exact hb2
   ·exact h.no q hq,fun q hq=>by
  simp only [St.put,Option.map_eq_some_iff] at hq
  obtain ⟨a,h1,rfl⟩:=hq
  have k:=h.tr a h1
  exact ⟨k.so,k.sr,y4 k.sw,k.po,k.no⟩⟩
theorem y9 {esw:List ME} {W:WL} (h:kI AV.str (fun _:Unit=>.bool true) esw W) (hs:aW ltB W) (n:Str) (cw:Nat):kI AV.str (fun _:Unit=>.bool true) (lF n esw cw).1 (fG true n W):=by
 unfold lF fG
 split
 ·exact h
 ·rw [if_pos rfl]
  exact oD encS h n () cw ((cJ gm n (some ()) hs).trans (.refl _))
theorem ET {st:Oid} {s:St} {N:List Oid} {F:Oid→ah} (h:fR st s N F) (hs:SOK s) (n:Str) (b:Bits) :
  ∃ F',fR st (s.put n b) N F'∧∀ p,p.mono=false→bd p N→aj Tryz.prog 94 [.ptr st 0,.str n,b.av] (Oid.under p) ⟨bk (N,F),.tuple [],sb N F'⟩:=by
 obtain ⟨L,t0⟩:=s
 obtain ⟨hnd,h⟩:=h
 cases t0 with
 | none =>
  obtain ⟨t,es,clock,rfl,k1,k2,k3⟩:=h
  have hts:¬ t=st:=fun e=>by simp [e] at hnd
  refine ⟨oJ F t (.map [.ss] false (rR n b es clock) (rS n b es clock)),⟨hnd,t,_,rS n b es clock,rfl,?_,?_,tY k3 hs.sl n b clock⟩,fun p hp ho=>?_⟩
  ·rw [bC,if_neg fun e=>hts e.symm];exact k1
  ·rw [bC,if_pos rfl]
  ·refine (HQ st t es clock hts p (ho _ (by simp)) (ho _ (by simp)) n b).B5 ?_ (fun q hq=>by rw [List.mem_singleton.1 hq];simp) fun i hi=>?_
   ·rw [bk2,k1,k2];exact fun q hq=>hq
   ·show ((Mem.of _).set t (some _)) i=_
    simp only [Mem.set,bC]
    split
    ·rfl
    ·exact rY hi
 | some q =>
  obtain ⟨t,tr,o,rd,wr,es,eso,esr,esw,clock,co,cr,cw,rfl,k1,k2,k3,k4,k5,k6,m1,m2,m3,m4⟩:=h
  have hT:=hs.tr q rfl
  have hnd':[wr,rd,o,tr,t,st].Nodup:=(List.reverse_perm [st,t,tr,o,rd,wr]).nodup_iff.2 hnd
  have hn0:=hnd
  simp only [List.nodup_cons,List.mem_cons,List.not_mem_nil,or_false,not_or] at hn0
  obtain ⟨⟨n1,n2,n3,n4,n5⟩,⟨n6,n7,n8,n9⟩,⟨n10,n11,n12⟩,⟨n13,n14⟩,n15,_⟩:=hn0
  refine ⟨oJ (oJ F t (.map [.ss] false (rR n b es clock) (rS n b es clock))) wr (.map [.ss] false (lF n esw cw).1 (lF n esw cw).2),⟨hnd,t,tr,o,rd,wr,_,eso,esr,_,rS n b es clock,co,cr,(lF n esw cw).2,rfl,?_,?_,?_,?_,?_,?_,tY m1 hs.sl n b clock,m2,m3,y9 m4 hT.sw n cw⟩,fun p hp ho=>?_⟩
  ·rw [bC,if_neg n5,bC,if_neg n1];exact k1
  ·rw [bC,if_neg n9,bC,if_pos rfl]
  ·rw [bC,if_neg n12,bC,if_neg fun e=>n6 e.symm];exact k3
  ·rw [bC,if_neg n14,bC,if_neg fun e=>n7 e.symm];exact k4
  ·rw [bC,if_neg n15,bC,if_neg fun e=>n8 e.symm];exact k5
  ·rw [bC,if_pos rfl]
  ·refine (ES st t tr o rd wr hnd' es eso esr esw clock co cr cw n b p hp ho).B5 ?_ (fun q hq=>by
    simp only [List.mem_cons,List.not_mem_nil,or_false] at hq
    rcases hq with rfl|rfl<;>simp) fun i hi=>?_
   ·rw [bk6,k1,k2,k3,k4,k5,k6];exact fun q hq=>hq
   ·show (((Mem.of _).set t (some _)).set wr (some _)) i=_
    simp only [Mem.set,bC]
    split
    ·rfl
    ·split
     ·rfl
     ·exact rY hi
theorem Cd {r:Oid} {s:St} {N:List Oid} {F:Oid→ah} (h:gq r s N F) (hs:SOK s) (hR:∀ q,s.t=some q→q.R.length≤1000000∧q.W.length≤1000000) (n:Str) (b:Bits) :
  ∃ F',gq r (s.put n b) N F'∧∀ p,p.mono=false→bd p N→aj Tryz.prog 96 [.ptr r 0,.str n,b.av] (Oid.under p) ⟨bk (N,F),.tuple [],sb N F'⟩:=by
 obtain ⟨L,t0⟩:=s
 obtain ⟨rfl,h⟩:=h
 cases t0 with
 | none =>
  obtain ⟨OO,hF⟩:=h
  have hw:fG false n []=[]:=by unfold fG;split<;>rfl
  refine ⟨oJ F r (.cells [.list 4 ((fc n b L).map aI),OO,.list 3 [],.list 1 [],.bool false]),⟨rfl,OO,by rw [bC,if_pos rfl];rfl⟩,fun p _ ho=>?_⟩
  have:=xt r OO (.list 3 []) L hs.po.len [] (by simp) List.Pairwise.nil false n b p (ho r (by simp))
  rw [hw] at this
  exact aj.one this hF
 | some q =>
  have hT:=hs.tr q rfl
  obtain ⟨hR1,hW1⟩:=hR q rfl
  refine ⟨oJ F r (.cells [.list 4 ((fc n b L).map aI),.list 4 (q.old.map aI),.list 3 (q.R.map aS),.list 1 ((fG true n q.W).map fun w=>.str w.1),.bool true]),⟨rfl,by rw [bC,if_pos rfl];rfl⟩,fun p _ ho=>?_⟩
  exact aj.one (xt r _ _ L hs.po.len q.W hW1 hT.sw true n b p (ho r (by simp))) h
end Go.Proofs.YtpficjpdfbiedaaGreatDoor
namespace Go.Proofs.YtpficjpdfbiedaaGreatDoor
open Go Go.Ab
set_option maxRecDepth 20000
abbrev Rds:=List (Str × Bool)
abbrev Pts:=List (Str × Bits)
def dL (a b:Int):Int:=IntKind.i64.wrap (BitVec.ofInt IntKind.i64.bits a &&& BitVec.ofInt IntKind.i64.bits b).toNat
def bH (a b:Int):Int:=IntKind.i64.wrap (BitVec.ofInt IntKind.i64.bits a &&& ~~~ BitVec.ofInt IntKind.i64.bits b).toNat
def aO (s:Str):Str:=s.take (dW s 47 s.length).toNat
theorem za (a b:Int):dI .and .i64 a b=some (.int .i64 (dL a b)):=rfl
theorem se (a b:Int):dI .andNot .i64 a b=some (.int .i64 (bH a b)):=rfl
attribute [go_sem high] za se
inductive Rs (α:Type) where
 | err (e:Int)
 | go (a:α)
structure Wk where
 pl:Str
 todo:List Str
 links:Nat
 dir:Bool
def inE (b:Bits):Int:=if b.k=0 then 10 else if ¬ b.k=2 then 15 else if dL b.m 1=0 then 18 else 0
def dq (w:Wk) (t:List Str) (l:Str):Rs Wk :=
 if 8 < w.links+1 then .err 17 else if l=[] then .err 10 else .go ⟨if l.getD 0 0=47 then [] else w.pl,aT l++t,w.links+1,w.dir || (decide (t=[]) && cK l)⟩
def ji (w:Wk) (n:Str):Str:=w.pl++(47::n)
def goF (L:PL) (fol:Bool) (w:Wk) (n:Str) (t:List Str):Rs Wk :=
 if (aF L (ji w n)).k=3∧(¬ t=[]∨fol=true∨w.dir=true) then dq w t (aF L (ji w n)).l
 else if ¬ t=[]∧(aF L (ji w n)).k=0 then .err 10 else .go ⟨ji w n,t,w.links,w.dir⟩
def bw (L:PL) (fol:Bool) (w:Wk) (n:Str) (t:List Str):Rds × Rs Wk :=
 if ¬ inE (aF L w.pl)=0 then ([(w.pl,false)],.err (inE (aF L w.pl)))
 else if 32 < n.length then ([(w.pl,false)],.err 2)
 else if n=[46] then ([(w.pl,false)],.go ⟨w.pl,t,w.links,w.dir⟩)
 else if n=[46,46] then ([(w.pl,false)],.go ⟨aO w.pl,t,w.links,w.dir⟩)
 else ([(w.pl,false),(ji w n,false)],goF L fol w n t)
def bV (L:PL) (fol:Bool):Nat→Wk→Rds × Rs Wk
 | 0,w=>([],if w.todo=[] then .go w else .err 0)
 | k+1,w=>match w.todo with
  | []=>([],.go w)
  | n::t=>match bw L fol w n t with
   | (rd,.err e)=>(rd,.err e)
   | (rd,.go w')=>(rd++(bV L fol k w').1,(bV L fol k w').2)
def wtF:List Str→Nat
 | []=>0
 | n::t=>n.length+1+wtF t
def wkW (w:Wk):Nat:=wtF w.todo+(8 - w.links) * 302
def aJ (cwd path:Str):Wk:=⟨if path.getD 0 0=47 then [] else cwd,aT path,0,cK path⟩
def cU (L:PL):Rds × Rs Wk→Rds × Rs (Str × Bits)
 | (rd,.err e)=>(rd,.err e)
 | (rd,.go w)=>(rd++[(w.pl,false)],if w.dir=true∧¬ (aF L w.pl).k=0∧¬ (aF L w.pl).k=2 then .err 15 else .go (w.pl,aF L w.pl))
def findF (L:PL) (cwd path:Str) (fol:Bool):Rds × Rs (Str × Bits) :=
 if path=[] then ([],.err 10) else if 200 < path.length then ([],.err 2) else cU L (bV L fol (wkW (aJ cwd path)) (aJ cwd path))
def aX {α β:Type} (x:Rds × Rs α) (f:α→Rds × Rs β):Rds × Rs β:=match x with
 | (r,.err e)=>(r,.err e)
 | (r,.go a)=>(r++(f a).1,(f a).2)
def bW (L:PL) (cwd path:Str) (fol:Bool):Rds × Rs (Str × Bits):=aX (findF L cwd path fol) fun a=>([],if a.2.k=0 then .err 10 else .go a)
def bX (place:Str) (e:Bits):Int:=if place=[] then 18 else if ¬ e.k=2 then 10 else if ¬ dL e.m 3=3 then 18 else 0
def b7 {α:Type} (L:PL) (place:Str) (a:α):Rds × Rs α:=([(aO place,false)],if ¬ bX place (aF L (aO place))=0 then .err (bX place (aF L (aO place))) else .go a)
def lG (L:PL) (cwd path:Str):Rds × Rs Str:=aX (bW L cwd path true) fun a=>([],if a.2.k=2 then .err 14 else if dL a.2.m 4=0 then .err 18 else .go a.2.l)
def mX (e:Bits) (more:Bool) (data:Str):Str:=if more=true then e.l++data else data
def dx (at':Str) (e:Bits) (more:Bool) (data:Str):Rs Pts:=if 100000 < (mX e more data).length then .err 2 else .go [(at',⟨e.k,e.m,mX e more data⟩)]
def fe (L:PL) (cwd:Str) (um:Int) (path data:Str) (more:Bool):Rds × Rs Pts:=aX (findF L cwd path true) fun a =>
 if a.2.k=2 then ([],.err 14)
 else if a.2.k=0 then (if cK path=true then ([],.err 14) else aX (b7 L a.1 ()) fun _=>([],dx a.1 ⟨1,bH 6 um,[]⟩ more data))
 else if dL a.2.m 2=0 then ([],.err 18) else ([],dx a.1 a.2 more data)
def jI (L:PL) (cwd path:Str):Rds × Rs (List Str):=aX (bW L cwd path true) fun a =>
 if ¬ a.2.k=2 then ([],.err 15) else if dL a.2.m 4=0 then ([],.err 18) else ([(a.1,true)],.go (aR L a.1))
def eR (L:PL) (cwd path:Str) (e:Bits):Rds × Rs Pts:=aX (findF L cwd path false) fun a =>
 if ¬ a.2.k=0 then ([],.err 11) else b7 L a.1 [(a.1,e)]
def fS (L:PL) (cwd:Str) (um:Int) (path:Str):Rds × Rs Pts:=eR L cwd path ⟨2,bH 7 um,[]⟩
def b8 (L:PL) (cwd target path:Str):Rds × Rs Pts :=
 if target=[]∨200 < target.length then ([],.err 1) else if cK path=true then ([],.err 10) else eR L cwd path ⟨3,7,target⟩
def dM (L:PL) (cwd path:Str):Rds × Rs Str:=aX (bW L cwd path false) fun a=>([],if ¬ a.2.k=3 then .err 19 else .go a.2.l)
def eh (L:PL) (cwd path:Str):Rds × Rs Pts:=aX (bW L cwd path false) fun a=>if a.2.k=2 then ([],.err 14) else b7 L a.1 [(a.1,Bits.no)]
def fT (L:PL) (cwd path:Str):Rds × Rs Pts:=aX (bW L cwd path false) fun a =>
 if ¬ a.2.k=2 then ([],.err 15) else if a.1=cwd∨a.1=[] then ([],.err 18)
 else aX ([(a.1,true)],if ¬ aR L a.1=[] then .err 16 else .go ()) fun _=>b7 L a.1 [(a.1,Bits.no)]
def eo (L:PL) (cwd from' to':Str):Rds × Rs Pts:=aX (bW L cwd from' false) fun a =>
 if a.2.k=2 then ([],.err 14) else aX (findF L cwd to' false) fun b =>
  if b.2.k=2 then ([],.err 14) else if b.2.k=0∧cK to' = true then ([],.err 15)
  else aX (b7 L a.1 ()) fun _=>b7 L b.1 (if a.1=b.1 then [] else [(a.1,Bits.no),(b.1,a.2)])
def fU (L:PL) (cwd path:Str) (mode:Int):Rds × Rs Pts:=aX (bW L cwd path true) fun a =>
 ([],if ¬ (0≤mode∧mode≤7) then .err 1 else if a.1=[] then .err 18 else .go [(a.1,⟨a.2.k,mode,a.2.l⟩)])
def cE (L:PL) (cwd path:Str):Rds × Rs Str:=aX (bW L cwd path true) fun a =>
 ([],if ¬ a.2.k=2 then .err 15 else if dL a.2.m 1=0 then .err 18 else .go a.1)
def Ce (cwd:Str):Str:=if cwd=[] then [47] else cwd
def aL {α:Type}:Rs α→Int
 | .err e=>e
 | .go _=>0
def cC:Rs Pts→Pts
 | .err _=>[]
 | .go l=>l
def St.rds (s:St) (l:Rds):St:=l.foldl St.read s
def St.pts (s:St) (l:Pts):St:=l.foldl (fun s q=>s.put q.1 q.2) s
theorem FV (l:Rds):∀ s:St,(s.rds l).L=s.L:=by
 induction l with
 | nil=>intro s;rfl
 | cons f l ih=>intro s;show ((s.read f).rds l).L=_;rw [ih];rfl
theorem SOK.rds {s:St} (h:SOK s) (l:Rds):SOK (s.rds l):=by
 induction l generalizing s with
 | nil=>exact h
 | cons f l ih=>exact ih (h.read f)
theorem qO {α β:Type} {x:Rds × Rs α} {f:α→Rds × Rs β} {r:Rds} {e:Int} (h:x=(r,.err e)):aX x f=(r,.err e):=by rw [h];rfl
theorem ud {α β:Type} {x:Rds × Rs α} {f:α→Rds × Rs β} {r:Rds} {a:α} (h:x=(r,.go a)):aX x f=(r++(f a).1,(f a).2):=by rw [h];rfl
theorem oR (c:UInt8):∀ s:Str,wtF (a7 c s)=s.length+1
 | []=>rfl
 | b::s=>by
  have ih:=oR c s
  rw [a7]
  split
  ·simp only [wtF,ih,List.length_nil,List.length_cons];omega
  ·cases h:a7 c s with
   | nil=>exact absurd h (jZ c s)
   | cons l r=>rw [h] at ih;simp only [wtF,List.length_cons] at ih ⊢;omega
theorem oS (q:Str→Bool):∀ l:List Str,wtF (l.filter q)≤wtF l
 | []=>Nat.le_refl _
 | n::l=>by
  have ih:=oS q l
  rw [List.filter_cons]
  split<;>simp only [wtF]<;>omega
theorem oT (s:Str):wtF (aT s)≤s.length+1:=by
 rw [← oR 47 s];exact oS _ _
theorem xu:∀ a b:List Str,wtF (a++b)=wtF a+wtF b
 | [],b=>by simp [wtF]
 | n::a,b=>by have ih:=xu a b;simp only [List.cons_append,wtF,ih];omega
theorem ja (s:Str):(aO s).length≤s.length:=by unfold aO;rw [List.length_take];omega
def jJ (L:PL):Prop:=∀ q ∈ L,q.2.k=3→q.2.l.length≤300
theorem zb {L:PL} (hs:aW ltB L) (h:jJ L) (n:Str) (h3:(aF L n).k=3):(aF L n).l.length≤300:=by
 unfold aF at h3 ⊢
 split at h3
 ·simp at h3
 ·rename_i hn
  rw [if_neg hn]
  cases hb:aN n L with
  | none=>rw [hb] at h3;simp [Bits.no] at h3
  | some b=>rw [hb] at h3;exact h _ ((bD (hs.nodup gm)).1 hb) h3
theorem lH {L:PL} (hs:aW ltB L) (hl:jJ L) {fol:Bool} {w w':Wk} {n:Str} {t:List Str} {rd:Rds} (h:bw L fol w n t=(rd,.go w')) :
  wtF w'.todo+(8 - w'.links) * 302 < wtF (n::t)+(8 - w.links) * 302∧w'.pl.length+(wtF w'.todo+(8 - w'.links) * 302)≤w.pl.length+(wtF (n::t)+(8 - w.links) * 302):=by
 have hw:(wtF (n::t))=n.length+1+wtF t:=rfl
 unfold bw at h
 split at h;· cases h
 split at h;· cases h
 split at h
 ·cases h;simp only;omega
 split at h
 ·cases h;have:=ja w.pl;simp only;omega
 have hn:(ji w n).length=w.pl.length+n.length+1:=by simp only [ji,List.length_append,List.length_cons];omega
 obtain ⟨-,h⟩:=Prod.mk.inj h
 unfold goF at h
 split at h
 ·rename_i h3
  have hb:=zb hs hl _ h3.1
  generalize aF L (ji w n)=b at h hb
  unfold dq at h
  split at h;· cases h
  split at h;· cases h
  have hp:=oT b.l
  cases h
  simp only [xu]
  have:(if b.l.getD 0 0=47 then ([]:Str) else w.pl).length≤w.pl.length:=by split<;>simp
  omega
 ·split at h;· cases h
  cases h;simp only;omega
theorem zc {L:PL} {fol:Bool} {w:Wk} {n:Str} {t:List Str}:∀ f ∈ (bw L fol w n t).1,f.1.length≤w.pl.length+n.length+1:=by
 have h1:∀ f ∈ [(w.pl,false)],f.1.length≤w.pl.length+n.length+1:=fun f hf=>by rw [List.mem_singleton.1 hf];show w.pl.length≤_;omega
 unfold bw
 split;· exact h1
 split;· exact h1
 split;· exact h1
 split;· exact h1
 intro f hf
 simp only [List.mem_cons,List.not_mem_nil,or_false] at hf
 rcases hf with rfl|rfl
 ·show w.pl.length≤_;omega
 ·show (ji w n).length≤_;simp only [ji,List.length_append,List.length_cons];omega
theorem zd {L:PL} {fol:Bool} {w:Wk} {n:Str} {t:List Str}:(bw L fol w n t).1.length≤2:=by
 unfold bw
 repeat' split
 all_goals simp
theorem xv {L:PL} (hs:aW ltB L) (hl:jJ L) (fol:Bool):∀ (k:Nat) (w:Wk),wkW w≤k →
  (∀ f ∈ (bV L fol k w).1,f.1.length≤w.pl.length+wkW w)∧(bV L fol k w).1.length≤2 * k∧∀ w',(bV L fol k w).2 = .go w'→w'.todo=[]∧w'.pl.length≤w.pl.length+wkW w
 | 0,w,h=>by
  obtain ⟨a,todo,l,d⟩:=w
  cases todo with
  | nil=>exact ⟨fun f hf=>(by cases hf),Nat.zero_le _,fun w' h=>(by simp only [bV,if_true,Rs.go.injEq] at h;subst h;exact ⟨rfl,Nat.le_add_right _ _⟩)⟩
  | cons n t=>simp only [wkW,wtF] at h;omega
 | k+1,w,h=>by
  obtain ⟨a,todo,l,d⟩:=w
  cases todo with
  | nil=>exact ⟨fun f hf=>(by cases hf),Nat.zero_le _,fun w' h=>(by simp only [bV,Rs.go.injEq] at h;subst h;exact ⟨rfl,Nat.le_add_right _ _⟩)⟩
  | cons n t =>
   have h1:=zc (L:=L) (fol:=fol) (w:=⟨a,n::t,l,d⟩) (n:=n) (t:=t)
   have h2:=zd (L:=L) (fol:=fol) (w:=⟨a,n::t,l,d⟩) (n:=n) (t:=t)
   have hw:wkW ⟨a,n::t,l,d⟩=n.length+1+wtF t+(8 - l) * 302:=rfl
   simp only [bV]
   cases hst:bw L fol ⟨a,n::t,l,d⟩ n t with
   | mk rd r =>
    rw [hst] at h1 h2
    cases r with
    | err e=>exact ⟨fun f hf=>Nat.le_trans (h1 f hf) (by simp only [hw];omega),by simp only at h2 ⊢;omega,fun w' h=>(by cases h)⟩
    | go w' =>
     obtain ⟨g1,g2⟩:=lH hs hl hst
     simp only at g1 g2
     have hw':wkW w' = wtF w'.todo+(8 - w'.links) * 302:=rfl
     have hwt:wtF (n::t)=n.length+1+wtF t:=rfl
     obtain ⟨k1,k2,k3⟩:=xv hs hl fol k w' (by omega)
     refine ⟨fun f hf=>?_,?_,fun w'' h=>?_⟩
     ·rcases List.mem_append.1 hf with hf|hf
      ·have:=h1 f hf;simp only [hw] at this ⊢;omega
      ·have:=k1 f hf;simp only [hw];omega
     ·rw [List.length_append];simp only at h2;omega
     ·obtain ⟨q1,q2⟩:=k3 w'' h
      exact ⟨q1,by simp only [hw];omega⟩
theorem kK (cwd path:Str) (hp:path.length≤200):(aJ cwd path).pl.length≤cwd.length∧wkW (aJ cwd path)≤2617:=by
 have h:=oT path
 constructor
 ·simp only [aJ];split<;>simp
 ·simp only [wkW,aJ];omega
theorem iP {L:PL} (hs:aW ltB L) (hl:jJ L) (cwd path:Str) (fol:Bool) :
  (∀ f ∈ (findF L cwd path fol).1,f.1.length≤cwd.length+2700)∧(findF L cwd path fol).1.length≤6000∧∀ a,(findF L cwd path fol).2 = .go a→a.1.length≤cwd.length+2700∧a.2=aF L a.1:=by
 unfold findF
 split
 ·exact ⟨fun f hf=>(by cases hf),Nat.zero_le _,fun a h=>(by cases h)⟩
 split
 ·exact ⟨fun f hf=>(by cases hf),Nat.zero_le _,fun a h=>(by cases h)⟩
 rename_i hp
 obtain ⟨s1,s2⟩:=kK cwd path (by omega)
 obtain ⟨h1,h2,h3⟩:=xv hs hl fol (wkW (aJ cwd path)) (aJ cwd path) (Nat.le_refl _)
 generalize bV L fol (wkW (aJ cwd path)) (aJ cwd path)=x at h1 h2 h3
 obtain ⟨rd,r⟩:=x
 simp only at h1 h2 h3
 cases r with
 | err e=>exact ⟨fun f hf=>Nat.le_trans (h1 f hf) (by omega),by simp only [cU];omega,fun a h=>(by cases h)⟩
 | go w =>
  obtain ⟨h4,h5⟩:=h3 w rfl
  refine ⟨fun f hf=>?_,?_,fun a h=>?_⟩
  ·simp only [cU] at hf
   rcases List.mem_append.1 hf with hf|hf
   ·exact Nat.le_trans (h1 f hf) (by omega)
   ·rw [List.mem_singleton.1 hf];show w.pl.length≤_;omega
  ·simp only [cU,List.length_append,List.length_singleton];omega
  ·simp only [cU] at h
   split at h
   ·cases h
   ·cases h;exact ⟨by simp only;omega,rfl⟩
end Go.Proofs.YtpficjpdfbiedaaGreatDoor
namespace Go.Proofs.YtpficjpdfbiedaaGreatDoor
open Go Go.Ab
set_option maxRecDepth 20000
def sf (fA fN:FuncId) (o:Oid) (N:List Oid) (L:PL) (f:Str × Bool) (F F':Oid→ah):Prop:=match f with
 | (n,false)=>∀ p,p.mono=false→bd p N→aj Tryz.prog fA [.ptr o 0,.str n] (Oid.under p) ⟨bk (N,F),(aF L n).av,sb N F'⟩
 | (n,true)=>∀ p,p.mono=false→bd p N→aj Tryz.prog fN [.ptr o 0,.str n] (Oid.under p) ⟨bk (N,F),.list 1 ((aR L n).map AV.str),sb N F'⟩
def zf (fA fN:FuncId) (o:Oid) (N:List Oid) (L:PL):Rds→(Oid→ah)→(Oid→ah)→Prop
 | [],F,F'=>F=F'
 | f::l,F,F'=>∃ F1,sf fA fN o N L f F F1∧zf fA fN o N L l F1 F'
theorem aZ {fA fN:FuncId} {o:Oid} {N:List Oid} {L:PL} {b:Rds} {F':Oid→ah}:∀ {a:Rds} {F:Oid→ah},zf fA fN o N L (a++b) F F'→∃ F1,zf fA fN o N L a F F1∧zf fA fN o N L b F1 F'
 | [],F,h=>⟨F,rfl,h⟩
 | f::a,F,⟨F1,h1,h2⟩=>by
  obtain ⟨F2,k1,k2⟩:=aZ h2
  exact ⟨F2,⟨F1,h1,k1⟩,k2⟩
abbrev RP (st:Oid) (N:List Oid) (L:PL):=zf 127 100 st N L
abbrev RR' (r:Oid) (M:List Oid) (L:PL):=zf 124 101 r M L
theorem FW {st:Oid} {N:List Oid}:∀ (l:Rds) (s:St) (F:Oid→ah),fR st s N F→SOK s→(∀ f ∈ l,f.1.length≤140737488355000)→∃ F',fR st (s.rds l) N F'∧RP st N s.L l F F'
 | [],s,F,h,_,_=>⟨F,h,rfl⟩
 | f::l,s,F,h,hs,hl=>by
  have hf:=hl f List.mem_cons_self
  have key:∃ F1,fR st (s.read f) N F1∧sf 127 100 st N s.L f F F1:=by
   obtain ⟨n,b⟩:=f
   cases b
   ·exact HV h hs n hf
   ·exact y7 h hs n hf
  obtain ⟨F1,h1,h2⟩:=key
  obtain ⟨F',k1,k2⟩:=FW l (s.read f) F1 h1 (hs.read f) fun g hg=>hl g (List.mem_cons_of_mem _ hg)
  exact ⟨F',k1,F1,h2,k2⟩
theorem FX {r:Oid} {M:List Oid}:∀ (l:Rds) (s:St) (F:Oid→ah),gq r s M F→SOK s→(∀ q,s.t=some q→q.R.length+l.length≤1000000∧q.W.length≤1000000)→(∀ f ∈ l,f.1.length≤140737488355000)→∃ F',gq r (s.rds l) M F'∧RR' r M s.L l F F'
 | [],s,F,h,_,_,_=>⟨F,h,rfl⟩
 | f::l,s,F,h,hs,hR,hl=>by
  have hf:=hl f List.mem_cons_self
  have hR1:∀ q,s.t=some q→q.R.length≤1000000∧q.W.length≤1000000:=fun q hq=>by have:=hR q hq;omega
  have key:∃ F1,gq r (s.read f) M F1∧sf 124 101 r M s.L f F F1:=by
   obtain ⟨n,b⟩:=f
   cases b
   ·exact HX h hs hR1 n hf
   ·exact vQ h hs hR1 n hf
  obtain ⟨F1,h1,h2⟩:=key
  obtain ⟨F',k1,k2⟩:=FX l (s.read f) F1 h1 (hs.read f) (fun q hq=>by
   simp only [St.read,Option.map_eq_some_iff] at hq
   obtain ⟨a,ha,rfl⟩:=hq
   have h3:=hR a ha
   have h4:=ml (old:=a.old) (W:=a.W) (f:=f) (hs.tr a ha).sr
   simp only [List.length_cons] at h3
   refine ⟨?_,h3.2⟩
   show (fH a.old a.W f a.R).length+_≤_
   omega) fun g hg=>hl g (List.mem_cons_of_mem _ hg)
  exact ⟨F',k1,F1,h2,k2⟩
def pT (e:Int):AV:=.iface 33 (.int .i64 e)
abbrev dD (f:FuncId) (xs:List AV) (sp:Oid→Prop) (need:List (Oid × ah)) (r:Rs AV) (u0:List (Oid × Option ah)):Prop :=
 bQ Tryz.prog f xs sp need (fun v u=>r = .go v∧u=u0) (fun pv u=>∃ e,r = .err e∧pv=pT e∧u=u0)
theorem dD.ok {f:FuncId} {xs:List AV} {sp:Oid→Prop} {need:List (Oid × ah)} {r:Rs AV} {v:AV} {u0:List (Oid × Option ah)} (h:dD f xs sp need r u0) (hr:r = .go v):aj Tryz.prog f xs sp ⟨need,v,u0⟩ :=
 bQ.ok (h.weaken (fun w u ⟨h1,h2⟩=>by rw [hr] at h1;exact ⟨(Rs.go.inj h1).symm,h2⟩) fun pv u ⟨e,h1,_⟩=>by rw [hr] at h1;cases h1)
theorem dD.pn {f:FuncId} {xs:List AV} {sp:Oid→Prop} {need:List (Oid × ah)} {r:Rs AV} {e:Int} {u0:List (Oid × Option ah)} (h:dD f xs sp need r u0) (hr:r = .err e):B4 Tryz.prog f xs sp need (pT e) u0 :=
 h.weaken (fun w u ⟨h1,h2⟩=>by rw [hr] at h1;cases h1) fun pv u ⟨e',h1,h2,h3⟩=>by rw [hr] at h1;exact ⟨by rw [h2,Rs.err.inj h1],h3⟩
end Go.Proofs.YtpficjpdfbiedaaGreatDoor
namespace Go.Ab
structure Cf (P:Program) [Laid P] (f:FuncId) (xs:List AV) (sp:Oid→Prop) (need:List (Oid × ah)) (u0:List (Oid × Option ah)) (rec:AV→List (Oid × Option ah)→Prop):Prop where
 enters:cG P f=true
 ret:∀ (x:Ctx) (g:Gh) (args:Array Value) (w:World) (m:Mem),aw x g m w→(∀ q,q ∈ need→m q.1=some q.2)→VRs g xs args→(∀ i,sp i→g.loc i=none∧Oid.under x.p i)→Fit P x →
  CallsD P f args .returning w fun en u' w'=>∃ g' v,en = .returned v∧u' = .returning∧g.le g'∧(∀ i,¬ sp i→g'.loc i=g.loc i)∧aw x g' (m.aH u0) w'
 pan:∀ (pv:AV) (u:List (Oid × Option ah)),rec pv u→∀ (x:Ctx) (g:Gh) (args:Array Value) (w:World) (m:Mem) (v:Value),aw x g m w→(∀ q,q ∈ need→m q.1=some q.2)→VRs g xs args→(∀ i,sp i→g.loc i=none∧Oid.under x.p i)→Fit P x →
  VR g pv v→CallsD P f args (.panicking [{ v,recovered:=false,goexit:=false }]) w fun en u' w'=>∃ g' v',en = .returned v'∧u' = .panicking [{ v,recovered:=true,goexit:=false }]∧g.le g'∧(∀ i,¬ sp i→g'.loc i=g.loc i)∧aw x g' (m.aH u) w'
theorem CallsD.FY {P:Program} {f:FuncId} {args:Array Value} {u:FrameMode} {w:World} {R R':Ending→FrameMode→World→Prop} (h:CallsD P f args u w R) (hr:∀ e u' w',R e u' w'→R' e u' w'):CallsD P f args u w R' :=
 fun c cs hu=>let ⟨e,u',w',fr,r,rest⟩:=h c cs hu;⟨e,u',w',fr,hr _ _ _ r,rest⟩
def mq (P:Program) [Laid P] (p:Oid) (K:Mem→Prop) (Kp:AV→Mem→Prop):List AD→Nat→Option AV→Mem→Prop
 | [],_,none,m=>K m
 | [],_,some pv,m=>Kp pv m
 | .call f cap args::ds,c,mode,m=>∃ (k:FuncId) (need:List (Oid × ah)) (u0:List (Oid × Option ah)) (rec:AV→List (Oid × Option ah)→Prop),f = .func k∧Cf P k (args++cap) (Oid.under (.sub c 0 p)) need u0 rec∧(∀ q,q ∈ need→m q.1=some q.2)∧match mode with
  | none=>mq P p K Kp ds (c+1) none (m.aH u0)
  | some pv=>∃ u,rec pv u∧mq P p K Kp ds (c+1) none (m.aH u)
 | .coll _::_,_,_,_=>False
theorem jb {P:Program} [Laid P] {x:Ctx} {fn:Func} {tmps:Array Value} {R:Ending→World→Prop} {K:Mem→Prop} {Kp:AV→Mem→Prop} (hx:Fit P x) {g0:Gh}
  (hK:∀ g m w,g0.le g→aw x g m w→K m→∃ v,(results fn tmps).run P w = .ok v w∧R (.returned v) w) :
  ∀ (ds:List AD) (dl:List Deferred) (c:Nat) (g:Gh) (m:Mem) (w:World),g0.le g→aw x g m w→(∀ i,dN x.p c i→g.loc i=none)→DRs g ds dl→mq P x.p K Kp ds c none m→Leaves P fn tmps R dl .returning w
 | [],_,_,g,m,w,hle,hm,_,hd,h=>by cases hd;exact hK g m w hle hm h
 | .coll _::_,_,_,_,_,_,_,_,_,_,h=>h.elim
 | .call f cap args::ds,_,c,g,m,w,hle,hm,hy,hd,h=>by
  obtain ⟨k,need,u0,rec,rfl,hD,hn,h⟩:=h
  cases hd with
  | cons h1 t =>
   cases h1 with
   | call _ _ _ cv av v1 v2 =>
    refine ⟨by simp,_,_,k,av++cv,rfl,?_,?_⟩
    ·have he:=hD.enters
     unfold cG at he
     cases hfn:P.funcs[k]? with
     | none=>rw [hfn] at he;cases he
     | some fn =>
      rw [hfn] at he
      simp only [Bool.and_eq_true,bne_iff_ne,ne_eq] at he
      obtain ⟨he1,he2⟩:=he
      have hb:fn.body.isNone=false:=by cases hbb:fn.body<;>simp_all
      have hnm:(fn.name == "runtime.NumGoroutine")=false:=by simpa using he2
      simp only [Sem.run_bind,Sem.run_pure,Result.andThen_ok,invoke,callFunc,run_program,hfn,hnm,hb,Bool.false_eq_true,if_false]
    ·refine CallsD.FY (hD.ret x g _ w m hm hn (v2.append v1) (fun i hi=>⟨hy i ⟨c,0,Nat.le_refl _,hi⟩,Oid.af hi⟩) hx) fun en u' w' ⟨g',v,e1,e2,e3,e4,e5⟩=>?_
     subst e1;subst e2
     show Leaves P fn tmps R _ .returning w'
     refine jb hx hK ds _ (c+1) g' _ w' (Gh.le_trans hle e3) e5 (fun i hi=>?_) (t.mono e3) h
     rw [e4 i fun hu=>?_]
     ·exact hy i (hi.mono (Nat.le_succ _))
     ·obtain ⟨c',i',h1,h2⟩:=hi
      have:=(Oid.apart hu h2).1
      omega
theorem vR {P:Program} [Laid P] {x:Ctx} {fn:Func} {tmps:Array Value} {R:Ending→World→Prop} {K:Mem→Prop} {Kp:AV→Mem→Prop} (hx:Fit P x) {g0:Gh}
  (hK:∀ g m w,g0.le g→aw x g m w→K m→∃ v,(results fn tmps).run P w = .ok v w∧R (.returned v) w) {pv:AV} {v:Value}
  (hKp:∀ m w,aw x g0 m w→Kp pv m→R (.panicked [{ v,recovered:=false,goexit:=false }]) w) (hv:VR g0 pv v) :
  ∀ (ds:List AD) (dl:List Deferred) (c:Nat) (m:Mem) (w:World),aw x g0 m w→(∀ i,dN x.p c i→g0.loc i=none)→DRs g0 ds dl→mq P x.p K Kp ds c (some pv) m→Leaves P fn tmps R dl (.panicking [{ v,recovered:=false,goexit:=false }]) w
 | [],_,_,m,w,hm,_,hd,h=>by cases hd;exact hKp m w hm h
 | .coll _::_,_,_,_,_,_,_,_,h=>h.elim
 | .call f cap args::ds,_,c,m,w,hm,hy,hd,h=>by
  obtain ⟨k,need,u0,rec,rfl,hD,hn,u,hr,h⟩:=h
  cases hd with
  | cons h1 t =>
   cases h1 with
   | call _ _ _ cv av v1 v2 =>
    refine ⟨by simp,_,_,k,av++cv,rfl,?_,?_⟩
    ·have he:=hD.enters
     unfold cG at he
     cases hfn:P.funcs[k]? with
     | none=>rw [hfn] at he;cases he
     | some fn =>
      rw [hfn] at he
      simp only [Bool.and_eq_true,bne_iff_ne,ne_eq] at he
      obtain ⟨he1,he2⟩:=he
      have hb:fn.body.isNone=false:=by cases hbb:fn.body<;>simp_all
      have hnm:(fn.name == "runtime.NumGoroutine")=false:=by simpa using he2
      simp only [Sem.run_bind,Sem.run_pure,Result.andThen_ok,invoke,callFunc,run_program,hfn,hnm,hb,Bool.false_eq_true,if_false]
    ·refine CallsD.FY (hD.pan pv u hr x g0 _ w m v hm hn (v2.append v1) (fun i hi=>⟨hy i ⟨c,0,Nat.le_refl _,hi⟩,Oid.af hi⟩) hx hv) fun en u' w' ⟨g',v',e1,e2,e3,e4,e5⟩=>?_
     subst e1;subst e2
     show Leaves P fn tmps R _ (settle _) w'
     have hs:settle (.panicking [{ v,recovered:=true,goexit:=false }]) = .returning:=rfl
     rw [hs]
     refine jb hx hK ds _ (c+1) g' _ w' e3 e5 (fun i hi=>?_) (t.mono e3) h
     rw [e4 i fun hu=>?_]
     ·exact hy i (hi.mono (Nat.le_succ _))
     ·obtain ⟨c',i',h1,h2⟩:=hi
      have:=(Oid.apart hu h2).1
      omega
def qP (P:Program) [Laid P] (p:Oid) (rs:List ResultVar) (need:List (Oid × ah)) (R Rp:AV→List (Oid × Option ah)→Prop):AX→AS→Prop
 | .normal,s | .ret,s=>mq P p (fun m=>∃ val upd,fD P m s.fr rs=some val∧R val upd∧∀ i o,((Mem.of need).aH upd) i=some o→m i=some o) (fun _ _=>False) s.ds s.c none s.mem
 | .panic pv,s=>mq P p (fun m=>∃ val upd,fD P m s.fr rs=some val∧R val upd∧∀ i o,((Mem.of need).aH upd) i=some o→m i=some o) (fun pv m=>∃ upd,Rp pv upd∧∀ i o,((Mem.of need).aH upd) i=some o→m i=some o) s.ds s.c (some pv) s.mem
 | .exit _,_=>False
theorem mv {P:Program} [Laid P] {f:FuncId} {fn:Func} {n:Nat} {rs:List ResultVar} {c:Code} {xs:List AV} {p:Oid} {need:List (Oid × ah)} {R Rp:AV→List (Oid × Option ah)→Prop} (hf:P.funcs[f]? = some fn) (hn:fn.ntmps=n) (hr:fn.results.toList=rs)
  (hnm:(fn.name != "runtime.NumGoroutine")=true) (hl:(Nat.ble xs.length n)=true) (hok:fQ n rs=true) (hb:fn.body=some c)
  (hT:∀ x:Ctx,x.p=p→x.rd=none→Fit P x→T P x n c ⟨cS 0 xs,Mem.of need,0,[]⟩ (after P x n (qP P p rs need R Rp) [])):bQ P f xs (Oid.under p) need R Rp:=by
 subst hn;subst hr
 have hl:=Nat.le_of_ble_eq_true hl
 refine ⟨by simp only [cG,hf,hb,Option.isSome_some,Bool.true_and];exact hnm,fun x g args w m hm hneed hargs hsp hng=>?_⟩
 refine calls_of_wp_defers hf hb ?_
 have hin:=hm.enter (p:=p) hneed
 have hsz:(args++Array.replicate (fn.ntmps - args.size) undef).size=fn.ntmps:=by simp [hargs.1];omega
 have hrel:Rel (x.inner g w need p) fn.ntmps g ⟨cS 0 xs,Mem.of need,0,[]⟩ { tmps:=args++Array.replicate (fn.ntmps - args.size) undef,defers:=[] } w:=by
  refine ⟨hin,hsz,.nil,fun t ht=>?_,fun i hi=>(hsp i hi.under).1⟩
  simp only
  rw [nw]
  split
  ·rename_i h
   rw [Nat.sub_zero,bj (by rw [hargs.1];omega)]
   exact hargs.2 t (by omega)
  ·exact .unk _
 have hpx:Oid.under x.p p:=(hsp p (Oid.aq p)).2
 have hfit:Fit P (x.inner g w need p):=hng.inner rfl hm.le
 refine (wpIn_wide (n:=0)).1 (wpIn_mono (hT (x.inner g w need p) rfl rfl hfit g _ w hrel) fun en a' w' ⟨g',ex,s',h1,h2,h3⟩=>?_)
 have hK:∀ g2 m2 w2,g'.le g2→aw (x.inner g w need p) g2 m2 w2→(∃ val upd,fD P m2 s'.fr fn.results.toList=some val∧R val upd∧∀ i o,((Mem.of need).aH upd) i=some o→m2 i=some o) →
   ∃ v,(results fn a'.tmps).run P w2 = .ok v w2∧((∃ g' v' val upd,Ending.returned v = .returned v'∧R val upd∧g.le g'∧(∀ i,¬ Oid.under p i→g'.loc i=g.loc i)∧VR g' val v'∧aw x g' (m.aH upd) w2) ∨
   (∃ g' e pv upd,Ending.returned v = .panicked [e]∧Rp pv upd∧g.le g'∧(∀ i,¬ Oid.under p i→g'.loc i=g.loc i)∧VR g' pv e.v∧e.recovered=false∧e.goexit=false∧aw x g' (m.aH upd) w2)):=by
  rintro g2 m2 w2 hle hm2 ⟨val,upd,r1,r2,r3⟩
  obtain ⟨v,v1,v2⟩:=iu (P:=P) hm2 hok r1 fun t ht=>(h1.fr t ht).mono hle
  exact ⟨v,v1,.inl ⟨g2,v,val,upd,rfl,r2,hm2.le,hm2.locs,v2,hm.leave hneed hpx hm2 r3⟩⟩
 cases ex with
 | normal=>cases en<;>simp only [AX.fits] at h2;exact jb hfit hK _ _ _ g' _ _ (Gh.le_refl _) h1.mr h1.young h1.df h3
 | ret=>cases en<;>simp only [AX.fits] at h2;exact jb hfit hK _ _ _ g' _ _ (Gh.le_refl _) h1.mr h1.young h1.df h3
 | exit i=>exact h3.elim
 | panic pv =>
  have:∃ e:PanicEntry,en = .panic [e]∧VR g' pv e.v∧e.recovered=false∧e.goexit=false:=by
   cases en with
   | panic ch =>
    match ch,h2 with
    | [e],h2=>exact ⟨e,rfl,h2⟩
   | _=>exact h2.elim
  obtain ⟨⟨v,rc,ge⟩,rfl,hv,e1,e2⟩:=this
  simp only at e1 e2;subst e1;subst e2
  exact vR hfit hK (fun m2 w2 hm2 ⟨upd,r2,r3⟩=>.inr ⟨g',_,pv,upd,rfl,r2,hm2.le,hm2.locs,hv,rfl,rfl,hm.leave hneed hpx hm2 r3⟩) hv _ _ _ _ _ h1.mr h1.young h1.df h3
theorem oU {P:Program} [Laid P] {f:FuncId} {fn:Func} {n:Nat} {rs:List ResultVar} {c:Code} {xs:List AV} {p:Oid} {e:Eff} (hf:P.funcs[f]? = some fn) (hn:fn.ntmps=n) (hr:fn.results.toList=rs)
  (hnm:(fn.name != "runtime.NumGoroutine")=true) (hl:(Nat.ble xs.length n)=true) (hok:fQ n rs=true) (hb:fn.body=some c)
  (hT:∀ x:Ctx,x.p=p→x.rd=none→Fit P x→T P x n c ⟨cS 0 xs,Mem.of e.need,0,[]⟩ (after P x n (qP P p rs e.need (fun v u=>v=e.val∧u=e.upd) fun _ _=>False) [])):aj P f xs (Oid.under p) e :=
 (mv hf hn hr hnm hl hok hb hT).ok
theorem EU {P:Program} [Laid P] {x:Ctx} {n:Nat} {Q:AX→AS→Prop} {id:Nat} {o:Oper} {k:FuncId} {args:Array Operand} {ts:Array TypeId} {fr:List (Nat × AV)} {m:Mem} {c:Nat} {ds:List AD} (hng:Fit P x)
  (hrd:x.rd=none) (ho:o.op = .defer ⟨.value (.func k),args,ts⟩) (hd:o.dst=none) (hgd:o.guard=none) (hok:eX n P.globals.size #[o] o=true)
  (h:Q .normal ⟨fr,m,c+1,.call (.func k) [] (args.toList.map (evA fr))::ds⟩):T P x n (.region id #[o] false) ⟨fr,m,c,ds⟩ Q:=by
 intro g a w hr
 refine wpIn_region ?_
 have hop:=(RR.of hr).operands hng.1 hok (f':=F fr) (fun _ _=>rfl)
 have hargs:VRs g (args.toList.map (evA fr)) (args.map a.eval):=VRs.map fun t ht=>hop t (by
  have:t ∈ args:=by simpa using ht
  simp [Op.operands,Call.operands,ho,this])
 have hrun:(execOp a.eval o).run P w = .ok (.defer ⟨.fn (.func k) #[],args.map a.eval⟩) w:=by
  simp [execOp,ho,resolve,Deferred.ofValue,Act.eval]
 have hw:Region.wanted o (yielded #[o] a.tmps)=true:=by simp [Region.wanted,hgd]
 show wpOpsIn (Fc x.rd) 0 P #[o] _ [0] a w
 simp only [wpOpsIn,List.getElem?_toArray,List.getElem?_cons_zero,hw,if_true]
 refine ⟨fun _ _=>trivial,?_⟩
 have hro:(Fc x.rd).round=none:=hrd
 rw [hro,Oper.semAt_none,hrun,Oper.uponIn_defer,hd]
 exact ⟨g,.normal,⟨fr,m,c+1,.call (.func k) [] (args.toList.map (evA fr))::ds⟩,⟨hr.mr,hr.tm,.cons (.call _ _ _ _ _ ⟨rfl,fun j hj=>absurd hj (Nat.not_lt_zero _)⟩ hargs) hr.df,hr.fr,fun i hi=>hr.young i (hi.mono (Nat.le_succ _))⟩,trivial,h⟩
theorem eS {P:Program} [Laid P] {x:Ctx} {n:Nat} {Q:AX→AS→Prop} {ks:List Pc} {id:Nat} {o:Oper} {k:FuncId} {args:Array Operand} {ts:Array TypeId} {fr:List (Nat × AV)} {m:Mem} {c:Nat} {ds:List AD} (hng:Fit P x)
  (hrd:x.rd=none) (ho:o.op = .defer ⟨.value (.func k),args,ts⟩) (hd:o.dst=none) (hgd:o.guard=none) (hok:eX n P.globals.size #[o] o=true)
  (h:after P x n Q ks .normal ⟨fr,m,c+1,.call (.func k) [] (args.toList.map (evA fr))::ds⟩):T P x n (.region id #[o] false) ⟨fr,m,c,ds⟩ (after P x n Q ks):=EU hng hrd ho hd hgd hok h
theorem ue {P:Program} {ρ:Operand→Value} {o:Oper} {ts:Array TypeId} (ho:o.op = .call ⟨.builtin .recover,#[],ts⟩) (w:World):(execOp ρ o).run P w = .ok .recover w:=by
 simp [execOp,ho,resolve,invoke,builtin]
def Cg (need:List (Oid × ah)) (u:List (Oid × Option ah)):AX→AS→Prop
 | .normal,s | .ret,s=>s.ds=[]∧∀ i o,((Mem.of need).aH u) i=some o→s.mem i=some o
 | _,_=>False
theorem Ch {P:Program} [Laid P] {f:FuncId} {fn:Func} {n id a b:Nat} {r s:Oper} {ts:Array TypeId} {rest:Code} {xs:List AV} {p:Oid} {need:List (Oid × ah)} {u0:List (Oid × Option ah)} {rec:AV→List (Oid × Option ah)→Prop}
  (hf:P.funcs[f]? = some fn) (hn:fn.ntmps=n) (hr:fn.results.toList=[]) (hnm:(fn.name != "runtime.NumGoroutine")=true) (hl:(Nat.ble xs.length n)=true) (hb:fn.body=some (.seq (.region id #[r,s] false) rest))
  (h1:r.op = .call ⟨.builtin .recover,#[],ts⟩) (h2:r.dst=some a) (h3:r.guard=none) (h4:s.op = .assign (.tmp a)) (h5:s.dst=some b) (h6:s.guard=none) (ha:(Nat.blt a n)=true) (hbn:(Nat.blt b n)=true)
  (hR:∀ x:Ctx,x.p=p→x.rd=none→Fit P x→T P x n rest ⟨(b,.nilIface)::(a,.nilIface)::cS 0 xs,Mem.of need,1,[]⟩ (after P x n (Cg need u0) []))
  (hP:∀ pv u,rec pv u→∀ x:Ctx,x.p=p→x.rd=none→Fit P x→T P x n rest ⟨(b,pv)::(a,pv)::cS 0 xs,Mem.of need,1,[]⟩ (after P x n (Cg need u) [])):Cf P f xs (Oid.under p) need u0 rec:=by
 subst hn
 have hl:=Nat.le_of_ble_eq_true hl
 have ha:a < fn.ntmps:=by simpa using ha
 have hbn:b < fn.ntmps:=by simpa using hbn
 have hbody:fn.body.isSome=true:=by rw [hb];rfl
 have hrel:∀ (x:Ctx) (g:Gh) (args:Array Value) (w:World) (m:Mem) (pv:AV) (v:Value),aw x g m w→(∀ q,q ∈ need→m q.1=some q.2)→VRs g xs args→(∀ i,Oid.under p i→g.loc i=none∧Oid.under x.p i)→VR g pv v →
   Rel (x.inner g w need p) fn.ntmps g ⟨(b,pv)::(a,pv)::cS 0 xs,Mem.of need,1,[]⟩ ((Act.put { tmps:=args++Array.replicate (fn.ntmps - args.size) undef,defers:=[] } (some a) v).put (some b) v) w:=by
  intro x g args w m pv v hm hneed hargs hsp hv
  have hin:=hm.enter (p:=p) hneed
  have hsz:(args++Array.replicate (fn.ntmps - args.size) undef).size=fn.ntmps:=by simp [hargs.1];omega
  have h0:RR (x.inner g w need p) fn.ntmps [] g (F (cS 0 xs)) (Mem.of need) { tmps:=args++Array.replicate (fn.ntmps - args.size) undef,defers:=[] } w:=by
   refine ⟨hin,hsz,.nil,fun t ht=>?_⟩
   rw [nw]
   split
   ·rename_i h
    rw [Nat.sub_zero,bj (by rw [hargs.1];omega)]
    exact hargs.2 t (by omega)
   ·exact .unk _
  have h2:=(h0.put (Gh.le_refl g) hin (some a) hv).put (Gh.le_refl g) hin (some b) hv
  rw [← nG,← nG] at h2
  exact h2.rel fun i hi=>(hsp i hi.under).1
 have key:∀ (u u':FrameMode) (pv:AV) (v:Value) (upd:List (Oid × Option ah)) (x:Ctx) (g:Gh) (args:Array Value) (w:World) (m:Mem),aw x g m w→(∀ q,q ∈ need→m q.1=some q.2)→VRs g xs args→(∀ i,Oid.under p i→g.loc i=none∧Oid.under x.p i)→Fit P x→VR g pv v →
   (∀ (c₀:Frame) (cs:List Frame),c₀.mode=u→(recoverD (c₀::cs)=none∧u' = u∧v = .nilIface)∨recoverD (c₀::cs)=some (v,{ c₀ with mode:=u' }::cs)) →
   (∀ x:Ctx,x.p=p→x.rd=none→Fit P x→T P x fn.ntmps rest ⟨(b,pv)::(a,pv)::cS 0 xs,Mem.of need,1,[]⟩ (after P x fn.ntmps (Cg need upd) [])) →
   CallsD P f args u w fun en u2 w'=>∃ g' v',en = .returned v'∧u2=u'∧g.le g'∧(∀ i,¬ Oid.under p i→g'.loc i=g.loc i)∧aw x g' (m.aH upd) w':=by
  intro u u' pv v upd x g args w m hm hneed hargs hsp hx hv hrec hT
  refine callsD_of_wpS hf hb fun c₀ cs hc=>?_
  refine wpS_seq (wpS_region ?_)
  have hw1:∀ y,Region.wanted r y=true:=fun y=>by simp [Region.wanted,h3]
  have hw2:∀ y,Region.wanted s y=true:=fun y=>by simp [Region.wanted,h6]
  show wpOpsS P #[r,s] _ [0,1] _ _ _
  have hpx:Oid.under x.p p:=(hsp p (Oid.aq p)).2
  have hsz:(args++Array.replicate (fn.ntmps - args.size) undef).size=fn.ntmps:=by simp [hargs.1];omega
  have fin:rest.wpS P (bodyPostS P fn c₀ cs fun en u2 w'=>∃ g' v',en = .returned v'∧u2=u'∧g.le g'∧(∀ i,¬ Oid.under p i→g'.loc i=g.loc i)∧aw x g' (m.aH upd) w') ((Act.put { tmps:=args++Array.replicate (fn.ntmps - args.size) undef,defers:=[] } (some a) v).put (some b) v) ({ c₀ with mode:=u' }::cs) w:=by
   refine wpS_of_wp ((wpIn_wide (n:=0)).1 (wpIn_mono (hT (x.inner g w need p) rfl rfl (hx.inner rfl hm.le) g _ w (hrel x g args w m pv v hm hneed hargs hsp hv)) fun en a' w' ⟨g',ex,s',k1,k2,k3⟩=>?_))
   have done:s'.ds=[]∧(∀ i o,((Mem.of need).aH upd) i=some o→s'.mem i=some o)→a'.defers=[]∧∃ u2,({ c₀ with mode:=u' }::cs:List Frame)={ c₀ with mode:=u2 }::cs∧∃ v2,(results fn a'.tmps).run P w' = .ok v2 w' ∧
     ∃ g' v',Ending.returned v2 = .returned v'∧u2=u'∧g.le g'∧(∀ i,¬ Oid.under p i→g'.loc i=g.loc i)∧aw x g' (m.aH upd) w':=by
    rintro ⟨q1,q2⟩
    have hdf:=k1.df
    rw [q1] at hdf
    obtain ⟨v2,r1,_⟩:=iu (P:=P) (fn:=fn) (n:=fn.ntmps) (fr:=s'.fr) (y:=.tuple []) k1.mr (by rw [hr];rfl) (by rw [hr];rfl) k1.fr
    exact ⟨hdf.Dj,u',rfl,v2,r1,g',v2,rfl,rfl,k1.mr.le,k1.mr.locs,hm.leave hneed hpx k1.mr q2⟩
   cases ex with
   | normal=>cases en<;>simp only [AX.fits] at k2;exact done k3
   | ret=>cases en<;>simp only [AX.fits] at k2;exact done k3
   | exit i=>exact k3.elim
   | panic pv=>exact k3.elim
  have step2:wpOpsS P #[r,s] (Exit.thenS (rest.wpS P (bodyPostS P fn c₀ cs fun en u2 w'=>∃ g' v',en = .returned v'∧u2=u'∧g.le g'∧(∀ i,¬ Oid.under p i→g'.loc i=g.loc i)∧aw x g' (m.aH upd) w')) (bodyPostS P fn c₀ cs fun en u2 w'=>∃ g' v',en = .returned v'∧u2=u'∧g.le g'∧(∀ i,¬ Oid.under p i→g'.loc i=g.loc i)∧aw x g' (m.aH upd) w'))
    [1] (Act.put { tmps:=args++Array.replicate (fn.ntmps - args.size) undef,defers:=[] } (some a) v) ({ c₀ with mode:=u' }::cs) w:=by
   have hr2:(execOp (Act.put { tmps:=args++Array.replicate (fn.ntmps - args.size) undef,defers:=[] } (some a) v).eval s).run P w = .ok (.value v) w:=by
    simp only [execOp,h4,Sem.run_pure,Act.eval]
    rw [sL (by rw [hsz];exact ha),if_pos rfl]
   have hs1:(#[r,s]:Array Oper)[1]? = some s:=rfl
   simp only [wpOpsS,hs1,hw2,if_true,hr2]
   simp only [Oper.upon,h5]
   exact fin
  have hs0:(#[r,s]:Array Oper)[0]? = some r:=rfl
  rw [wpOpsS]
  simp only [hs0,hw1,if_true,ue h1,h2]
  rcases hrec c₀ cs hc with ⟨q1,q2,q3⟩|q1
  ·rw [q1]
   subst q2;subst q3
   have:({ c₀ with mode:=u' }:Frame)=c₀:=by rw [← hc]
   rw [this] at step2
   exact step2
  ·rw [q1]
   exact step2
 refine ⟨by simp only [cG,hf,hbody,Bool.true_and];exact hnm,fun x g args w m hm hneed hargs hsp hx=>?_,fun pv u hu x g args w m v hm hneed hargs hsp hx hv=>?_⟩
 ·exact key .returning .returning .nilIface .nilIface u0 x g args w m hm hneed hargs hsp hx .nilIface (fun c₀ cs hc=>.inl ⟨by simp [recoverD,hc],rfl,rfl⟩) hR
 ·exact key _ _ pv v u x g args w m hm hneed hargs hsp hx hv (fun c₀ cs hc=>.inr (by simp [recoverD,hc])) (hP pv u hu)
end Go.Ab
namespace Go.Ab
theorem zg {P:Program} [Laid P] {o:Oper} {ρ:Operand→AV} {sp:Oid→Prop} {y:Operand} {t:TypeId} {v:AV} (ho:o.op = .panic y) (hy:ρ y = .iface t v) :
  lb P o ρ sp [] (fun _ _=>False) (fun pv u=>pv = .iface t v∧u=[]):=by
 intro x g a w m hm _ hop hsp hng next Q _ Kp
 have vy:=hop y (by simp [Op.operands,ho])
 rw [hy] at vy
 obtain ⟨u,hu,hv⟩:=vy.lR
 have hex:(execOp a.eval o).run P w = .halt (.panic (.iface t u)) w:=by
  simp only [execOp,ho,hu]
  rfl
 refine ⟨fun _ _=>trivial,?_⟩
 rw [Oper.semAt_eq _ _ _ (fun c hc=>by rw [ho] at hc;cases hc),hex,Oper.uponIn_panic]
 exact Kp _ [] ⟨rfl,rfl⟩ g _ w (Gh.le_refl g) (fun _ _=>rfl) (by rw [← hu];exact hy ▸ hop y (by simp [Op.operands,ho])) rfl rfl hm
theorem oV {P:Program} [Laid P] {o:Oper} {ρ:Operand→AV} {sp:Oid→Prop} {y:Operand} {xT t:TypeId} {v:AV} (ho:o.op = .typeAssert y xT t false) (hy:ρ y = .iface t v)
  (hrun:∀ u w,(Instr.typeAssert (.iface t u) xT t false).run P w = .ok u w):aD P o ρ sp ⟨[],v,[]⟩ :=
 aD.plain fun g a w hop=>by
  have vy:=hop y (by simp [Op.operands,ho])
  rw [hy] at vy
  obtain ⟨u,hu,hv⟩:=vy.lR
  exact ⟨u,by simp only [execOp,ho,hu,Sem.run_bind,hrun,Result.andThen_ok,Sem.run_pure],hv⟩
theorem EV (N:List Oid) (F:Oid→ah):rD (sb N F)=N:=by
 induction N with
 | nil=>rfl
 | cons i N ih=>show i::rD (sb N F)=_;rw [ih]
theorem EW (N:List Oid) (F:Oid→ah):rD (bk (N,F))=N:=by
 induction N with
 | nil=>rfl
 | cons i N ih=>show i::rD (bk (N,F))=_;rw [ih]
theorem zh {p:Oid} {N:List Oid} {c k:Nat} (h:bd p N):(∀ i,i ∈ N→¬ i=Oid.sub c k p)=True:=eq_true fun i hi e=>h.mem (e ▸ hi)
theorem Ci {a:Oid} {N:List Oid} (h:a ∉ N):(∀ i,i ∈ N→¬ i=a)=True:=eq_true fun i hi e=>h (e ▸ hi)
attribute [go_sem] EV EW zh Ci
end Go.Ab
namespace Go.Ab
theorem pU {P:Program} [Laid P] {o:Oper} {ρ:Operand→AV} {sp:Oid→Prop} {t el:TypeId} {y z:Operand} {nid:Oid} {sz n bytes:Nat} {agg:Bool} {k1 k2:IntKind} {v0:AV} (ho:o.op = .makeSlice t y z) (hy:ρ y = .int k1 n) (hz:ρ z = .int k2 n)
  (htk:tyk P t=some (.slice el agg sz bytes)) (hzer:zer P el=some v0.cells) (hone:v0.cells.all AV.one=true) (hsz:v0.cells.length=sz) (h0:0 < sz) (hb:bytes * n≤281474976710656) (h63:n≤9223372036854775807) (hs:sp nid) (hnt:nid.tyd=none) :
  aD P o ρ sp ⟨[],.sl nid sz n,[(nid,some (.arr sz (List.replicate n v0)))]⟩:=by
 intro x g a w m hm _ hop hsp hng next Q K
 have vy:=hop y (by simp [Op.operands,ho])
 have vz:=hop z (by simp [Op.operands,ho])
 rw [hy] at vy;rw [hz] at vz
 have hyv:=vy.a6
 have hzv:=vz.a6
 have htk':P.underlying t=some (.slice el)∧∃ i,P.info? el=some i∧i.bytes=bytes∧i.size=sz:=by
  unfold tyk at htk
  split at htk<;>try (cases htk;done)
  ·rename_i e hu
   split at htk
   ·rename_i q i hq hi
    simp only [Option.some.injEq,TyK.slice.injEq] at htk
    obtain ⟨rfl,-,h3,h4⟩:=htk
    refine ⟨hu,i,hi,h4,?_⟩
    obtain ⟨d,i',_,hi',_,hn'⟩:=eL (b:=q.1) (n:=q.2) hq
    rw [hi] at hi';simp only [Option.some.injEq] at hi';subst hi'
    rw [hn',h3]
   ·cases htk
  ·rename_i n' e' hu
   cases hs':shp P e'<;>simp [hs'] at htk
  ·rename_i fs hu
   cases hmm:(fs.toList.mapM fun f=>(shp P f.type).map fun q=>(f.offset,q.1,q.2))<;>simp [hmm] at htk
 obtain ⟨hu,i,hi,hbi,hsi⟩:=htk'
 obtain ⟨zv,hzv0,hzc⟩:∃ zv,i.zero=some zv∧(cP zv).cells=v0.cells:=by
  simp only [zer,hi,Option.bind_some] at hzer
  cases hzz:i.zero with
  | none=>rw [hzz] at hzer;cases hzer
  | some zv=>rw [hzz] at hzer;exact ⟨zv,rfl,by simpa using hzer⟩
 have hzs:zv.cells.size=sz:=by rw [← dH,hzc,hsz]
 have hcell:∀ (g:Gh) j,j < sz→VR g (v0.cells.getD j .undef) (zv.cells.getD j undef):=fun g j hj=>by
  rw [← hzc];exact fC g zv j (by rw [hzc,hsz];exact hj)
 have hbb:(i.bytes:Int) * (n:Int)≤281474976710656:=by
  rw [hbi,← Int.natCast_mul]
  omega
 have hrun:=run_make (P:=P) w t el i zv hu hi hzv0 k1 k2 (n:Int) (n:Int) (by omega) (Int.le_refl _) hbb (by omega)
 simp only [Int.toNat_natCast,hsi] at hrun
 have hex:(execOp a.eval o).run P w = .ok (.value (.slice (some ⟨w.heap.size,0,none⟩) n n)) (w.alloc (.cells (madeCells zv.cells (n * sz)) el)):=by
  simp only [execOp,ho,hyv,hzv,Sem.run_bind,hrun,Result.andThen_ok,Sem.run_pure]
 refine ⟨fun _ _=>trivial,?_⟩
 rw [Oper.semAt_eq _ _ _ (fun c hc=>by rw [ho] at hc;cases hc),hex,Oper.uponIn_value]
 obtain ⟨hl,hun⟩:=hsp nid hs
 have hrn:g.row w.heap.size=none:=hm.jQ (Nat.le_refl _)
 have hcs:∀ i j,i < n→j < sz→(madeCells zv.cells (n * sz)).getD (i * sz+j) undef=zv.cells.getD j undef:=fun i j hi hj=>by
  have hlt:i * sz+j < n * sz:=by
   have:(i+1) * sz≤n * sz:=Nat.mul_le_mul_right _ hi
   rw [Nat.add_mul,Nat.one_mul] at this;omega
  have hmod:(i * sz+j) % sz=j:=by rw [Nat.mul_comm,Nat.mul_add_mod,Nat.mod_eq_of_lt hj]
  simp only [madeCells,Array.getD_eq_getD_getElem?,Array.getElem?_map,Array.getElem?_range,hlt,if_true,Option.map_some,Option.getD_some,hzs,hmod]
  rw [getElem!_def,Array.getElem?_eq_getElem (show j < zv.cells.size by rw [hzs];exact hj)]
  rfl
 have hone':∀ j,j < sz→(zv.cells.getD j undef).oneCell' = true:=fun j hj=>by
  have h1:=hcell g j hj
  have h2:(v0.cells.getD j .undef).one=true:=by
   rw [List.all_eq_true] at hone
   rw [List.getD_eq_getElem?_getD,List.getElem?_eq_getElem (by rw [hsz];exact hj),Option.getD_some]
   exact hone _ (List.getElem_mem _)
  generalize v0.cells.getD j .undef=q at h1 h2
  generalize zv.cells.getD j undef=r at h1 ⊢
  cases q<;>first|(simp [AV.one] at h2;done)|(cases h1<;>rfl)
 have hgetr:∀ i,i < n→(List.replicate n v0).getD i .undef=v0:=fun i hi=>by
  rw [List.getD_eq_getElem?_getD,List.getElem?_replicate,if_pos hi];rfl
 have hnew:=hm.new hl hun (o:=.arr sz (List.replicate n v0)) (ob:=.cells (madeCells zv.cells (n * sz)) el) ⟨madeCells zv.cells (n * sz),el,(0,0),bA w _,by rw [List.length_replicate,size_madeCells];exact Nat.le_refl _,fun j _ hj=>by omega,fun i hi=>by
  rw [List.length_replicate] at hi
  rw [hgetr i hi];exact hsz,fun j hj=>by
  rw [List.length_replicate] at hj
  have hd:j / sz < n:=Nat.div_lt_of_lt_mul (by rw [Nat.mul_comm];exact hj)
  have:=hcs (j / sz) (j % sz) hd (Nat.mod_lt _ h0)
  rw [Nat.mul_comm (j / sz) sz,Nat.div_add_mod] at this
  rw [this];exact hone' _ (Nat.mod_lt _ h0),fun i j hi hj=>by
  rw [List.length_replicate] at hi
  rw [hgetr i hi,hcs i j hi hj];exact hcell _ j hj⟩ (fun t ht=>by rw [hnt] at ht;cases ht)
 refine K ((g.bind nid w.heap.size).measure w.heap.size (n * sz)) _ _ (Gh.le_trans (Gh.bq hl) (Gh.dz (.inl hrn))) (fun j hj=>?_) ?_ (hnew.measure ⟨madeCells zv.cells (n * sz),el,(0,0),bA w _,size_madeCells _ _⟩ (.inl hrn))
 ·have hne:¬ j=nid:=fun e=>by subst e;exact hj hs
  simp only [Gh.bind,Gh.measure];rw [if_neg hne]
 ·exact .sl _ _ _ _ _ (by simp [Gh.bind,Gh.measure]) (Nat.le_refl _) (by simp [Gh.measure])
theorem aD.nd {P:Program} [Laid P] {o:Oper} {ρ:Operand→AV} {sp:Oid→Prop} {e:Eff} (h:aD P o ρ sp e):lb P o ρ sp e.need (fun v u=>v=e.val∧u=e.upd) (fun _ _=>False) :=
 fun x g a w m hm hn hop hs hng next Q K _=>h x g a w m hm hn hop hs hng next Q fun g' v w' h1 h2 h3 h4=>K _ _ ⟨rfl,rfl⟩ g' v w' h1 h2 h3 h4
end Go.Ab
namespace Go.Proofs.YtpficjpdfbiedaaGreatDoor
open Go Go.Ab
set_option maxRecDepth 20000
set_option maxHeartbeats 4000000
section
variable {rs:List ResultVar} {need:List (Oid × ah)} {fr:List (Nat × AV)} {m:Mem} {c:Nat} {r:Rs AV} {v:AV} {u0:List (Oid × Option ah)} {R Rp:AV→List (Oid × Option ah)→Prop}
theorem sg (h1:fD Tryz.prog m fr rs=some v) (hr:r = .go v) (h3:∀ i o,((Mem.of need).aH u0) i=some o→m i=some o):dP Tryz.prog rs need (fun w u=>r = .go w∧u=u0) Rp .ret ⟨fr,m,c,[]⟩:=bR v u0 h1 ⟨hr,rfl⟩ h3
theorem lI (h1:fD Tryz.prog m fr rs=some v) (hr:r = .go v) (h3:∀ i o,((Mem.of need).aH u0) i=some o→m i=some o):dP Tryz.prog rs need (fun w u=>r = .go w∧u=u0) Rp .normal ⟨fr,m,c,[]⟩:=eH v u0 h1 ⟨hr,rfl⟩ h3
theorem cB {e:Int} (hr:r = .err e) (h3:∀ i o,((Mem.of need).aH u0) i=some o→m i=some o):dP Tryz.prog rs need R (fun pv u=>∃ e,r = .err e∧pv=pT e∧u=u0) (.panic (pT e)) ⟨fr,m,c,[]⟩:=⟨u0,⟨e,hr,rfl,rfl⟩,h3⟩
end
theorem bf (e:Int) (p:Oid):aj Tryz.prog 91 [.bool true,.int .i64 e] (Oid.under p) ⟨[],.tuple [],[]⟩:=by
 refine aA (n:=8) (rs:=[]) Tryz.func91 rfl rfl (by decide) rfl rfl rfl ?_;rintro x rfl hrd hng
 refine qw0 ?_
 exact b5 (eH _ _ rfl ⟨rfl,rfl⟩ fun _ _ h=>h)
theorem bm (e:Int) (p:Oid):B4 Tryz.prog 91 [.bool false,.int .i64 e] (Oid.under p) [] (pT e) []:=by
 refine gY (n:=8) (rs:=[]) Tryz.func91 rfl rfl (by decide) rfl rfl rfl ?_;rintro x rfl hrd hng
 refine qr0 ?_
 refine aB rfl rfl ?_
 (try ((first|refine zn ?_|refine ze ?_|refine zk ?_);with_reducible (constructor;repeat constructor));try refine zl ?_)
 refine ar nmd [] hng (by kernel_rfl) fun hf C S K hC1 hC hS hK=>?_;simp (disch:=first|omega|assumption) only [go_sem]
 refine hS _ _ _ (fun o' hd ho'=>zg ho' rfl) (fun _ h=>by cases h) (fun _ _ h=>h.elim) ?_
 rintro _ _ ⟨rfl,rfl⟩
 exact ⟨[],⟨rfl,rfl⟩,fun _ _ h=>h⟩
theorem lJ (q:Oid) (z:Int) (p:Oid) (hq:¬ Oid.under p q):Cf Tryz.prog 89 [.ptr q 0] (Oid.under p) [(q,.cells [.int .i64 z])] [] (fun pv u=>∃ e,pv=pT e∧u=[(q,some (.cells [.int .i64 e]))]):=by
 refine Ch (n:=10) (id:=0) (a:=3) (b:=2) Tryz.func89 rfl rfl (by decide) rfl rfl rfl rfl rfl rfl rfl rfl rfl rfl (fun x hp hrd hng=>?_) (fun pv u ⟨e,hpv,hu⟩ x hp hrd hng=>?_)
 ·subst hp
  (try ((first|refine zn ?_|refine ze ?_|refine zk ?_);with_reducible (constructor;repeat constructor));try refine zl ?_)
  refine ar nmd [] hng (by kernel_rfl) fun hf C S K hC1 hC hS hK=>?_;simp (disch:=first|omega|assumption) only [go_sem]
  refine hK ?_;clear hK hS hC hC1 K S C hf
  (try ((first|refine zn ?_|refine ze ?_|refine zk ?_);with_reducible (constructor;repeat constructor));try refine zl ?_)
  refine aC rfl rfl ?_
  (try ((first|refine zn ?_|refine ze ?_|refine zk ?_);with_reducible (constructor;repeat constructor));try refine zl ?_)
  exact b5 ⟨rfl,fun i o h=>h⟩
 ·subst hp;subst hpv;subst hu
  (try ((first|refine zn ?_|refine ze ?_|refine zk ?_);with_reducible (constructor;repeat constructor));try refine zl ?_)
  refine ar nmd [] hng (by kernel_rfl) fun hf C S K hC1 hC hS hK=>?_;simp (disch:=first|omega|assumption) only [go_sem,pT]
  refine hK ?_;clear hK hS hC hC1 K S C hf
  (try ((first|refine zn ?_|refine ze ?_|refine zk ?_);with_reducible (constructor;repeat constructor));try refine zl ?_)
  refine aB rfl rfl ?_
  (try ((first|refine zn ?_|refine ze ?_|refine zk ?_);with_reducible (constructor;repeat constructor));try refine zl ?_)
  refine ar nmd [] hng (by kernel_rfl) fun hf C S K hC1 hC hS hK=>?_;simp (disch:=first|omega|assumption) only [go_sem,pT]
  refine hS _ _ _ (fun o' hd ho'=>(oV ho' rfl (fun u w=>by kernel_rfl)).nd) (fun _ h=>by cases h) ?_ (fun _ _ h=>h.elim)
  rintro _ _ ⟨rfl,rfl⟩
  simp (disch:=first|omega|assumption) only [go_sem,Oid.ab hq,Oid.aa hq]
  refine hK ?_;clear hK hS hC hC1 K S C hf
  refine b5 ⟨rfl,fun i o h=>?_⟩
  simp only [Mem.of,Mem.aH,Mem.set,Mem.emp] at h ⊢
  split at h<;>simp_all
section
variable {p pp q:Oid} {o o':ah} {N:List Oid} {F G:Oid→ah} {fr:List (Nat × AV)} {m:Mem} {c:Nat} {z e:Int} {val:AV} {rs:List ResultVar}
theorem cL {i c:Nat} (h:i < c):¬ Oid.under (.sub c 0 p) (.sub i 1 p)∧¬ Oid.under (.sub c 0 p) (.sub i 0 p)∧¬ Oid.under (.sub c 0 p) (.sub i 2 p):=by
 refine ⟨fun hu=>?_,fun hu=>?_,fun hu=>?_⟩ <;>
 ·have:=(Oid.apart hu (Oid.aq _)).1
  omega
theorem mx (hu:¬ Oid.under (.sub c 0 p) q) (hq:m q=some (.cells [.int .i64 z])) (h1:fD Tryz.prog (m.set q (some (.cells [.int .i64 e]))) fr rs=some val)
  (h3:m pp=some o) (h4:∀ x,x ∈ bk (N,G)→m x.1=some x.2) (hqp:¬ pp=q) (hqN:q ∉ N) :
  qP Tryz.prog p rs ((pp,o)::bk (N,F)) (fun v u=>v=val∧u=sb N G) (fun _ _=>False) (.panic (pT e)) ⟨fr,m,c,[.call (.func 89) [] [.ptr q 0]]⟩ :=
 ⟨_,_,_,_,rfl,lJ q z _ hu,fun x hx=>by rw [List.mem_singleton.1 hx];exact hq,_,⟨e,rfl,rfl⟩,val,_,h1,⟨rfl,rfl⟩,eQ (A0:=[(pp,o)]) (U:=[]) (fun _ h=>by cases h) (fun x hx _=>by
  rw [List.mem_singleton.1 hx]
  show (m.set q _) pp=_
  simp only [Mem.set,if_neg hqp];exact h3) fun x hx=>by
  show (m.set q _) x.1=_
  simp only [Mem.set]
  rw [if_neg fun e:x.1=q=>hqN (e ▸ (bU.1 hx).1)];exact h4 x hx⟩
theorem oW {Rp:AV→List (Oid × Option ah)→Prop} (hu:¬ Oid.under (.sub c 0 p) q) (hq:m q=some (.cells [.int .i64 z])) (h1:fD Tryz.prog m fr rs=some val) (h3:m pp=some o) (h4:∀ x,x ∈ bk (N,G)→m x.1=some x.2) :
  qP Tryz.prog p rs ((pp,o)::bk (N,F)) (fun v u=>v=val∧u=sb N G) Rp .ret ⟨fr,m,c,[.call (.func 89) [] [.ptr q 0]]⟩ :=
 ⟨_,_,_,_,rfl,lJ q z _ hu,fun x hx=>by rw [List.mem_singleton.1 hx];exact hq,val,_,h1,⟨rfl,rfl⟩,eQ (A0:=[(pp,o)]) (U:=[]) (fun _ h=>by cases h) (fun x hx _=>by rw [List.mem_singleton.1 hx];exact h3) h4⟩
theorem zi {Rp:AV→List (Oid × Option ah)→Prop} (hu:¬ Oid.under (.sub c 0 p) q) (hq:m q=some (.cells [.int .i64 z])) (h1:fD Tryz.prog m fr rs=some val) (h3:m pp=some o') (h4:∀ x,x ∈ bk (N,G)→m x.1=some x.2) :
  qP Tryz.prog p rs ((pp,o)::bk (N,F)) (fun v u=>v=val∧u=(pp,some o')::sb N G) Rp .ret ⟨fr,m,c,[.call (.func 89) [] [.ptr q 0]]⟩ :=
 ⟨_,_,_,_,rfl,lJ q z _ hu,fun x hx=>by rw [List.mem_singleton.1 hx];exact hq,val,_,h1,⟨rfl,rfl⟩,eQ (A0:=[(pp,o)]) (U:=[(pp,some o')]) (fun x hx w h=>by
  rw [List.mem_singleton.1 hx] at h ⊢
  rw [← h];exact h3) (fun x hx h=>by
  rw [List.mem_singleton.1 hx] at h
  exact absurd rfl (h _ (List.mem_singleton.2 rfl))) h4⟩
end
theorem uf (s:Str) (hs:s.length≤4000000000) (p:Oid):aj Tryz.prog 129 [.str s] (Oid.under p) ⟨[],.str (aO s),[]⟩:=by
 have hk:=tR s 47 s.length
 refine aA (n:=8) (rs:=[.tmp 2]) Tryz.func129 rfl rfl (by decide) rfl rfl rfl ?_;rintro x rfl hrd hng
 refine qr0 ?_
 refine ar nmd [] hng (by kernel_rfl) fun hf C S K hC1 hC hS hK=>?_;simp (disch:=first|omega|assumption) only [go_sem]
 refine hC1 _ (vD s 47 hs _) qs0 ?_
 simp (disch:=first|omega|assumption) only [go_sem]
 have hm:(if 0 < dW s 47 s.length then dW s 47 s.length else 0)=((dW s 47 s.length).toNat:Int):=by split<;>omega
 simp (disch:=first|omega|assumption) only [go_sem,hm]
 refine hK ?_;clear hK hS hC hC1 K S C hf
 refine qw0 ?_
 exact ay (bS (congrArg AV.str (by unfold aO;simp)))
end Go.Proofs.YtpficjpdfbiedaaGreatDoor
namespace Go.Proofs.YtpficjpdfbiedaaGreatDoor
open Go Go.Ab
set_option maxRecDepth 20000
set_option maxHeartbeats 4000000
theorem nbu {N:List Oid} {G:Oid→ah} (m:Mem):∀ x,x ∈ bk (N,G)→(m.aH (sb N G)) x.1=some x.2:=fun x hx=>by
 obtain ⟨h1,h2⟩:=bU.1 hx
 rw [fp,if_pos h1,h2]
theorem nbA {A:List (Oid × ah)} {N:List Oid} {F:Oid→ah} (hA:∀ e ∈ A,e.1 ∉ N) (Bs:List Bk):∀ x,x ∈ bk (N,F)→Mem.blk A ((N,F)::Bs) x.1=some x.2:=by
 induction A with
 | nil=>intro x hx;obtain ⟨h1,h2⟩:=bU.1 hx;rw [bu,if_pos h1,h2]
 | cons a A ih =>
  intro x hx
  rw [Mem.dT,if_neg fun e:x.1=a.1=>hA a List.mem_cons_self (e ▸ (bU.1 hx).1)]
  exact ih (fun e he=>hA e (List.mem_cons_of_mem _ he)) x hx
def wkC (pp:Oid) (fol:Bool) (w:Wk):ah:=.cells [.ptr pp 0,.str w.pl,.list 1 (w.todo.map AV.str),.int .i64 w.links,.bool fol,.bool w.dir]
def prC (st:Oid) (cwd:Str) (um:Int):ah:=.cells [.ptr st 0,.str cwd,.int .i64 um]
def inR (b:Bits):Rs AV:=if inE b=0 then .go (.tuple []) else .err (inE b)
theorem zj {wk pp st:Oid} {N:List Oid} {F F1:Oid→ah} {L:PL} (fol:Bool) (w:Wk) (cwd:Str) (um:Int) (h1:¬ wk=pp) (hwN:wk ∉ N) (hpN:pp ∉ N)
  (hA:RP st N L [(w.pl,false)] F F1) (p:Oid) (hp:p.mono=false) (hw:¬ Oid.under p wk) (hpp:¬ Oid.under p pp) (hO:bd p N) :
  dD 153 [.ptr wk 0] (Oid.under p) ((wk,wkC pp fol w)::(pp,prC st cwd um)::bk (N,F)) (inR (aF L w.pl)) (sb N F1):=by
 obtain ⟨_,hA,rfl⟩:=hA
 rename_i F1
 have hA':∀ p,p.mono=false→bd p N→aj Tryz.prog 127 [.ptr st 0,.str w.pl] (Oid.under p) ⟨bk (N,F),(aF L w.pl).av,sb N F1⟩:=hA
 clear hA
 generalize aF L w.pl=B at hA' ⊢
 obtain ⟨ek,em,el⟩:=B
 simp only [Bits.av] at hA'
 have h2:¬ pp=wk:=fun e=>h1 e.symm
 have hmem:∀ (o:ah) (i o':_),((Mem.of ((wk,wkC pp fol w)::(pp,prC st cwd um)::bk (N,F))).aH (sb N F1)) i=some o'→Mem.blk [(wk,wkC pp fol w),(pp,prC st cwd um),(.sub 0 12 p,o)] [(N,F1)] i=some o':=fun o =>
  eQ (A0:=[(wk,wkC pp fol w),(pp,prC st cwd um)]) (U:=[]) (fun _ h=>by cases h) (fun q hq _=>by
   simp only [List.mem_cons,List.not_mem_nil,or_false] at hq
   rcases hq with rfl|rfl<;>simp [Mem.dT,Oid.ab hw,Oid.aa hw,Oid.ab hpp,Oid.aa hpp,h2]) (by
   show ∀ q,q ∈ bk _→_
   rw [oI hwN,oI hpN,B3 hO,jE];trivial)
 unfold wkC prC at hmem ⊢
 refine gY (n:=28) (rs:=[]) Tryz.func153 rfl rfl (by decide) rfl rfl rfl ?_;rintro x rfl hrd hng
 rw [mc]
 (try ((first|refine zn ?_|refine ze ?_|refine zk ?_);with_reducible (constructor;repeat constructor));try refine zl ?_)
 refine bN nmd [] [(3,12),(6,12),(10,12),(11,12)] mixed hng (by kernel_rfl) [2] fun hf C S K hC hS hK=>?_;simp (disch:=first|omega|assumption) only [go_sem,Oid.ab hw,Oid.aa hw,Oid.ab hpp,Oid.aa hpp,h1,h2]
 refine hC _ (hA' _ (ax rfl hp) (hO.sub _ _)) (by show ∀ q,q ∈ bk _→_;rw [oI hwN,oI hpN,jE];trivial) ?_
 simp (disch:=first|omega|assumption) only [go_sem,Oid.ab hw,Oid.aa hw,Oid.ab hpp,Oid.aa hpp,h1,h2,hwN,hpN,hO]
 (first|refine hK (aG rfl) ?_|refine hK (by simp (disch:=first|omega|assumption) only [go_sem,List.reverse_cons,List.reverse_nil,ne_eq,not_false_eq_true,implies_true]) ?_);clear hK hS hC K S C hf
 by_cases c1:ek=0
 ·(try ((first|refine zn ?_|refine ze ?_|refine zk ?_);with_reducible (constructor;repeat constructor));try refine zl ?_)
  refine ar nmd [] hng (by kernel_rfl) fun hf C S K hC1 hC hS hK=>?_;simp (disch:=first|omega|assumption) only [go_sem,Oid.ab hw,Oid.aa hw,Oid.ab hpp,Oid.aa hpp,c1,decide_true,decide_false,ne_eq,not_true_eq_false,not_false_eq_true]
  refine hC _ _ _ (bm 10 _) (fun _ h=>by cases h) (fun _ _ h=>h.elim) ?_
  rintro _ _ ⟨rfl,rfl⟩
  exact cB (by simp [inR,inE,c1]) (hmem _)
 refine qr .o (ai (uu hw) (ai (uu hpp) c1)) (cq (bf 10 _) trivial) ?_
 by_cases c2:ek=2
 case neg =>
  (try ((first|refine zn ?_|refine ze ?_|refine zk ?_);with_reducible (constructor;repeat constructor));try refine zl ?_)
  refine ar nmd [] hng (by kernel_rfl) fun hf C S K hC1 hC hS hK=>?_;simp (disch:=first|omega|assumption) only [go_sem,Oid.ab hw,Oid.aa hw,Oid.ab hpp,Oid.aa hpp,c2,decide_true,decide_false,ne_eq,not_true_eq_false,not_false_eq_true]
  refine hC _ _ _ (bm 15 _) (fun _ h=>by cases h) (fun _ _ h=>h.elim) ?_
  rintro _ _ ⟨rfl,rfl⟩
  exact cB (by simp [inR,inE,c1,c2]) (hmem _)
 refine qr .o (ai (uu hw) (ai (uu hpp) c2)) (cq (bf 15 _) trivial) ?_
 by_cases c3:dL em 1=0
 ·(try ((first|refine zn ?_|refine ze ?_|refine zk ?_);with_reducible (constructor;repeat constructor));try refine zl ?_)
  refine ar nmd [] hng (by kernel_rfl) fun hf C S K hC1 hC hS hK=>?_;simp (disch:=first|omega|assumption) only [go_sem,Oid.ab hw,Oid.aa hw,Oid.ab hpp,Oid.aa hpp,c3,decide_true,decide_false,ne_eq,not_true_eq_false,not_false_eq_true]
  refine hC _ _ _ (bm 18 _) (fun _ h=>by cases h) (fun _ _ h=>h.elim) ?_
  rintro _ _ ⟨rfl,rfl⟩
  exact cB (by simp [inR,inE,c1,c2,c3]) (hmem _)
 refine qr .o (ai (uu hw) (ai (uu hpp) c3)) (cq (bf 18 _) trivial) ?_
 exact b5 (lI (v:=.tuple []) rfl (by simp [inR,inE,c1,c2,c3]) (hmem _))
end Go.Proofs.YtpficjpdfbiedaaGreatDoor
namespace Go.Proofs.YtpficjpdfbiedaaGreatDoor
open Go Go.Ab
set_option maxRecDepth 20000
set_option maxHeartbeats 4000000
def unR {α:Type}:Rs α→Rs AV
 | .err e=>.err e
 | .go _=>.go (.tuple [])
def stU (wk pp:Oid) (fol:Bool):Rs Wk→List (Oid × Option ah)
 | .err _=>[(wk,none)]
 | .go w=>[(wk,some (wkC pp fol w))]
theorem EX {a:Oid} {o o':ah} {m:Mem} (h:m a=some o'):∀ i q,((Mem.of [(a,o)]).aH [(a,some o')]) i=some q→m i=some q:=fun i q k=>by
 simp only [Mem.of,Mem.aH,Mem.set,Mem.emp] at k
 split at k
 ·rename_i e;rw [e,h];exact k
 ·first|cases k|(split at k<;>first|contradiction|cases k)
theorem ug {a:Oid} {o:ah} {m:Mem}:∀ i q,((Mem.of [(a,o)]).aH [(a,none)]) i=some q→m i=some q:=fun i q k=>by
 simp only [Mem.of,Mem.aH,Mem.set,Mem.emp] at k
 split at k
 ·cases k
 ·first|cases k|(split at k<;>first|contradiction|cases k)
theorem EY {wk pp:Oid} (fol:Bool) (w:Wk) (d:Str) (hl:w.links≤8) (hd:d.length≤4000000) (ht:w.todo.length≤4000000) (p:Oid) (hw:¬ Oid.under p wk) :
  dD 154 [.ptr wk 0,.str d] (Oid.under p) [(wk,wkC pp fol w)] (unR (dq w w.todo d)) (stU wk pp fol (dq w w.todo d)):=by
 obtain ⟨pl,t,l,dir⟩:=w
 simp only at hl ht
 have hpc:=fun p=>qF d (by omega) p
 have hpl:(aT d).length≤d.length+1:=by
  have h1:=iY 47 d
  have h2:=List.length_filter_le (fun t:Str=>!t.isEmpty) (a7 47 d)
  unfold aT;omega
 have hsf:=fun p=>eP d (by omega) p
 unfold wkC
 refine gY (n:=52) (rs:=[]) Tryz.func154 rfl rfl (by decide) rfl rfl rfl ?_;rintro x rfl hrd hng
 refine qr .o (uu hw) trivial ?_
 by_cases c1:8 < l+1
 ·have e1:¬ (l:Int)+1≤8:=by omega
  have hL:dq ⟨pl,t,l,dir⟩ t d = .err 17:=by simp only [dq,if_pos c1]
  simp only [hL]
  refine ar nmd [] hng (by kernel_rfl) fun hf C S K hC1 hC hS hK=>?_;simp (disch:=first|omega|assumption) only [go_sem,Oid.ab hw,Oid.aa hw,e1,decide_false]
  refine hC _ _ _ (bm 17 _) (fun _ h=>by cases h) (fun _ _ h=>h.elim) ?_
  rintro _ _ ⟨rfl,rfl⟩
  exact cB rfl ug
 have e1:(l:Int)+1≤8:=by omega
 refine qr .o (ai (uu hw) e1) (cq (bf 17 _) trivial) ?_
 by_cases c2:d=[]
 ·have hL:dq ⟨pl,t,l,dir⟩ t d = .err 10:=by simp only [dq,if_neg c1,if_pos c2]
  simp only [hL]
  refine ar nmd [] hng (by kernel_rfl) fun hf C S K hC1 hC hS hK=>?_;simp (disch:=first|omega|assumption) only [go_sem,Oid.ab hw,Oid.aa hw,c2,decide_true,decide_false,ne_eq,not_true_eq_false,not_false_eq_true]
  refine hC _ _ _ (bm 10 _) (fun _ h=>by cases h) (fun _ _ h=>h.elim) ?_
  rintro _ _ ⟨rfl,rfl⟩
  exact cB rfl ug
 have hL:dq ⟨pl,t,l,dir⟩ t d = .go ⟨if d.getD 0 0=47 then [] else pl,aT d++t,l+1,dir || (decide (t=[]) && cK d)⟩:=by simp only [dq,if_neg c1,if_neg c2]
 simp only [hL]
 have hpx:=fun p=>pR d c2 (by omega) p
 generalize cK d=ed at hsf hL
 refine qr .o (ai (uu hw) c2) (cq (bf 10 _) trivial) ?_
 (repeat (first|(refine aB rfl rfl ?_)|(refine aC rfl rfl ?_)|(refine ar nmd [] hng (by kernel_rfl) fun hf C S K hC1 hC hS hK=>?_;simp (disch:=first|omega|assumption) only [go_sem,List.length_map];refine hK ?_;clear hK hS hC hC1 K S C hf)|((first|refine zn ?_|refine ze ?_|refine zk ?_);with_reducible (constructor;repeat constructor);try refine zl ?_)))
 refine cu [0,1] (fun s'=>∃ c':Nat,s' = ⟨[(0,.ptr wk 0),(1,.str d)],Mem.of [(wk,.cells [.ptr pp 0,.str pl,.list 1 (t.map AV.str),.int .i64 ((l:Int)+1),.bool fol,.bool (dir || (decide (t=[]) && ed))])],c',[]⟩) ?_ ?_
 ·refine aK rfl rfl (fun hb=>?_) (fun hb=>?_)
  ·obtain rfl:t=[]:=List.eq_nil_of_length_eq_zero (by omega)
   cases dir with
   | true =>
    refine qr (.d [] [(5,31)] []) (uu hw) trivial ?_
    exact aM ⟨_,rfl⟩
   | false =>
    refine qr (.d [] [(5,31)] []) (uu hw) (cq (hsf _) trivial) ?_
    exact aM ⟨_,rfl⟩
  ·have ht0:¬ t=[]:=fun e=>hb (by rw [e];rfl)
   refine qw0 ?_
   rw [decide_eq_false ht0,Bool.false_and,Bool.or_false]
   exact aM ⟨_,rfl⟩
 rintro s' ⟨c,rfl⟩
 (repeat (first|(refine aB rfl rfl ?_)|(refine aC rfl rfl ?_)|(refine ar nmd [] hng (by kernel_rfl) fun hf C S K hC1 hC hS hK=>?_;simp (disch:=first|omega|assumption) only [go_sem];(repeat ((first|refine hC1 _ (hpx _) (by simp (disch:=first|omega|assumption) only [go_sem]) ?_);simp (disch:=first|omega|assumption) only [go_sem]));refine hK ?_;clear hK hS hC hC1 K S C hf)|((first|refine zn ?_|refine ze ?_|refine zk ?_);with_reducible (constructor;repeat constructor);try refine zl ?_)))
 refine cu [0,1] (fun s'=>∃ c':Nat,s' = ⟨[(0,.ptr wk 0),(1,.str d)],Mem.of [(wk,.cells [.ptr pp 0,.str (if d.getD 0 0=47 then [] else pl),.list 1 (t.map AV.str),.int .i64 ((l:Int)+1),.bool fol,.bool (dir || (decide (t=[]) && ed))])],c',[]⟩) ?_ ?_
 ·refine aK rfl rfl (fun hb=>?_) (fun hb=>?_)
  ·refine qw (uu hw) ?_
   rw [if_pos hb]
   exact aM ⟨_,rfl⟩
  ·refine qw0 ?_
   rw [if_neg hb]
   exact aM ⟨_,rfl⟩
 clear c
 rintro s' ⟨c,rfl⟩
 have hw2:¬ Oid.under (.sub 1 1 (.sub c 2 x.p)) wk:=fun h=>hw (Oid.af (Oid.af h))
 refine sc ?_
 (try ((first|refine zn ?_|refine ze ?_|refine zk ?_);with_reducible (constructor;repeat constructor));try refine zl ?_)
 refine bN nmd [] [(2,6)] mixed hng (by kernel_rfl) [] fun hf C S K hC hS hK=>?_;simp (disch:=first|omega|assumption) only [go_sem,Oid.ab hw,Oid.aa hw,List.length_map]
 refine hC _ (hpc _) qs0 ?_
 simp (disch:=first|omega|assumption) only [go_sem,Oid.ab hw,Oid.aa hw,List.length_map,Oid.ab hw2,Oid.aa hw2]
 (first|refine hK (aG rfl) ?_|refine hK (by simp (disch:=first|omega|assumption) only [go_sem,List.reverse_cons,List.reverse_nil,ne_eq,not_false_eq_true,implies_true]) ?_);clear hK hS hC K S C hf
 refine b5 (iM (.sub c 7 x.p) wk 1 (List.map AV.str (aT d)++List.map AV.str t) _ [.ptr pp 0,.str (if d.getD 0 0=47 then [] else pl),.list 1 (List.map AV.str (aT d)++List.map AV.str t),.int .i64 ((l:Int)+1),.bool fol,.bool (dir || (decide (t=[]) && ed))]
  (by simp [Mem.ao,Oid.ab hw,Oid.aa hw]) (by simp [Mem.ao];rfl) (by simp [Oid.ab hw,Oid.aa hw]) (.keep (.keep (.iq (by simp) (.keep (.keep (.keep .nil)))))) (.now (lI (v:=.tuple []) rfl rfl (EX ?_))))
 simp only [Mem.set,if_true,wkC,List.map_append]
 rfl
end Go.Proofs.YtpficjpdfbiedaaGreatDoor
namespace Go.Proofs.YtpficjpdfbiedaaGreatDoor
open Go Go.Ab
set_option maxRecDepth 20000
set_option maxHeartbeats 4000000
def stR (x:Rds × Rs Wk):Rs AV:=unR x.2
def stM (wk pp:Oid) (fol:Bool) (N:List Oid) (F:Oid→ah) (r:Rs Wk):List (Oid × Option ah):=stU wk pp fol r++sb N F
section
variable {wk pp:Oid} {o o' q:ah} {N:List Oid} {F G:Oid→ah} {m:Mem}
theorem sh (fol:Bool) (w:Wk) (h1:m wk=some (wkC pp fol w)) (h2:m pp=some q) (h3:∀ x,x ∈ bk (N,G)→m x.1=some x.2) :
  ∀ i v,((Mem.of ((wk,o)::(pp,q)::bk (N,F))).aH (stM wk pp fol N G (.go w))) i=some v→m i=some v :=
 eQ (A0:=[(wk,o),(pp,q)]) (U:=[(wk,some (wkC pp fol w))]) (fun x hx v h=>by
  rw [List.mem_singleton.1 hx] at h ⊢
  rw [← h];exact h1) (fun x hx h=>by
  simp only [List.mem_cons,List.not_mem_nil,or_false] at hx
  rcases hx with rfl|rfl
  ·exact absurd rfl (h _ (List.mem_singleton.2 rfl))
  ·exact h2) h3
theorem sj (fol:Bool) (e:Int) (h2:m pp=some q) (h3:∀ x,x ∈ bk (N,G)→m x.1=some x.2) :
  ∀ i v,((Mem.of ((wk,o)::(pp,q)::bk (N,F))).aH (stM wk pp fol N G (.err e))) i=some v→m i=some v :=
 eQ (A0:=[(wk,o),(pp,q)]) (U:=[(wk,none)]) (fun x hx v h=>by
  rw [List.mem_singleton.1 hx] at h
  cases h) (fun x hx h=>by
  simp only [List.mem_cons,List.not_mem_nil,or_false] at hx
  rcases hx with rfl|rfl
  ·exact absurd rfl (h _ (List.mem_singleton.2 rfl))
  ·exact h2) h3
end
theorem EZ {wk pp st:Oid} {N:List Oid} {F F':Oid→ah} {L:PL} (hL:∀ n,(aF L n).l.length≤4000000) (fol:Bool) (pl n:Str) (t:List Str) (l:Nat) (dir:Bool) (cwd:Str) (um:Int) (h1:¬ wk=pp) (hwN:wk ∉ N) (hpN:pp ∉ N)
  (hl:l≤8) (ht:t.length≤4000000) (hpl:pl.length≤100000000) (hn:n.length≤100000000)
  (hA:RP st N L (bw L fol ⟨pl,n::t,l,dir⟩ n t).1 F F') (p:Oid) (hp:p.mono=false) (hw:¬ Oid.under p wk) (hpp:¬ Oid.under p pp) (hO:bd p N) :
  dD 126 [.ptr wk 0] (Oid.under p) ((wk,wkC pp fol ⟨pl,n::t,l,dir⟩)::(pp,prC st cwd um)::bk (N,F))
   (stR (bw L fol ⟨pl,n::t,l,dir⟩ n t)) (stM wk pp fol N F' (bw L fol ⟨pl,n::t,l,dir⟩ n t).2):=by
 have h2:¬ pp=wk:=fun e=>h1 e.symm
 have hin:∀ F1,RP st N L [(pl,false)] F F1→∀ p,p.mono=false→¬ Oid.under p wk→¬ Oid.under p pp→bd p N→dD 153 [.ptr wk 0] (Oid.under p) ((wk,wkC pp fol ⟨pl,t,l,dir⟩)::(pp,prC st cwd um)::bk (N,F)) (inR (aF L pl)) (sb N F1) :=
  fun F1 h p hp hw hpp hO=>zj fol ⟨pl,t,l,dir⟩ cwd um h1 hwN hpN h p hp hw hpp hO
 have hab:=fun p=>uf pl (by omega) p
 have hal:=ja pl
 by_cases c0:inE (aF L pl)=0
 case neg =>
  have hS:bw L fol ⟨pl,n::t,l,dir⟩ n t=([(pl,false)],.err (inE (aF L pl))):=by simp only [bw,if_pos c0]
  rw [hS] at hA ⊢
  have hin':=hin _ hA
  unfold inR at hin'
  simp only [if_neg c0] at hin'
  generalize inE (aF L pl)=e at hin' hS ⊢
  unfold wkC prC at hin' ⊢
  refine gY (n:=96) (rs:=[]) Tryz.func126 rfl rfl (by decide) rfl rfl rfl ?_;rintro x rfl hrd hng
  rw [mc]
  refine qr .o (ai (uu hw) (ai (uu hpp) (ai h1 h2))) trivial ?_
  refine qr .o (ai (uu hw) (ai (uu hpp) (ai h1 h2))) trivial ?_
  refine ar nmd [] hng (by kernel_rfl) fun hf C S K hC1 hC hS hK=>?_;simp (disch:=first|omega|assumption) only [go_sem,Oid.ab hw,Oid.aa hw,Oid.ab hpp,Oid.aa hpp,h1,h2]
  refine hC _ _ _ (dD.pn (hin' _ (ax rfl hp) (fun h=>hw (Oid.af h)) (fun h=>hpp (Oid.af h)) (hO.sub _ _)) rfl) ?_ (fun _ _ h=>h.elim) ?_
  ·exact (by simp only [List.mem_cons,forall_eq_or_imp];exact ⟨by simp (disch:=first|omega|assumption) only [go_sem,Oid.ab hw,Oid.aa hw,Oid.ab hpp,Oid.aa hpp,h1,h2,hwN,hpN,hO],by simp (disch:=first|omega|assumption) only [go_sem,Oid.ab hw,Oid.aa hw,Oid.ab hpp,Oid.aa hpp,h1,h2,hwN,hpN,hO],(by first|exact nbu _|exact nbA (by simp [hwN,hpN,hO.mem]) _)⟩)
  ·rintro _ _ ⟨rfl,rfl⟩
   exact cB rfl (sj fol e (by show _=some _;simp (disch:=first|omega|assumption) only [go_sem,Oid.ab hw,Oid.aa hw,Oid.ab hpp,Oid.aa hpp,h1,h2,hwN,hpN,hO]) (by first|exact nbu _|exact nbA (by simp [hwN,hpN,hO.mem]) _))
 have hi0:∀ (rd:Rds) (r:Rs Wk),bw L fol ⟨pl,n::t,l,dir⟩ n t=((pl,false)::rd,r)→∃ F1,RP st N L rd F1 F'∧∀ p,p.mono=false→¬ Oid.under p wk→¬ Oid.under p pp→bd p N→aj Tryz.prog 153 [.ptr wk 0] (Oid.under p) ⟨(wk,wkC pp fol ⟨pl,t,l,dir⟩)::(pp,prC st cwd um)::bk (N,F),.tuple [],sb N F1⟩:=fun rd r hS=>by
  rw [hS] at hA
  obtain ⟨F1,k1,k2⟩:=hA
  refine ⟨F1,k2,fun p hp hw hpp hO=>dD.ok (hin F1 ⟨F1,k1,rfl⟩ p hp hw hpp hO) ?_⟩
  unfold inR;rw [if_pos c0]
 by_cases c1:32 < n.length
 ·have hS:bw L fol ⟨pl,n::t,l,dir⟩ n t=([(pl,false)],.err 2):=by simp only [bw,c0,not_true_eq_false,if_false,if_pos c1]
  obtain ⟨F1,rfl,hin'⟩:=hi0 _ _ hS
  rw [hS]
  have e1:¬ (n.length:Int)≤32:=by omega
  unfold wkC prC at hin' ⊢
  refine gY (n:=96) (rs:=[]) Tryz.func126 rfl rfl (by decide) rfl rfl rfl ?_;rintro x rfl hrd hng
  rw [mc]
  refine kr .o (ai (uu hw) (ai h1 (ai h2 hwN))) trivial ?_
  refine kr .o (ai (uu hw) (ai h1 (ai h2 hwN))) trivial ?_
  refine ar nmd [] hng (by kernel_rfl) fun hf C S K hC1 hC hS hK=>?_;simp (disch:=first|omega|assumption) only [go_sem,Oid.ab hw,Oid.aa hw,Oid.ab hpp,Oid.aa hpp,h1,h2,hwN,hpN,hO]
  refine hC1 _ (hin' _ (ax rfl hp) (fun h=>hw (Oid.af h)) (fun h=>hpp (Oid.af h)) (hO.sub _ _)) (by simp only [List.mem_cons,forall_eq_or_imp];exact ⟨by simp (disch:=first|omega|assumption) only [go_sem,Oid.ab hw,Oid.aa hw,Oid.ab hpp,Oid.aa hpp,h1,h2,hwN,hpN,hO],by simp (disch:=first|omega|assumption) only [go_sem,Oid.ab hw,Oid.aa hw,Oid.ab hpp,Oid.aa hpp,h1,h2,hwN,hpN,hO],(by first|exact nbu _|exact nbA (by simp [hwN,hpN,hO.mem]) _)⟩) ?_
  simp (disch:=first|omega|assumption) only [go_sem,Oid.ab hw,Oid.aa hw,Oid.ab hpp,Oid.aa hpp,h1,h2,hwN,hpN,hO]
  refine hK ?_;clear hK hS hC hC1 K S C hf
  (try ((first|refine zn ?_|refine ze ?_|refine zk ?_);with_reducible (constructor;repeat constructor));try refine zl ?_)
  refine ar nmd [] hng (by kernel_rfl) fun hf C S K hC1 hC hS hK=>?_;simp (disch:=first|omega|assumption) only [go_sem,Oid.ab hw,Oid.aa hw,Oid.ab hpp,Oid.aa hpp,h1,h2,hwN,hpN,hO,e1,decide_true,decide_false,ne_eq,not_true_eq_false,not_false_eq_true]
  refine hC _ _ _ (bm 2 _) (fun _ h=>by cases h) (fun _ _ h=>h.elim) ?_
  rintro _ _ ⟨rfl,rfl⟩
  exact cB rfl (sj fol 2 (by show _=some _;simp (disch:=first|omega|assumption) only [go_sem,Oid.ab hw,Oid.aa hw,Oid.ab hpp,Oid.aa hpp,h1,h2,hwN,hpN,hO]) (by first|exact nbu _|exact nbA (by simp [hwN,hpN,hO.mem]) _))
 have e1:(n.length:Int)≤32:=by omega
 by_cases c2:n=[46]
 ·have hS:bw L fol ⟨pl,n::t,l,dir⟩ n t=([(pl,false)],.go ⟨pl,t,l,dir⟩):=by simp only [bw,c0,not_true_eq_false,if_false,if_neg c1,if_pos c2]
  obtain ⟨F1,rfl,hin'⟩:=hi0 _ _ hS
  rw [hS]
  unfold prC at hin' ⊢
  unfold wkC at hin'
  refine gY (n:=96) (rs:=[]) Tryz.func126 rfl rfl (by decide) rfl rfl rfl ?_;rintro x rfl hrd hng
  rw [mc]
  simp only [wkC]
  refine kr .o (ai (uu hw) (ai h1 (ai h2 hwN))) trivial ?_
  refine kr .o (ai (uu hw) (ai h1 (ai h2 hwN))) trivial ?_
  refine ar nmd [] hng (by kernel_rfl) fun hf C S K hC1 hC hS hK=>?_;simp (disch:=first|omega|assumption) only [go_sem,Oid.ab hw,Oid.aa hw,Oid.ab hpp,Oid.aa hpp,h1,h2,hwN,hpN,hO]
  refine hC1 _ (hin' _ (ax rfl hp) (fun h=>hw (Oid.af h)) (fun h=>hpp (Oid.af h)) (hO.sub _ _)) (by simp only [List.mem_cons,forall_eq_or_imp];exact ⟨by simp (disch:=first|omega|assumption) only [go_sem,Oid.ab hw,Oid.aa hw,Oid.ab hpp,Oid.aa hpp,h1,h2,hwN,hpN,hO],by simp (disch:=first|omega|assumption) only [go_sem,Oid.ab hw,Oid.aa hw,Oid.ab hpp,Oid.aa hpp,h1,h2,hwN,hpN,hO],(by first|exact nbu _|exact nbA (by simp [hwN,hpN,hO.mem]) _)⟩) ?_
  simp (disch:=first|omega|assumption) only [go_sem,Oid.ab hw,Oid.aa hw,Oid.ab hpp,Oid.aa hpp,h1,h2,hwN,hpN,hO]
  refine hK ?_;clear hK hS hC hC1 K S C hf
  refine kr .o (ai (uu hw) (ai h1 (ai h2 (ai hwN e1)))) (cq (bf 2 _) trivial) ?_
  refine qw c2 ?_
  exact ay (sg (v:=.tuple []) rfl rfl (sh fol ⟨pl,t,l,dir⟩ (by show _=some (wkC _ _ _);simp only [wkC];simp (disch:=first|omega|assumption) only [go_sem,Oid.ab hw,Oid.aa hw,Oid.ab hpp,Oid.aa hpp,h1,h2,hwN,hpN,hO]) (by show _=some _;simp (disch:=first|omega|assumption) only [go_sem,Oid.ab hw,Oid.aa hw,Oid.ab hpp,Oid.aa hpp,h1,h2,hwN,hpN,hO]) (by first|exact nbu _|exact nbA (by simp [hwN,hpN,hO.mem]) _)))
 by_cases c3:n=[46,46]
 ·have hS:bw L fol ⟨pl,n::t,l,dir⟩ n t=([(pl,false)],.go ⟨aO pl,t,l,dir⟩):=by simp only [bw,c0,not_true_eq_false,if_false,if_neg c1,if_neg c2,if_pos c3]
  obtain ⟨F1,rfl,hin'⟩:=hi0 _ _ hS
  rw [hS]
  unfold prC at hin' ⊢
  unfold wkC at hin'
  refine gY (n:=96) (rs:=[]) Tryz.func126 rfl rfl (by decide) rfl rfl rfl ?_;rintro x rfl hrd hng
  rw [mc]
  simp only [wkC]
  refine kr .o (ai (uu hw) (ai h1 (ai h2 hwN))) trivial ?_
  refine kr .o (ai (uu hw) (ai h1 (ai h2 hwN))) trivial ?_
  refine ar nmd [] hng (by kernel_rfl) fun hf C S K hC1 hC hS hK=>?_;simp (disch:=first|omega|assumption) only [go_sem,Oid.ab hw,Oid.aa hw,Oid.ab hpp,Oid.aa hpp,h1,h2,hwN,hpN,hO]
  refine hC1 _ (hin' _ (ax rfl hp) (fun h=>hw (Oid.af h)) (fun h=>hpp (Oid.af h)) (hO.sub _ _)) (by simp only [List.mem_cons,forall_eq_or_imp];exact ⟨by simp (disch:=first|omega|assumption) only [go_sem,Oid.ab hw,Oid.aa hw,Oid.ab hpp,Oid.aa hpp,h1,h2,hwN,hpN,hO],by simp (disch:=first|omega|assumption) only [go_sem,Oid.ab hw,Oid.aa hw,Oid.ab hpp,Oid.aa hpp,h1,h2,hwN,hpN,hO],(by first|exact nbu _|exact nbA (by simp [hwN,hpN,hO.mem]) _)⟩) ?_
  simp (disch:=first|omega|assumption) only [go_sem,Oid.ab hw,Oid.aa hw,Oid.ab hpp,Oid.aa hpp,h1,h2,hwN,hpN,hO]
  refine hK ?_;clear hK hS hC hC1 K S C hf
  refine kr .o (ai (uu hw) (ai h1 (ai h2 (ai hwN e1)))) (cq (bf 2 _) trivial) ?_
  refine qw c3 ?_
  refine kr .o (ai (uu hw) (ai h1 (ai h2 hwN))) (cq (hab _) trivial) ?_
  exact ay (sg (v:=.tuple []) rfl rfl (sh fol ⟨aO pl,t,l,dir⟩ (by show _=some (wkC _ _ _);simp only [wkC];simp (disch:=first|omega|assumption) only [go_sem,Oid.ab hw,Oid.aa hw,Oid.ab hpp,Oid.aa hpp,h1,h2,hwN,hpN,hO]) (by show _=some _;simp (disch:=first|omega|assumption) only [go_sem,Oid.ab hw,Oid.aa hw,Oid.ab hpp,Oid.aa hpp,h1,h2,hwN,hpN,hO]) (by first|exact nbu _|exact nbA (by simp [hwN,hpN,hO.mem]) _)))
 have hS:bw L fol ⟨pl,n::t,l,dir⟩ n t=([(pl,false),(pl++(47::n),false)],goF L fol ⟨pl,n::t,l,dir⟩ n t):=by simp only [bw,c0,not_true_eq_false,if_false,if_neg c1,if_neg c2,if_neg c3,ji]
 obtain ⟨F1,⟨F2,hat,rfl⟩,hin'⟩:=hi0 _ _ hS
 have hat':∀ p,p.mono=false→bd p N→aj Tryz.prog 127 [.ptr st 0,.str (pl++(47::n))] (Oid.under p) ⟨bk (N,F1),(aF L (pl++(47::n))).av,sb N F2⟩:=hat
 rw [hS]
 have hdl:=hL (pl++(47::n))
 have hgo:goF L fol ⟨pl,n::t,l,dir⟩ n t=if (aF L (pl++(47::n))).k=3∧(¬ t=[]∨fol=true∨dir=true) then dq ⟨pl,n::t,l,dir⟩ t (aF L (pl++(47::n))).l
  else if ¬ t=[]∧(aF L (pl++(47::n))).k=0 then .err 10 else .go ⟨pl++(47::n),t,l,dir⟩:=rfl
 rw [hgo]
 clear hgo hS hin hat hi0
 generalize aF L (pl++(47::n))=B at hat' hdl ⊢
 obtain ⟨ek,em,el⟩:=B
 simp only [Bits.av] at hat' hdl ⊢
 have hlk:=fun p=>EY (wk:=wk) (pp:=pp) fol ⟨pl,t,l,dir⟩ el hl hdl ht p
 have hlf:dq ⟨pl,n::t,l,dir⟩ t el=dq ⟨pl,t,l,dir⟩ t el:=rfl
 rw [hlf]
 simp only at hlk
 unfold prC at hin' ⊢
 unfold wkC at hin' hlk
 refine gY (n:=96) (rs:=[]) Tryz.func126 rfl rfl (by decide) rfl rfl rfl ?_;rintro x rfl hrd hng
 rw [mc]
 simp only [wkC]
 refine kr .o (ai (uu hw) (ai h1 (ai h2 hwN))) trivial ?_
 refine kr .o (ai (uu hw) (ai h1 (ai h2 hwN))) trivial ?_
 refine ar nmd [] hng (by kernel_rfl) fun hf C S K hC1 hC hS hK=>?_;simp (disch:=first|omega|assumption) only [go_sem,Oid.ab hw,Oid.aa hw,Oid.ab hpp,Oid.aa hpp,h1,h2,hwN,hpN,hO]
 refine hC1 _ (hin' _ (ax rfl hp) (fun h=>hw (Oid.af h)) (fun h=>hpp (Oid.af h)) (hO.sub _ _)) (by simp only [List.mem_cons,forall_eq_or_imp];exact ⟨by simp (disch:=first|omega|assumption) only [go_sem,Oid.ab hw,Oid.aa hw,Oid.ab hpp,Oid.aa hpp,h1,h2,hwN,hpN,hO],by simp (disch:=first|omega|assumption) only [go_sem,Oid.ab hw,Oid.aa hw,Oid.ab hpp,Oid.aa hpp,h1,h2,hwN,hpN,hO],(by first|exact nbu _|exact nbA (by simp [hwN,hpN,hO.mem]) _)⟩) ?_
 simp (disch:=first|omega|assumption) only [go_sem,Oid.ab hw,Oid.aa hw,Oid.ab hpp,Oid.aa hpp,h1,h2,hwN,hpN,hO]
 refine hK ?_;clear hK hS hC hC1 K S C hf
 refine kr .o (ai (uu hw) (ai h1 (ai h2 (ai hwN e1)))) (cq (bf 2 _) trivial) ?_
 have hcat:pl++[47]++n=pl++(47::n):=by simp
 refine kw (ai (uu hw) (ai h1 (ai h2 (ai hwN (ai c2 (ai c3 hcat)))))) ?_
 refine kr .o (ai (uu hw) (ai h1 (ai h2 hwN))) (cq hat' trivial) ?_
 (repeat (first|(refine aB rfl rfl ?_)|(refine aC rfl rfl ?_)|(refine ar nmd [] hng (by kernel_rfl) fun hf C S K hC1 hC hS hK=>?_;simp (disch:=first|omega|assumption) only [go_sem,Oid.ab hw,Oid.aa hw,Oid.ab hpp,Oid.aa hpp,h1,h2,hwN,hpN,hO,List.length_map];refine hK ?_;clear hK hS hC hC1 K S C hf)|((first|refine zn ?_|refine ze ?_|refine zk ?_);with_reducible (constructor;repeat constructor);try refine zl ?_)))
 rw [show decide ((t.length:Int)=0)=decide (t=[]) from decide_eq_decide.2 ⟨fun h=>List.eq_nil_of_length_eq_zero (by omega),fun h=>by rw [h];rfl⟩]
 refine cu [0,3,4,5,72] (fun s'=>∃ c':Nat,s' = ⟨[(0,.ptr wk 0),(3,.str (pl++(47::n))),(4,.ptr (.sub 8 9 x.p) 0),(5,.bool (decide (t=[]))),(72,.bool (decide (ek=3∧(¬ t=[]∨fol=true∨dir=true))))],Mem.blk [(wk,.cells [.ptr pp 0,.str pl,.list 1 (t.map AV.str),.int .i64 l,.bool fol,.bool dir]),(pp,.cells [.ptr st 0,.str cwd,.int .i64 um]),(.sub 8 9 x.p,.cells [.int .i64 ek,.int .i64 em,.str el])] [(N,F2)],c',[]⟩∧8 < c') ?_ ?_
 ·by_cases k3:ek=3
  ·cases t with
   | cons t0 tr =>
    rw [show decide (ek=3∧(¬ (t0::tr)=[]∨fol=true∨dir=true))=true from by simp [k3]]
    refine kr (.d [] [(3,76),(6,79),(12,85)] []) (ai (uu hw) (ai h1 (ai h2 (ai hwN k3)))) trivial ?_
    exact aM ⟨_,by rw [k3];rfl,by omega⟩
   | nil =>
    rw [show decide (ek=3∧(¬ ([]:List Str)=[]∨fol=true∨dir=true))=(fol || dir) from by cases fol<;>cases dir<;>simp [k3]]
    cases fol with
    | true =>
     refine kr (.d [] [(3,76),(6,79),(12,85)] []) (ai (uu hw) (ai h1 (ai h2 (ai hwN k3)))) trivial ?_
     exact aM ⟨_,by rw [k3];rfl,by omega⟩
    | false =>
     cases dir with
     | true =>
      refine kr (.d [] [(3,76),(6,79),(12,85)] []) (ai (uu hw) (ai h1 (ai h2 (ai hwN k3)))) trivial ?_
      exact aM ⟨_,by rw [k3];rfl,by omega⟩
     | false =>
      refine kr (.d [] [(3,76),(6,79),(12,85)] []) (ai (uu hw) (ai h1 (ai h2 (ai hwN k3)))) trivial ?_
      exact aM ⟨_,by rw [k3];rfl,by omega⟩
  ·rw [show decide (ek=3∧(¬ t=[]∨fol=true∨dir=true))=false from by simp [k3]]
   refine kr (.d [] [(3,76),(6,79),(12,85)] []) (ai (uu hw) (ai h1 (ai h2 (ai hwN k3)))) trivial ?_
   exact aM ⟨_,rfl,by omega⟩
 rintro s' ⟨c,rfl,hc⟩
 by_cases k3:ek=3∧(¬ t=[]∨fol=true∨dir=true)
 ·rw [decide_eq_true k3,if_pos k3]
  (try ((first|refine zn ?_|refine ze ?_|refine zk ?_);with_reducible (constructor;repeat constructor));try refine zl ?_)
  refine aB rfl rfl ?_
  generalize dq ⟨pl,t,l,dir⟩ t el=LR at hlk
  cases LR with
  | err e =>
   (try ((first|refine zn ?_|refine ze ?_|refine zk ?_);with_reducible (constructor;repeat constructor));try refine zl ?_)
   refine ar nmd [] hng (by kernel_rfl) fun hf C S K hC1 hC hS hK=>?_;simp (disch:=first|omega|assumption) only [go_sem,Oid.ab hw,Oid.aa hw,Oid.ab hpp,Oid.aa hpp,h1,h2,hwN,hpN,hO]
   refine hC _ _ _ (dD.pn (hlk _ (fun h=>hw (Oid.af h))) rfl) (by simp only [List.mem_singleton,forall_eq];simp (disch:=first|omega|assumption) only [go_sem,Oid.ab hw,Oid.aa hw,Oid.ab hpp,Oid.aa hpp,h1,h2,hwN,hpN,hO]) (fun _ _ h=>h.elim) ?_
   rintro _ _ ⟨rfl,rfl⟩
   refine cB rfl (sj fol e ?_ ?_)
   ·show (Mem.set _ wk none) pp=_
    simp only [Mem.set,if_neg h2];simp (disch:=first|omega|assumption) only [go_sem,Oid.ab hw,Oid.aa hw,Oid.ab hpp,Oid.aa hpp,h1,h2,hwN,hpN,hO]
   ·intro y hy
    show (Mem.set _ wk none) y.1=_
    simp only [Mem.set]
    rw [if_neg fun e:y.1=wk=>hwN (e ▸ (bU.1 hy).1)]
    exact nbA (by simp [hwN,hpN,hO.mem]) _ y hy
  | go w' =>
   (try ((first|refine zn ?_|refine ze ?_|refine zk ?_);with_reducible (constructor;repeat constructor));try refine zl ?_)
   refine ar nmd [] hng (by kernel_rfl) fun hf C S K hC1 hC hS hK=>?_;simp (disch:=first|omega|assumption) only [go_sem,Oid.ab hw,Oid.aa hw,Oid.ab hpp,Oid.aa hpp,h1,h2,hwN,hpN,hO]
   refine hC1 _ (dD.ok (hlk _ (fun h=>hw (Oid.af h))) rfl) (by simp only [List.mem_singleton,forall_eq];simp (disch:=first|omega|assumption) only [go_sem,Oid.ab hw,Oid.aa hw,Oid.ab hpp,Oid.aa hpp,h1,h2,hwN,hpN,hO]) ?_
   simp only [stU]
   simp (disch:=first|omega|assumption) only [go_sem,Oid.ab hw,Oid.aa hw,Oid.ab hpp,Oid.aa hpp,h1,h2,hwN,hpN,hO]
   refine hK ?_;clear hK hS hC hC1 K S C hf
   (try ((first|refine zn ?_|refine ze ?_|refine zk ?_);with_reducible (constructor;repeat constructor));try refine zl ?_)
   refine b5 (lI (v:=.tuple []) rfl rfl (sh fol w' ?_ ?_ ?_))
   ·simp (disch:=first|omega|assumption) only [go_sem,Oid.ab hw,Oid.aa hw,Oid.ab hpp,Oid.aa hpp,h1,h2,hwN,hpN,hO]
   ·simp (disch:=first|omega|assumption) only [go_sem,Oid.ab hw,Oid.aa hw,Oid.ab hpp,Oid.aa hpp,h1,h2,hwN,hpN,hO]
   ·exact (by first|exact nbu _|exact nbA (by simp [hwN,hpN,hO.mem]) _)
 ·rw [decide_eq_false k3,if_neg k3]
  (try ((first|refine zn ?_|refine ze ?_|refine zk ?_);with_reducible (constructor;repeat constructor));try refine zl ?_)
  refine aC rfl rfl ?_
  by_cases k4:¬ t=[]∧ek=0
  ·rw [if_pos k4]
   have ht0:=k4.1
   have he0:=k4.2
   (try ((first|refine zn ?_|refine ze ?_|refine zk ?_);with_reducible (constructor;repeat constructor));try refine zl ?_)
   refine ar nmd [(1,62)] hng (by kernel_rfl) fun hf C S K hC1 hC hS hK=>?_;simp (disch:=first|omega|assumption) only [go_sem,Oid.ab hw,Oid.aa hw,Oid.ab hpp,Oid.aa hpp,h1,h2,hwN,hpN,hO,ht0,he0,decide_true,decide_false,ne_eq,not_true_eq_false,not_false_eq_true]
   refine hC _ _ _ (bm 10 _) (fun _ h=>by cases h) (fun _ _ h=>h.elim) ?_
   rintro _ _ ⟨rfl,rfl⟩
   exact cB rfl (sj fol 10 (by show _=some _;simp (disch:=first|omega|assumption) only [go_sem,Oid.ab hw,Oid.aa hw,Oid.ab hpp,Oid.aa hpp,h1,h2,hwN,hpN,hO]) (by first|exact nbu _|exact nbA (by simp [hwN,hpN,hO.mem]) _))
  ·rw [if_neg k4]
   (try ((first|refine zn ?_|refine ze ?_|refine zk ?_);with_reducible (constructor;repeat constructor));try refine zl ?_)
   refine cu [0,3] (fun s'=>∃ c':Nat,s' = ⟨[(0,.ptr wk 0),(3,.str (pl++(47::n)))],Mem.blk [(wk,.cells [.ptr pp 0,.str pl,.list 1 (t.map AV.str),.int .i64 l,.bool fol,.bool dir]),(pp,.cells [.ptr st 0,.str cwd,.int .i64 um]),(.sub 8 9 x.p,.cells [.int .i64 ek,.int .i64 em,.str el])] [(N,F2)],c',[]⟩∧8 < c') ?_ ?_
   ·by_cases ht0:t=[]
    ·refine kr (.d [] [(1,62)] []) (ai (uu hw) (ai h1 (ai h2 (ai hwN ht0)))) (cq (bf 10 _) trivial) ?_
     exact aM ⟨_,by simp only [ht0];rfl,by omega⟩
    ·have he0:¬ ek=0:=fun e=>k4 ⟨ht0,e⟩
     refine kr (.d [] [(1,62)] []) (ai (uu hw) (ai h1 (ai h2 (ai hwN (ai ht0 he0))))) (cq (bf 10 _) trivial) ?_
     exact aM ⟨_,rfl,by omega⟩
   clear hc c
   rintro s' ⟨c,rfl,hc⟩
   refine kw (ai (uu hw) (ai h1 (ai h2 hwN))) ?_
   refine b5 (lI (v:=.tuple []) rfl rfl (sh fol ⟨pl++(47::n),t,l,dir⟩ ?_ ?_ ?_))
   ·simp only [wkC];simp (disch:=first|omega|assumption) only [go_sem,Oid.ab hw,Oid.aa hw,Oid.ab hpp,Oid.aa hpp,h1,h2,hwN,hpN,hO]
   ·simp (disch:=first|omega|assumption) only [go_sem,Oid.ab hw,Oid.aa hw,Oid.ab hpp,Oid.aa hpp,h1,h2,hwN,hpN,hO]
   ·exact (by first|exact nbu _|exact nbA (by simp [hwN,hpN,hO.mem]) _)
end Go.Proofs.YtpficjpdfbiedaaGreatDoor
namespace Go.Proofs.YtpficjpdfbiedaaGreatDoor
open Go Go.Ab
set_option maxRecDepth 20000
set_option maxHeartbeats 4000000
def fdR:Rs (Str × Bits)→Rs AV
 | .err e=>.err e
 | .go a=>.go (.tuple [.str a.1,a.2.av])
theorem jj {pp:Oid} {q:ah} {N:List Oid} {F G:Oid→ah} {m:Mem} (h2:m pp=some q) (h3:∀ x,x ∈ bk (N,G)→m x.1=some x.2):∀ i v,((Mem.of ((pp,q)::bk (N,F))).aH (sb N G)) i=some v→m i=some v :=
 eQ (A0:=[(pp,q)]) (U:=[]) (fun x hx=>by cases hx) (fun x hx _=>by rw [List.mem_singleton.1 hx];exact h2) h3
theorem sk:∀ t:List Str,t.length≤wtF t
 | []=>Nat.le_refl _
 | n::t=>by have:=sk t;simp only [wtF,List.length_cons];omega
theorem mY {L:PL} {fol:Bool} {w w':Wk} {n:Str} {t:List Str} {rd:Rds} (h:bw L fol w n t=(rd,.go w')) (hl:w.links≤8):w'.links≤8:=by
 unfold bw at h
 split at h;· cases h
 split at h;· cases h
 split at h;· cases h;exact hl
 split at h;· cases h;exact hl
 obtain ⟨-,h⟩:=Prod.mk.inj h
 unfold goF at h
 split at h
 ·unfold dq at h
  split at h;· cases h
  split at h;· cases h
  cases h;simp only;omega
 ·split at h;· cases h
  cases h;exact hl
theorem lK {pp st:Oid} {N:List Oid} {F F':Oid→ah} {L:PL} (hs:aW ltB L) (hlk:jJ L) (hL:∀ n,(aF L n).l.length≤4000000) (path cwd:Str) (um:Int) (fol:Bool) (hpN:pp ∉ N) (hc:cwd.length≤1000000) (hpath:path.length≤4000000000)
  (hA:RP st N L (findF L cwd path fol).1 F F') (p:Oid) (hp:p.mono=false) (hpp:¬ Oid.under p pp) (hO:bd p N) :
  dD 90 [.ptr pp 0,.str path,.bool fol] (Oid.under p) ((pp,prC st cwd um)::bk (N,F)) (fdR (findF L cwd path fol).2) (sb N F'):=by
 by_cases c1:path=[]
 ·have hF:findF L cwd path fol=([],.err 10):=by simp only [findF,if_pos c1]
  rw [hF] at hA ⊢
  obtain rfl:F=F':=hA
  unfold prC
  refine gY (n:=73) (rs:=[.tmp 6,.cell 7 123]) Tryz.func90 rfl rfl (by decide) rfl rfl rfl ?_;rintro x rfl hrd hng
  rw [az]
  refine kr0 ?_
  refine ar nmd [] hng (by kernel_rfl) fun hf C S K hC1 hC hS hK=>?_;simp (disch:=first|omega|assumption) only [go_sem,Oid.ab hpp,Oid.aa hpp,hpN,hO,c1,decide_true,decide_false,ne_eq,not_true_eq_false,not_false_eq_true]
  refine hC _ _ _ (bm 10 _) (fun _ h=>by cases h) (fun _ _ h=>h.elim) ?_
  rintro _ _ ⟨rfl,rfl⟩
  exact cB rfl (jj (by show _=some _;simp (disch:=first|omega|assumption) only [go_sem,Oid.ab hpp,Oid.aa hpp,hpN,hO]) (by first|exact nbu _|exact nbA (by simp [hpN,hO.mem]) _))
 by_cases c2:200 < path.length
 ·have hF:findF L cwd path fol=([],.err 2):=by simp only [findF,if_neg c1,if_pos c2]
  rw [hF] at hA ⊢
  obtain rfl:F=F':=hA
  have e2:¬ (path.length:Int)≤200:=by omega
  unfold prC
  refine gY (n:=73) (rs:=[.tmp 6,.cell 7 123]) Tryz.func90 rfl rfl (by decide) rfl rfl rfl ?_;rintro x rfl hrd hng
  rw [az]
  refine kr0 ?_
  refine kr .o c1 (cq (bf 10 _) trivial) ?_
  refine ar nmd [] hng (by kernel_rfl) fun hf C S K hC1 hC hS hK=>?_;simp (disch:=first|omega|assumption) only [go_sem,Oid.ab hpp,Oid.aa hpp,hpN,hO,e2,decide_true,decide_false,ne_eq,not_true_eq_false,not_false_eq_true]
  refine hC _ _ _ (bm 2 _) (fun _ h=>by cases h) (fun _ _ h=>h.elim) ?_
  rintro _ _ ⟨rfl,rfl⟩
  exact cB rfl (jj (by show _=some _;simp (disch:=first|omega|assumption) only [go_sem,Oid.ab hpp,Oid.aa hpp,hpN,hO]) (by first|exact nbu _|exact nbA (by simp [hpN,hO.mem]) _))
 have hF:findF L cwd path fol=cU L (bV L fol (wkW (aJ cwd path)) (aJ cwd path)):=by simp only [findF,if_neg c1,if_neg c2]
 rw [hF] at hA ⊢
 have e2:(path.length:Int)≤200:=by omega
 obtain ⟨s1,s2⟩:=kK cwd path (by omega)
 have hpc:=fun p=>qF path (by omega) p
 have hsf:=fun p=>eP path (by omega) p
 have h0l:0 < path.length:=List.length_pos_iff.2 c1
 have hrun:∃ F1,RP st N L (bV L fol (wkW (aJ cwd path)) (aJ cwd path)).1 F F1 ∧
   match (bV L fol (wkW (aJ cwd path)) (aJ cwd path)).2 with
   | .err e=>F1=F'∧cU L (bV L fol (wkW (aJ cwd path)) (aJ cwd path))=((bV L fol (wkW (aJ cwd path)) (aJ cwd path)).1,.err e)
   | .go w=>RP st N L [(w.pl,false)] F1 F':=by
  generalize bV L fol (wkW (aJ cwd path)) (aJ cwd path)=y at hA
  obtain ⟨rd,r⟩:=y
  cases r with
  | err e=>exact ⟨F',hA,rfl,rfl⟩
  | go w=>exact aZ hA
 obtain ⟨F1,hrq,hlast⟩:=hrun
 obtain ⟨res,hres⟩:∃ res,(bV L fol (wkW (aJ cwd path)) (aJ cwd path)).2=res:=⟨_,rfl⟩
 have hfin:(cU L (bV L fol (wkW (aJ cwd path)) (aJ cwd path))).2=(cU L ([],res)).2:=by
  rw [← hres]
  generalize bV L fol (wkW (aJ cwd path)) (aJ cwd path)=y
  obtain ⟨rd,r⟩:=y
  cases r<;>rfl
 rw [hres] at hlast
 rw [hfin]
 have hw0:(aJ cwd path).pl.length+wkW (aJ cwd path)≤cwd.length+2617:=by omega
 have hst:aJ cwd path=⟨if path.getD 0 0=47 then [] else cwd,aT path,0,cK path⟩:=rfl
 generalize hK:wkW (aJ cwd path)=K at hres hrq s2 hfin
 have hKle:wkW (aJ cwd path)≤K:=by omega
 clear hfin hF hA
 unfold prC
 refine gY (n:=73) (rs:=[.tmp 6,.cell 7 123]) Tryz.func90 rfl rfl (by decide) rfl rfl rfl ?_;rintro x rfl hrd hng
 rw [az]
 refine kr0 ?_
 refine kr .o c1 (cq (bf 10 _) trivial) ?_
 refine kr .o e2 (cq (bf 2 _) trivial) ?_
 have hpp2:¬ Oid.under (.sub 1 1 (.sub 3 6 x.p)) pp:=fun h=>hpp (Oid.af (Oid.af h))
 refine kd (.d [(4,6),(4,9)] [] [0,1,7,8]) (uu hpp2) (cq (hpc _) (cq (hsf _) trivial)) ?_
 have hO3:bd (.sub 1 1 (.sub 3 6 x.p)) N:=(hO.sub 3 6).sub 1 1
 refine qI (.sub 0 0 (.sub 1 1 (.sub 3 6 x.p))) (.sub 3 11 x.p) 1 ((aT path).map AV.str) _ [.ptr pp 0,.str cwd,.list 1 ((aT path).map AV.str),.int .i64 0,.bool fol,.bool (cK path)]
  (ks (uu hpp2)) ks0 (by simp) (.keep (.keep (.iq (n:=(aT path).length) (by simp) (.keep (.keep (.keep .nil)))))) ?_
 simp (disch:=first|omega|assumption) only [go_sem,Oid.ab hpp,Oid.aa hpp,hpN,hO,hO3,Oid.ab hpp2,Oid.aa hpp2]
 refine kr0 ?_
 refine cu [0,7,8] (fun s'=>∃ c':Nat,s' = ⟨[(0,.ptr pp 0),(7,.ptr (.sub 0 1 x.p) 0),(8,.ptr (.sub 3 11 x.p) 0)],Mem.blk [(pp,.cells [.ptr st 0,.str cwd,.int .i64 um]),(.sub 0 1 x.p,.cells [.int .i64 0,.int .i64 0,.str []]),(.sub 3 11 x.p,wkC pp fol (aJ cwd path))] [(N,F)],c',[]⟩∧3 < c') ?_ ?_
 ·rw [hst]
  simp only [wkC]
  refine aK rfl rfl (fun hb=>?_) (fun hb=>?_)
  ·rw [if_pos (UInt8.toNat_inj.1 (by show _=47;omega):path.getD 0 0=47)]
   refine kw0 ?_
   exact aM ⟨_,rfl,by omega⟩
  ·rw [if_neg (fun e:path.getD 0 0=47=>hb (by rw [e];rfl))]
   refine qw0 ?_
   exact aM ⟨_,rfl,by omega⟩
 rintro s' ⟨c,rfl,hc3⟩
 (try ((first|refine zn ?_|refine ze ?_|refine zk ?_);with_reducible (constructor;repeat constructor));try refine zl ?_)
 have hwp:¬ Oid.sub 3 11 x.p=pp:=by rw [Oid.aa hpp];exact not_false
 have hwn:Oid.sub 3 11 x.p ∉ N:=hO.mem
 have hl0:(aJ cwd path).links≤8:=by rw [hst];exact Nat.zero_le _
 clear hst hpc hsf
 generalize aJ cwd path=w0 at hKle hw0 hrq hres hl0
 refine bp [0,7,8] (fun k s'=>∃ (w:Wk) (c:Nat) (G:Oid→ah),s' = ⟨[(0,.ptr pp 0),(7,.ptr (.sub 0 1 x.p) 0),(8,.ptr (.sub 3 11 x.p) 0)],Mem.blk [(pp,.cells [.ptr st 0,.str cwd,.int .i64 um]),(.sub 0 1 x.p,.cells [.int .i64 0,.int .i64 0,.str []]),(.sub 3 11 x.p,wkC pp fol w)] [(N,G)],c,[]⟩∧3 < c∧wkW w≤k∧w.links≤8∧w.pl.length+wkW w≤cwd.length+2617∧(bV L fol k w).2=res∧RP st N L (bV L fol k w).1 G F1) _ ⟨w0,_,_,rfl,hc3,hKle,hl0,hw0,hres,hrq⟩ ?_
 clear hrq hres hw0 hKle hl0 hc3 hK
 rintro k s' ⟨⟨pl,todo,l,dir⟩,c,G,rfl,hc3,hKle,hl0,hw0,hres,hrq⟩
 simp only at hl0 hw0
 simp only [wkC]
 cases todo with
 | nil =>
  have hrn:bV L fol k ⟨pl,[],l,dir⟩=([],.go ⟨pl,[],l,dir⟩):=by cases k<;>rfl
  rw [hrn] at hres hrq
  obtain rfl:G=F1:=hrq
  subst hres
  simp only at hlast
  obtain ⟨_,hat,rfl⟩:=hlast
  rename_i F2
  have hat':∀ p,p.mono=false→bd p N→aj Tryz.prog 127 [.ptr st 0,.str pl] (Oid.under p) ⟨bk (N,G),(aF L pl).av,sb N F2⟩:=hat
  simp only [cU]
  generalize aF L pl=B at hat' ⊢
  obtain ⟨ek,em,el⟩:=B
  simp only [Bits.av] at hat' ⊢
  refine kw0 ?_
  refine kd (.d [(3,9),(7,9),(8,9)] [] [0,7,8,9]) trivial (cq hat' trivial) ?_
  by_cases c4:dir=true∧¬ ek=0∧¬ ek=2
  ·rw [if_pos c4]
   obtain ⟨rfl,c5,c6⟩:=c4
   (try ((first|refine zn ?_|refine ze ?_|refine zk ?_);with_reducible (constructor;repeat constructor));try refine zl ?_)
   refine ar nmd [(5,57),(10,62)] hng (by kernel_rfl) fun hf C S K hC1 hC hS hK=>?_;simp (disch:=first|omega|assumption) only [go_sem,Oid.ab hpp,Oid.aa hpp,hpN,hO,c5,c6,decide_true,decide_false,ne_eq,not_true_eq_false,not_false_eq_true]
   refine hC _ _ _ (bm 15 _) (fun _ h=>by cases h) (fun _ _ h=>h.elim) ?_
   rintro _ _ ⟨rfl,rfl⟩
   exact cB rfl (jj (by show _=some _;simp (disch:=first|omega|assumption) only [go_sem,Oid.ab hpp,Oid.aa hpp,hpN,hO]) (by first|exact nbu _|exact nbA (by simp [hpN,hO.mem]) _))
  ·rw [if_neg c4]
   (try ((first|refine zn ?_|refine ze ?_|refine zk ?_);with_reducible (constructor;repeat constructor));try refine zl ?_)
   refine cu [0,7,8,9] (fun s'=>∃ c':Nat,s' = ⟨[(0,.ptr pp 0),(7,.ptr (.sub 0 1 x.p) 0),(8,.ptr (.sub 3 11 x.p) 0),(9,.ptr (.sub (c+1) 9 x.p) 0)],Mem.blk [(pp,.cells [.ptr st 0,.str cwd,.int .i64 um]),(.sub 0 1 x.p,.cells [.int .i64 0,.int .i64 0,.str []]),(.sub 3 11 x.p,.cells [.ptr pp 0,.str pl,.list 1 [],.int .i64 l,.bool fol,.bool dir]),(.sub (c+1) 9 x.p,.cells [.int .i64 ek,.int .i64 em,.str el])] [(N,F2)],c',[]⟩) ?_ ?_
   ·cases dir with
    | false =>
     refine kr (.d [] [(5,57),(10,62)] []) trivial (cq (bf 15 _) trivial) ?_
     exact aM ⟨_,rfl⟩
    | true =>
     by_cases c5:ek=0
     ·refine ar nmd [(5,57),(10,62)] hng (by kernel_rfl) fun hf C S K hC1 hC hS hK=>?_;simp (disch:=first|omega|assumption) only [go_sem,Oid.ab hpp,Oid.aa hpp,hpN,hO,c5,decide_true,decide_false,ne_eq,not_true_eq_false,not_false_eq_true]
      refine hC1 _ (bf 15 _) (fun _ h=>by cases h) ?_
      simp (disch:=first|omega|assumption) only [go_sem,Oid.ab hpp,Oid.aa hpp,hpN,hO]
      refine hK ?_;clear hK hS hC hC1 K S C hf
      exact aM ⟨_,by rw [c5];rfl⟩
     ·have c6:ek=2:=Decidable.of_not_not fun h=>c4 ⟨rfl,c5,h⟩
      have h20:¬ (2:Int)=0:=by decide
      refine kr (.d [] [(5,57),(10,62)] []) (ai c6 h20) (cq (bf 15 _) trivial) ?_
      exact aM ⟨_,by rw [c6];rfl⟩
   rintro s' ⟨c',rfl⟩
   refine kd (.d [] [] [6,7]) hc3 trivial ?_
   refine ay (sg (v:=.tuple [.str pl,.agg [.int .i64 ek,.int .i64 em,.str el]]) ks0 rfl (jj (by show _=some _;simp (disch:=first|omega|assumption) only [go_sem,Oid.ab hpp,Oid.aa hpp,hpN,hO]) (by first|exact nbu _|exact nbA (by simp [hpN,hO.mem]) _)))
 | cons n t =>
  have hap:∀ c i,3 < c→¬ Oid.under (.sub c i x.p) (.sub 3 11 x.p):=fun c i h hu=>by
   have:=(Oid.apart hu (Oid.aq _)).1
   omega
  have hwk:wkW ⟨pl,n::t,l,dir⟩=n.length+1+wtF t+(8 - l) * 302:=rfl
  obtain ⟨k,rfl⟩:∃ k',k=k' + 1:=⟨k - 1,by omega⟩
  have htl:=sk t
  have hrn:bV L fol (k+1) ⟨pl,n::t,l,dir⟩=match bw L fol ⟨pl,n::t,l,dir⟩ n t with
   | (rd,.err e)=>(rd,.err e)
   | (rd,.go w')=>(rd++(bV L fol k w').1,(bV L fol k w').2):=rfl
  have hgo:=fun w' rd (h:bw L fol ⟨pl,n::t,l,dir⟩ n t=(rd,.go w'))=>And.intro (lH hs hlk h) (mY h hl0)
  have hstp:=fun F2 h p hp hw hpp hO=>EZ (wk:=.sub 3 11 x.p) (pp:=pp) (st:=st) (N:=N) (F:=G) (F':=F2) hL fol pl n t l dir cwd um hwp hwn hpN hl0 (by omega) (by omega) (by omega) h p hp hw hpp hO
  rw [hrn] at hres hrq
  generalize bw L fol ⟨pl,n::t,l,dir⟩ n t=y at hres hrq hgo hstp
  obtain ⟨rd,r⟩:=y
  simp only [wkC,prC] at hstp
  have hwt:wtF (n::t)=n.length+1+wtF t:=rfl
  cases r with
  | err e =>
   subst hres
   obtain ⟨rfl,hle⟩:=hlast
   have hst2:=hstp _ hrq
   refine kw0 ?_
   refine aK rfl rfl (fun hb=>?_) (fun hb=>?_)
   case refine_2=>exact absurd (by omega) hb
   refine qw0 ?_
   refine ar nmd [] hng (by kernel_rfl) fun hf C S K hC1 hC hS hK=>?_;simp (disch:=first|omega|assumption) only [go_sem,Oid.ab hpp,Oid.aa hpp,hpN,hO]
   refine hC _ _ _ (dD.pn (hst2 _ (ax rfl hp) (hap _ _ (by omega)) (fun h=>hpp (Oid.af h)) (hO.sub _ _)) rfl) (by simp only [List.mem_cons,forall_eq_or_imp];exact ⟨by simp (disch:=first|omega|assumption) only [go_sem,Oid.ab hpp,Oid.aa hpp,hpN,hO],by simp (disch:=first|omega|assumption) only [go_sem,Oid.ab hpp,Oid.aa hpp,hpN,hO],(by first|exact nbu _|exact nbA (by simp [hpN,hO.mem]) _)⟩) (fun _ _ h=>h.elim) ?_
   rintro _ _ ⟨rfl,rfl⟩
   simp only [stM,stU]
   refine cB rfl (jj ?_ ?_)
   ·simp (disch:=first|omega|assumption) only [go_sem,Oid.ab hpp,Oid.aa hpp,hpN,hO,cj]
   ·rw [cj];exact nbu _
  | go w' =>
   obtain ⟨G2,hq1,hq2⟩:=aZ hrq
   have hst2:=hstp _ hq1
   obtain ⟨⟨g1,g2⟩,g3⟩:=hgo w' rd rfl
   have hwk':wkW w' = wtF w'.todo+(8 - w'.links) * 302:=rfl
   simp only at g1 g2
   refine kw0 ?_
   refine aK rfl rfl (fun hb=>?_) (fun hb=>?_)
   case refine_2=>exact absurd (by omega) hb
   refine qw0 ?_
   refine ar nmd [] hng (by kernel_rfl) fun hf C S K hC1 hC hS hK=>?_;simp (disch:=first|omega|assumption) only [go_sem,Oid.ab hpp,Oid.aa hpp,hpN,hO]
   refine hC1 _ (dD.ok (hst2 _ (ax rfl hp) (hap _ _ (by omega)) (fun h=>hpp (Oid.af h)) (hO.sub _ _)) rfl) (by simp only [List.mem_cons,forall_eq_or_imp];exact ⟨by simp (disch:=first|omega|assumption) only [go_sem,Oid.ab hpp,Oid.aa hpp,hpN,hO],by simp (disch:=first|omega|assumption) only [go_sem,Oid.ab hpp,Oid.aa hpp,hpN,hO],(by first|exact nbu _|exact nbA (by simp [hpN,hO.mem]) _)⟩) ?_
   simp only [stM,stU]
   simp (disch:=first|omega|assumption) only [go_sem,Oid.ab hpp,Oid.aa hpp,hpN,hO,cj]
   refine hK ?_;clear hK hS hC hC1 K S C hf
   (try ((first|refine zn ?_|refine ze ?_|refine zk ?_);with_reducible (constructor;repeat constructor));try refine zl ?_)
   exact ⟨_,_,by omega,fun _ _ h=>h,w',_,_,rfl,by omega,by omega,g3,by omega,hres,hq2⟩
end Go.Proofs.YtpficjpdfbiedaaGreatDoor
namespace Go.Proofs.YtpficjpdfbiedaaGreatDoor
open Go Go.Ab
set_option maxRecDepth 20000
set_option maxHeartbeats 4000000
theorem bE {α β:Type} (r:Rds) (a:α) (f:α→Rds × Rs β):aX (r,.go a) f=(r++(f a).1,(f a).2):=rfl
theorem ff {β:Type} {L:PL} {place:Str} {f:Unit→Rds × Rs β} (h:bX place (aF L (aO place))=0):aX (b7 L place ()) f=([(aO place,false)]++(f ()).1,(f ()).2):=by
 simp only [b7,h,not_true_eq_false,if_false];rfl
theorem fg {β:Type} {L:PL} {place:Str} {f:Unit→Rds × Rs β} (h:¬ bX place (aF L (aO place))=0):aX (b7 L place ()) f=([(aO place,false)],.err (bX place (aF L (aO place)))):=by
 simp only [b7,h,not_false_eq_true,if_true];rfl
structure KL (L:PL):Prop where
 so:aW ltB L
 lk:jJ L
 da:∀ n,(aF L n).l.length≤4000000
def HY (fP:FuncId) (o:Oid) (N:List Oid):Pts→(Oid→ah)→(Oid→ah)→Prop
 | [],F,F'=>F=F'
 | q::l,F,F'=>∃ F1,(∀ p,p.mono=false→bd p N→aj Tryz.prog fP [.ptr o 0,.str q.1,q.2.av] (Oid.under p) ⟨bk (N,F),.tuple [],sb N F1⟩)∧HY fP o N l F1 F'
abbrev PP (st:Oid) (N:List Oid):=HY 94 st N
abbrev PR (r:Oid) (M:List Oid):=HY 96 r M
section
variable {pp st:Oid} {N:List Oid} {F F1 F2:Oid→ah} {L:PL} (hK:KL L) {cwd:Str} (hc:cwd.length≤1000000) (um:Int) (hpN:pp ∉ N) {p:Oid} (hp:p.mono=false) (hpp:¬ Oid.under p pp) (hO:bd p N)
include hK hc hpN hp hpp hO
theorem fI (path:Str) (hpath:path.length≤4000000000) (fol:Bool) (hA:RP st N L (bW L cwd path fol).1 F F1) :
  dD 99 [.ptr pp 0,.str path,.bool fol] (Oid.under p) ((pp,prC st cwd um)::bk (N,F)) (fdR (bW L cwd path fol).2) (sb N F1):=by
 have hf:=fun F' h p hp hpp hO=>lK (pp:=pp) (st:=st) (N:=N) (F:=F) (F':=F') hK.so hK.lk hK.da path cwd um fol hpN hc hpath h p hp hpp hO
 unfold bW at hA ⊢
 generalize findF L cwd path fol=y at hf hA ⊢
 obtain ⟨rd,r⟩:=y
 unfold prC at hf ⊢
 cases r with
 | err e =>
  have hf':=hf _ hA
  refine gY (n:=23) (rs:=[.tmp 6,.cell 7 123]) Tryz.func99 rfl rfl (by decide) rfl rfl rfl ?_;rintro x rfl hrd hng
  rw [az]
  refine kr0 ?_
  refine ar nmd [] hng (by kernel_rfl) fun hf C S K hC1 hC hS hK=>?_;simp (disch:=first|omega|assumption) only [go_sem,Oid.ab hpp,Oid.aa hpp,hpN,hO]
  refine hC _ _ _ (dD.pn (hf' _ (ax rfl hp) (fun h=>hpp (Oid.af h)) (hO.sub _ _)) rfl) (by simp only [List.mem_cons,forall_eq_or_imp];exact ⟨by simp (disch:=first|omega|assumption) only [go_sem,Oid.ab hpp,Oid.aa hpp,hpN,hO],(by first|exact nbu _|exact nbA (by simp [hpN,hO.mem]) _)⟩) (fun _ _ h=>h.elim) ?_
  rintro _ _ ⟨rfl,rfl⟩
  exact cB rfl (jj ks0 (by first|exact nbu _|exact nbA (by simp [hpN,hO.mem]) _))
 | go a =>
  obtain ⟨F0,hA1,hA2⟩:=aZ hA
  obtain rfl:F0=F1:=hA2
  have hf':=hf _ hA1
  obtain ⟨pl,ek,em,el⟩:=a
  simp only [aX,fdR,Bits.av] at hf' ⊢
  refine gY (n:=23) (rs:=[.tmp 6,.cell 7 123]) Tryz.func99 rfl rfl (by decide) rfl rfl rfl ?_;rintro x rfl hrd hng
  rw [az]
  refine kr0 ?_
  refine kr1 hf' ?_
  by_cases c1:ek=0
  ·refine ar nmd [] hng (by kernel_rfl) fun hf C S K hC1 hC hS hK=>?_;simp (disch:=first|omega|assumption) only [go_sem,Oid.ab hpp,Oid.aa hpp,hpN,hO,c1,decide_true,decide_false,ne_eq,not_true_eq_false,not_false_eq_true]
   refine hC _ _ _ (bm 10 _) (fun _ h=>by cases h) (fun _ _ h=>h.elim) ?_
   rintro _ _ ⟨rfl,rfl⟩
   exact cB (by simp only [c1,if_true]) (jj (by show _=some _;simp (disch:=first|omega|assumption) only [go_sem,Oid.ab hpp,Oid.aa hpp,hpN,hO]) (by first|exact nbu _|exact nbA (by simp [hpN,hO.mem]) _))
  ·refine kr .o c1 (cq (bf 10 _) trivial) ?_
   refine kd (.d [] [] [6,7]) trivial trivial ?_
   refine ay (sg (v:=.tuple [.str pl,.agg [.int .i64 ek,.int .i64 em,.str el]]) ks0 (by simp only [c1,if_false]) (jj (by show _=some _;simp (disch:=first|omega|assumption) only [go_sem,Oid.ab hpp,Oid.aa hpp,hpN,hO]) (by first|exact nbu _|exact nbA (by simp [hpN,hO.mem]) _)))
omit hK hc in
theorem jK (place:Str) (hpl:place.length≤4000000000) (hA:RP st N L [(aO place,false)] F F1) :
  dD 93 [.ptr pp 0,.str place] (Oid.under p) ((pp,prC st cwd um)::bk (N,F)) (if bX place (aF L (aO place))=0 then .go (.tuple []) else .err (bX place (aF L (aO place)))) (sb N F1):=by
 obtain ⟨_,hA,rfl⟩:=hA
 rename_i F1
 have hA':∀ p,p.mono=false→bd p N→aj Tryz.prog 127 [.ptr st 0,.str (aO place)] (Oid.under p) ⟨bk (N,F),(aF L (aO place)).av,sb N F1⟩:=hA
 have hab:=fun p=>uf place hpl p
 generalize aF L (aO place)=B at hA' ⊢
 generalize aO place=A at hA' hab
 obtain ⟨ek,em,el⟩:=B
 simp only [Bits.av] at hA'
 unfold prC
 refine gY (n:=24) (rs:=[]) Tryz.func93 rfl rfl (by decide) rfl rfl rfl ?_;rintro x rfl hrd hng
 rw [az]
 refine kd (.d [(3,5),(3,7),(5,7),(6,7)] [] [1,4]) trivial (cq (hab _) (cq hA' trivial)) ?_
 by_cases c1:place=[]
 ·refine ar nmd [] hng (by kernel_rfl) fun hf C S K hC1 hC hS hK=>?_;simp (disch:=first|omega|assumption) only [go_sem,Oid.ab hpp,Oid.aa hpp,hpN,hO,c1,decide_true,decide_false,ne_eq,not_true_eq_false,not_false_eq_true]
  refine hC _ _ _ (bm 18 _) (fun _ h=>by cases h) (fun _ _ h=>h.elim) ?_
  rintro _ _ ⟨rfl,rfl⟩
  exact cB (by simp [bX,c1]) (jj (by show _=some _;simp (disch:=first|omega|assumption) only [go_sem,Oid.ab hpp,Oid.aa hpp,hpN,hO]) (by first|exact nbu _|exact nbA (by simp [hpN,hO.mem]) _))
 refine kr .o c1 (cq (bf 18 _) trivial) ?_
 by_cases c2:ek=2
 case neg =>
  refine ar nmd [] hng (by kernel_rfl) fun hf C S K hC1 hC hS hK=>?_;simp (disch:=first|omega|assumption) only [go_sem,Oid.ab hpp,Oid.aa hpp,hpN,hO,c2,decide_true,decide_false,ne_eq,not_true_eq_false,not_false_eq_true]
  refine hC _ _ _ (bm 10 _) (fun _ h=>by cases h) (fun _ _ h=>h.elim) ?_
  rintro _ _ ⟨rfl,rfl⟩
  exact cB (by simp [bX,c1,c2]) (jj (by show _=some _;simp (disch:=first|omega|assumption) only [go_sem,Oid.ab hpp,Oid.aa hpp,hpN,hO]) (by first|exact nbu _|exact nbA (by simp [hpN,hO.mem]) _))
 refine kr .o c2 (cq (bf 10 _) trivial) ?_
 by_cases c3:dL em 3=3
 case neg =>
  refine ar nmd [] hng (by kernel_rfl) fun hf C S K hC1 hC hS hK=>?_;simp (disch:=first|omega|assumption) only [go_sem,Oid.ab hpp,Oid.aa hpp,hpN,hO,c3,decide_true,decide_false,ne_eq,not_true_eq_false,not_false_eq_true]
  refine hC _ _ _ (bm 18 _) (fun _ h=>by cases h) (fun _ _ h=>h.elim) ?_
  rintro _ _ ⟨rfl,rfl⟩
  exact cB (by simp [bX,c1,c2,c3]) (jj (by show _=some _;simp (disch:=first|omega|assumption) only [go_sem,Oid.ab hpp,Oid.aa hpp,hpN,hO]) (by first|exact nbu _|exact nbA (by simp [hpN,hO.mem]) _))
 refine kr .o c3 (cq (bf 18 _) trivial) ?_
 exact b5 (lI (v:=.tuple []) rfl (by simp [bX,c1,c2,c3]) (jj (by show _=some _;simp (disch:=first|omega|assumption) only [go_sem,Oid.ab hpp,Oid.aa hpp,hpN,hO]) (by first|exact nbu _|exact nbA (by simp [hpN,hO.mem]) _)))
end
end Go.Proofs.YtpficjpdfbiedaaGreatDoor
namespace Go.Proofs.YtpficjpdfbiedaaGreatDoor
open Go Go.Ab
set_option maxRecDepth 20000
set_option maxHeartbeats 4000000
def rdS:Rs Str→Str
 | .err _=>[]
 | .go s=>s
def rdL:Rs (List Str)→List Str
 | .err _=>[]
 | .go l=>l
def rdB:Rs (Str × Bits)→Str × Bits
 | .err _=>([],Bits.no)
 | .go a=>a
def rdV (r:Rs Str):AV:=.tuple [.str (rdS r),.int .i64 (aL r)]
def lsV (r:Rs (List Str)):AV:=.tuple [.list 1 ((rdL r).map AV.str),.int .i64 (aL r)]
def fnV (r:Rs (Str × Bits)):AV:=.tuple [.str (rdB r).1,.agg [.int .i64 (rdB r).2.k,.int .i64 (rdB r).2.m,.str (rdB r).2.l],.int .i64 (aL r)]
def cdN (cwd:Str):Rs Str→Str
 | .err _=>cwd
 | .go a=>a
section
variable {pp st:Oid} {N:List Oid} {F F1 F2:Oid→ah} {L:PL} (hK:KL L) {cwd:Str} (hc:cwd.length≤1000000) (um:Int) (hpN:pp ∉ N) {p:Oid} (hp:p.mono=false) (hpp:¬ Oid.under p pp) (hO:bd p N)
include hK hc in
theorem b9 (path:Str) (fol:Bool):∀ a,(findF L cwd path fol).2 = .go a→a.1.length≤4000000000:=fun a h=>by
 have:=((iP hK.so hK.lk cwd path fol).2.2 a h).1;omega
include hK hc in
theorem eK (path:Str) (fol:Bool):∀ a,(bW L cwd path fol).2 = .go a→a.1.length≤4000000000:=fun a h=>by
 have hb:=b9 hK hc path fol
 unfold bW at h
 generalize findF L cwd path fol=y at hb h
 obtain ⟨rd,r⟩:=y
 cases r with
 | err e=>cases h
 | go b =>
  simp only [aX] at h
  split at h
  ·cases h
  ·cases h;exact hb _ rfl
include hK hc hpN hp hpp hO
theorem Cj (path:Str) (hpath:path.length≤4000000000) (hA:RP st N L (eh L cwd path).1 F F1) (hP:PP st N (cC (eh L cwd path).2) F1 F2) :
  aj Tryz.prog 49 [.ptr pp 0,.str path] (Oid.under p) ⟨(pp,prC st cwd um)::bk (N,F),.int .i64 (aL (eh L cwd path).2),sb N F2⟩:=by
 have hf:=fun F' h p hp hpp hO=>fI (pp:=pp) (st:=st) (N:=N) (F:=F) (F1:=F') hK hc um hpN (p:=p) hp hpp hO path hpath false h
 have hlen:=eK hK hc path false
 unfold eh at hA hP ⊢
 generalize bW L cwd path false=y at hf hlen hA hP ⊢
 obtain ⟨rd,r⟩:=y
 unfold prC at hf ⊢
 refine oU (n:=27) (rs:=[.cell 4 33]) Tryz.func49 rfl rfl (by decide) rfl rfl rfl ?_;rintro x rfl hrd hng
 rw [az]
 refine kr0 ?_
 refine eS hng hrd rfl rfl rfl (by kernel_rfl) (show after _ _ _ _ _ _ ⟨_,_,_,[.call (.func 89) [] [.ptr (.sub 0 0 x.p) 0]]⟩ from ?_)
 (try ((first|refine zn ?_|refine ze ?_|refine zk ?_);with_reducible (constructor;repeat constructor));try refine zl ?_)
 cases r with
 | err e =>
  obtain rfl:F1=F2:=hP
  have hf':=hf _ hA
  exact kp0 trivial trivial hf'
 | go a =>
  obtain ⟨F0,hA1,hA2⟩:=aZ hA
  have hf':=hf _ hA1
  obtain ⟨pl,ek,em,el⟩:=a
  have hpl:=hlen _ rfl
  simp only [aX,fdR,Bits.av] at hf' hA2 hP hpl ⊢
  generalize hX:(if ek=2 then (([],.err 14):Rds × Rs Pts) else b7 L pl [(pl,Bits.no)])=X at hA2 hP ⊢
  refine kr1 hf' ?_
  by_cases c1:ek=2
  ·rw [if_pos c1] at hX
   subst hX
   obtain rfl:F0=F1:=hA2
   obtain rfl:F0=F2:=hP
   exact kp0 c1 trivial (bm 14 _)
  rw [if_neg c1] at hX
  subst hX
  refine kr .o c1 (cq (bf 14 _) trivial) ?_
  have hr:=fun p hp hpp hO=>jK (pp:=pp) (st:=st) (N:=N) (F:=F0) (F1:=F1) (L:=L) (cwd:=cwd) um hpN (p:=p) hp hpp hO pl hpl hA2
  simp only [b7] at hP ⊢
  generalize bX pl (aF L (aO pl))=re at hr hP ⊢
  unfold prC at hr
  by_cases c2:re=0
  case neg =>
   rw [if_pos c2] at hP ⊢
   simp only [if_neg c2] at hr
   obtain rfl:F1=F2:=hP
   exact kp0 trivial trivial hr
  rw [if_neg (fun h=>h c2)] at hP ⊢
  simp only [if_pos c2] at hr
  obtain ⟨_,hput,rfl⟩:=hP
  simp only [Bits.av,Bits.no] at hput
  refine kr1 hr ?_
  refine kr1 hput ?_
  refine kw0 ?_
  exact kz0
end
end Go.Proofs.YtpficjpdfbiedaaGreatDoor
namespace Go.Proofs.YtpficjpdfbiedaaGreatDoor
open Go Go.Ab
set_option maxRecDepth 20000
set_option maxHeartbeats 4000000
section
variable {pp st:Oid} {N:List Oid} {F F1 F2:Oid→ah} {L:PL} (hK:KL L) {cwd:Str} (hc:cwd.length≤1000000) (um:Int) (hpN:pp ∉ N) {p:Oid} (hp:p.mono=false) (hpp:¬ Oid.under p pp) (hO:bd p N)
include hK hc hpN hp hpp hO
theorem HZ (path:Str) (hpath:path.length≤4000000000) (hA:RP st N L (lG L cwd path).1 F F1) :
  aj Tryz.prog 78 [.ptr pp 0,.str path] (Oid.under p) ⟨(pp,prC st cwd um)::bk (N,F),rdV (lG L cwd path).2,sb N F1⟩:=by
 have hf:=fun F' h p hp hpp hO=>fI (pp:=pp) (st:=st) (N:=N) (F:=F) (F1:=F') hK hc um hpN (p:=p) hp hpp hO path hpath true h
 have hlen:=eK hK hc path true
 unfold lG at hA ⊢
 generalize bW L cwd path true=y at hf hlen hA ⊢
 obtain ⟨rd,r⟩:=y
 unfold prC at hf ⊢
 refine oU (n:=25) (rs:=[.tmp 4,.cell 5 33]) Tryz.func78 rfl rfl (by decide) rfl rfl rfl ?_;rintro x rfl hrd hng
 rw [az]
 refine kr0 ?_
 refine eS hng hrd rfl rfl rfl (by kernel_rfl) (show after _ _ _ _ _ _ ⟨_,_,_,[.call (.func 89) [] [.ptr (.sub 0 1 x.p) 0]]⟩ from ?_)
 (try ((first|refine zn ?_|refine ze ?_|refine zk ?_);with_reducible (constructor;repeat constructor));try refine zl ?_)
 cases r with
 | err e =>
  have hf':=hf _ hA
  exact kp1 trivial trivial hf'
 | go a =>
  obtain ⟨F0,hA1,hA2⟩:=aZ hA
  have hf':=hf _ hA1
  obtain ⟨pl,ek,em,el⟩:=a
  have hpl:=hlen _ rfl
  simp only [bE,fdR,Bits.av] at hf' hA2 hpl ⊢
  generalize hX:((if ek=2 then .err 14 else if dL em 4=0 then .err 18 else .go el):Rs Str)=X at ⊢
  refine kr1 hf' ?_
  obtain rfl:F0=F1:=hA2
  have hA2:F0=F0:=rfl
  by_cases c1:ek=2
  ·rw [if_pos c1] at hX
   subst hX
   exact kp1 c1 trivial (bm 14 _)
  rw [if_neg c1] at hX
  refine kr .o c1 (cq (bf 14 _) trivial) ?_
  by_cases c2:dL em 4=0
  ·rw [if_pos c2] at hX
   subst hX
   exact kp1 c2 trivial (bm 18 _)
  rw [if_neg c2] at hX
  subst hX
  refine kr .o c2 (cq (bf 18 _) trivial) ?_
  refine kw0 ?_
  exact kz1
theorem vS (path:Str) (hpath:path.length≤4000000000) (hA:RP st N L (dM L cwd path).1 F F1) :
  aj Tryz.prog 83 [.ptr pp 0,.str path] (Oid.under p) ⟨(pp,prC st cwd um)::bk (N,F),rdV (dM L cwd path).2,sb N F1⟩:=by
 have hf:=fun F' h p hp hpp hO=>fI (pp:=pp) (st:=st) (N:=N) (F:=F) (F1:=F') hK hc um hpN (p:=p) hp hpp hO path hpath false h
 have hlen:=eK hK hc path false
 unfold dM at hA ⊢
 generalize bW L cwd path false=y at hf hlen hA ⊢
 obtain ⟨rd,r⟩:=y
 unfold prC at hf ⊢
 refine oU (n:=20) (rs:=[.tmp 4,.cell 5 33]) Tryz.func83 rfl rfl (by decide) rfl rfl rfl ?_;rintro x rfl hrd hng
 rw [az]
 refine kr0 ?_
 refine eS hng hrd rfl rfl rfl (by kernel_rfl) (show after _ _ _ _ _ _ ⟨_,_,_,[.call (.func 89) [] [.ptr (.sub 0 1 x.p) 0]]⟩ from ?_)
 (try ((first|refine zn ?_|refine ze ?_|refine zk ?_);with_reducible (constructor;repeat constructor));try refine zl ?_)
 cases r with
 | err e =>
  have hf':=hf _ hA
  exact kp1 trivial trivial hf'
 | go a =>
  obtain ⟨F0,hA1,hA2⟩:=aZ hA
  have hf':=hf _ hA1
  obtain ⟨pl,ek,em,el⟩:=a
  have hpl:=hlen _ rfl
  simp only [bE,fdR,Bits.av] at hf' hA2 hpl ⊢
  generalize hX:(if ¬ ek=3 then .err 19 else .go el:Rs Str)=X at ⊢
  refine kr1 hf' ?_
  obtain rfl:F0=F1:=hA2
  have hA2:F0=F0:=rfl
  by_cases c1:ek=3
  case neg =>
   rw [if_pos c1] at hX
   subst hX
   exact kp1 c1 trivial (bm 19 _)
  rw [if_neg (fun h=>h c1)] at hX
  subst hX
  refine kr .o c1 (cq (bf 19 _) trivial) ?_
  refine kw0 ?_
  exact kz1
theorem H0 (path:Str) (hpath:path.length≤4000000000) (hA:RP st N L (jI L cwd path).1 F F1) :
  aj Tryz.prog 80 [.ptr pp 0,.str path] (Oid.under p) ⟨(pp,prC st cwd um)::bk (N,F),lsV (jI L cwd path).2,sb N F1⟩:=by
 have hf:=fun F' h p hp hpp hO=>fI (pp:=pp) (st:=st) (N:=N) (F:=F) (F1:=F') hK hc um hpN (p:=p) hp hpp hO path hpath true h
 have hlen:=eK hK hc path true
 unfold jI at hA ⊢
 generalize bW L cwd path true=y at hf hlen hA ⊢
 obtain ⟨rd,r⟩:=y
 unfold prC at hf ⊢
 refine oU (n:=29) (rs:=[.tmp 4,.cell 5 33]) Tryz.func80 rfl rfl (by decide) rfl rfl rfl ?_;rintro x rfl hrd hng
 rw [az]
 refine kr0 ?_
 refine gD 4 1 rfl ?_
 refine eS hng hrd rfl rfl rfl (by kernel_rfl) (show after _ _ _ _ _ _ ⟨_,_,_,[.call (.func 89) [] [.ptr (.sub 0 1 x.p) 0]]⟩ from ?_)
 (try ((first|refine zn ?_|refine ze ?_|refine zk ?_);with_reducible (constructor;repeat constructor));try refine zl ?_)
 cases r with
 | err e =>
  have hf':=hf _ hA
  exact kp1 trivial trivial hf'
 | go a =>
  obtain ⟨F0,hA1,hA2⟩:=aZ hA
  have hf':=hf _ hA1
  obtain ⟨pl,ek,em,el⟩:=a
  have hpl:=hlen _ rfl
  simp only [bE,fdR,Bits.av] at hf' hA2 hpl ⊢
  generalize hX:(if ¬ ek=2 then (([],.err 15):Rds × Rs (List Str)) else if dL em 4=0 then ([],.err 18) else ([(pl,true)],.go (aR L pl)))=X at hA2 ⊢
  refine kr1 hf' ?_
  by_cases c1:ek=2
  case neg =>
   rw [if_pos c1] at hX
   subst hX
   obtain rfl:F0=F1:=hA2
   exact kp1 c1 trivial (bm 15 _)
  rw [if_neg (fun h=>h c1)] at hX
  refine kr .o c1 (cq (bf 15 _) trivial) ?_
  by_cases c2:dL em 4=0
  ·rw [if_pos c2] at hX
   subst hX
   obtain rfl:F0=F1:=hA2
   exact kp1 c2 trivial (bm 18 _)
  rw [if_neg c2] at hX
  subst hX
  refine kr .o c2 (cq (bf 18 _) trivial) ?_
  obtain ⟨_,hnm,rfl⟩:=hA2
  rename_i F1
  have hnm':∀ p,p.mono=false→bd p N→aj Tryz.prog 100 [.ptr st 0,.str pl] (Oid.under p) ⟨bk (N,F0),.list 1 ((aR L pl).map AV.str),sb N F1⟩:=hnm
  generalize aR L pl=NL at hnm' ⊢
  refine kr1 hnm' ?_
  refine kw0 ?_
  exact kz1
theorem IV (path:Str) (hpath:path.length≤4000000000) (fol:Bool) (hA:RP st N L (findF L cwd path fol).1 F F1) :
  aj Tryz.prog 85 [.ptr pp 0,.str path,.bool fol] (Oid.under p) ⟨(pp,prC st cwd um)::bk (N,F),fnV (findF L cwd path fol).2,sb N F1⟩:=by
 have hf:=fun F' h p hp hpp hO=>lK (pp:=pp) (st:=st) (N:=N) (F:=F) (F':=F') hK.so hK.lk hK.da path cwd um fol hpN hc hpath h p hp hpp hO
 have hlen:=b9 hK hc path fol
 generalize findF L cwd path fol=y at hf hlen hA ⊢
 obtain ⟨rd,r⟩:=y
 unfold prC at hf ⊢
 refine oU (n:=18) (rs:=[.tmp 6,.cell 7 123,.cell 8 33]) Tryz.func85 rfl rfl (by decide) rfl rfl rfl ?_;rintro x rfl hrd hng
 rw [az]
 refine kr0 ?_
 refine eS hng hrd rfl rfl rfl (by kernel_rfl) (show after _ _ _ _ _ _ ⟨_,_,_,[.call (.func 89) [] [.ptr (.sub 0 2 x.p) 0]]⟩ from ?_)
 (try ((first|refine zn ?_|refine ze ?_|refine zk ?_);with_reducible (constructor;repeat constructor));try refine zl ?_)
 cases r with
 | err e =>
  have hf':=hf _ hA
  refine ar nmd [] hng (by kernel_rfl) fun hf C S K hC1 hC hS hK=>?_;simp (disch:=first|omega|assumption) only [go_sem,Oid.ab hpp,Oid.aa hpp,hpN,hO]
  refine hC _ _ _ (dD.pn (hf' _ (ax rfl hp) (fun h=>hpp (Oid.af h)) (hO.sub _ _)) rfl) (by simp only [List.mem_cons,forall_eq_or_imp];exact ⟨by simp (disch:=first|omega|assumption) only [go_sem,Oid.ab hpp,Oid.aa hpp,hpN,hO],(by first|exact nbu _|exact nbA (by simp [hpN,hO.mem]) _)⟩) (fun _ _ h=>h.elim) ?_
  rintro _ _ ⟨rfl,rfl⟩
  simp only [fnV,rdB,Bits.no]
  exact kx2
 | go a =>
  have hf':=hf _ hA
  obtain ⟨pl,ek,em,el⟩:=a
  simp only [fdR,Bits.av] at hf'
  refine kr1 hf' ?_
  refine kd (.d [] [] [0,6,7,8]) trivial trivial ?_
  refine kw0 ?_
  exact kz2
end
end Go.Proofs.YtpficjpdfbiedaaGreatDoor
namespace Go.Proofs.YtpficjpdfbiedaaGreatDoor
open Go Go.Ab
set_option maxRecDepth 20000
set_option maxHeartbeats 4000000
section
variable {pp st:Oid} {N:List Oid} {F F1 F2:Oid→ah} {L:PL} (hK:KL L) {cwd:Str} (hc:cwd.length≤1000000) (um:Int) (hpN:pp ∉ N) {p:Oid} (hp:p.mono=false) (hpp:¬ Oid.under p pp) (hO:bd p N)
include hK hc hpN hp hpp hO
theorem Ck (path:Str) (hpath:path.length≤4000000000) (e:Bits) (hA:RP st N L (eR L cwd path e).1 F F1) (hP:PP st N (cC (eR L cwd path e).2) F1 F2) :
  aj Tryz.prog 97 [.ptr pp 0,.str path,e.av] (Oid.under p) ⟨(pp,prC st cwd um)::bk (N,F),.int .i64 (aL (eR L cwd path e).2),sb N F2⟩:=by
 have hf:=fun F' h p hp hpp hO=>lK (pp:=pp) (st:=st) (N:=N) (F:=F) (F':=F') hK.so hK.lk hK.da path cwd um false hpN hc hpath h p hp hpp hO
 have hlen:=b9 hK hc path false
 obtain ⟨ak,am,al⟩:=e
 unfold eR at hA hP ⊢
 generalize findF L cwd path false=y at hf hlen hA hP ⊢
 obtain ⟨rd,r⟩:=y
 unfold prC at hf ⊢
 simp only [Bits.av]
 refine oU (n:=29) (rs:=[.cell 6 33]) Tryz.func97 rfl rfl (by decide) rfl rfl rfl ?_;rintro x rfl hrd hng
 rw [az]
 refine kr0 ?_
 refine eS hng hrd rfl rfl rfl (by kernel_rfl) (show after _ _ _ _ _ _ ⟨_,_,_,[.call (.func 89) [] [.ptr (.sub 0 1 x.p) 0]]⟩ from ?_)
 (try ((first|refine zn ?_|refine ze ?_|refine zk ?_);with_reducible (constructor;repeat constructor));try refine zl ?_)
 cases r with
 | err e =>
  obtain rfl:F1=F2:=hP
  have hf':=hf _ hA
  exact kp1 trivial trivial hf'
 | go a =>
  obtain ⟨F0,hA1,hA2⟩:=aZ hA
  have hf':=hf _ hA1
  obtain ⟨pl,ek,em,el⟩:=a
  have hpl:=hlen _ rfl
  simp only [bE,fdR,Bits.av] at hf' hA2 hP hpl ⊢
  generalize hX:(if ¬ ek=0 then (([],.err 11):Rds × Rs Pts) else b7 L pl [(pl,⟨ak,am,al⟩)])=X at hA2 hP ⊢
  refine kr1 hf' ?_
  by_cases c1:ek=0
  case neg =>
   rw [if_pos c1] at hX
   subst hX
   obtain rfl:F0=F1:=hA2
   obtain rfl:F0=F2:=hP
   exact kp1 c1 trivial (bm 11 _)
  rw [if_neg (fun h=>h c1)] at hX
  subst hX
  refine kr .o c1 (cq (bf 11 _) trivial) ?_
  have hr:=fun p hp hpp hO=>jK (pp:=pp) (st:=st) (N:=N) (F:=F0) (F1:=F1) (L:=L) (cwd:=cwd) um hpN (p:=p) hp hpp hO pl hpl hA2
  simp only [b7] at hP ⊢
  generalize bX pl (aF L (aO pl))=re at hr hP ⊢
  unfold prC at hr
  by_cases c2:re=0
  case neg =>
   rw [if_pos c2] at hP ⊢
   simp only [if_neg c2] at hr
   obtain rfl:F1=F2:=hP
   exact kp1 trivial trivial hr
  rw [if_neg (fun h=>h c2)] at hP ⊢
  simp only [if_pos c2] at hr
  obtain ⟨_,hput,rfl⟩:=hP
  simp only [Bits.av] at hput
  refine kr1 hr ?_
  refine kd (.d [] [] [0,6]) trivial (cq hput trivial) ?_
  refine kw0 ?_
  exact kz1
theorem Fa (path:Str) (hpath:path.length≤4000000000) (mode:Int) (hA:RP st N L (fU L cwd path mode).1 F F1) (hP:PP st N (cC (fU L cwd path mode).2) F1 F2) :
  aj Tryz.prog 55 [.ptr pp 0,.str path,.int .i64 mode] (Oid.under p) ⟨(pp,prC st cwd um)::bk (N,F),.int .i64 (aL (fU L cwd path mode).2),sb N F2⟩:=by
 have hf:=fun F' h p hp hpp hO=>fI (pp:=pp) (st:=st) (N:=N) (F:=F) (F1:=F') hK hc um hpN (p:=p) hp hpp hO path hpath true h
 have hlen:=eK hK hc path true
 unfold fU at hA hP ⊢
 generalize bW L cwd path true=y at hf hlen hA hP ⊢
 obtain ⟨rd,r⟩:=y
 unfold prC at hf ⊢
 refine oU (n:=34) (rs:=[.cell 6 33]) Tryz.func55 rfl rfl (by decide) rfl rfl rfl ?_;rintro x rfl hrd hng
 rw [az]
 refine kr0 ?_
 refine eS hng hrd rfl rfl rfl (by kernel_rfl) (show after _ _ _ _ _ _ ⟨_,_,_,[.call (.func 89) [] [.ptr (.sub 0 0 x.p) 0]]⟩ from ?_)
 (try ((first|refine zn ?_|refine ze ?_|refine zk ?_);with_reducible (constructor;repeat constructor));try refine zl ?_)
 cases r with
 | err e =>
  obtain rfl:F1=F2:=hP
  have hf':=hf _ hA
  exact kp0 trivial trivial hf'
 | go a =>
  obtain ⟨F0,hA1,hA2⟩:=aZ hA
  have hf':=hf _ hA1
  obtain ⟨pl,ek,em,el⟩:=a
  have hpl:=hlen _ rfl
  simp only [bE,fdR,Bits.av] at hf' hA2 hP hpl ⊢
  generalize hX:(if ¬ (0≤mode∧mode≤7) then .err 1 else if pl=[] then .err 18 else .go [(pl,⟨ek,mode,el⟩)]:Rs Pts)=X at hP ⊢
  refine kr1 hf' ?_
  obtain rfl:F0=F1:=hA2
  have hA2:F0=F0:=rfl
  by_cases c1:0≤mode∧mode≤7
  case neg =>
   rw [if_pos c1] at hX
   subst hX
   obtain rfl:F0=F2:=hP
   by_cases c0:0≤mode
   ·have c7:¬ mode≤7:=fun h=>c1 ⟨c0,h⟩
    refine ar nmd [(2,17)] hng (by kernel_rfl) fun hf C S K hC1 hC hS hK=>?_;simp (disch:=first|omega|assumption) only [go_sem,Oid.ab hpp,Oid.aa hpp,hpN,hO,c0,c7,decide_true,decide_false,ne_eq,not_true_eq_false,not_false_eq_true]
    refine hC _ _ _ (bm 1 _) (fun _ h=>by cases h) (fun _ _ h=>h.elim) ?_
    rintro _ _ ⟨rfl,rfl⟩
    exact kx0
   ·refine ar nmd [(2,17)] hng (by kernel_rfl) fun hf C S K hC1 hC hS hK=>?_;simp (disch:=first|omega|assumption) only [go_sem,Oid.ab hpp,Oid.aa hpp,hpN,hO,c0,decide_true,decide_false,ne_eq,not_true_eq_false,not_false_eq_true]
    refine hC _ _ _ (bm 1 _) (fun _ h=>by cases h) (fun _ _ h=>h.elim) ?_
    rintro _ _ ⟨rfl,rfl⟩
    exact kx0
  rw [if_neg (fun h=>h c1)] at hX
  obtain ⟨c0,c7⟩:=c1
  refine kr (.d [] [(2,17)] []) (ai c0 c7) (cq (bf 1 _) trivial) ?_
  by_cases c2:pl=[]
  ·rw [if_pos c2] at hX
   subst hX
   obtain rfl:F0=F2:=hP
   exact kp0 c2 trivial (bm 18 _)
  rw [if_neg c2] at hX
  subst hX
  refine kr .o c2 (cq (bf 18 _) trivial) ?_
  obtain ⟨_,hput,rfl⟩:=hP
  simp only [Bits.av] at hput
  refine kr0 ?_
  refine kd (.d [] [] [0,6]) trivial (cq hput trivial) ?_
  refine kw0 ?_
  exact kz0
theorem Fb (path:Str) (hpath:path.length≤4000000000) (hA:RP st N L (fT L cwd path).1 F F1) (hP:PP st N (cC (fT L cwd path).2) F1 F2) :
  aj Tryz.prog 51 [.ptr pp 0,.str path] (Oid.under p) ⟨(pp,prC st cwd um)::bk (N,F),.int .i64 (aL (fT L cwd path).2),sb N F2⟩:=by
 have hf:=fun F' h p hp hpp hO=>fI (pp:=pp) (st:=st) (N:=N) (F:=F) (F1:=F') hK hc um hpN (p:=p) hp hpp hO path hpath false h
 have hlen:=eK hK hc path false
 unfold fT at hA hP ⊢
 generalize bW L cwd path false=y at hf hlen hA hP ⊢
 obtain ⟨rd,r⟩:=y
 unfold prC at hf ⊢
 refine oU (n:=47) (rs:=[.cell 4 33]) Tryz.func51 rfl rfl (by decide) rfl rfl rfl ?_;rintro x rfl hrd hng
 rw [az]
 refine kr0 ?_
 refine eS hng hrd rfl rfl rfl (by kernel_rfl) (show after _ _ _ _ _ _ ⟨_,_,_,[.call (.func 89) [] [.ptr (.sub 0 0 x.p) 0]]⟩ from ?_)
 (try ((first|refine zn ?_|refine ze ?_|refine zk ?_);with_reducible (constructor;repeat constructor));try refine zl ?_)
 cases r with
 | err e =>
  obtain rfl:F1=F2:=hP
  have hf':=hf _ hA
  exact kp0 trivial trivial hf'
 | go a =>
  obtain ⟨F0,hA1,hA2⟩:=aZ hA
  have hf':=hf _ hA1
  obtain ⟨pl,ek,em,el⟩:=a
  have hpl:=hlen _ rfl
  simp only [bE,fdR,Bits.av] at hf' hA2 hP hpl ⊢
  generalize hX:(if ¬ ek=2 then (([],.err 15):Rds × Rs Pts) else if pl=cwd∨pl=[] then ([],.err 18) else aX ([(pl,true)],if ¬ aR L pl=[] then .err 16 else .go ()) fun _=>b7 L pl [(pl,Bits.no)])=X at hA2 hP ⊢
  refine kr1 hf' ?_
  by_cases c1:ek=2
  case neg =>
   rw [if_pos c1] at hX
   subst hX
   obtain rfl:F0=F1:=hA2
   obtain rfl:F0=F2:=hP
   exact kp0 c1 trivial (bm 15 _)
  rw [if_neg (fun h=>h c1)] at hX
  refine kr .o c1 (cq (bf 15 _) trivial) ?_
  by_cases c2:pl=cwd∨pl=[]
  ·rw [if_pos c2] at hX
   subst hX
   obtain rfl:F0=F1:=hA2
   obtain rfl:F0=F2:=hP
   by_cases c3:pl=cwd
   ·refine ar nmd [(6,23)] hng (by kernel_rfl) fun hf C S K hC1 hC hS hK=>?_;simp (disch:=first|omega|assumption) only [go_sem,Oid.ab hpp,Oid.aa hpp,hpN,hO,c3,decide_true,decide_false,ne_eq,not_true_eq_false,not_false_eq_true]
    refine hC _ _ _ (bm 18 _) (fun _ h=>by cases h) (fun _ _ h=>h.elim) ?_
    rintro _ _ ⟨rfl,rfl⟩
    exact kx0
   ·have c4:pl=[]:=c2.resolve_left c3
    subst c4
    refine ar nmd [(6,23)] hng (by kernel_rfl) fun hf C S K hC1 hC hS hK=>?_;simp (disch:=first|omega|assumption) only [go_sem,Oid.ab hpp,Oid.aa hpp,hpN,hO,c3,decide_true,decide_false,ne_eq,not_true_eq_false,not_false_eq_true]
    refine hC _ _ _ (bm 18 _) (fun _ h=>by cases h) (fun _ _ h=>h.elim) ?_
    rintro _ _ ⟨rfl,rfl⟩
    exact kx0
  rw [if_neg c2] at hX
  rw [not_or] at c2
  obtain ⟨c3,c4⟩:=c2
  refine ar nmd [(6,23)] hng (by kernel_rfl) fun hf C S K hC1 hC hS hK=>?_;simp (disch:=first|omega|assumption) only [go_sem,Oid.ab hpp,Oid.aa hpp,hpN,hO,c3,c4,decide_true,decide_false,ne_eq,not_true_eq_false,not_false_eq_true]
  refine hC1 _ (bf 18 _) (fun _ h=>by cases h) ?_
  simp (disch:=first|omega|assumption) only [go_sem,Oid.ab hpp,Oid.aa hpp,hpN,hO]
  refine hK ?_;clear hK hS hC hC1 K S C hf
  (try ((first|refine zn ?_|refine ze ?_|refine zk ?_);with_reducible (constructor;repeat constructor));try refine zl ?_)
  subst hX
  have hnms:∃ F3,(∀ p,p.mono=false→bd p N→aj Tryz.prog 100 [.ptr st 0,.str pl] (Oid.under p) ⟨bk (N,F0),.list 1 ((aR L pl).map AV.str),sb N F3⟩) ∧
    match (if ¬ aR L pl=[] then .err 16 else .go ():Rs Unit) with
    | .err e=>F3=F1∧(aX ([(pl,true)],(if ¬ aR L pl=[] then .err 16 else .go ():Rs Unit)) fun _=>b7 L pl [(pl,Bits.no)]).2 = .err e
    | .go _=>RP st N L [(aO pl,false)] F3 F1∧(aX ([(pl,true)],(if ¬ aR L pl=[] then .err 16 else .go ():Rs Unit)) fun _=>b7 L pl [(pl,Bits.no)]).2=(b7 L pl [(pl,Bits.no)]).2:=by
   generalize (if ¬ aR L pl=[] then .err 16 else .go ():Rs Unit)=z at hA2 ⊢
   cases z with
   | err e=>obtain ⟨F3,k1,k2⟩:=hA2;exact ⟨F3,k1,k2,rfl⟩
   | go u=>obtain ⟨F3,k1,k2⟩:=hA2;exact ⟨F3,k1,k2,rfl⟩
  obtain ⟨F3,hnm,hz⟩:=hnms
  generalize aR L pl=NL at hnm hz hP ⊢
  by_cases c5:NL=[]
  case neg =>
   rw [if_pos c5] at hz
   obtain ⟨rfl,hz⟩:=hz
   rw [if_pos c5] at hP ⊢
   rw [hz] at hP ⊢
   obtain rfl:F3=F2:=hP
   have e5:¬ (NL.length:Int)=0:=fun h=>c5 (List.eq_nil_of_length_eq_zero (by omega))
   refine ar nmd [] hng (by kernel_rfl) fun hf C S K hC1 hC hS hK=>?_;simp (disch:=first|omega|assumption) only [go_sem,Oid.ab hpp,Oid.aa hpp,hpN,hO,List.length_map]
   refine hC1 _ (hnm _ (ax rfl hp) (hO.sub _ _)) (by first|exact nbu _|exact nbA (by simp [hpN,hO.mem]) _) ?_
   simp (disch:=first|omega|assumption) only [go_sem,Oid.ab hpp,Oid.aa hpp,hpN,hO,List.length_map,e5,decide_true,decide_false,ne_eq,not_true_eq_false,not_false_eq_true]
   refine hC _ _ _ (bm 16 _) (fun _ h=>by cases h) (fun _ _ h=>h.elim) ?_
   rintro _ _ ⟨rfl,rfl⟩
   exact kx0
  rw [if_neg (fun h=>h c5)] at hz
  obtain ⟨hA3,hz⟩:=hz
  rw [if_neg (fun h=>h c5)] at hP ⊢
  rw [hz] at hP ⊢
  subst c5
  refine kr .o trivial (cq hnm (cq (bf 16 _) trivial)) ?_
  have hr:=fun p hp hpp hO=>jK (pp:=pp) (st:=st) (N:=N) (F:=F3) (F1:=F1) (L:=L) (cwd:=cwd) um hpN (p:=p) hp hpp hO pl hpl hA3
  simp only [b7] at hP ⊢
  generalize bX pl (aF L (aO pl))=re at hr hP ⊢
  unfold prC at hr
  by_cases c6:re=0
  case neg =>
   rw [if_pos c6] at hP ⊢
   simp only [if_neg c6] at hr
   obtain rfl:F1=F2:=hP
   exact kp0 trivial trivial hr
  rw [if_neg (fun h=>h c6)] at hP ⊢
  simp only [if_pos c6] at hr
  obtain ⟨_,hput,rfl⟩:=hP
  simp only [Bits.av,Bits.no] at hput
  refine kr1 hr ?_
  refine kr1 hput ?_
  refine kw0 ?_
  exact kz0
end
end Go.Proofs.YtpficjpdfbiedaaGreatDoor
namespace Go.Proofs.YtpficjpdfbiedaaGreatDoor
open Go Go.Ab
set_option maxRecDepth 20000
set_option maxHeartbeats 4000000
section
variable {pp st:Oid} {N:List Oid} {F F1 F2:Oid→ah} {L:PL} (hK:KL L) {cwd:Str} (hc:cwd.length≤1000000) (um:Int) (hpN:pp ∉ N) {p:Oid} (hp:p.mono=false) (hpp:¬ Oid.under p pp) (hO:bd p N)
include hK hc hpN hp hpp hO
theorem Cl (path:Str) (hpath:path.length≤4000000000) (to':Str) (hto:to'.length≤4000000000) (hA:RP st N L (eo L cwd path to').1 F F1) (hP:PP st N (cC (eo L cwd path to').2) F1 F2) :
  aj Tryz.prog 53 [.ptr pp 0,.str path,.str to'] (Oid.under p) ⟨(pp,prC st cwd um)::bk (N,F),.int .i64 (aL (eo L cwd path to').2),sb N F2⟩:=by
 have hf:=fun F' h p hp hpp hO=>fI (pp:=pp) (st:=st) (N:=N) (F:=F) (F1:=F') hK hc um hpN (p:=p) hp hpp hO path hpath false h
 have hlen:=eK hK hc path false
 have hf2:=fun F0 F' h p hp hpp hO=>lK (pp:=pp) (st:=st) (N:=N) (F:=F0) (F':=F') hK.so hK.lk hK.da to' cwd um false hpN hc hto h p hp hpp hO
 have hlen2:=b9 hK hc to' false
 have hsf:=fun p=>eP to' (by omega) p
 unfold eo at hA hP ⊢
 generalize bW L cwd path false=y at hf hlen hA hP ⊢
 obtain ⟨rd,r⟩:=y
 unfold prC at hf ⊢
 generalize findF L cwd to' false=y2 at hf2 hlen2 hA hP ⊢
 obtain ⟨rd2,r2⟩:=y2
 unfold prC at hf2
 refine oU (n:=63) (rs:=[.cell 6 33]) Tryz.func53 rfl rfl (by decide) rfl rfl rfl ?_;rintro x rfl hrd hng
 rw [az]
 refine kr0 ?_
 refine eS hng hrd rfl rfl rfl (by kernel_rfl) (show after _ _ _ _ _ _ ⟨_,_,_,[.call (.func 89) [] [.ptr (.sub 0 0 x.p) 0]]⟩ from ?_)
 (try ((first|refine zn ?_|refine ze ?_|refine zk ?_);with_reducible (constructor;repeat constructor));try refine zl ?_)
 cases r with
 | err e =>
  obtain rfl:F1=F2:=hP
  have hf':=hf _ hA
  exact kp0 trivial trivial hf'
 | go a =>
  obtain ⟨F0,hA1,hA2⟩:=aZ hA
  have hf':=hf _ hA1
  obtain ⟨pl,ek,em,el⟩:=a
  have hpl:=hlen _ rfl
  simp only [bE,fdR,Bits.av] at hf' hA2 hP hpl ⊢
  refine kr1 hf' ?_
  by_cases c1:ek=2
  ·rw [if_pos c1] at hA2 hP ⊢
   obtain rfl:F0=F1:=hA2
   obtain rfl:F0=F2:=hP
   exact kp0 c1 trivial (bm 14 _)
  rw [if_neg c1] at hA2 hP ⊢
  refine kr .o c1 (cq (bf 14 _) trivial) ?_
  cases r2 with
  | err e =>
   obtain rfl:F1=F2:=hP
   have hf2':=hf2 _ _ hA2
   exact kp0 trivial trivial hf2'
  | go b =>
   obtain ⟨F3,hB1,hB2⟩:=aZ hA2
   have hf2':=hf2 _ _ hB1
   obtain ⟨pl2,ek2,em2,el2⟩:=b
   have hpl2:=hlen2 _ rfl
   simp only [bE,fdR,Bits.av] at hf2' hB2 hP hpl2 ⊢
   refine kr1 hf2' ?_
   by_cases c2:ek2=2
   ·rw [if_pos c2] at hB2 hP ⊢
    obtain rfl:F3=F1:=hB2
    obtain rfl:F3=F2:=hP
    exact kp0 c2 trivial (bm 14 _)
   rw [if_neg c2] at hB2 hP ⊢
   refine kr .o c2 (cq (bf 14 _) trivial) ?_
   generalize cK to' = es at hsf hB2 hP ⊢
   by_cases c3:ek2=0∧es=true
   ·rw [if_pos c3] at hB2 hP ⊢
    obtain ⟨c4,rfl⟩:=c3
    obtain rfl:F3=F1:=hB2
    obtain rfl:F3=F2:=hP
    refine ar nmd [(3,34)] hng (by kernel_rfl) fun hf C S K hC1 hC hS hK=>?_;simp (disch:=first|omega|assumption) only [go_sem,Oid.ab hpp,Oid.aa hpp,hpN,hO,c4,decide_true,decide_false,ne_eq,not_true_eq_false,not_false_eq_true]
    refine hC1 _ (hsf _) (fun _ h=>by cases h) ?_
    simp (disch:=first|omega|assumption) only [go_sem,Oid.ab hpp,Oid.aa hpp,hpN,hO,decide_true,decide_false,ne_eq,not_true_eq_false,not_false_eq_true]
    refine hC _ _ _ (bm 15 _) (fun _ h=>by cases h) (fun _ _ h=>h.elim) ?_
    rintro _ _ ⟨rfl,rfl⟩
    exact kx0
   rw [if_neg c3] at hB2 hP ⊢
   refine cu [0,6,7,8,9] (fun s'=>∃ c':Nat,s' = ⟨[(0,.ptr pp 0),(6,.ptr (.sub 0 0 x.p) 0),(7,.str pl),(8,.ptr (.sub 2 6 x.p) 0),(9,.str pl2)],Mem.blk [(pp,.cells [.ptr st 0,.str cwd,.int .i64 um]),(.sub 0 0 x.p,.cells [.int .i64 0]),(.sub 2 6 x.p,.cells [.int .i64 ek,.int .i64 em,.str el]),(.sub 4 6 x.p,.cells [.int .i64 ek2,.int .i64 em2,.str el2])] [(N,F3)],c',[.call (.func 89) [] [.ptr (.sub 0 0 x.p) 0]]⟩∧4 < c') ?_ ?_
   ·by_cases c4:ek2=0
    ·have hes:es=false:=by
      cases es with
      | false=>rfl
      | true=>exact absurd ⟨c4,rfl⟩ c3
     subst hes
     refine ar nmd [(3,34)] hng (by kernel_rfl) fun hf C S K hC1 hC hS hK=>?_;simp (disch:=first|omega|assumption) only [go_sem,Oid.ab hpp,Oid.aa hpp,hpN,hO,c4,decide_true,decide_false,ne_eq,not_true_eq_false,not_false_eq_true]
     refine hC1 _ (hsf _) (fun _ h=>by cases h) ?_
     simp (disch:=first|omega|assumption) only [go_sem,Oid.ab hpp,Oid.aa hpp,hpN,hO,decide_true,decide_false,ne_eq,not_true_eq_false,not_false_eq_true]
     refine hC1 _ (bf 15 _) (fun _ h=>by cases h) ?_
     simp (disch:=first|omega|assumption) only [go_sem,Oid.ab hpp,Oid.aa hpp,hpN,hO]
     refine hK ?_;clear hK hS hC hC1 K S C hf
     exact aM ⟨_,by rw [c4];rfl,by omega⟩
    ·refine ar nmd [(3,34)] hng (by kernel_rfl) fun hf C S K hC1 hC hS hK=>?_;simp (disch:=first|omega|assumption) only [go_sem,Oid.ab hpp,Oid.aa hpp,hpN,hO,c4,decide_true,decide_false,ne_eq,not_true_eq_false,not_false_eq_true]
     refine hC1 _ (bf 15 _) (fun _ h=>by cases h) ?_
     simp (disch:=first|omega|assumption) only [go_sem,Oid.ab hpp,Oid.aa hpp,hpN,hO]
     refine hK ?_;clear hK hS hC hC1 K S C hf
     exact aM ⟨_,rfl,by omega⟩
   rintro s' ⟨c',rfl,hc'⟩
   (try ((first|refine zn ?_|refine ze ?_|refine zk ?_);with_reducible (constructor;repeat constructor));try refine zl ?_)
   by_cases c9:bX pl (aF L (aO pl))=0
   case neg =>
    rw [fg c9] at hB2 hP ⊢
    have hr:=fun p hp hpp hO=>jK (pp:=pp) (st:=st) (N:=N) (F:=F3) (F1:=F1) (L:=L) (cwd:=cwd) um hpN (p:=p) hp hpp hO pl hpl hB2
    simp only [if_neg c9] at hr
    generalize bX pl (aF L (aO pl))=re at hr hP ⊢
    unfold prC at hr
    obtain rfl:F1=F2:=hP
    exact kp0 trivial trivial hr
   rw [ff c9] at hB2 hP ⊢
   obtain ⟨F4,hC1',hC2'⟩:=aZ hB2
   have hr:=fun p hp hpp hO=>jK (pp:=pp) (st:=st) (N:=N) (F:=F3) (F1:=F4) (L:=L) (cwd:=cwd) um hpN (p:=p) hp hpp hO pl hpl hC1'
   simp only [if_pos c9] at hr
   unfold prC at hr
   refine kr1 hr ?_
   clear hr
   have hr:=fun p hp hpp hO=>jK (pp:=pp) (st:=st) (N:=N) (F:=F4) (F1:=F1) (L:=L) (cwd:=cwd) um hpN (p:=p) hp hpp hO pl2 hpl2 hC2'
   simp only [b7] at hP ⊢
   generalize bX pl2 (aF L (aO pl2))=re at hr hP ⊢
   unfold prC at hr
   by_cases c10:re=0
   case neg =>
    rw [if_pos c10] at hP ⊢
    simp only [if_neg c10] at hr
    obtain rfl:F1=F2:=hP
    exact kp0 trivial trivial hr
   rw [if_neg (fun h=>h c10)] at hP ⊢
   simp only [if_pos c10] at hr
   refine kr1 hr ?_
   refine kw0 ?_
   by_cases c11:pl=pl2
   ·rw [if_pos c11] at hP
    obtain rfl:F1=F2:=hP
    refine aK rfl rfl (fun hb=>?_) (fun hb=>?_)
    ·exact absurd c11 hb
    ·refine kw0 ?_
     exact kz0
   rw [if_neg c11] at hP
   obtain ⟨F5,hput1,F6,hput2,rfl⟩:=hP
   simp only [Bits.av,Bits.no] at hput1 hput2
   refine aK rfl rfl (fun hb=>?_) (fun hb=>?_)
   case refine_2=>exact absurd hb (fun h=>h c11)
   refine kr1 hput1 ?_
   refine kd (.d [] [] [0,6]) trivial (cq hput2 trivial) ?_
   refine kw0 ?_
   exact kz0
end
end Go.Proofs.YtpficjpdfbiedaaGreatDoor
namespace Go.Proofs.YtpficjpdfbiedaaGreatDoor
open Go Go.Ab
set_option maxRecDepth 20000
set_option maxHeartbeats 4000000
section
variable {pp st:Oid} {N:List Oid} {F F1 F2:Oid→ah} {L:PL} (hK:KL L) {cwd:Str} (hc:cwd.length≤1000000) (um:Int) (hpN:pp ∉ N) {p:Oid} (hp:p.mono=false) (hpp:¬ Oid.under p pp) (hO:bd p N)
include hK hc hpN hp hpp hO
theorem xw (path:Str) (hpath:path.length≤4000000000) (data:Str) (hdata:data.length≤4000000000) (more:Bool) (hA:RP st N L (fe L cwd um path data more).1 F F1) (hP:PP st N (cC (fe L cwd um path data more).2) F1 F2) :
  aj Tryz.prog 43 [.ptr pp 0,.str path,.str data,.bool more] (Oid.under p) ⟨(pp,prC st cwd um)::bk (N,F),.int .i64 (aL (fe L cwd um path data more).2),sb N F2⟩:=by
 have hf:=fun F' h p hp hpp hO=>lK (pp:=pp) (st:=st) (N:=N) (F:=F) (F':=F') hK.so hK.lk hK.da path cwd um true hpN hc hpath h p hp hpp hO
 have hlen:=b9 hK hc path true
 have hsf:=fun p=>eP path (by omega) p
 have hda:=hK.da
 have hdl:∀ a,(findF L cwd path true).2 = .go a→a.2.l.length≤4000000:=fun a h=>by
  rw [((iP hK.so hK.lk cwd path true).2.2 a h).2];exact hda _
 unfold fe at hA hP ⊢
 generalize findF L cwd path true=y at hf hlen hdl hA hP ⊢
 obtain ⟨rd,r⟩:=y
 unfold prC at hf ⊢
 refine oU (n:=60) (rs:=[.cell 8 33]) Tryz.func43 rfl rfl (by decide) rfl rfl rfl ?_;rintro x rfl hrd hng
 rw [az]
 refine kr0 ?_
 refine eS hng hrd rfl rfl rfl (by kernel_rfl) (show after _ _ _ _ _ _ ⟨_,_,_,[.call (.func 89) [] [.ptr (.sub 0 0 x.p) 0]]⟩ from ?_)
 (try ((first|refine zn ?_|refine ze ?_|refine zk ?_);with_reducible (constructor;repeat constructor));try refine zl ?_)
 cases r with
 | err e =>
  obtain rfl:F1=F2:=hP
  have hf':=hf _ hA
  exact kp0 trivial trivial hf'
 | go a =>
  obtain ⟨F0,hA1,hA2⟩:=aZ hA
  have hf':=hf _ hA1
  obtain ⟨pl,ek,em,el⟩:=a
  have hpl:=hlen _ rfl
  have hel:=hdl _ rfl
  simp only [bE,fdR,Bits.av] at hf' hA2 hP hpl hel ⊢
  refine kr1 hf' ?_
  by_cases c1:ek=2
  ·rw [if_pos c1] at hA2 hP ⊢
   obtain rfl:F0=F1:=hA2
   obtain rfl:F0=F2:=hP
   exact kp0 c1 trivial (bm 14 _)
  rw [if_neg c1] at hA2 hP ⊢
  refine kr .o c1 (cq (bf 14 _) trivial) ?_
  refine kw0 ?_
  refine cu [0,2,3,8,9,10] (fun s'=>∃ (c':Nat) (e':Bits),s' = ⟨[(0,.ptr pp 0),(2,.str data),(3,.bool more),(8,.ptr (.sub 0 0 x.p) 0),(9,.str pl),(10,.ptr (.sub 2 6 x.p) 0)],Mem.blk [(pp,.cells [.ptr st 0,.str cwd,.int .i64 um]),(.sub 0 0 x.p,.cells [.int .i64 0]),(.sub 2 6 x.p,.cells [.int .i64 e'.k,.int .i64 e'.m,.str e'.l])] [(N,F1)],c',[.call (.func 89) [] [.ptr (.sub 0 0 x.p) 0]]⟩∧2 < c'∧e'.l.length≤4000000 ∧
    (if ek=0 then (if cK path=true then (([],.err 14):Rds × Rs Pts) else aX (b7 L pl ()) fun _=>([],dx pl ⟨1,bH 6 um,[]⟩ more data)) else if dL em 2=0 then ([],.err 18) else ([],dx pl ⟨ek,em,el⟩ more data)).2=dx pl e' more data) ?_ ?_
  ·refine aK rfl rfl (fun hb=>?_) (fun hb=>?_)
   ·rw [if_pos hb] at hA2 hP ⊢
    subst hb
    generalize cK path=es at hsf hA2 hP ⊢
    (try ((first|refine zn ?_|refine ze ?_|refine zk ?_);with_reducible (constructor;repeat constructor));try refine zl ?_)
    cases es with
    | true =>
     rw [if_pos rfl] at hA2 hP ⊢
     obtain rfl:F0=F1:=hA2
     obtain rfl:F0=F2:=hP
     exact kp0 trivial (cq (hsf _) trivial) (bm 14 _)
    | false =>
     rw [if_neg Bool.false_ne_true] at hA2 hP ⊢
     refine kr .o trivial (cq (hsf _) (cq (bf 14 _) trivial)) ?_
     by_cases c9:bX pl (aF L (aO pl))=0
     case neg =>
      rw [fg c9] at hA2 hP ⊢
      have hr:=fun p hp hpp hO=>jK (pp:=pp) (st:=st) (N:=N) (F:=F0) (F1:=F1) (L:=L) (cwd:=cwd) um hpN (p:=p) hp hpp hO pl hpl hA2
      simp only [if_neg c9] at hr
      generalize bX pl (aF L (aO pl))=re at hr hP ⊢
      unfold prC at hr
      obtain rfl:F1=F2:=hP
      exact kp0 trivial trivial hr
     rw [ff c9] at hA2 hP ⊢
     obtain ⟨F4,hC1',hC2'⟩:=aZ hA2
     obtain rfl:F4=F1:=hC2'
     have hr:=fun p hp hpp hO=>jK (pp:=pp) (st:=st) (N:=N) (F:=F0) (F1:=F4) (L:=L) (cwd:=cwd) um hpN (p:=p) hp hpp hO pl hpl hC1'
     simp only [if_pos c9] at hr
     unfold prC at hr
     refine kr1 hr ?_
     refine kw0 ?_
     exact aM ⟨_,⟨1,bH 6 um,[]⟩,rfl,by omega,by simp,rfl⟩
   ·rw [if_neg hb] at hA2 hP ⊢
    (try ((first|refine zn ?_|refine ze ?_|refine zk ?_);with_reducible (constructor;repeat constructor));try refine zl ?_)
    by_cases c2:dL em 2=0
    ·rw [if_pos c2] at hA2 hP ⊢
     obtain rfl:F0=F1:=hA2
     obtain rfl:F0=F2:=hP
     exact kp0 c2 trivial (bm 18 _)
    rw [if_neg c2] at hA2 hP ⊢
    obtain rfl:F0=F1:=hA2
    refine kr .o c2 (cq (bf 18 _) trivial) ?_
    exact aM ⟨_,⟨ek,em,el⟩,rfl,by omega,hel,rfl⟩
  rintro s' ⟨c',e',rfl,hc',hel',hres⟩
  rw [hres] at hP ⊢
  obtain ⟨k',m',l'⟩:=e'
  simp only at hel' ⊢
  unfold dx at hP ⊢
  refine kr0 ?_
  refine cu [0,2,8,9,10] (fun s'=>∃ c':Nat,s' = ⟨[(0,.ptr pp 0),(2,.str (mX ⟨k',m',l'⟩ more data)),(8,.ptr (.sub 0 0 x.p) 0),(9,.str pl),(10,.ptr (.sub 2 6 x.p) 0)],Mem.blk [(pp,.cells [.ptr st 0,.str cwd,.int .i64 um]),(.sub 0 0 x.p,.cells [.int .i64 0]),(.sub 2 6 x.p,.cells [.int .i64 k',.int .i64 m',.str l'])] [(N,F1)],c',[.call (.func 89) [] [.ptr (.sub 0 0 x.p) 0]]⟩∧2 < c') ?_ ?_
  ·cases more with
   | true =>
    refine kw0 ?_
    exact aM ⟨_,rfl,by omega⟩
   | false =>
    refine kw0 ?_
    exact aM ⟨_,rfl,by omega⟩
  clear hc' c'
  rintro s' ⟨c',rfl,hc'⟩
  generalize mX ⟨k',m',l'⟩ more data=D at hP ⊢
  (try ((first|refine zn ?_|refine ze ?_|refine zk ?_);with_reducible (constructor;repeat constructor));try refine zl ?_)
  by_cases c5:100000 < D.length
  ·rw [if_pos c5] at hP ⊢
   obtain rfl:F1=F2:=hP
   have e5:¬ (D.length:Int)≤100000:=by omega
   exact kp0 e5 trivial (bm 2 _)
  rw [if_neg c5] at hP ⊢
  have e5:(D.length:Int)≤100000:=by omega
  obtain ⟨_,hput,rfl⟩:=hP
  simp only [Bits.av] at hput
  refine kr .o e5 (cq (bf 2 _) trivial) ?_
  refine kr0 ?_
  refine kd (.d [] [] [0,8]) trivial (cq hput trivial) ?_
  refine kw0 ?_
  exact kz0
end
end Go.Proofs.YtpficjpdfbiedaaGreatDoor
namespace Go.Proofs.YtpficjpdfbiedaaGreatDoor
open Go Go.Ab
set_option maxRecDepth 20000
set_option maxHeartbeats 4000000
section
variable {p pp q:Oid} {o o':ah} {N:List Oid} {F G:Oid→ah} {fr:List (Nat × AV)} {m:Mem} {c:Nat} {z e:Int} {val:AV} {rs:List ResultVar}
theorem kL (hu:¬ Oid.under (.sub c 0 p) q) (hq:m q=some (.cells [.int .i64 z])) (h1:fD Tryz.prog (m.set q (some (.cells [.int .i64 e]))) fr rs=some val)
  (h3:m pp=some o') (h4:∀ x,x ∈ bk (N,G)→m x.1=some x.2) (hqp:¬ pp=q) (hqN:q ∉ N) :
  qP Tryz.prog p rs ((pp,o)::bk (N,F)) (fun v u=>v=val∧u=(pp,some o')::sb N G) (fun _ _=>False) (.panic (pT e)) ⟨fr,m,c,[.call (.func 89) [] [.ptr q 0]]⟩ :=
 ⟨_,_,_,_,rfl,lJ q z _ hu,fun x hx=>by rw [List.mem_singleton.1 hx];exact hq,_,⟨e,rfl,rfl⟩,val,_,h1,⟨rfl,rfl⟩,eQ (A0:=[(pp,o)]) (U:=[(pp,some o')]) (fun x hx w h=>by
  rw [List.mem_singleton.1 hx] at h ⊢
  show (m.set q _) pp=_
  simp only [Mem.set,if_neg hqp];rw [← h];exact h3) (fun x hx h=>by
  rw [List.mem_singleton.1 hx] at h
  exact absurd rfl (h _ (List.mem_singleton.2 rfl))) fun x hx=>by
  show (m.set q _) x.1=_
  simp only [Mem.set]
  rw [if_neg fun e:x.1=q=>hqN (e ▸ (bU.1 hx).1)];exact h4 x hx⟩
end
section
variable {pp st:Oid} {N:List Oid} {F F1 F2:Oid→ah} {L:PL} (hK:KL L) {cwd:Str} (hc:cwd.length≤1000000) (um:Int) (hpN:pp ∉ N) {p:Oid} (hp:p.mono=false) (hpp:¬ Oid.under p pp) (hO:bd p N)
include hK hc hpN hp hpp hO
theorem Fe (path:Str) (hpath:path.length≤4000000000) (hA:RP st N L (cE L cwd path).1 F F1) :
  aj Tryz.prog 57 [.ptr pp 0,.str path] (Oid.under p) ⟨(pp,prC st cwd um)::bk (N,F),.int .i64 (aL (cE L cwd path).2),(pp,some (prC st (cdN cwd (cE L cwd path).2) um))::sb N F1⟩:=by
 have hf:=fun F' h p hp hpp hO=>fI (pp:=pp) (st:=st) (N:=N) (F:=F) (F1:=F') hK hc um hpN (p:=p) hp hpp hO path hpath true h
 have hlen:=eK hK hc path true
 unfold cE at hA ⊢
 generalize bW L cwd path true=y at hf hlen hA ⊢
 obtain ⟨rd,r⟩:=y
 unfold prC at hf ⊢
 refine oU (n:=26) (rs:=[.cell 4 33]) Tryz.func57 rfl rfl (by decide) rfl rfl rfl ?_;rintro x rfl hrd hng
 rw [az]
 refine kr0 ?_
 refine eS hng hrd rfl rfl rfl (by kernel_rfl) (show after _ _ _ _ _ _ ⟨_,_,_,[.call (.func 89) [] [.ptr (.sub 0 0 x.p) 0]]⟩ from ?_)
 (try ((first|refine zn ?_|refine ze ?_|refine zk ?_);with_reducible (constructor;repeat constructor));try refine zl ?_)
 cases r with
 | err e =>
  have hf':=hf _ hA
  refine ar nmd [] hng (by kernel_rfl) fun hf C S K hC1 hC hS hK=>?_;simp (disch:=first|omega|assumption) only [go_sem,Oid.ab hpp,Oid.aa hpp,hpN,hO]
  refine hC _ _ _ (dD.pn (hf' _ (ax rfl hp) (fun h=>hpp (Oid.af h)) (hO.sub _ _)) rfl) (by simp only [List.mem_cons,forall_eq_or_imp];exact ⟨by simp (disch:=first|omega|assumption) only [go_sem,Oid.ab hpp,Oid.aa hpp,hpN,hO],(by first|exact nbu _|exact nbA (by simp [hpN,hO.mem]) _)⟩) (fun _ _ h=>h.elim) ?_
  rintro _ _ ⟨rfl,rfl⟩
  simp only [aX,cdN]
  exact kL (z:=0) (e:=_) (cL (by omega)).2.1 (by show _=some _;simp (disch:=first|omega|assumption) only [go_sem,Oid.ab hpp,Oid.aa hpp,hpN,hO]) (by simp (disch:=first|omega|assumption) only [go_sem,Oid.ab hpp,Oid.aa hpp,hpN,hO,aL,aX,cC,rdV,lsV,fnV,rdS,rdB,rdL]) (by show _=some _;(try simp only [cdN]);simp (disch:=first|omega|assumption) only [go_sem,Oid.ab hpp,Oid.aa hpp,hpN,hO]) (by first|exact nbu _|exact nbA (by simp [hpN,hO.mem]) _) ks0 hO.mem
 | go a =>
  obtain ⟨F0,hA1,hA2⟩:=aZ hA
  obtain rfl:F0=F1:=hA2
  have hf':=hf _ hA1
  obtain ⟨pl,ek,em,el⟩:=a
  simp only [bE,fdR,Bits.av] at hf' ⊢
  refine kr1 hf' ?_
  by_cases c1:ek=2
  case neg =>
   rw [if_pos c1]
   refine ar nmd [] hng (by kernel_rfl) fun hf C S K hC1 hC hS hK=>?_;simp (disch:=first|omega|assumption) only [go_sem,Oid.ab hpp,Oid.aa hpp,hpN,hO,c1,decide_true,decide_false,ne_eq,not_true_eq_false,not_false_eq_true]
   refine hC _ _ _ (bm 15 _) (fun _ h=>by cases h) (fun _ _ h=>h.elim) ?_
   rintro _ _ ⟨rfl,rfl⟩
   exact kL (z:=0) (e:=_) (cL (by omega)).2.1 (by show _=some _;simp (disch:=first|omega|assumption) only [go_sem,Oid.ab hpp,Oid.aa hpp,hpN,hO]) (by simp (disch:=first|omega|assumption) only [go_sem,Oid.ab hpp,Oid.aa hpp,hpN,hO,aL,aX,cC,rdV,lsV,fnV,rdS,rdB,rdL]) (by show _=some _;(try simp only [cdN]);simp (disch:=first|omega|assumption) only [go_sem,Oid.ab hpp,Oid.aa hpp,hpN,hO]) (by first|exact nbu _|exact nbA (by simp [hpN,hO.mem]) _) ks0 hO.mem
  rw [if_neg (fun h=>h c1)]
  refine kr .o c1 (cq (bf 15 _) trivial) ?_
  by_cases c2:dL em 1=0
  ·rw [if_pos c2]
   refine ar nmd [] hng (by kernel_rfl) fun hf C S K hC1 hC hS hK=>?_;simp (disch:=first|omega|assumption) only [go_sem,Oid.ab hpp,Oid.aa hpp,hpN,hO,c2,decide_true,decide_false,ne_eq,not_true_eq_false,not_false_eq_true]
   refine hC _ _ _ (bm 18 _) (fun _ h=>by cases h) (fun _ _ h=>h.elim) ?_
   rintro _ _ ⟨rfl,rfl⟩
   exact kL (z:=0) (e:=_) (cL (by omega)).2.1 (by show _=some _;simp (disch:=first|omega|assumption) only [go_sem,Oid.ab hpp,Oid.aa hpp,hpN,hO]) (by simp (disch:=first|omega|assumption) only [go_sem,Oid.ab hpp,Oid.aa hpp,hpN,hO,aL,aX,cC,rdV,lsV,fnV,rdS,rdB,rdL]) (by show _=some _;(try simp only [cdN]);simp (disch:=first|omega|assumption) only [go_sem,Oid.ab hpp,Oid.aa hpp,hpN,hO]) (by first|exact nbu _|exact nbA (by simp [hpN,hO.mem]) _) ks0 hO.mem
  rw [if_neg c2]
  refine kr .o c2 (cq (bf 18 _) trivial) ?_
  refine kw0 ?_
  refine ay (zi (z:=0) (cL (by omega)).2.1 (by show _=some _;simp (disch:=first|omega|assumption) only [go_sem,Oid.ab hpp,Oid.aa hpp,hpN,hO]) (by simp (disch:=first|omega|assumption) only [go_sem,Oid.ab hpp,Oid.aa hpp,hpN,hO,aL]) (by show _=some _;(try simp only [cdN]);simp (disch:=first|omega|assumption) only [go_sem,Oid.ab hpp,Oid.aa hpp,hpN,hO]) (by first|exact nbu _|exact nbA (by simp [hpN,hO.mem]) _))
theorem xx (path:Str) (hpath:path.length≤4000000000) (hA:RP st N L (fS L cwd um path).1 F F1) (hP:PP st N (cC (fS L cwd um path).2) F1 F2) :
  aj Tryz.prog 45 [.ptr pp 0,.str path] (Oid.under p) ⟨(pp,prC st cwd um)::bk (N,F),.int .i64 (aL (fS L cwd um path).2),sb N F2⟩:=by
 have hm:=fun p hp hpp hO=>Ck (pp:=pp) (st:=st) (N:=N) (F:=F) (F1:=F1) (F2:=F2) hK hc um hpN (p:=p) hp hpp hO path hpath _ hA hP
 unfold fS at hA hP ⊢
 generalize aL (eR L cwd path ⟨2,bH 7 um,[]⟩).2=E at hm ⊢
 simp only [Bits.av] at hm
 unfold prC at hm ⊢
 refine aA (n:=14) (rs:=[.tmp 4]) Tryz.func45 rfl rfl (by decide) rfl rfl rfl ?_;rintro x rfl hrd hng
 rw [az]
 refine kr0 ?_
 refine kr1 hm ?_
 refine ay (dh rfl (by show _=some _;simp (disch:=first|omega|assumption) only [go_sem,Oid.ab hpp,Oid.aa hpp,hpN,hO]) (by first|exact nbu _|exact nbA (by simp [hpN,hO.mem]) _))
theorem qQ (path:Str) (hpath:path.length≤4000000000) (target:Str) (ht:target.length≤4000000000) (hA:RP st N L (b8 L cwd target path).1 F F1) (hP:PP st N (cC (b8 L cwd target path).2) F1 F2) :
  aj Tryz.prog 47 [.ptr pp 0,.str target,.str path] (Oid.under p) ⟨(pp,prC st cwd um)::bk (N,F),.int .i64 (aL (b8 L cwd target path).2),sb N F2⟩:=by
 have hsf:=fun p=>eP path (by omega) p
 unfold b8 at hA hP ⊢
 by_cases c1:target=[]∨200 < target.length
 ·rw [if_pos c1] at hA hP ⊢
  obtain rfl:F=F1:=hA
  obtain rfl:F=F2:=hP
  unfold prC
  refine aA (n:=23) (rs:=[.tmp 6]) Tryz.func47 rfl rfl (by decide) rfl rfl rfl ?_;rintro x rfl hrd hng
  rw [az]
  refine kr0 ?_
  by_cases c2:target=[]
  ·refine kr (.d [] [(2,10)] []) c2 trivial ?_
   refine kw0 ?_
   refine ay (dh rfl (by show _=some _;simp (disch:=first|omega|assumption) only [go_sem,Oid.ab hpp,Oid.aa hpp,hpN,hO]) (by first|exact nbu _|exact nbA (by simp [hpN,hO.mem]) _))
  ·have e2:(200:Int) < (target.length:Int):=by have:=c1.resolve_left c2;omega
   refine kr (.d [] [(2,10)] []) (ai c2 e2) trivial ?_
   refine kw0 ?_
   refine ay (dh rfl (by show _=some _;simp (disch:=first|omega|assumption) only [go_sem,Oid.ab hpp,Oid.aa hpp,hpN,hO]) (by first|exact nbu _|exact nbA (by simp [hpN,hO.mem]) _))
 rw [if_neg c1] at hA hP ⊢
 rw [not_or] at c1
 obtain ⟨c2,c3⟩:=c1
 have e2:¬ (200:Int) < (target.length:Int):=by omega
 generalize cK path=es at hsf hA hP ⊢
 cases es with
 | true =>
  rw [if_pos rfl] at hA hP ⊢
  obtain rfl:F=F1:=hA
  obtain rfl:F=F2:=hP
  unfold prC
  refine aA (n:=23) (rs:=[.tmp 6]) Tryz.func47 rfl rfl (by decide) rfl rfl rfl ?_;rintro x rfl hrd hng
  rw [az]
  refine kr0 ?_
  refine kr (.d [] [(2,10)] []) (ai c2 e2) trivial ?_
  refine kw0 ?_
  refine kr1 (hsf _) ?_
  refine kw0 ?_
  refine ay (dh rfl (by show _=some _;simp (disch:=first|omega|assumption) only [go_sem,Oid.ab hpp,Oid.aa hpp,hpN,hO]) (by first|exact nbu _|exact nbA (by simp [hpN,hO.mem]) _))
 | false =>
  rw [if_neg Bool.false_ne_true] at hA hP ⊢
  have hm:=fun p hp hpp hO=>Ck (pp:=pp) (st:=st) (N:=N) (F:=F) (F1:=F1) (F2:=F2) hK hc um hpN (p:=p) hp hpp hO path hpath _ hA hP
  generalize aL (eR L cwd path ⟨3,7,target⟩).2=E at hm ⊢
  simp only [Bits.av] at hm
  unfold prC at hm ⊢
  refine aA (n:=23) (rs:=[.tmp 6]) Tryz.func47 rfl rfl (by decide) rfl rfl rfl ?_;rintro x rfl hrd hng
  rw [az]
  refine kr0 ?_
  refine kr (.d [] [(2,10)] []) (ai c2 e2) trivial ?_
  refine kw0 ?_
  refine kr1 (hsf _) ?_
  refine kw0 ?_
  refine kr1 hm ?_
  refine ay (dh rfl (by show _=some _;simp (disch:=first|omega|assumption) only [go_sem,Oid.ab hpp,Oid.aa hpp,hpN,hO]) (by first|exact nbu _|exact nbA (by simp [hpN,hO.mem]) _))
omit hK hpN in
theorem IW:aj Tryz.prog 87 [.ptr pp 0] (Oid.under p) ⟨[(pp,prC st cwd um)],.str (Ce cwd),[]⟩:=by
 unfold prC Ce
 cases cwd with
 | nil =>
  refine aA (n:=15) (rs:=[.tmp 2]) Tryz.func87 rfl rfl (by decide) rfl rfl rfl ?_;rintro x rfl hrd hng
  refine qr0 ?_
  refine qd (.d [] [] [2]) trivial trivial ?_
  refine ay (aP rfl ?_ ?_)
  ·intro q hq;cases hq
  ·intro q hq _;rw [List.mem_singleton.1 hq];simp [Mem.ao]
 | cons b cwd =>
  have e1:¬ (((cwd.length+1:Nat):Int) < 1):=by omega
  simp only [List.length_cons] at hc
  refine aA (n:=15) (rs:=[.tmp 2]) Tryz.func87 rfl rfl (by decide) rfl rfl rfl ?_;rintro x rfl hrd hng
  refine qr0 ?_
  refine qd (.d [] [] [2]) e1 trivial ?_
  refine ay (aP ?_ ?_ ?_)
  ·simp [fD,pG,Av,F]
  ·intro q hq;cases hq
  ·intro q hq _;rw [List.mem_singleton.1 hq];simp [Mem.ao]
end
end Go.Proofs.YtpficjpdfbiedaaGreatDoor
namespace Go.Proofs.YtpficjpdfbiedaaGreatDoor
open Go Go.Ab
set_option maxRecDepth 20000
set_option maxHeartbeats 4000000
theorem FZ (s:Str) (hs:s.length≤4000000000) (p:Oid):aj Tryz.prog 123 [.str s] (Oid.under p) ⟨[],.str (aO s),[]⟩:=by
 refine aA (n:=18) (rs:=[.tmp 2]) Tryz.func123 rfl rfl (by decide) rfl rfl rfl ?_;rintro x rfl hrd hng
 refine qw0 ?_
 refine bp [0,3] (fun k s'=>∃ c:Nat,s' = ⟨[(0,.str s),(3,.int .i64 ((k:Int) - 1))],Mem.of [],c,[]⟩∧k≤s.length∧dW s 47 s.length=dW s 47 k) _ ⟨_,rfl,Nat.le_refl _,rfl⟩ ?_
 rintro k s' ⟨c,rfl,hk,hl⟩
 refine qw0 ?_
 refine aK rfl rfl (fun hb=>?_) (fun hb=>?_)
 ·obtain ⟨k,rfl⟩:∃ k',k=k' + 1:=⟨k - 1,by omega⟩
  have e1:(((k+1:Nat):Int) - 1).toNat=k:=by omega
  have e2:(((k+1:Nat):Int) - 1)=(k:Int):=by omega
  simp only [e2]
  have hkl:k < s.length:=by omega
  refine qw0 ?_
  refine aK rfl rfl (fun hb=>?_) (fun hb=>?_)
  ·have h47:s.getD k 0=47:=UInt8.toNat_inj.1 (by show _=47;omega)
   rw [dW,if_pos h47] at hl
   refine qw0 ?_
   exact ay (bS (congrArg AV.str (by unfold aO;rw [hl];simp)))
  ·have h47:¬ s.getD k 0=47:=fun e=>hb (by rw [e];rfl)
   rw [dW,if_neg h47] at hl
   refine qw0 ?_
   exact ⟨k,_,by omega,fun _ _ h=>h,_,rfl,by omega,hl⟩
 ·obtain rfl:k=0:=by omega
  refine qw0 ?_
  exact ay (bS (congrArg AV.str (by unfold aO;rw [hl];simp [dW])))
theorem vT {cur:Str} (h:(47:UInt8) ∉ cur):aT cur=if cur=[] then [] else [cur]:=by
 unfold aT
 rw [jB h]
 cases cur<;>simp
theorem vU {cur:Str} (u:Str) (h:(47:UInt8) ∉ cur):aT (cur++(47::u))=(if cur=[] then [] else [cur])++aT u:=by
 unfold aT
 rw [kJ u h]
 cases cur<;>simp
theorem uh {s:Str} {f i:Nat} (hf:f≤i) (hi:i≤s.length) (hn:(47:UInt8) ∉ (s.take i).drop f) (h:i=s.length∨s.getD i 0=47) :
  aT (s.drop f)=(if (s.take i).drop f=[] then [] else [(s.take i).drop f])++aT (s.drop (i+1)):=by
 have e:s.drop f=(s.take i).drop f++s.drop i:=by
  conv=>lhs;rw [← List.take_append_drop i s]
  rw [List.drop_append_of_le_length (by rw [List.length_take];omega)]
 rw [e]
 by_cases hl:i=s.length
 ·subst hl
  have hz:s.drop (s.length+1)=[]:=List.drop_eq_nil_of_le (by omega)
  have hz2:aT []=[]:=rfl
  rw [List.drop_length,List.append_nil,vT hn,hz,hz2,List.append_nil]
 ·have h47:=h.resolve_left hl
  have hd:s.drop i=47::s.drop (i+1):=by
   rw [List.drop_eq_getElem_cons (by omega)]
   rw [List.getD_eq_getElem?_getD,List.getElem?_eq_getElem (by omega),Option.getD_some] at h47
   rw [h47]
  rw [hd,vU _ hn]
theorem oX (s:Str) (hs:s.length≤4000000) (p:Oid):bQ Tryz.prog 121 [.str s] (Oid.under p) []
  (fun v u=>∃ id,Oid.under p id∧v = .tuple [.sl id 1 (aT s).length,.bool (cK s)]∧u=[(id,some (.arr 1 ((aT s).map AV.str)))]) (fun _ _=>False):=by
 refine gY (n:=46) (rs:=[.tmp 2,.tmp 3]) Tryz.func121 rfl rfl (by decide) rfl rfl rfl ?_;rintro x rfl hrd hng
 refine qw0 ?_
 refine l4 4 1 rfl ?_
 simp (disch:=first|omega|assumption) only [go_sem]
 refine bp [0,4,5,6] (fun k s'=>∃ (i f d j c:Nat) (done:List Str),k=s.length+1 - i∧i≤s.length+1∧f≤i∧(i=s.length+1→f=s.length+1)∧d < c∧done.length≤i∧(47:UInt8) ∉ (s.take i).drop f∧aT s=done++aT (s.drop f) ∧
   s' = ⟨[(0,.str s),(4,.sl (.sub d j x.p) 1 done.length),(5,.int .i64 f),(6,.int .i64 i)],Mem.of [(.sub d j x.p,.arr 1 (done.map AV.str))],c,[]⟩) _ ⟨0,0,4,0,_,[],rfl,Nat.zero_le _,Nat.le_refl _,by omega,by omega,Nat.le_refl _,by simp,rfl,rfl⟩ ?_
 rintro k s' ⟨i,f,d,j,c,done,rfl,hi,hf,hfi,hdc,hdl,hno,hpc,rfl⟩
 refine qw0 ?_
 refine aK rfl rfl (fun hb=>?_) (fun hb=>?_)
 ·have hile:i≤s.length:=by omega
  (try ((first|refine zn ?_|refine ze ?_|refine zk ?_);with_reducible (constructor;repeat constructor));try refine zl ?_)
  refine cu [0,4,5,6,22] (fun s'=>∃ c':Nat,s' = ⟨[(0,.str s),(4,.sl (.sub d j x.p) 1 done.length),(5,.int .i64 f),(6,.int .i64 i),(22,.bool (decide (i=s.length∨s.getD i 0=47)))],Mem.of [(.sub d j x.p,.arr 1 (done.map AV.str))],c',[]⟩∧d < c') ?_ ?_
  ·refine ar nmd [(4,17)] hng (by kernel_rfl) fun hf C S K hC1 hC hS hK=>?_;simp (disch:=first|omega|assumption) only [go_sem]
   (repeat' (first|(refine bJ (fun hv=>?_) (fun hv=>?_)<;>(try simp only [zb1,zb2,zb3,zb4,zb5] at hv)<;>simp (disch:=first|omega|assumption) only [go_sem,hv])|(refine hK ?_;clear hK hS hC hC1 K S C hf)))
   ·rw [show decide (i=s.length∨s.getD i 0=47)=decide (((s.getD i 0).toNat:Int)=47) from decide_eq_decide.2 ⟨fun h=>by
      rcases h with h|h
      ·exact absurd (by omega) hv
      ·rw [h];rfl,fun h=>.inr (UInt8.toNat_inj.1 (by show _=47;omega))⟩]
    exact aM ⟨_,rfl,by omega⟩
   ·have hil:i=s.length:=by omega
    subst hil
    rw [show decide (s.length=s.length∨s.getD s.length 0=47)=true from decide_eq_true (.inl rfl)]
    exact aM ⟨_,rfl,by omega⟩
  clear hdc c
  rintro s' ⟨c,rfl,hdc⟩
  refine aK rfl rfl (fun hb=>?_) (fun hb=>?_)
  ·have hst:=uh hf hile hno hb
   have hno2:(47:UInt8) ∉ (s.take (i+1)).drop (i+1):=by
    rw [List.drop_eq_nil_of_le (by rw [List.length_take];omega)];simp
   rw [hst,← List.append_assoc] at hpc
   refine qw0 ?_
   refine aK rfl rfl (fun hb=>?_) (fun hb=>?_)
   ·have hne:¬ (s.take i).drop f=[]:=fun e=>by
     have:=congrArg List.length e
     rw [List.length_drop,List.length_take,List.length_nil] at this;omega
    rw [if_neg hne] at hpc
    have e1:((i:Int)).toNat=i:=by omega
    have e2:((f:Int)).toNat=f:=by omega
    refine qw0 ?_
    exact ⟨_,_,by omega,fun _ _ h=>h,i+1,i+1,c+1,6,c+1+1+1+1,done++[(s.take i).drop f],rfl,by omega,by omega,by omega,by omega,by simp;omega,hno2,hpc,by rw [List.map_append,List.length_append];rfl⟩
   ·have hne:(s.take i).drop f=[]:=List.drop_eq_nil_of_le (by rw [List.length_take];omega)
    rw [if_pos hne,List.append_nil] at hpc
    refine qw0 ?_
    exact ⟨_,_,by omega,fun _ _ h=>h,i+1,i+1,d,j,_,done,rfl,by omega,by omega,by omega,by omega,by omega,hno2,hpc,rfl⟩
  ·have hil:i < s.length:=by have:¬ i=s.length:=fun e=>hb (.inl e);omega
   have h47:¬ s.getD i 0=47:=fun e=>hb (.inr e)
   refine qw0 ?_
   refine ⟨_,_,by omega,fun _ _ h=>h,i+1,f,d,j,_,done,rfl,by omega,by omega,by omega,by omega,by omega,?_,hpc,rfl⟩
   have hg:s[i]? = some (s.getD i 0):=by rw [List.getD_eq_getElem?_getD,List.getElem?_eq_getElem hil];rfl
   rw [List.take_add_one,hg,List.drop_append_of_le_length (by rw [List.length_take];omega)]
   simp only [Option.toList_some,List.mem_append,List.mem_singleton,not_or]
   exact ⟨hno,fun e=>h47 e.symm⟩
 ·obtain rfl:=hfi (by omega)
  have hp0:aT (s.drop (s.length+1))=[]:=by rw [List.drop_eq_nil_of_le (by omega)];rfl
  rw [hp0,List.append_nil] at hpc
  rw [hpc]
  refine qw0 ?_
  by_cases h0:s=[]
  ·subst h0
   refine qd (.d [] [(3,38)] [2,3]) trivial trivial ?_
   refine qw0 ?_
   refine ay (bR _ [(.sub d j x.p,some (.arr 1 (done.map AV.str)))] (by simp (disch:=first|omega|assumption) only [go_sem];rfl) ⟨_,Oid.af (Oid.aq _),rfl,rfl⟩ fun i o h=>?_)
   simpa [Mem.of,Mem.aH,Mem.set,Mem.emp] using h
  ·have hl:0 < s.length:=List.length_pos_iff.2 h0
   have e1:((s.length:Int) - 1).toNat=s.length - 1:=by omega
   have e3:((s.length - 1:Nat):Int)=(s.length:Int) - 1:=by omega
   refine qd (.d [] [(3,38)] [2,3]) (ai h0 e1) trivial ?_
   refine qw0 ?_
   refine ay (bR _ [(.sub d j x.p,some (.arr 1 (done.map AV.str)))] (by simp (disch:=first|omega|assumption) only [go_sem];rfl) ⟨_,Oid.af (Oid.aq _),by
    unfold cK
    rw [decide_eq_true hl,Bool.true_and]
    rw [show decide (((s.getD (s.length - 1) 0).toNat:Int)=47)=decide (s.getD (s.length - 1) 0=47) from decide_eq_decide.2 ⟨fun h=>UInt8.toNat_inj.1 (by show _=47;omega),fun h=>by rw [h];rfl⟩],rfl⟩ fun i o h=>?_)
   simpa [Mem.of,Mem.aH,Mem.set,Mem.emp] using h
end Go.Proofs.YtpficjpdfbiedaaGreatDoor
namespace Go.Proofs.YtpficjpdfbiedaaGreatDoor
open Go Go.Ab
set_option maxRecDepth 20000
set_option maxHeartbeats 4000000
theorem vV {m:Int} (h:0≤m∧m≤7):dL m 3=3↔¬ dL m 2=0∧¬ dL m 1=0:=by
 have:m=0∨m=1∨m=2∨m=3∨m=4∨m=5∨m=6∨m=7:=by omega
 rcases this with rfl|rfl|rfl|rfl|rfl|rfl|rfl|rfl<;>decide
theorem ui {E:List (Oid × ah)} {Bs:List Bk} (hE:∀ e ∈ E,∀ B ∈ Bs,e.1 ∉ B.1):∀ A:List (Oid × ah),∀ i o,Mem.blk A Bs i=some o→Mem.blk (A++E) Bs i=some o
 | [],i,o,h=>by
  rw [List.nil_append]
  have hin:∃ B ∈ Bs,i ∈ B.1:=by
   clear hE
   induction Bs with
   | nil=>cases h
   | cons B Bs ih =>
    obtain ⟨N,F⟩:=B
    rw [bu] at h
    split at h
    ·exact ⟨_,List.mem_cons_self,‹_›⟩
    ·obtain ⟨B,h1,h2⟩:=ih h;exact ⟨B,List.mem_cons_of_mem _ h1,h2⟩
  obtain ⟨B,h1,h2⟩:=hin
  induction E with
  | nil=>exact h
  | cons e E ih =>
   rw [Mem.dT,if_neg fun e':i=e.1=>hE e List.mem_cons_self B h1 (e' ▸ h2)]
   exact ih fun e he=>hE e (List.mem_cons_of_mem _ he)
 | a::A,i,o,h=>by
  rw [List.cons_append,Mem.dT]
  rw [Mem.dT] at h
  split at h
  ·rw [if_pos ‹_›];exact h
  ·rw [if_neg ‹_›];exact ui hE A i o h
theorem zm (L:PL) (fol:Bool) (w:Wk) (n:Str) (t:List Str):∃ rd r,bw L fol w n t=((w.pl,false)::rd,r):=by
 unfold bw
 repeat' split
 all_goals exact ⟨_,_,rfl⟩
section
variable {pp st:Oid} {N:List Oid} {F F1 F2:Oid→ah} {L:PL} {cwd:Str} (um:Int) (hpN:pp ∉ N) {p:Oid} (hp:p.mono=false) (hpp:¬ Oid.under p pp) (hO:bd p N)
include hpN hp hpp hO
theorem vW (pl:Str) (hA:RR' st N L [(pl,false)] F F1) :
  aj Tryz.prog 122 [.ptr pp 0,.str pl] (Oid.under p) ⟨(pp,prC st cwd um)::bk (N,F),.int .i64 (inE (aF L pl)),sb N F1⟩:=by
 obtain ⟨_,hA,rfl⟩:=hA
 rename_i F1
 have hA':∀ p,p.mono=false→bd p N→aj Tryz.prog 124 [.ptr st 0,.str pl] (Oid.under p) ⟨bk (N,F),(aF L pl).av,sb N F1⟩:=hA
 generalize aF L pl=B at hA' ⊢
 obtain ⟨ek,em,el⟩:=B
 simp only [Bits.av] at hA'
 unfold prC inE
 refine aA (n:=25) (rs:=[.tmp 4]) Tryz.func122 rfl rfl (by decide) rfl rfl rfl ?_;rintro x rfl hrd hng
 rw [az]
 refine kr0 ?_
 refine kr1 hA' ?_
 refine kw0 ?_
 by_cases c1:ek=0
 ·rw [if_pos c1]
  refine aK rfl rfl (fun hb=>?_) (fun hb=>?_)
  case refine_2=>exact absurd c1 hb
  refine kw0 ?_
  exact kq
 rw [if_neg c1]
 refine aK rfl rfl (fun hb=>?_) (fun hb=>?_)
 case refine_1=>exact absurd hb c1
 refine kw0 ?_
 by_cases c2:ek=2
 case neg =>
  rw [if_pos c2]
  refine aK rfl rfl (fun hb=>?_) (fun hb=>?_)
  case refine_2=>exact absurd c2 hb
  refine kw0 ?_
  exact kq
 rw [if_neg (fun h=>h c2)]
 refine aK rfl rfl (fun hb=>?_) (fun hb=>?_)
 case refine_1=>exact absurd c2 hb
 refine kw0 ?_
 by_cases c3:dL em 1=0
 ·rw [if_pos c3]
  refine aK rfl rfl (fun hb=>?_) (fun hb=>?_)
  case refine_2=>exact absurd c3 hb
  refine kw0 ?_
  exact kq
 rw [if_neg c3]
 refine aK rfl rfl (fun hb=>?_) (fun hb=>?_)
 case refine_1=>exact absurd hb c3
 refine kw0 ?_
 exact kq
theorem dY (hm:∀ n,0≤(aF L n).m∧(aF L n).m≤7) (pl:Str) (hpl:pl.length≤4000000000) (hA:RR' st N L [(aO pl,false)] F F1) :
  aj Tryz.prog 95 [.ptr pp 0,.str pl] (Oid.under p) ⟨(pp,prC st cwd um)::bk (N,F),.int .i64 (bX pl (aF L (aO pl))),sb N F1⟩:=by
 obtain ⟨_,hA,rfl⟩:=hA
 rename_i F1
 have hA':∀ p,p.mono=false→bd p N→aj Tryz.prog 124 [.ptr st 0,.str (aO pl)] (Oid.under p) ⟨bk (N,F),(aF L (aO pl)).av,sb N F1⟩:=hA
 have hab:=fun p=>FZ pl hpl p
 have hmm:=hm (aO pl)
 generalize aF L (aO pl)=B at hA' hmm ⊢
 generalize aO pl=A at hA' hab
 obtain ⟨ek,em,el⟩:=B
 simp only [Bits.av] at hA' hmm
 have h3:=vV hmm
 unfold prC bX
 refine aA (n:=31) (rs:=[.tmp 4]) Tryz.func95 rfl rfl (by decide) rfl rfl rfl ?_;rintro x rfl hrd hng
 rw [az]
 refine kr0 ?_
 refine kd (.d [(3,5),(3,7),(5,7),(6,7)] [] [0,1,5]) trivial (cq (hab _) (cq hA' trivial)) ?_
 refine kw0 ?_
 by_cases c1:pl=[]
 ·rw [if_pos c1]
  refine aK rfl rfl (fun hb=>?_) (fun hb=>?_)
  case refine_2=>exact absurd c1 hb
  refine kw0 ?_
  exact kq
 rw [if_neg c1]
 refine aK rfl rfl (fun hb=>?_) (fun hb=>?_)
 case refine_1=>exact absurd hb c1
 refine kw0 ?_
 by_cases c2:ek=2
 case neg =>
  rw [if_pos c2]
  refine aK rfl rfl (fun hb=>?_) (fun hb=>?_)
  case refine_2=>exact absurd c2 hb
  refine kw0 ?_
  exact kq
 rw [if_neg (fun h=>h c2)]
 refine aK rfl rfl (fun hb=>?_) (fun hb=>?_)
 case refine_1=>exact absurd c2 hb
 refine kw0 ?_
 by_cases c3:dL em 2=0
 ·rw [if_pos (fun h=>(h3.1 h).1 c3)]
  refine kr (.d [] [(4,25)] []) c3 trivial ?_
  refine kw0 ?_
  exact kq
 by_cases c4:dL em 1=0
 ·rw [if_pos (fun h=>(h3.1 h).2 c4)]
  refine ar nmd [(4,25)] hng (by kernel_rfl) fun hf C S K hC1 hC hS hK=>?_;simp (disch:=first|omega|assumption) only [go_sem,Oid.ab hpp,Oid.aa hpp,hpN,hO,c3,c4,eq_self,decide_true,decide_false,ne_eq,not_true_eq_false,not_false_eq_true]
  refine hK ?_;clear hK hS hC hC1 K S C hf
  refine kw0 ?_
  exact kq
 ·rw [if_neg (fun h=>h (h3.2 ⟨c3,c4⟩))]
  refine ar nmd [(4,25)] hng (by kernel_rfl) fun hf C S K hC1 hC hS hK=>?_;simp (disch:=first|omega|assumption) only [go_sem,Oid.ab hpp,Oid.aa hpp,hpN,hO,c3,c4,eq_self,decide_true,decide_false,ne_eq,not_true_eq_false,not_false_eq_true]
  refine hK ?_;clear hK hS hC hC1 K S C hf
  refine kw0 ?_
  exact kq
end
end Go.Proofs.YtpficjpdfbiedaaGreatDoor
namespace Go.Proofs.YtpficjpdfbiedaaGreatDoor
open Go Go.Ab
set_option maxRecDepth 20000
set_option maxHeartbeats 8000000
def rdT (L:PL) (fol:Bool) (k:Nat) (rd:Rds):Rs Wk→Rds
 | .err _=>rd
 | .go w=>rd++(bV L fol k w).1
def rsT (L:PL) (fol:Bool) (k:Nat):Rs Wk→Rs Wk
 | .err e=>.err e
 | .go w=>(bV L fol k w).2
theorem dr {pp st:Oid} {N:List Oid} {F F':Oid→ah} {L:PL} (hK:KL L) (path cwd:Str) (um:Int) (fol:Bool) (hpN:pp ∉ N) (hc:cwd.length≤1000000) (hpath:path.length≤4000000000)
  (hA:RR' st N L (findF L cwd path fol).1 F F') (p:Oid) (hp:p.mono=false) (hpp:¬ Oid.under p pp) (hO:bd p N) :
  aj Tryz.prog 86 [.ptr pp 0,.str path,.bool fol] (Oid.under p) ⟨(pp,prC st cwd um)::bk (N,F),fnV (findF L cwd path fol).2,sb N F'⟩:=by
 by_cases c1:path=[]
 ·have hF:findF L cwd path fol=([],.err 10):=by simp only [findF,if_pos c1]
  rw [hF] at hA ⊢
  obtain rfl:F=F':=hA
  unfold prC
  refine aA (n:=149) (rs:=[.tmp 6,.cell 7 123,.tmp 8]) Tryz.func86 rfl rfl (by decide) rfl rfl rfl ?_;rintro x rfl hrd hng
  rw [az]
  refine kw c1 ?_
  exact kq
 by_cases c2:200 < path.length
 ·have hF:findF L cwd path fol=([],.err 2):=by simp only [findF,if_neg c1,if_pos c2]
  rw [hF] at hA ⊢
  obtain rfl:F=F':=hA
  have e2:(200:Int) < (path.length:Int):=by omega
  unfold prC
  refine aA (n:=149) (rs:=[.tmp 6,.cell 7 123,.tmp 8]) Tryz.func86 rfl rfl (by decide) rfl rfl rfl ?_;rintro x rfl hrd hng
  rw [az]
  refine kw (ai c1 e2) ?_
  exact kq
 have hF:findF L cwd path fol=cU L (bV L fol (wkW (aJ cwd path)) (aJ cwd path)):=by simp only [findF,if_neg c1,if_neg c2]
 rw [hF] at hA ⊢
 have e2:¬ (200:Int) < (path.length:Int):=by omega
 obtain ⟨s1,s2⟩:=kK cwd path (by omega)
 have hpc:=fun p=>oX path (by omega) p
 have h0l:0 < path.length:=List.length_pos_iff.2 c1
 have hrun:∃ F1,RR' st N L (bV L fol (wkW (aJ cwd path)) (aJ cwd path)).1 F F1 ∧
   match (bV L fol (wkW (aJ cwd path)) (aJ cwd path)).2 with
   | .err e=>F1=F'
   | .go w=>RR' st N L [(w.pl,false)] F1 F':=by
  generalize bV L fol (wkW (aJ cwd path)) (aJ cwd path)=y at hA
  obtain ⟨rd,r⟩:=y
  cases r with
  | err e=>exact ⟨F',hA,rfl⟩
  | go w=>exact aZ hA
 obtain ⟨F1,hrq,hlast⟩:=hrun
 obtain ⟨res,hres⟩:∃ res,(bV L fol (wkW (aJ cwd path)) (aJ cwd path)).2=res:=⟨_,rfl⟩
 have hfin:(cU L (bV L fol (wkW (aJ cwd path)) (aJ cwd path))).2=(cU L ([],res)).2:=by
  rw [← hres]
  generalize bV L fol (wkW (aJ cwd path)) (aJ cwd path)=y
  obtain ⟨rd,r⟩:=y
  cases r<;>rfl
 rw [hres] at hlast
 rw [hfin]
 have hw0:(aJ cwd path).pl.length+wkW (aJ cwd path)≤cwd.length+2617:=by omega
 have hst:aJ cwd path=⟨if path.getD 0 0=47 then [] else cwd,aT path,0,cK path⟩:=rfl
 have hplen:(aT path).length≤path.length+1:=by
  have h1:=iY 47 path
  have h2:=List.length_filter_le (fun t:Str=>!t.isEmpty) (a7 47 path)
  unfold aT;omega
 generalize hK':wkW (aJ cwd path)=K at hres hrq s2 hfin
 have hKle:wkW (aJ cwd path)≤K:=by omega
 clear hfin hF hA
 unfold prC
 refine aA (n:=149) (rs:=[.tmp 6,.cell 7 123,.tmp 8]) Tryz.func86 rfl rfl (by decide) rfl rfl rfl ?_;rintro x rfl hrd hng
 rw [az]
 refine kw (ai c1 (ai e2 h0l)) ?_
 refine cu [0,1,2,7,9] (fun s'=>∃ c':Nat,s' = ⟨[(0,.ptr pp 0),(1,.str path),(2,.bool fol),(7,.ptr (.sub 0 1 x.p) 0),(9,.str (aJ cwd path).pl)],Mem.blk ([(pp,.cells [.ptr st 0,.str cwd,.int .i64 um]),(.sub 0 1 x.p,.cells [.int .i64 0,.int .i64 0,.str []])]) [(N,F)],c',[]⟩∧4 < c') ?_ ?_
 ·rw [hst]
  refine aK rfl rfl (fun hb=>?_) (fun hb=>?_)
  ·rw [if_pos (UInt8.toNat_inj.1 (by show _=47;omega):path.getD 0 0=47)]
   refine kw0 ?_
   exact aM ⟨_,rfl,by omega⟩
  ·rw [if_neg (fun e:path.getD 0 0=47=>hb (by rw [e];rfl))]
   refine qw0 ?_
   exact aM ⟨_,rfl,by omega⟩
 rintro s' ⟨c,rfl,hc4⟩
 (try ((first|refine zn ?_|refine ze ?_|refine zk ?_);with_reducible (constructor;repeat constructor));try refine zl ?_)
 refine ar nmd [] hng (by kernel_rfl) fun hf C S K hC1 hC hS hK=>?_;simp (disch:=first|omega|assumption) only [go_sem,Oid.ab hpp,Oid.aa hpp,hpN,hO]
 refine hC _ _ _ (hpc _) (fun _ h=>by cases h) ?_ (fun _ _ h=>h.elim)
 rintro _ _ ⟨id,hid,rfl,rfl⟩
 have i1:¬ id=pp:=fun e=>hpp (Oid.af (e ▸ hid))
 have i2:id ∉ N:=fun h=>hO id h (Oid.af hid)
 have i3:¬ id = .sub 0 1 x.p:=fun e=>by
  subst e
  have:=(Oid.apart hid (Oid.aq _)).1;omega
 simp (disch:=first|omega|assumption) only [go_sem,Oid.ab hpp,Oid.aa hpp,hpN,hO,i1,i2,i3]
 refine hK ?_;clear hK hS hC hC1 K S C hf
 refine kw (ai i1 (ai i2 i3)) ?_
 refine gR id 1 ((aT path).map AV.str) (ks (ai i1 (ai i2 i3))) ?_
 simp (disch:=first|omega|assumption) only [go_sem,Oid.ab hpp,Oid.aa hpp,hpN,hO,i1,i2,i3]
 have hl0:(aJ cwd path).links≤8:=by rw [hst];exact Nat.zero_le _
 refine bp [0,2,7,9,10,11,12] (fun k s'=>∃ (w:Wk) (c:Nat) (G:Oid→ah),s' = ⟨[(0,.ptr pp 0),(2,.bool fol),(7,.ptr (.sub 0 1 x.p) 0),(9,.str w.pl),(10,.list 1 (w.todo.map AV.str)),(11,.bool w.dir),(12,.int .i64 w.links)],Mem.blk ([(pp,.cells [.ptr st 0,.str cwd,.int .i64 um]),(.sub 0 1 x.p,.cells [.int .i64 0,.int .i64 0,.str []])]) [(N,G)],c,[]⟩∧4 < c∧wkW w≤k∧w.links≤8∧w.pl.length+wkW w≤cwd.length+2617∧(bV L fol k w).2=res∧RR' st N L (bV L fol k w).1 G F1) _ ⟨aJ cwd path,_,_,rfl,by omega,hKle,hl0,hw0,hres,hrq⟩ ?_
 clear hrq hres hw0 hKle hl0 hc4 hst hpc hplen i1 i2 i3 hid id c
 rintro k s' ⟨⟨pl,todo,l,dir⟩,c,G,rfl,hc4,hKle,hl0,hw0,hres,hrq⟩
 simp only at hl0 hw0
 have hkeep:∀ (E:List (Oid × ah)) (G:Oid→ah),(∀ e ∈ E,e.1 ∉ N)→∀ i o,Mem.blk ([(pp,.cells [.ptr st 0,.str cwd,.int .i64 um]),(.sub 0 1 x.p,.cells [.int .i64 0,.int .i64 0,.str []])]) [(N,G)] i=some o→Mem.blk (([(pp,.cells [.ptr st 0,.str cwd,.int .i64 um]),(.sub 0 1 x.p,.cells [.int .i64 0,.int .i64 0,.str []])])++E) [(N,G)] i=some o:=fun E G hE =>
  ui (fun e he B hB=>by rw [List.mem_singleton.1 hB];exact hE e he) _
 cases todo with
 | nil =>
  have hrn:bV L fol k ⟨pl,[],l,dir⟩=([],.go ⟨pl,[],l,dir⟩):=by cases k<;>rfl
  rw [hrn] at hres hrq
  obtain rfl:G=F1:=hrq
  subst hres
  simp only at hlast
  obtain ⟨_,hat,rfl⟩:=hlast
  rename_i F2
  have hat':∀ p,p.mono=false→bd p N→aj Tryz.prog 124 [.ptr st 0,.str pl] (Oid.under p) ⟨bk (N,G),(aF L pl).av,sb N F2⟩:=hat
  simp only [cU]
  generalize aF L pl=B at hat' ⊢
  obtain ⟨ek,em,el⟩:=B
  simp only [Bits.av] at hat' ⊢
  refine kw0 ?_
  refine kr1 hat' ?_
  by_cases c4:dir=true∧¬ ek=0∧¬ ek=2
  ·rw [if_pos c4]
   obtain ⟨rfl,c5,c6⟩:=c4
   refine ar nmd [(1,136),(6,141)] hng (by kernel_rfl) fun hf C S K hC1 hC hS hK=>?_;simp (disch:=first|omega|assumption) only [go_sem,Oid.ab hpp,Oid.aa hpp,hpN,hO,c5,c6,decide_true,decide_false,ne_eq,not_true_eq_false,not_false_eq_true]
   refine hK ?_;clear hK hS hC hC1 K S C hf
   refine kw0 ?_
   refine ay (dh (by simp (disch:=first|omega|assumption) only [go_sem,Oid.ab hpp,Oid.aa hpp,hpN,hO,fnV,rdB,aL,cU,rsT,Bits.no]) (by show _=some _;simp (disch:=first|omega|assumption) only [go_sem,Oid.ab hpp,Oid.aa hpp,hpN,hO]) (by exact nbA (by simp [hpN,hO.mem]) _))
  ·rw [if_neg c4]
   refine cu [0,2,7,9,19,145] (fun s'=>∃ c':Nat,s' = ⟨[(0,.ptr pp 0),(2,.bool fol),(7,.ptr (.sub 0 1 x.p) 0),(9,.str pl),(19,.ptr (.sub (c+1) 6 x.p) 0),(145,.bool false)],Mem.blk (([(pp,.cells [.ptr st 0,.str cwd,.int .i64 um]),(.sub 0 1 x.p,.cells [.int .i64 0,.int .i64 0,.str []])])++[(.sub (c+1) 6 x.p,.cells [.int .i64 ek,.int .i64 em,.str el])]) [(N,F2)],c',[]⟩) ?_ ?_
   ·cases dir with
    | false =>
     refine kr (.d [] [(1,136),(6,141)] []) trivial trivial ?_
     exact aM ⟨_,rfl⟩
    | true =>
     by_cases c5:ek=0
     ·refine ar nmd [(1,136),(6,141)] hng (by kernel_rfl) fun hf C S K hC1 hC hS hK=>?_;simp (disch:=first|omega|assumption) only [go_sem,Oid.ab hpp,Oid.aa hpp,hpN,hO,c5,eq_self,decide_true,decide_false,ne_eq,not_true_eq_false,not_false_eq_true]
      refine hK ?_;clear hK hS hC hC1 K S C hf
      exact aM ⟨_,by rw [c5];rfl⟩
     ·have c6:ek=2:=Decidable.of_not_not fun h=>c4 ⟨rfl,c5,h⟩
      have h20:¬ (2:Int)=0:=by decide
      refine kr (.d [] [(1,136),(6,141)] []) (ai c6 h20) trivial ?_
      exact aM ⟨_,by rw [c6];rfl⟩
   rintro s' ⟨c',rfl⟩
   simp only [List.cons_append,List.nil_append]
   (try ((first|refine zn ?_|refine ze ?_|refine zk ?_);with_reducible (constructor;repeat constructor));try refine zl ?_)
   refine aC rfl rfl ?_
   refine kd (.d [] [] [6,7,8]) trivial trivial ?_
   refine ay (dh (by simp (disch:=first|omega|assumption) only [go_sem,Oid.ab hpp,Oid.aa hpp,hpN,hO,fnV,rdB,aL,cU,rsT,Bits.no]) (by show _=some _;simp (disch:=first|omega|assumption) only [go_sem,Oid.ab hpp,Oid.aa hpp,hpN,hO]) (by exact nbA (by simp [hpN,hO.mem]) _))
 | cons n t =>
  have hwk:wkW ⟨pl,n::t,l,dir⟩=n.length+1+wtF t+(8 - l) * 302:=rfl
  have hwt:wtF (n::t)=n.length+1+wtF t:=rfl
  obtain ⟨k,rfl⟩:∃ k',k=k' + 1:=⟨k - 1,by omega⟩
  have htl:=sk t
  have hrn:bV L fol (k+1) ⟨pl,n::t,l,dir⟩=match bw L fol ⟨pl,n::t,l,dir⟩ n t with
   | (rd,.err e)=>(rd,.err e)
   | (rd,.go w')=>(rd++(bV L fol k w').1,(bV L fol k w').2):=rfl
  obtain ⟨rd,rr,hS⟩:=zm L fol ⟨pl,n::t,l,dir⟩ n t
  have hgo:=fun w' (h:rr = .go w')=>And.intro (lH hK.so hK.lk (hS.trans (by rw [h]))) (mY (hS.trans (by rw [h])) hl0)
  rw [hrn,hS] at hres hrq
  have hq:∃ G2,RR' st N L [(pl,false)] G G2∧RR' st N L (rdT L fol k rd rr) G2 F1∧rsT L fol k rr=res:=by
   cases rr with
   | err e=>obtain ⟨G2,k1,k2⟩:=hrq;exact ⟨G2,⟨G2,k1,rfl⟩,k2,hres⟩
   | go w'=>obtain ⟨G2,k1,k2⟩:=hrq;exact ⟨G2,⟨G2,k1,rfl⟩,k2,hres⟩
  obtain ⟨G2,hq1,hq2,hres2⟩:=hq
  clear hrq hres hrn
  have hin:=fun p hp hpp hO=>vW (pp:=pp) (st:=st) (N:=N) (F:=G) (F1:=G2) (L:=L) (cwd:=cwd) um hpN (p:=p) hp hpp hO pl hq1
  have hab:=fun p=>FZ pl (by omega) p
  unfold prC at hin
  refine kw0 ?_
  refine aK rfl rfl (fun hb=>?_) (fun hb=>?_)
  case refine_2=>exact absurd (by omega) hb
  refine kw0 ?_
  refine kr1 hin ?_
  refine kw0 ?_
  by_cases c0:inE (aF L pl)=0
  case neg =>
   have hS':bw L fol ⟨pl,n::t,l,dir⟩ n t=([(pl,false)],.err (inE (aF L pl))):=by simp only [bw,if_pos c0]
   rw [hS'] at hS
   simp only [Prod.mk.injEq,List.cons.injEq,true_and] at hS
   obtain ⟨rfl,rfl⟩:=hS
   subst hres2
   obtain rfl:G2=F1:=hq2
   obtain rfl:G2=F':=hlast
   simp only [rsT,cU]
   generalize inE (aF L pl)=e at c0 ⊢
   refine aK rfl rfl (fun hb=>?_) (fun hb=>?_)
   case refine_2=>exact absurd (Decidable.not_not.1 hb) c0
   refine kw0 ?_
   refine ay (dh (by simp (disch:=first|omega|assumption) only [go_sem,Oid.ab hpp,Oid.aa hpp,hpN,hO,fnV,rdB,aL,cU,rsT,Bits.no]) (by show _=some _;simp (disch:=first|omega|assumption) only [go_sem,Oid.ab hpp,Oid.aa hpp,hpN,hO]) (by exact nbA (by simp [hpN,hO.mem]) _))
  refine aK rfl rfl (fun hb=>?_) (fun hb=>?_)
  case refine_1=>exact absurd c0 hb
  refine kw0 ?_
  by_cases c1':32 < n.length
  ·have hS':bw L fol ⟨pl,n::t,l,dir⟩ n t=([(pl,false)],.err 2):=by simp only [bw,c0,not_true_eq_false,if_false,if_pos c1']
   rw [hS'] at hS
   simp only [Prod.mk.injEq,List.cons.injEq,true_and] at hS
   obtain ⟨rfl,rfl⟩:=hS
   subst hres2
   obtain rfl:G2=F1:=hq2
   obtain rfl:G2=F':=hlast
   simp only [rsT,cU]
   refine aK rfl rfl (fun hb=>?_) (fun hb=>?_)
   case refine_2=>exact absurd (by omega) hb
   refine kw0 ?_
   refine ay (dh (by simp (disch:=first|omega|assumption) only [go_sem,Oid.ab hpp,Oid.aa hpp,hpN,hO,fnV,rdB,aL,cU,rsT,Bits.no]) (by show _=some _;simp (disch:=first|omega|assumption) only [go_sem,Oid.ab hpp,Oid.aa hpp,hpN,hO]) (by exact nbA (by simp [hpN,hO.mem]) _))
  refine aK rfl rfl (fun hb=>?_) (fun hb=>?_)
  case refine_1=>exact absurd (by omega) c1'
  refine kw0 ?_
  by_cases c2':n=[46]
  ·have hS':bw L fol ⟨pl,n::t,l,dir⟩ n t=([(pl,false)],.go ⟨pl,t,l,dir⟩):=by simp only [bw,c0,not_true_eq_false,if_false,if_neg c1',if_pos c2']
   rw [hS'] at hS
   simp only [Prod.mk.injEq,List.cons.injEq,true_and] at hS
   obtain ⟨rfl,rfl⟩:=hS
   obtain ⟨⟨g1,g2⟩,g3⟩:=hgo _ rfl
   simp only at g1 g2 g3
   have hwk':wkW ⟨pl,t,l,dir⟩=wtF t+(8 - l) * 302:=rfl
   refine aK rfl rfl (fun hb=>?_) (fun hb=>?_)
   case refine_2=>exact absurd c2' hb
   refine kw0 ?_
   exact ⟨_,_,by omega,fun _ _ h=>h,⟨pl,t,l,dir⟩,_,_,rfl,by omega,by omega,g3,by simp only;omega,hres2,hq2⟩
  refine aK rfl rfl (fun hb=>?_) (fun hb=>?_)
  case refine_1=>exact absurd hb c2'
  refine kw0 ?_
  by_cases c3':n=[46,46]
  ·have hS':bw L fol ⟨pl,n::t,l,dir⟩ n t=([(pl,false)],.go ⟨aO pl,t,l,dir⟩):=by simp only [bw,c0,not_true_eq_false,if_false,if_neg c1',if_neg c2',if_pos c3']
   rw [hS'] at hS
   simp only [Prod.mk.injEq,List.cons.injEq,true_and] at hS
   obtain ⟨rfl,rfl⟩:=hS
   obtain ⟨⟨g1,g2⟩,g3⟩:=hgo _ rfl
   simp only at g1 g2 g3
   have hwk':wkW ⟨aO pl,t,l,dir⟩=wtF t+(8 - l) * 302:=rfl
   have hal:=ja pl
   refine aK rfl rfl (fun hb=>?_) (fun hb=>?_)
   case refine_2=>exact absurd c3' hb
   refine kw0 ?_
   refine kr1 (hab _) ?_
   refine kw0 ?_
   exact ⟨_,_,by omega,fun _ _ h=>h,⟨aO pl,t,l,dir⟩,_,_,rfl,by omega,by omega,g3,by simp only;omega,hres2,hq2⟩
  refine aK rfl rfl (fun hb=>?_) (fun hb=>?_)
  case refine_1=>exact absurd hb c3'
  have hS':bw L fol ⟨pl,n::t,l,dir⟩ n t=([(pl,false),(pl++(47::n),false)],goF L fol ⟨pl,n::t,l,dir⟩ n t):=by simp only [bw,c0,not_true_eq_false,if_false,if_neg c1',if_neg c2',if_neg c3',ji]
  rw [hS'] at hS
  simp only [Prod.mk.injEq,List.cons.injEq,true_and] at hS
  obtain ⟨rfl,hgf⟩:=hS
  have hq3:∃ G3,RR' st N L [(pl++(47::n),false)] G2 G3∧RR' st N L (rdT L fol k [] rr) G3 F1:=by
   cases rr with
   | err e=>obtain ⟨G3,k1,k2⟩:=hq2;exact ⟨G3,⟨G3,k1,rfl⟩,k2⟩
   | go w'=>obtain ⟨G3,k1,k2⟩:=hq2;exact ⟨G3,⟨G3,k1,rfl⟩,k2⟩
  obtain ⟨G3,⟨_,hat,rfl⟩,hq4⟩:=hq3
  rename_i G3
  have hat':∀ p,p.mono=false→bd p N→aj Tryz.prog 124 [.ptr st 0,.str (pl++(47::n))] (Oid.under p) ⟨bk (N,G2),(aF L (pl++(47::n))).av,sb N G3⟩:=hat
  have hdl:=hK.da (pl++(47::n))
  have hgo':goF L fol ⟨pl,n::t,l,dir⟩ n t=if (aF L (pl++(47::n))).k=3∧(¬ t=[]∨fol=true∨dir=true) then dq ⟨pl,n::t,l,dir⟩ t (aF L (pl++(47::n))).l
   else if ¬ t=[]∧(aF L (pl++(47::n))).k=0 then .err 10 else .go ⟨pl++(47::n),t,l,dir⟩:=rfl
  rw [hgo'] at hgf
  clear hgo' hS' hat hq2 hin
  generalize aF L (pl++(47::n))=B at hat' hdl hgf
  obtain ⟨ek,em,el⟩:=B
  simp only [Bits.av] at hat' hdl hgf
  have hcat:pl++[47]++n=pl++(47::n):=by simp
  refine kw hcat ?_
  refine kr1 hat' ?_
  refine cu [0,2,7,9,10,11,12,15,16,87] (fun s'=>∃ c' ce:Nat,s' = ⟨[(0,.ptr pp 0),(2,.bool fol),(7,.ptr (.sub 0 1 x.p) 0),(9,.str pl),(10,.list 1 (t.map AV.str)),(11,.bool dir),(12,.int .i64 l),(15,.str (pl++(47::n))),(16,.ptr (.sub ce 6 x.p) 0),(87,.bool (decide (ek=3∧(¬ t=[]∨fol=true∨dir=true))))],Mem.blk (([(pp,.cells [.ptr st 0,.str cwd,.int .i64 um]),(.sub 0 1 x.p,.cells [.int .i64 0,.int .i64 0,.str []])])++[(.sub ce 6 x.p,.cells [.int .i64 ek,.int .i64 em,.str el])]) [(N,G3)],c',[]⟩∧4 < ce∧ce < c') ?_ ?_
  ·by_cases k3:ek=3
   ·cases t with
    | cons t0 tr =>
     rw [show decide (ek=3∧(¬ (t0::tr)=[]∨fol=true∨dir=true))=true from by simp [k3]]
     have e9:(0:Int) < ((tr.length+1:Nat):Int):=by omega
     refine ar nmd [(3,77),(7,81),(10,84)] hng (by kernel_rfl) fun hf C S K hC1 hC hS hK=>?_;simp (disch:=first|omega|assumption) only [go_sem,Oid.ab hpp,Oid.aa hpp,hpN,hO,k3,e9,List.length_map,List.map_cons,List.length_cons,decide_true,decide_false,ne_eq,not_true_eq_false,not_false_eq_true]
     refine hK ?_;clear hK hS hC hC1 K S C hf
     exact aM ⟨_,_,by rw [k3];rfl,by omega,by omega⟩
    | nil =>
     rw [show decide (ek=3∧(¬ ([]:List Str)=[]∨fol=true∨dir=true))=(fol || dir) from by cases fol<;>cases dir<;>simp [k3]]
     have e9:¬ (0:Int) < ((0:Nat):Int):=by omega
     cases fol with
     | true =>
      refine kr (.d [] [(3,77),(7,81),(10,84)] []) (ai k3 e9) trivial ?_
      exact aM ⟨_,_,by rw [k3];rfl,by omega,by omega⟩
     | false =>
      cases dir with
      | true =>
       refine kr (.d [] [(3,77),(7,81),(10,84)] []) (ai k3 e9) trivial ?_
       exact aM ⟨_,_,by rw [k3];rfl,by omega,by omega⟩
      | false =>
       refine kr (.d [] [(3,77),(7,81),(10,84)] []) (ai k3 e9) trivial ?_
       exact aM ⟨_,_,by rw [k3];rfl,by omega,by omega⟩
   ·rw [show decide (ek=3∧(¬ t=[]∨fol=true∨dir=true))=false from by simp [k3]]
    refine kr (.d [] [(3,77),(7,81),(10,84)] []) k3 trivial ?_
    exact aM ⟨_,_,rfl,by omega,by omega⟩
  clear hc4 c
  rintro s' ⟨c,ce,rfl,hce,hcc⟩
  simp only [List.cons_append,List.nil_append]
  by_cases k3:ek=3∧(¬ t=[]∨fol=true∨dir=true)
  ·rw [decide_eq_true k3]
   rw [if_pos k3] at hgf
   (try ((first|refine zn ?_|refine ze ?_|refine zk ?_);with_reducible (constructor;repeat constructor));try refine zl ?_)
   refine aB rfl rfl ?_
   refine kw0 ?_
   by_cases k5:8 < l+1
   ·have hlf:dq ⟨pl,n::t,l,dir⟩ t el = .err 17:=by simp only [dq,if_pos k5]
    rw [hlf] at hgf
    subst hgf
    subst hres2
    obtain rfl:G3=F1:=hq4
    obtain rfl:G3=F':=hlast
    refine aK rfl rfl (fun hb=>?_) (fun hb=>?_)
    case refine_2=>exact absurd (by omega) hb
    refine kw0 ?_
    refine ay (dh (by simp (disch:=first|omega|assumption) only [go_sem,Oid.ab hpp,Oid.aa hpp,hpN,hO,fnV,rdB,aL,cU,rsT,Bits.no]) (by show _=some _;simp (disch:=first|omega|assumption) only [go_sem,Oid.ab hpp,Oid.aa hpp,hpN,hO]) (by exact nbA (by simp [hpN,hO.mem]) _))
   refine aK rfl rfl (fun hb=>?_) (fun hb=>?_)
   case refine_1=>exact absurd (by omega) k5
   refine kw0 ?_
   by_cases k6:el=[]
   ·have hlf:dq ⟨pl,n::t,l,dir⟩ t el = .err 10:=by simp only [dq,if_neg k5,if_pos k6]
    rw [hlf] at hgf
    subst hgf
    subst hres2
    obtain rfl:G3=F1:=hq4
    obtain rfl:G3=F':=hlast
    refine aK rfl rfl (fun hb=>?_) (fun hb=>?_)
    case refine_2=>exact absurd k6 hb
    refine kw0 ?_
    refine ay (dh (by simp (disch:=first|omega|assumption) only [go_sem,Oid.ab hpp,Oid.aa hpp,hpN,hO,fnV,rdB,aL,cU,rsT,Bits.no]) (by show _=some _;simp (disch:=first|omega|assumption) only [go_sem,Oid.ab hpp,Oid.aa hpp,hpN,hO]) (by exact nbA (by simp [hpN,hO.mem]) _))
   refine aK rfl rfl (fun hb=>?_) (fun hb=>?_)
   case refine_1=>exact absurd hb k6
   have hlf:dq ⟨pl,n::t,l,dir⟩ t el = .go ⟨if el.getD 0 0=47 then [] else pl,aT el++t,l+1,dir || (decide (t=[]) && cK el)⟩:=by simp only [dq,if_neg k5,if_neg k6]
   rw [hlf] at hgf
   obtain ⟨⟨g1,g2⟩,g3⟩:=hgo _ hgf.symm
   subst hgf
   simp only at g1 g2 g3
   have hpc:=fun p=>oX el (by omega) p
   have hpl2:(aT el).length≤el.length+1:=by
    have h1:=iY 47 el
    have h2:=List.length_filter_le (fun t:Str=>!t.isEmpty) (a7 47 el)
    unfold aT;omega
   have hel:0 < el.length:=List.length_pos_iff.2 k6
   have hwk':wkW ⟨if el.getD 0 0=47 then [] else pl,aT el++t,l+1,dir || (decide (t=[]) && cK el)⟩=wtF (aT el++t)+(8 - (l+1)) * 302:=rfl
   generalize cK el=ee at hpc hwk' hres2 hq4 g1 g2 g3
   refine kw0 ?_
   refine ar nmd [] hng (by kernel_rfl) fun hf C S K hC1 hC hS hK=>?_;simp (disch:=first|omega|assumption) only [go_sem,Oid.ab hpp,Oid.aa hpp,hpN,hO]
   refine hC _ _ _ (hpc _) (fun _ h=>by cases h) ?_ (fun _ _ h=>h.elim)
   rintro _ _ ⟨id,hid,rfl,rfl⟩
   have i1:¬ id=pp:=fun e=>hpp (Oid.af (e ▸ hid))
   have i2:id ∉ N:=fun h=>hO id h (Oid.af hid)
   have i3:¬ id = .sub 0 1 x.p:=fun e=>by
    subst e
    have:=(Oid.apart hid (Oid.aq _)).1;omega
   have i4:¬ id = .sub ce 6 x.p:=fun e=>by
    subst e
    have:=(Oid.apart hid (Oid.aq _)).1;omega
   simp (disch:=first|omega|assumption) only [go_sem,Oid.ab hpp,Oid.aa hpp,hpN,hO,i1,i2,i3,i4]
   refine hK ?_;clear hK hS hC hC1 K S C hf
   (try ((first|refine zn ?_|refine ze ?_|refine zk ?_);with_reducible (constructor;repeat constructor));try refine zl ?_)
   refine cu [0,2,7,9,10,11,12,16,17] (fun s'=>∃ c':Nat,s' = ⟨[(0,.ptr pp 0),(2,.bool fol),(7,.ptr (.sub 0 1 x.p) 0),(9,.str pl),(10,.list 1 (t.map AV.str)),(11,.bool (dir || (decide (t=[]) && ee))),(12,.int .i64 ((l:Int)+1)),(16,.ptr (.sub ce 6 x.p) 0),(17,.sl id 1 (aT el).length)],Mem.blk (([(pp,.cells [.ptr st 0,.str cwd,.int .i64 um]),(.sub 0 1 x.p,.cells [.int .i64 0,.int .i64 0,.str []])])++[(.sub ce 6 x.p,.cells [.int .i64 ek,.int .i64 em,.str el]),(id,.arr 1 ((aT el).map AV.str))]) [(N,G3)],c',[]⟩∧c < c') ?_ ?_
   ·cases dir with
    | true =>
     refine ar nmd [(1,104),(3,106)] hng (by kernel_rfl) fun hf C S K hC1 hC hS hK=>?_;simp (disch:=first|omega|assumption) only [go_sem,Oid.ab hpp,Oid.aa hpp,hpN,hO,List.length_map,decide_true,decide_false,ne_eq,not_true_eq_false,not_false_eq_true]
     refine hK ?_;clear hK hS hC hC1 K S C hf
     exact aM ⟨_,rfl,by omega⟩
    | false =>
     cases ee with
     | false =>
      rw [Bool.and_false,Bool.or_false]
      refine ar nmd [(1,104),(3,106)] hng (by kernel_rfl) fun hf C S K hC1 hC hS hK=>?_;simp (disch:=first|omega|assumption) only [go_sem,Oid.ab hpp,Oid.aa hpp,hpN,hO,List.length_map,decide_true,decide_false,ne_eq,not_true_eq_false,not_false_eq_true]
      refine hK ?_;clear hK hS hC hC1 K S C hf
      exact aM ⟨_,rfl,by omega⟩
     | true =>
      rw [Bool.and_true,Bool.false_or]
      refine ar nmd [(1,104),(3,106)] hng (by kernel_rfl) fun hf C S K hC1 hC hS hK=>?_;simp (disch:=first|omega|assumption) only [go_sem,Oid.ab hpp,Oid.aa hpp,hpN,hO,List.length_map,decide_true,decide_false,ne_eq,not_true_eq_false,not_false_eq_true]
      refine hK ?_;clear hK hS hC hC1 K S C hf
      exact aM ⟨_,by rw [show decide (t=[])=decide ((t.length:Int)=0) from decide_eq_decide.2 ⟨fun h=>by rw [h];rfl,fun h=>List.eq_nil_of_length_eq_zero (by omega)⟩];rfl,by omega⟩
   rintro s' ⟨c5,rfl,hc5⟩
   simp only [List.cons_append,List.nil_append]
   refine kw (ai i1 (ai i2 (ai i3 (ai i4 hel)))) ?_
   refine cu [0,2,7,9,10,11,12,17] (fun s'=>∃ c':Nat,s' = ⟨[(0,.ptr pp 0),(2,.bool fol),(7,.ptr (.sub 0 1 x.p) 0),(9,.str (if el.getD 0 0=47 then [] else pl)),(10,.list 1 (t.map AV.str)),(11,.bool (dir || (decide (t=[]) && ee))),(12,.int .i64 ((l:Int)+1)),(17,.sl id 1 (aT el).length)],Mem.blk (([(pp,.cells [.ptr st 0,.str cwd,.int .i64 um]),(.sub 0 1 x.p,.cells [.int .i64 0,.int .i64 0,.str []])])++[(.sub ce 6 x.p,.cells [.int .i64 ek,.int .i64 em,.str el]),(id,.arr 1 ((aT el).map AV.str))]) [(N,G3)],c',[]⟩∧c < c') ?_ ?_
   ·refine aK rfl rfl (fun hb=>?_) (fun hb=>?_)
    ·rw [if_pos (UInt8.toNat_inj.1 (by show _=47;omega):el.getD 0 0=47)]
     refine kw0 ?_
     exact aM ⟨_,rfl,by omega⟩
    ·rw [if_neg (fun e:el.getD 0 0=47=>hb (by rw [e];rfl))]
     refine qw0 ?_
     exact aM ⟨_,rfl,by omega⟩
   clear hc5 c5
   rintro s' ⟨c5,rfl,hc5⟩
   simp only [List.cons_append,List.nil_append]
   have htl2:=sk t
   (try ((first|refine zn ?_|refine ze ?_|refine zk ?_);with_reducible (constructor;repeat constructor));try refine zl ?_)
   refine ar nmd [] hng (by kernel_rfl) fun hf C S K hC1 hC hS hK=>?_;simp (disch:=first|omega|assumption) only [go_sem,Oid.ab hpp,Oid.aa hpp,hpN,hO,i1,i2,i3,i4,List.length_map]
   refine hK ?_;clear hK hS hC hC1 K S C hf
   show T Tryz.prog x 149 _ _ _
   have i5:¬ Oid.sub ce 6 x.p=Oid.sub c5 2 x.p:=by rw [Oid.vh (by omega)];exact not_false
   have i6:¬ Oid.sub 0 1 x.p=Oid.sub c5 2 x.p:=by rw [Oid.vh (by omega)];exact not_false
   refine gR (.sub c5 2 x.p) 1 ((aT el).map AV.str++t.map AV.str) (ks (ai i1 (ai i2 (ai i3 i4)))) ?_
   simp (disch:=first|omega|assumption) only [go_sem,Oid.ab hpp,Oid.aa hpp,hpN,hO,i1,i2,i3,i4,i5,i6,List.length_map,List.length_append]
   rw [← List.map_append]
   refine qw0 ?_
   exact ⟨_,_,by omega,hkeep [(.sub ce 6 x.p,_)] G3 (fun e he=>by rw [List.mem_singleton.1 he];exact hO.mem),⟨if el.getD 0 0=47 then [] else pl,aT el++t,l+1,dir || (decide (t=[]) && ee)⟩,_,_,rfl,by omega,by omega,g3,by simp only;omega,hres2,hq4⟩
  ·rw [decide_eq_false k3]
   rw [if_neg k3] at hgf
   (try ((first|refine zn ?_|refine ze ?_|refine zk ?_);with_reducible (constructor;repeat constructor));try refine zl ?_)
   refine aC rfl rfl ?_
   (try ((first|refine zn ?_|refine ze ?_|refine zk ?_);with_reducible (constructor;repeat constructor));try refine zl ?_)
   by_cases k4:¬ t=[]∧ek=0
   ·rw [if_pos k4] at hgf
    subst hgf
    subst hres2
    obtain rfl:G3=F1:=hq4
    obtain rfl:G3=F':=hlast
    have e9:(0:Int) < (t.length:Int):=by have:=List.length_pos_iff.2 k4.1;omega
    have k4':=k4.2
    refine ar nmd [(3,122)] hng (by kernel_rfl) fun hf C S K hC1 hC hS hK=>?_;simp (disch:=first|omega|assumption) only [go_sem,Oid.ab hpp,Oid.aa hpp,hpN,hO,e9,k4',List.length_map,eq_self,decide_true,decide_false,ne_eq,not_true_eq_false,not_false_eq_true]
    refine hK ?_;clear hK hS hC hC1 K S C hf
    refine kw0 ?_
    refine ay (dh (by simp (disch:=first|omega|assumption) only [go_sem,Oid.ab hpp,Oid.aa hpp,hpN,hO,fnV,rdB,aL,cU,rsT,Bits.no]) (by show _=some _;simp (disch:=first|omega|assumption) only [go_sem,Oid.ab hpp,Oid.aa hpp,hpN,hO]) (by exact nbA (by simp [hpN,hO.mem]) _))
   ·rw [if_neg k4] at hgf
    obtain ⟨⟨g1,g2⟩,g3⟩:=hgo _ hgf.symm
    subst hgf
    simp only at g1 g2 g3
    have hwk':wkW ⟨pl++(47::n),t,l,dir⟩=wtF t+(8 - l) * 302:=rfl
    refine cu [0,2,7,9,10,11,12,15,126] (fun s'=>∃ c':Nat,s' = ⟨[(0,.ptr pp 0),(2,.bool fol),(7,.ptr (.sub 0 1 x.p) 0),(9,.str pl),(10,.list 1 (t.map AV.str)),(11,.bool dir),(12,.int .i64 l),(15,.str (pl++(47::n))),(126,.bool false)],Mem.blk (([(pp,.cells [.ptr st 0,.str cwd,.int .i64 um]),(.sub 0 1 x.p,.cells [.int .i64 0,.int .i64 0,.str []])])++[(.sub ce 6 x.p,.cells [.int .i64 ek,.int .i64 em,.str el])]) [(N,G3)],c',[]⟩∧4 < c') ?_ ?_
    ·by_cases ht0:t=[]
     ·have e9:¬ (0:Int) < (t.length:Int):=by rw [ht0];decide
      refine ar nmd [(3,122)] hng (by kernel_rfl) fun hf C S K hC1 hC hS hK=>?_;simp (disch:=first|omega|assumption) only [go_sem,Oid.ab hpp,Oid.aa hpp,hpN,hO,e9,List.length_map,decide_true,decide_false,ne_eq,not_true_eq_false,not_false_eq_true]
      refine hK ?_;clear hK hS hC hC1 K S C hf
      exact aM ⟨_,rfl,by omega⟩
     ·have he0:¬ ek=0:=fun e=>k4 ⟨ht0,e⟩
      have e9:(0:Int) < (t.length:Int):=by have:=List.length_pos_iff.2 ht0;omega
      refine ar nmd [(3,122)] hng (by kernel_rfl) fun hf C S K hC1 hC hS hK=>?_;simp (disch:=first|omega|assumption) only [go_sem,Oid.ab hpp,Oid.aa hpp,hpN,hO,e9,he0,List.length_map,decide_true,decide_false,ne_eq,not_true_eq_false,not_false_eq_true]
      refine hK ?_;clear hK hS hC hC1 K S C hf
      exact aM ⟨_,rfl,by omega⟩
    rintro s' ⟨c',rfl,hc'⟩
    (try ((first|refine zn ?_|refine ze ?_|refine zk ?_);with_reducible (constructor;repeat constructor));try refine zl ?_)
    refine aC rfl rfl ?_
    refine kw0 ?_
    exact ⟨_,_,by omega,hkeep [(.sub ce 6 x.p,_)] G3 (fun e he=>by rw [List.mem_singleton.1 he];exact hO.mem),⟨pl++(47::n),t,l,dir⟩,_,_,rfl,by omega,by omega,g3,by simp only;omega,hres2,hq4⟩
end Go.Proofs.YtpficjpdfbiedaaGreatDoor
