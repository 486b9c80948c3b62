/- A part of the proof: the texts Z36, KO, KR, KP, KQ, KT, KU, Z37, KV, LA, LB, LC, LD, LE, LF, LG, KW, LH, LI, LJ, MH, one behind the other. -/
import Derived.Test.YtmoaidkglldhcaaGreatDoorPKf
set_option linter.unusedVariables false
set_option linter.unusedSimpArgs false
set_option linter.unusedSectionVars false
namespace Go.Proofs.YtmoaidkglldhcaaGreatDoor
open Go Go.Ab
set_option maxRecDepth 20000
set_option maxHeartbeats 4000000
theorem vt {r:Oid} {s:St} {M:List Oid} {G:Oid→ao} (h:eN r s M G) (hs:SOK s) (p:Oid) (ho:bc p M):ah Tryz.prog 59 [.ptr r 0] (Oid.under p) ⟨bk (M,G),.list 1 ((s.L.map (·.1)).map AV.str),[]⟩:=by
 have key:∃ OO RR WW:AV,∃ tr:Bool,G r = .cells [.list 4 (s.L.map aB),OO,RR,WW,.bool tr]:=by
  obtain ⟨L,t0⟩:=s
  obtain ⟨rfl,h⟩:=h
  cases t0 with
  | none=>obtain ⟨OO,h⟩:=h;exact ⟨_,_,_,_,h⟩
  | some q=>exact ⟨_,_,_,_,h⟩
 obtain ⟨OO,RR,WW,tr,hG⟩:=key
 have hM:M=[r]:=by
  obtain ⟨L,t0⟩:=s
  exact h.1
 have hr:r ∈ M:=by rw [hM];exact List.mem_singleton.2 rfl
 rw [List.map_map]
 refine ah.Bt (qp r s.L hs.po.len OO RR WW tr p (ho r hr)) fun q hq=>?_
 rw [List.mem_singleton.1 hq]
 exact bR.2 ⟨hr,hG.symm⟩
theorem tX {st r:Oid} {s:St} {N M:List Oid} {F G:Oid→ao} (h1:dI st s N F) (h2:eN r s M G) (hs:SOK s) (hR:∀ q,s.t=some q→q.R.length+s.L.length≤1000000∧q.W.length≤1000000) (hdj:DJ N M)
  (p:Oid) (hp:p.mono=false) (hO:bc p N) (hO':bc p M):ah Tryz.prog 20 [.ptr st 0,.ptr r 0] (Oid.under p) ⟨bk (N,F)++bk (M,G),.bool true,gone (N++M)⟩:=by
 have hpa:=fun p ho=>qP h1 hs p ho
 have hpb:=fun p ho=>vt h2 hs p ho
 have hzl:(s.L.map (·.1)).length≤1000000:=by rw [List.length_map];exact hs.po.len
 have hzk:∀ n ∈ s.L.map (·.1),n.length≤1000000:=fun n hn=>by
  obtain ⟨q,hq,rfl⟩:=List.mem_map.1 hn
  exact hs.po.key q hq
 have hR':∀ q,s.t=some q→q.R.length+(s.L.map (·.1)).length≤1000000∧q.W.length≤1000000:=by rw [List.length_map];exact hR
 rw [show (s.L.map fun q:Str × Bits=>AV.str q.1)=(s.L.map (·.1)).map AV.str by rw [List.map_map];rfl] at hpa
 generalize s.L.map (·.1)=PS at hpa hpb hzl hzk hR'
 have hsm:=fun p=>vT PS PS (by omega) (by omega) p
 rw [decide_eq_true rfl] at hsm
 refine aD (n:=33) (rs:=[.tmp 4]) Tryz.func20 rfl rfl (by decide) rfl rfl rfl ?_;rintro x rfl hrd hng
 rw [C7]
 refine qr0 ?_
 refine aw nmd [] hng (by kernel_rfl) fun hf C S K hC1 hC hS hK=>?_;simp (disch:=first|omega|assumption) only [go_sem]
 refine hC1 _ (hpb _ (hO'.sub _ _)) (by first|exact kP _|exact iK (by simp) hdj _) ?_
 simp (disch:=first|omega|assumption) only [go_sem]
 refine hK ?_;clear hK hS hC hC1 K S C hf
 (try ((first|refine zn ?_|refine ze ?_|refine zk ?_);with_reducible (constructor;repeat constructor));try refine zl ?_)
 refine aw nmd [] hng (by kernel_rfl) fun hf C S K hC1 hC hS hK=>?_;simp (disch:=first|omega|assumption) only [go_sem,decide_true,decide_false,ne_eq,not_true_eq_false,not_false_eq_true]
 refine hC1 _ (hpa _ (hO.sub _ _)) (by first|exact kP _|exact iJ (by simp) _) ?_
 simp (disch:=first|omega|assumption) only [go_sem,decide_true,decide_false,ne_eq,not_true_eq_false,not_false_eq_true]
 refine hC1 _ (hsm _) (fun _ h=>by cases h) ?_
 simp (disch:=first|omega|assumption) only [go_sem,decide_true,decide_false,ne_eq,not_true_eq_false,not_false_eq_true]
 refine hK ?_;clear hK hS hC hC1 K S C hf
 refine qw0 ?_
 refine bq [0,1,5,6] (fun k s'=>∃ (i c:Nat) (z:St) (F G:Oid→ao),s' = ⟨[(0,.ptr st 0),(1,.ptr r 0),(5,.list 1 (PS.map AV.str)),(6,.int .i64 i)],Mem.blk [] [(N,F),(M,G)],c,[]⟩∧k=PS.length - i∧i≤PS.length∧dI st z N F∧eN r z M G∧SOK z ∧
  ∀ q,z.t=some q→q.R.length+(PS.length - i)≤1000000∧q.W.length≤1000000) _ ⟨0,_,s,_,_,rfl,rfl,Nat.zero_le _,h1,h2,hs,hR'⟩ ?_
 clear h1 h2 hs hR hR' hpa hpb
 rintro k s' ⟨i,c,z,F1,G1,rfl,rfl,hi,h1,h2,hs,hR⟩
 (repeat (first|(refine aA rfl rfl ?_)|(refine az rfl rfl ?_)|(refine aw nmd [] hng (by kernel_rfl) fun hf C S K hC1 hC hS hK=>?_;simp (disch:=first|omega|assumption) only [go_sem,List.length_map];refine hK ?_;clear hK hS hC hC1 K S C hf)|((first|refine zn ?_|refine ze ?_|refine zk ?_);with_reducible (constructor;repeat constructor);try refine zl ?_)))
 refine aS rfl rfl (fun hb=>?_) (fun hb=>?_)
 ·have hlt:i < PS.length:=by omega
  have hgl:=hzk (PS.getD i default) (by rw [ck hlt];exact List.getElem_mem hlt)
  generalize hg:PS.getD i default=g at hgl
  obtain ⟨F',hF,hA⟩:=uZ h1 hs g (by omega)
  obtain ⟨G',hG,hB⟩:=u7 h2 hs (fun q hq=>by have:=hR q hq;omega) g (by omega)
  have hs':=hs.read (g,false)
  have hR':∀ q,(z.read (g,false)).t=some q→q.R.length+(PS.length - (i+1))≤1000000∧q.W.length≤1000000:=fun q hq=>by
   simp only [St.read,Option.map_eq_some_iff] at hq
   obtain ⟨a,ha,rfl⟩:=hq
   have h3:=hR a ha
   have h4:=j0 (old:=a.old) (W:=a.W) (f:=(g,false)) (hs.tr a ha).sr
   have h5:(a.read (g,false)).R.length≤a.R.length+1:=h4
   have h6:(a.read (g,false)).W=a.W:=rfl
   rw [h6];omega
  generalize aF z.L g=B at hA hB
  obtain ⟨ek,em,el⟩:=B
  simp only [Bits.av] at hA hB
  (try ((first|refine zn ?_|refine ze ?_|refine zk ?_);with_reducible (constructor;repeat constructor));try refine zl ?_)
  refine cK nmd [] [(5,10)] mixed hng (by kernel_rfl) [0,1,5,6,32] fun hf C S K hC hS hK=>?_;simp (disch:=first|omega|assumption) only [go_sem,hg,List.length_map]
  refine hC _ (hA _ (ar rfl hp) (hO.sub _ _)) (by first|exact kP _|exact iJ (by simp) _) ?_
  simp (disch:=first|omega|assumption) only [go_sem,hg,List.length_map]
  refine hC _ (hB _ (ar rfl hp) (hO'.sub _ _)) (by first|exact kP _|exact iK (by simp) hdj _) ?_
  simp (disch:=first|omega|assumption) only [go_sem,hdj,eq_self,decide_true,decide_false,ne_eq,not_true_eq_false,not_false_eq_true]
  (first|refine hK (aM rfl) ?_|refine hK (by simp (disch:=first|omega|assumption) only [go_sem,List.reverse_cons,List.reverse_nil,ne_eq,not_false_eq_true,implies_true]) ?_);clear hK hS hC K S C hf
  refine qw0 ?_
  exact ⟨_,_,by omega,fun _ _ h=>h,i+1,_,_,_,_,rfl,rfl,by omega,hF,hG,hs',hR'⟩
 ·refine qw0 ?_
  exact ay (x8 rfl)
end Go.Proofs.YtmoaidkglldhcaaGreatDoor
namespace Go.Proofs.YtmoaidkglldhcaaGreatDoor
open Go Go.Ab
set_option maxRecDepth 20000
theorem Bw {st:Oid} {N:List Oid}:∀ (l:Pts) (s:St) (F:Oid→ao),dI st s N F→SOK s→s.L.length+l.length≤1000000→(∀ q ∈ l,q.1.length≤1000000∧VK q.2)→∃ F',dI st (s.pts l) N F'∧PP st N l F F'
 | [],s,F,h,_,_,_=>⟨F,h,rfl⟩
 | q::l,s,F,h,hs,hl,hv=>by
  have hq:=hv q List.mem_cons_self
  simp only [List.length_cons] at hl
  have hs1:=hs.put q.1 q.2 (by omega) hq.1 hq.2.ok hq.2.pos
  have hl1:(s.put q.1 q.2).L.length≤s.L.length+1:=jE q.1 q.2 s.L
  obtain ⟨F1,h1,h2⟩:=Da h hs q.1 q.2
  obtain ⟨F',k1,k2⟩:=Bw l (s.put q.1 q.2) F1 h1 hs1 (by omega) fun x hx=>hv x (List.mem_cons_of_mem _ hx)
  exact ⟨F',k1,F1,h2,k2⟩
theorem D3 {r:Oid} {M:List Oid}:∀ (l:Pts) (s:St) (F:Oid→ao),eN r s M F→SOK s→s.L.length+l.length≤1000000→(∀ q ∈ l,q.1.length≤1000000∧VK q.2)→(∀ q,s.t=some q→q.R.length≤1000000∧q.W.length+l.length≤1000000)→∃ F',eN r (s.pts l) M F'∧PR r M l F F'
 | [],s,F,h,_,_,_,_=>⟨F,h,rfl⟩
 | q::l,s,F,h,hs,hl,hv,hR=>by
  have hq:=hv q List.mem_cons_self
  simp only [List.length_cons] at hl hR
  have hs1:=hs.put q.1 q.2 (by omega) hq.1 hq.2.ok hq.2.pos
  have hl1:(s.put q.1 q.2).L.length≤s.L.length+1:=jE q.1 q.2 s.L
  obtain ⟨F1,h1,h2⟩:=tu h hs (fun x hx=>by have:=hR x hx;omega) q.1 q.2
  obtain ⟨F',k1,k2⟩:=D3 l (s.put q.1 q.2) F1 h1 hs1 (by omega) (fun x hx=>hv x (List.mem_cons_of_mem _ hx)) fun x hx=>by
   simp only [St.put,Option.map_eq_some_iff] at hx
   obtain ⟨q0,h5,rfl⟩:=hx
   have h6:=hR q0 h5
   have h7:=oP (n:=q.1) (hs.tr q0 h5).sw
   refine ⟨h6.1,?_⟩
   show (fL true q.1 q0.W).length+_≤_
   omega
  exact ⟨F',k1,F1,h2,k2⟩
def jk (y pp qq:Oid) (a b c:ao) (N:List Oid) (F G:Oid→ao):Oid→ao:=fun i=>if i=y then a else if i=pp then b else if i=qq then c else if i ∈ N then F i else G i
structure Apt (y pp qq:Oid) (N M:List Oid):Prop where
 yp:¬ y=pp
 yq:¬ y=qq
 pq:¬ pp=qq
 yN:y ∉ N
 yM:y ∉ M
 pN:pp ∉ N
 pM:pp ∉ M
 qN:qq ∉ N
 qM:qq ∉ M
 dj:DJ N M
abbrev KB (y pp qq:Oid) (N M:List Oid):List Oid:=y::pp::qq::(N++M)
section
variable {y pp qq:Oid} {N M:List Oid} (h:Apt y pp qq N M) {a b c:ao} {F G:Oid→ao}
include h
omit h in
theorem Dz:jk y pp qq a b c N F G y=a:=if_pos rfl
theorem DA:jk y pp qq a b c N F G pp=b:=by unfold jk;rw [if_neg (fun e=>h.yp e.symm),if_pos rfl]
theorem DB:jk y pp qq a b c N F G qq=c:=by unfold jk;rw [if_neg (fun e=>h.yq e.symm),if_neg (fun e=>h.pq e.symm),if_pos rfl]
theorem vu:∀ i ∈ N,jk y pp qq a b c N F G i=F i:=fun i hi=>by
 unfold jk;rw [if_neg (fun e:i=y=>h.yN (e ▸ hi)),if_neg (fun e:i=pp=>h.pN (e ▸ hi)),if_neg (fun e:i=qq=>h.qN (e ▸ hi)),if_pos hi]
theorem vv:∀ i ∈ M,jk y pp qq a b c N F G i=G i:=fun i hi=>by
 unfold jk;rw [if_neg (fun e:i=y=>h.yM (e ▸ hi)),if_neg (fun e:i=pp=>h.pM (e ▸ hi)),if_neg (fun e:i=qq=>h.qM (e ▸ hi)),if_neg (fun hn=>h.dj i hn hi)]
theorem DC {P:Program} {rs:List ResultVar} {fr:List (Nat × AV)} {m:Mem} {cc:Nat} {val:AV} {H:Oid→ao} {Rp:AV→List (Oid × Option ao)→Prop} (h1:fi P m fr rs=some val)
  (hy:m y=some a) (hp:m pp=some b) (hq:m qq=some c) (h3:∀ q,q ∈ bk (N,F)→m q.1=some q.2) (h4:∀ q,q ∈ bk (M,G)→m q.1=some q.2) :
  dF P rs (bk (KB y pp qq N M,H)) (fun v u=>v=val∧u=sb (KB y pp qq N M) (jk y pp qq a b c N F G)) Rp .ret ⟨fr,m,cc,[]⟩ :=
 wa h1 fun q hq'=>by
  obtain ⟨i,o⟩:=q
  obtain ⟨k1,k2⟩:=bR.1 hq'
  simp only at k1 k2 ⊢
  rw [k2]
  rcases List.mem_cons.1 k1 with rfl|k1
  ·rw [Dz];exact hy
  rcases List.mem_cons.1 k1 with rfl|k1
  ·rw [DA h];exact hp
  rcases List.mem_cons.1 k1 with rfl|k1
  ·rw [DB h];exact hq
  rcases List.mem_append.1 k1 with k1|k1
  ·have:=h3 (i,F i) (bR.2 ⟨k1,rfl⟩)
   simp only at this
   rw [this,vu h i k1]
  ·have:=h4 (i,G i) (bR.2 ⟨k1,rfl⟩)
   simp only at this
   rw [this,vv h i k1]
end
theorem bO (y pp qq:Oid) (N M:List Oid) (H:Oid→ao):Mem.of (bk (KB y pp qq N M,H))=Mem.blk [(y,H y),(pp,H pp),(qq,H qq)] [(N,H),(M,H)]:=by
 simp [Mem.blk,bk,List.map_append]
structure cj (y st pp r qq:Oid) (s:St) (cwd:Str) (um:Int) (n:Nat) (N M:List Oid) (H:Oid→ao):Prop where
 ap:Apt y pp qq N M
 cy:H y = .cells [.ptr st 0,.ptr pp 0,.ptr r 0,.ptr qq 0]
 cp:H pp=prC st cwd um
 cq:H qq=prC r cwd um
 sp:dI st s N H
 sr:eN r s M H
 ks:KS s cwd n
 um:0≤um∧um≤7
abbrev jkP (y st pp r qq:Oid) (cwd:Str) (um:Int) (N:List Oid) (F G:Oid→ao):Oid→ao:=jk y pp qq (.cells [.ptr st 0,.ptr pp 0,.ptr r 0,.ptr qq 0]) (prC st cwd um) (prC r cwd um) N F G
theorem cj.mk' {y st pp r qq:Oid} {s:St} {cwd:Str} {um:Int} {n:Nat} {N M:List Oid} {F G:Oid→ao} (ap:Apt y pp qq N M) (sp:dI st s N F) (sr:eN r s M G) (ks:KS s cwd n) (um':0≤um∧um≤7) :
  cj y st pp r qq s cwd um n N M (jkP y st pp r qq cwd um N F G) :=
 ⟨ap,Dz,DA ap,DB ap,sp.congr (vu ap),sr.congr (vv ap),ks,um'⟩
section
variable {y st pp r qq:Oid} {s:St} {cwd:Str} {um:Int} {n:Nat} {N M:List Oid} {H:Oid→ao} (h:cj y st pp r qq s cwd um n N M H)
include h
omit h in
theorem KB.old {p:Oid} (ho:bc p (KB y pp qq N M)):¬ Oid.under p y∧¬ Oid.under p pp∧¬ Oid.under p qq∧bc p N∧bc p M :=
 ⟨ho y (by simp),ho pp (by simp),ho qq (by simp),fun i hi=>ho i (by simp [hi]),fun i hi=>ho i (by simp [hi])⟩
theorem cj.ops (hn:n≤40) {x:Rds × Rs Pts} (hx:OpB (cwd.length+2700) x) :
  ∃ F1 F2 G1 G2,dI st ((s.rds x.1).pts (bT x.2)) N F2∧eN r ((s.rds x.1).pts (bT x.2)) M G2∧RP st N s.L x.1 H F1∧PP st N (bT x.2) F1 F2∧RR' r M s.L x.1 H G1∧PR r M (bT x.2) G1 G2:=by
 have hks:=h.ks
 have hcl:=hks.cl
 have hlen:=hks.len
 have hpl:=hx.pl
 have hrl:=hx.rl
 have h1:=hks.ok.rds x.1
 have hL:(s.rds x.1).L=s.L:=A1 x.1 s
 have hrd:∀ f ∈ x.1,f.1.length≤140737488355000:=fun f hf=>by have:=hx.rd f hf;omega
 have hpt:∀ q ∈ bT x.2,q.1.length≤1000000∧VK q.2:=fun q hq=>⟨by have:=(hx.pt q hq).1;omega,(hx.pt q hq).2⟩
 obtain ⟨F1,a1,a2⟩:=A2 x.1 s H h.sp hks.ok hrd
 obtain ⟨F2,a3,a4⟩:=Bw (bT x.2) (s.rds x.1) F1 a1 h1 (by rw [hL];omega) hpt
 obtain ⟨G1,b1,b2⟩:=DX x.1 s H h.sr hks.ok (fun q hq=>by have:=hks.tr q hq;omega) hrd
 obtain ⟨G2,b3,b4⟩:=D3 (bT x.2) (s.rds x.1) G1 b1 h1 (by rw [hL];omega) hpt fun q hq=>by
  obtain ⟨q0,e1,e2,e3,e4⟩:=rU x.1 s hks.ok q hq
  have:=hks.tr q0 e1
  rw [e3];omega
 exact ⟨F1,F2,G1,G2,a3,b3,a2,a4,b2,b4⟩
theorem cj.op (hn:n≤40) {x:Rds × Rs Pts} (hx:OpK s.L cwd x) :
  ∃ F1 F2 G1 G2,cj y st pp r qq ((s.rds x.1).pts (bT x.2)) cwd um (n+1) N M (jkP y st pp r qq cwd um N F2 G2)∧RP st N s.L x.1 H F1∧PP st N (bT x.2) F1 F2∧RR' r M s.L x.1 H G1∧PR r M (bT x.2) G1 G2:=by
 obtain ⟨F1,F2,G1,G2,a,b,c⟩:=h.ops hn hx.b
 exact ⟨F1,F2,G1,G2,.mk' h.ap a b (h.ks.op (by omega) hx) h.um,c⟩
theorem cj.rd (hn:n≤40) {α:Type} {k:Nat} {V:α→Prop} {x:Rds × Rs α} (hx:RdB (cwd.length+2700) k x V) (hk:k≤20000) :
  ∃ F1 G1,cj y st pp r qq (s.rds x.1) cwd um (n+1) N M (jkP y st pp r qq cwd um N F1 G1)∧RP st N s.L x.1 H F1∧RR' r M s.L x.1 H G1:=by
 obtain ⟨F1,F2,G1,G2,a,b,c,c1,d,d1⟩:=h.ops hn (hx.opb hk)
 obtain rfl:F1=F2:=c1
 obtain rfl:G1=G2:=d1
 exact ⟨F1,G1,.mk' h.ap a b (h.ks.rd (by omega) hx hk) h.um,c,d⟩
theorem cj.FL (hn:n≤40) (path:Str) :
  ∃ F1 G1,cj y st pp r qq (s.rds (bS s.L cwd path).1) (cdN cwd (bS s.L cwd path).2) um (n+1) N M (jkP y st pp r qq (cdN cwd (bS s.L cwd path).2) um N F1 G1)∧RP st N s.L (bS s.L cwd path).1 H F1∧RR' r M s.L (bS s.L cwd path).1 H G1:=by
 obtain ⟨F1,F2,G1,G2,a,b,c,c1,d,d1⟩:=h.ops hn ((rT h.ks.lk cwd path).opb (by decide))
 obtain rfl:F1=F2:=c1
 obtain rfl:G1=G2:=d1
 exact ⟨F1,G1,.mk' h.ap a b (h.ks.FL (by omega) path) h.um,c,d⟩
end
end Go.Proofs.YtmoaidkglldhcaaGreatDoor
namespace Go.Proofs.YtmoaidkglldhcaaGreatDoor
open Go Go.Ab
set_option maxRecDepth 20000
set_option maxHeartbeats 8000000
section
variable {pp st:Oid} {N:List Oid} {F F1 F2:Oid→ao} {L:PL} (hK:KL L) (hm:∀ n,0≤(aF L n).m∧(aF L n).m≤7) {cwd:Str} (hc:cwd.length≤1000000) (um:Int) (hpN:pp ∉ N) {p:Oid} (hp:p.mono=false) (hpp:¬ Oid.under p pp) (hO:bc p N)
include hK hm hc hpN hp hpp hO
theorem Bx (path:Str) (hpath:path.length≤4000000000) (to':Str) (hto':to'.length≤4000000000) (hA:RR' st N L (dr L cwd path to').1 F F1) (hP:PR st N (bT (dr L cwd path to').2) F1 F2) :
  ah Tryz.prog 67 [.ptr pp 0,.str path,.str to'] (Oid.under p) ⟨(pp,prC st cwd um)::bk (N,F),.int .i64 (aH (dr L cwd path to').2),sb N F2⟩:=by
 have hf:=fun F' h p hp hpp hO=>cZ (pp:=pp) (st:=st) (N:=N) (F:=F) (F':=F') hK path cwd um false hpN hc hpath h p hp hpp hO
 have hne:=dK hK (cwd:=cwd) path false
 have hlen:=cg hK hc path false
 unfold dr at hA hP ⊢
 rcases dh L cwd path false with ⟨rd,e,h1,h2⟩|⟨rd,pl,ek,em,el,h1,h0,h2⟩|⟨rd,pl,ek,em,el,h1,h0,h2⟩
 ·rw [h2] at hA hP ⊢
  rw [h1] at hf hne
  simp only [a7] at hA hP ⊢
  obtain rfl:F1=F2:=hP
  have e0:¬ e=0:=hne _ rfl
  have hf':=hf _ hA
  unfold prC at hf' ⊢
  simp only [fnV,rdB,Bits.no,aH] at hf'
  refine aD (n:=89) (rs:=[.tmp 6]) Tryz.func67 rfl rfl (by decide) rfl rfl rfl ?_;rintro x rfl hrd hng
  rw [aC]
  refine kr0 ?_
  refine kr1 hf' ?_
  refine kw e0 ?_
  exact kq
 ·rw [h2] at hA hP ⊢
  rw [h1] at hf hne
  simp only [a7] at hA hP ⊢
  obtain rfl:F1=F2:=hP
  have hf':=hf _ hA
  unfold prC at hf' ⊢
  simp only [fnV,rdB,Bits.no,aH] at hf'
  refine aD (n:=89) (rs:=[.tmp 6]) Tryz.func67 rfl rfl (by decide) rfl rfl rfl ?_;rintro x rfl hrd hng
  rw [aC]
  refine kr0 ?_
  refine kr1 hf' ?_
  refine kw h0 ?_
  exact kq
 ·rw [h2] at hA hP ⊢
  rw [h1] at hf hne hlen
  simp only [bG] at hA hP ⊢
  have hpl:=hlen _ rfl
  simp only at hpl
  obtain ⟨F0,hA1,hA2⟩:=bf hA
  by_cases c1:ek=2
  ·rw [if_pos c1] at hA2 hP ⊢
   obtain rfl:F0=F1:=hA2
   obtain rfl:F0=F2:=hP
   have hf':=hf _ hA1
   unfold prC at hf' ⊢
   simp only [fnV,rdB,Bits.no,aH] at hf'
   refine aD (n:=89) (rs:=[.tmp 6]) Tryz.func67 rfl rfl (by decide) rfl rfl rfl ?_;rintro x rfl hrd hng
   rw [aC]
   refine kr0 ?_
   refine kr1 hf' ?_
   (repeat (first|(refine aA rfl rfl ?_)|(refine az rfl rfl ?_)|(refine aw nmd [] hng (by kernel_rfl) fun hf C S K hC1 hC hS hK=>?_;simp (disch:=first|omega|assumption) only [go_sem,Oid.ab hpp,Oid.aa hpp,hpN,hO,h0,c1,fO,eq_self,decide_true,decide_false,ne_eq,not_true_eq_false,not_false_eq_true];refine hK ?_;clear hK hS hC hC1 K S C hf)|((first|refine zn ?_|refine ze ?_|refine zk ?_);with_reducible (constructor;repeat constructor);try refine zl ?_)))
   exact kq
  rw [if_neg c1] at hA2 hP ⊢
  have hf2:=fun F' h p hp hpp hO=>cZ (pp:=pp) (st:=st) (N:=N) (F:=F0) (F':=F') hK to' cwd um false hpN hc hto' h p hp hpp hO
  have hne2:=dK hK (cwd:=cwd) to' false
  have hlen2:=cg hK hc to' false
  rcases kM L cwd to' false with ⟨rd2,e2,h1b⟩|⟨rd2,pl2,ek2,em2,el2,h1b⟩
  ·rw [h1b] at hA2 hP ⊢
   rw [h1b] at hf2 hne2
   simp only [a7] at hA2 hP ⊢
   obtain rfl:F1=F2:=hP
   have e20:¬ e2=0:=hne2 _ rfl
   have hf2':=hf2 _ hA2
   unfold prC at hf2'
   simp only [fnV,rdB,Bits.no,aH] at hf2'
   have hf':=hf _ hA1
   unfold prC at hf' ⊢
   simp only [fnV,rdB,Bits.no,aH] at hf'
   refine aD (n:=89) (rs:=[.tmp 6]) Tryz.func67 rfl rfl (by decide) rfl rfl rfl ?_;rintro x rfl hrd hng
   rw [aC]
   refine kr0 ?_
   refine kr1 hf' ?_
   refine kw (ai h0 c1) ?_
   refine kr1 hf2' ?_
   refine kw e20 ?_
   exact kq
  ·have hpne:=qA h1b
   have hpl0:0 < to'.length:=List.length_pos_iff.2 hpne
   have hen:=oW hpne
   have e1:((to'.length:Int) - 1).toNat=to'.length - 1:=by omega
   have e3:((to'.length - 1:Nat):Int)=(to'.length:Int) - 1:=by omega
   rw [h1b] at hA2 hP ⊢
   rw [h1b] at hf2 hlen2
   simp only [bG] at hA2 hP ⊢
   have hpl2:=hlen2 _ rfl
   simp only at hpl2
   obtain ⟨F4,hA3,hA4⟩:=bf hA2
   by_cases c2:ek2=2
   ·rw [if_pos c2] at hA4 hP ⊢
    obtain rfl:F4=F1:=hA4
    obtain rfl:F4=F2:=hP
    have hf2':=hf2 _ hA3
    unfold prC at hf2'
    simp only [fnV,rdB,Bits.no,aH] at hf2'
    have hf':=hf _ hA1
    unfold prC at hf' ⊢
    simp only [fnV,rdB,Bits.no,aH] at hf'
    refine aD (n:=89) (rs:=[.tmp 6]) Tryz.func67 rfl rfl (by decide) rfl rfl rfl ?_;rintro x rfl hrd hng
    rw [aC]
    refine kr0 ?_
    refine kr1 hf' ?_
    refine kw (ai h0 c1) ?_
    refine kr1 hf2' ?_
    (repeat (first|(refine aA rfl rfl ?_)|(refine az rfl rfl ?_)|(refine aw nmd [] hng (by kernel_rfl) fun hf C S K hC1 hC hS hK=>?_;simp (disch:=first|omega|assumption) only [go_sem,Oid.ab hpp,Oid.aa hpp,hpN,hO,c2,fO,eq_self,decide_true,decide_false,ne_eq,not_true_eq_false,not_false_eq_true];refine hK ?_;clear hK hS hC hC1 K S C hf)|((first|refine zn ?_|refine ze ?_|refine zk ?_);with_reducible (constructor;repeat constructor);try refine zl ?_)))
    exact kq
   rw [if_neg c2] at hA4 hP ⊢
   by_cases c3:ek2=0
   case neg =>
    rw [if_neg (fun h=>c3 h.1)] at hA4 hP ⊢
    by_cases g0:bZ pl (aF L (aR pl))=0
    case neg =>
     rw [fv g0] at hA4 hP ⊢
     obtain rfl:F1=F2:=hP
     have hrm:=fun p hp hpp hO=>eh (pp:=pp) (st:=st) (N:=N) (F:=F4) (F1:=F1) (L:=L) (cwd:=cwd) um hpN (p:=p) hp hpp hO hm pl hpl hA4
     unfold prC at hrm
     generalize bZ pl (aF L (aR pl))=g at hrm g0 ⊢
     have hf2':=hf2 _ hA3
     unfold prC at hf2'
     simp only [fnV,rdB,Bits.no,aH] at hf2'
     have hf':=hf _ hA1
     unfold prC at hf' ⊢
     simp only [fnV,rdB,Bits.no,aH] at hf'
     refine aD (n:=89) (rs:=[.tmp 6]) Tryz.func67 rfl rfl (by decide) rfl rfl rfl ?_;rintro x rfl hrd hng
     rw [aC]
     refine kr0 ?_
     refine kr1 hf' ?_
     refine kw (ai h0 c1) ?_
     refine kr1 hf2' ?_
     refine kw (ai c2 c3) ?_
     refine kr (.d [] [(3,52)] []) c3 trivial ?_
     refine kw c3 ?_
     refine kr1 hrm ?_
     refine kw g0 ?_
     exact kq
    rw [fq g0] at hA4 hP ⊢
    obtain ⟨F3,hA5,hA6⟩:=bf hA4
    have hrm:=fun p hp hpp hO=>eh (pp:=pp) (st:=st) (N:=N) (F:=F4) (F1:=F3) (L:=L) (cwd:=cwd) um hpN (p:=p) hp hpp hO hm pl hpl hA5
    rw [g0] at hrm
    simp only [cb] at hA6 hP ⊢
    have hrm2:=fun p hp hpp hO=>eh (pp:=pp) (st:=st) (N:=N) (F:=F3) (F1:=F1) (L:=L) (cwd:=cwd) um hpN (p:=p) hp hpp hO hm pl2 hpl2 hA6
    unfold prC at hrm hrm2
    generalize bZ pl2 (aF L (aR pl2))=g2 at hrm2 hP ⊢
    by_cases g20:g2=0
    case neg =>
     rw [if_pos g20] at hP ⊢
     obtain rfl:F1=F2:=hP
     have hf2':=hf2 _ hA3
     unfold prC at hf2'
     simp only [fnV,rdB,Bits.no,aH] at hf2'
     have hf':=hf _ hA1
     unfold prC at hf' ⊢
     simp only [fnV,rdB,Bits.no,aH] at hf'
     refine aD (n:=89) (rs:=[.tmp 6]) Tryz.func67 rfl rfl (by decide) rfl rfl rfl ?_;rintro x rfl hrd hng
     rw [aC]
     refine kr0 ?_
     refine kr1 hf' ?_
     refine kw (ai h0 c1) ?_
     refine kr1 hf2' ?_
     refine kw (ai c2 c3) ?_
     refine kr (.d [] [(3,52)] []) c3 trivial ?_
     refine kw c3 ?_
     refine kr1 hrm ?_
     refine kw0 ?_
     refine kr1 hrm2 ?_
     refine kw g20 ?_
     exact kq
    rw [if_neg (fun h=>h g20)] at hP ⊢
    subst g20
    by_cases hab:pl=pl2
    ·rw [if_pos hab] at hP ⊢
     obtain rfl:F1=F2:=hP
     have hf2':=hf2 _ hA3
     unfold prC at hf2'
     simp only [fnV,rdB,Bits.no,aH] at hf2'
     have hf':=hf _ hA1
     unfold prC at hf' ⊢
     simp only [fnV,rdB,Bits.no,aH] at hf'
     refine aD (n:=89) (rs:=[.tmp 6]) Tryz.func67 rfl rfl (by decide) rfl rfl rfl ?_;rintro x rfl hrd hng
     rw [aC]
     refine kr0 ?_
     refine kr1 hf' ?_
     refine kw (ai h0 c1) ?_
     refine kr1 hf2' ?_
     refine kw (ai c2 c3) ?_
     refine kr (.d [] [(3,52)] []) c3 trivial ?_
     refine kw c3 ?_
     refine kr1 hrm ?_
     refine kw0 ?_
     refine kr1 hrm2 ?_
     refine kw hab ?_
     exact kq
    rw [if_neg hab] at hP ⊢
    obtain ⟨F5,hput1,F6,hput2,rfl⟩:=hP
    have hput1':∀ p,p.mono=false→bc p N→ah Tryz.prog 26 [.ptr st 0,.str pl,.agg [.int .i64 0,.int .i64 0,.str []]] (Oid.under p) ⟨bk (N,F1),.tuple [],sb N F5⟩:=hput1
    have hput2':∀ p,p.mono=false→bc p N→ah Tryz.prog 26 [.ptr st 0,.str pl2,.agg [.int .i64 ek,.int .i64 em,.str el]] (Oid.under p) ⟨bk (N,F5),.tuple [],sb N F6⟩:=hput2
    have hf2':=hf2 _ hA3
    unfold prC at hf2'
    simp only [fnV,rdB,Bits.no,aH] at hf2'
    have hf':=hf _ hA1
    unfold prC at hf' ⊢
    simp only [fnV,rdB,Bits.no,aH] at hf'
    refine aD (n:=89) (rs:=[.tmp 6]) Tryz.func67 rfl rfl (by decide) rfl rfl rfl ?_;rintro x rfl hrd hng
    rw [aC]
    refine kr0 ?_
    refine kr1 hf' ?_
    refine kw (ai h0 c1) ?_
    refine kr1 hf2' ?_
    refine kw (ai c2 c3) ?_
    refine kr (.d [] [(3,52)] []) c3 trivial ?_
    refine kw c3 ?_
    refine kr1 hrm ?_
    refine kw0 ?_
    refine kr1 hrm2 ?_
    refine kw hab ?_
    refine kr1 hput1' ?_
    refine kd (.d [] [] [0]) trivial (cq hput2' trivial) ?_
    refine kw0 ?_
    exact kq
   subst c3
   by_cases c4:cN to' = true
   ·rw [if_pos ⟨rfl,c4⟩] at hA4 hP ⊢
    have h47:=hen.1 c4
    obtain rfl:F4=F1:=hA4
    obtain rfl:F4=F2:=hP
    have hf2':=hf2 _ hA3
    unfold prC at hf2'
    simp only [fnV,rdB,Bits.no,aH] at hf2'
    have hf':=hf _ hA1
    unfold prC at hf' ⊢
    simp only [fnV,rdB,Bits.no,aH] at hf'
    refine aD (n:=89) (rs:=[.tmp 6]) Tryz.func67 rfl rfl (by decide) rfl rfl rfl ?_;rintro x rfl hrd hng
    rw [aC]
    refine kr0 ?_
    refine kr1 hf' ?_
    refine kw (ai h0 c1) ?_
    refine kr1 hf2' ?_
    refine kw c2 ?_
    refine kr (.d [] [(3,52)] []) (ai e1 h47) trivial ?_
    refine kw (ai e1 h47) ?_
    exact kq
   rw [if_neg (fun h=>c4 h.2)] at hA4 hP ⊢
   have h47:¬ ((to'.getD (to'.length - 1) 0).toNat:Int)=47:=fun h=>c4 (hen.2 h)
   by_cases g0:bZ pl (aF L (aR pl))=0
   case neg =>
    rw [fv g0] at hA4 hP ⊢
    obtain rfl:F1=F2:=hP
    have hrm:=fun p hp hpp hO=>eh (pp:=pp) (st:=st) (N:=N) (F:=F4) (F1:=F1) (L:=L) (cwd:=cwd) um hpN (p:=p) hp hpp hO hm pl hpl hA4
    unfold prC at hrm
    generalize bZ pl (aF L (aR pl))=g at hrm g0 ⊢
    have hf2':=hf2 _ hA3
    unfold prC at hf2'
    simp only [fnV,rdB,Bits.no,aH] at hf2'
    have hf':=hf _ hA1
    unfold prC at hf' ⊢
    simp only [fnV,rdB,Bits.no,aH] at hf'
    refine aD (n:=89) (rs:=[.tmp 6]) Tryz.func67 rfl rfl (by decide) rfl rfl rfl ?_;rintro x rfl hrd hng
    rw [aC]
    refine kr0 ?_
    refine kr1 hf' ?_
    refine kw (ai h0 c1) ?_
    refine kr1 hf2' ?_
    refine kw (ai c2 (ai e1 h47)) ?_
    refine kr (.d [] [(3,52)] []) (ai e1 h47) trivial ?_
    refine kw (ai e1 h47) ?_
    refine kr1 hrm ?_
    refine kw g0 ?_
    exact kq
   rw [fq g0] at hA4 hP ⊢
   obtain ⟨F3,hA5,hA6⟩:=bf hA4
   have hrm:=fun p hp hpp hO=>eh (pp:=pp) (st:=st) (N:=N) (F:=F4) (F1:=F3) (L:=L) (cwd:=cwd) um hpN (p:=p) hp hpp hO hm pl hpl hA5
   rw [g0] at hrm
   simp only [cb] at hA6 hP ⊢
   have hrm2:=fun p hp hpp hO=>eh (pp:=pp) (st:=st) (N:=N) (F:=F3) (F1:=F1) (L:=L) (cwd:=cwd) um hpN (p:=p) hp hpp hO hm pl2 hpl2 hA6
   unfold prC at hrm hrm2
   generalize bZ pl2 (aF L (aR pl2))=g2 at hrm2 hP ⊢
   by_cases g20:g2=0
   case neg =>
    rw [if_pos g20] at hP ⊢
    obtain rfl:F1=F2:=hP
    have hf2':=hf2 _ hA3
    unfold prC at hf2'
    simp only [fnV,rdB,Bits.no,aH] at hf2'
    have hf':=hf _ hA1
    unfold prC at hf' ⊢
    simp only [fnV,rdB,Bits.no,aH] at hf'
    refine aD (n:=89) (rs:=[.tmp 6]) Tryz.func67 rfl rfl (by decide) rfl rfl rfl ?_;rintro x rfl hrd hng
    rw [aC]
    refine kr0 ?_
    refine kr1 hf' ?_
    refine kw (ai h0 c1) ?_
    refine kr1 hf2' ?_
    refine kw (ai c2 (ai e1 h47)) ?_
    refine kr (.d [] [(3,52)] []) (ai e1 h47) trivial ?_
    refine kw (ai e1 h47) ?_
    refine kr1 hrm ?_
    refine kw0 ?_
    refine kr1 hrm2 ?_
    refine kw g20 ?_
    exact kq
   rw [if_neg (fun h=>h g20)] at hP ⊢
   subst g20
   by_cases hab:pl=pl2
   ·rw [if_pos hab] at hP ⊢
    obtain rfl:F1=F2:=hP
    have hf2':=hf2 _ hA3
    unfold prC at hf2'
    simp only [fnV,rdB,Bits.no,aH] at hf2'
    have hf':=hf _ hA1
    unfold prC at hf' ⊢
    simp only [fnV,rdB,Bits.no,aH] at hf'
    refine aD (n:=89) (rs:=[.tmp 6]) Tryz.func67 rfl rfl (by decide) rfl rfl rfl ?_;rintro x rfl hrd hng
    rw [aC]
    refine kr0 ?_
    refine kr1 hf' ?_
    refine kw (ai h0 c1) ?_
    refine kr1 hf2' ?_
    refine kw (ai c2 (ai e1 h47)) ?_
    refine kr (.d [] [(3,52)] []) (ai e1 h47) trivial ?_
    refine kw (ai e1 h47) ?_
    refine kr1 hrm ?_
    refine kw0 ?_
    refine kr1 hrm2 ?_
    refine kw hab ?_
    exact kq
   rw [if_neg hab] at hP ⊢
   obtain ⟨F5,hput1,F6,hput2,rfl⟩:=hP
   have hput1':∀ p,p.mono=false→bc p N→ah Tryz.prog 26 [.ptr st 0,.str pl,.agg [.int .i64 0,.int .i64 0,.str []]] (Oid.under p) ⟨bk (N,F1),.tuple [],sb N F5⟩:=hput1
   have hput2':∀ p,p.mono=false→bc p N→ah Tryz.prog 26 [.ptr st 0,.str pl2,.agg [.int .i64 ek,.int .i64 em,.str el]] (Oid.under p) ⟨bk (N,F5),.tuple [],sb N F6⟩:=hput2
   have hf2':=hf2 _ hA3
   unfold prC at hf2'
   simp only [fnV,rdB,Bits.no,aH] at hf2'
   have hf':=hf _ hA1
   unfold prC at hf' ⊢
   simp only [fnV,rdB,Bits.no,aH] at hf'
   refine aD (n:=89) (rs:=[.tmp 6]) Tryz.func67 rfl rfl (by decide) rfl rfl rfl ?_;rintro x rfl hrd hng
   rw [aC]
   refine kr0 ?_
   refine kr1 hf' ?_
   refine kw (ai h0 c1) ?_
   refine kr1 hf2' ?_
   refine kw (ai c2 (ai e1 h47)) ?_
   refine kr (.d [] [(3,52)] []) (ai e1 h47) trivial ?_
   refine kw (ai e1 h47) ?_
   refine kr1 hrm ?_
   refine kw0 ?_
   refine kr1 hrm2 ?_
   refine kw hab ?_
   refine kr1 hput1' ?_
   refine kd (.d [] [] [0]) trivial (cq hput2' trivial) ?_
   refine kw0 ?_
   exact kq
end
end Go.Proofs.YtmoaidkglldhcaaGreatDoor
namespace Go.Proofs.YtmoaidkglldhcaaGreatDoor
open Go Go.Ab
set_option maxRecDepth 20000
set_option maxHeartbeats 8000000
theorem By {p y pp qq:Oid} {N M:List Oid} (hy:¬ Oid.under p y) (hpp:¬ Oid.under p pp) (hqq:¬ Oid.under p qq) (yp:¬ y=pp) (yq:¬ y=qq) (pq:¬ pp=qq) (h1:y ∉ N) (h2:y ∉ M) (h3:pp ∉ N) (h4:pp ∉ M) (h5:qq ∉ N) (h6:qq ∉ M) :
  (∀ c i,¬ y = .sub c i p)∧(∀ c i,¬ .sub c i p=y)∧(∀ c i,¬ pp = .sub c i p)∧(∀ c i,¬ .sub c i p=pp)∧(∀ c i,¬ qq = .sub c i p)∧(∀ c i,¬ .sub c i p=qq)∧¬ y=pp∧¬ y=qq∧¬ pp=qq∧¬ pp=y∧¬ qq=y∧¬ qq=pp∧y ∉ N∧y ∉ M∧pp ∉ N∧pp ∉ M∧qq ∉ N∧qq ∉ M :=
 ⟨fun c i e=>hy (e ▸ Oid.ae (Oid.aq _)),fun c i e=>hy (e ▸ Oid.ae (Oid.aq _)),fun c i e=>hpp (e ▸ Oid.ae (Oid.aq _)),fun c i e=>hpp (e ▸ Oid.ae (Oid.aq _)),fun c i e=>hqq (e ▸ Oid.ae (Oid.aq _)),fun c i e=>hqq (e ▸ Oid.ae (Oid.aq _)),yp,yq,pq,fun e=>yp e.symm,fun e=>yq e.symm,fun e=>pq e.symm,h1,h2,h3,h4,h5,h6⟩
structure ActK where
 w:UInt8
 a:UInt8
 b:UInt8
 n:UInt8
 raw:Str
instance:Inhabited ActK:=⟨⟨0,0,0,0,[]⟩⟩
def bu (a:ActK):AV:=.agg [.int .u8 a.w.toNat,.int .u8 a.a.toNat,.int .u8 a.b.toNat,.int .u8 a.n.toNat,.str a.raw]
attribute [go_sem] bu AV.cells
def rV:List Str:=[[97],[98],[97,47,98],[47,97],[47,97,47,98],[46,46,47,97],[46,47,98,47],[108],[108,47,98],[108,47],[47],[46,46],[97,47],[97,47,47,98,47,46],[98,47,99],[]]
def cz (i:UInt8) (raw:Str):Str:=if 240≤i.toNat then raw else rV.getD (i.toNat % 16) default
theorem gy (i:UInt8) {raw:Str} (h:raw.length≤4000000):(cz i raw).length≤4000000:=by
 unfold cz
 split
 ·exact h
 ·have hm:i.toNat % 16 < 16:=Nat.mod_lt _ (by decide)
  have key:∀ k,k < 16→(rV.getD k default).length≤4000000:=by decide
  exact key _ hm
theorem iL (i:UInt8) (raw:Str) (p:Oid):ah Tryz.prog 36 [.int .u8 i.toNat,.str raw] (Oid.under p) ⟨[],.str (cz i raw),[]⟩:=by
 have hP:[AV.str [97],AV.str [98],AV.str [97,47,98],AV.str [47,97],AV.str [47,97,47,98],AV.str [46,46,47,97],AV.str [46,47,98,47],AV.str [108],AV.str [108,47,98],AV.str [108,47],AV.str [47],AV.str [46,46],AV.str [97,47],AV.str [97,47,47,98,47,46],AV.str [98,47,99],AV.str []]=rV.map AV.str:=rfl
 have hPl:rV.length=16:=rfl
 have h16:((i.toNat:Int)).tmod ((16:Nat):Int)=((i.toNat % 16:Nat):Int):=bF i.toNat 16
 have hlt:=i.toNat_lt
 have hm:i.toNat % 16 < 16:=Nat.mod_lt _ (by decide)
 refine aD (n:=18) (rs:=[.tmp 4]) Tryz.func36 rfl rfl (by decide) rfl rfl rfl ?_;rintro x rfl hrd hng
 refine qr0 ?_
 refine qr0 ?_
 refine qw0 ?_
 unfold cz
 by_cases c:240≤i.toNat
 ·rw [if_pos c]
  refine aS rfl rfl (fun hb=>?_) (fun hb=>?_)
  case refine_2=>exact absurd (by omega) hb
  refine qw0 ?_
  exact ay (bj rfl)
 ·rw [if_neg c]
  refine aS rfl rfl (fun hb=>?_) (fun hb=>?_)
  case refine_1=>exact absurd (by omega) c
  refine qr .o (ai h16 (ai hP hPl)) trivial ?_
  refine qw0 ?_
  exact ay (bj rfl)
theorem wI (st:Oid) (cwd:Str) (um:Int) (p:Oid):ah Tryz.prog 44 [.ptr st 0,.str cwd,.int .i64 um] (Oid.under p) ⟨[],.ptr (.sub 1 5 p) 0,[(.sub 1 5 p,some (prC st cwd (c8 um 7)))]⟩:=by
 refine aD (n:=13) (rs:=[.tmp 6]) Tryz.func44 rfl rfl (by decide) rfl rfl rfl ?_;rintro x rfl hrd hng
 refine qw0 ?_
 refine ay (a6 rfl ?_ ?_)
 all_goals simp [Mem.af,prC]
theorem DD (st:Oid) (cwd:Str) (um:Int) (p:Oid):ah Tryz.prog 49 [.ptr st 0,.str cwd,.int .i64 um] (Oid.under p) ⟨[],.ptr (.sub 1 5 p) 0,[(.sub 1 5 p,some (prC st cwd (c8 um 7)))]⟩:=by
 refine aD (n:=13) (rs:=[.tmp 6]) Tryz.func49 rfl rfl (by decide) rfl rfl rfl ?_;rintro x rfl hrd hng
 refine qw0 ?_
 refine ay (a6 rfl ?_ ?_)
 all_goals simp [Mem.af,prC]
end Go.Proofs.YtmoaidkglldhcaaGreatDoor
namespace Go.Proofs.YtmoaidkglldhcaaGreatDoor
open Go Go.Ab
set_option maxRecDepth 20000
set_option maxHeartbeats 8000000
def Bz (y st pp r qq:Oid) (um:Int) (n:Nat) (N M:List Oid) (H:Oid→ao) (a:ActK) (p:Oid):Prop :=
 ∃ (s':St) (cwd':Str) (H':Oid→ao),cj y st pp r qq s' cwd' um (n+1) N M H'∧ah Tryz.prog 21 [.ptr y 0,bu a] (Oid.under p) ⟨bk (KB y pp qq N M,H),.bool true,sb (KB y pp qq N M) H'⟩
def tY (y st pp r qq:Oid) (um:Int) (n:Nat) (N M:List Oid) (H:Oid→ao) (a:ActK) (p:Oid):Prop :=
 bV Tryz.prog 21 [.ptr y 0,bu a] (Oid.under p) (bk (KB y pp qq N M,H)) (fun v u=>v = .bool true∧∃ (s':St) (cwd':Str) (H':Oid→ao),cj y st pp r qq s' cwd' um (n+1) N M H'∧u=sb (KB y pp qq N M) H') (fun _ _=>False)
section
variable {y st pp r qq:Oid} {s:St} {cwd:Str} {um:Int} {n:Nat} {N M:List Oid} {H:Oid→ao} (h:cj y st pp r qq s cwd um n N M H) (hn:n≤40) (b c k:UInt8) (raw:Str) (hraw:raw.length≤4000000) {p:Oid} (hp:p.mono=false) (hO:bc p (KB y pp qq N M))
include h hn hp hO hraw
theorem DE (a:UInt8) (ha:a.toNat < 128):Bz y st pp r qq um n N M H ⟨a,b,c,k,raw⟩ p:=by
 unfold Bz
 obtain ⟨hy,hpp,hqq,hON,hOM⟩:=KB.old hO
 obtain ⟨hy,hpp,hqq,hON,hOM⟩:=KB.old hO;have yp:=h.ap.yp;have yq:=h.ap.yq;have pq:=h.ap.pq;have yp':¬ pp=y:=fun e=>yp e.symm;have yq':¬ qq=y:=fun e=>yq e.symm;have pq':¬ qq=pp:=fun e=>pq e.symm;have hyN:=h.ap.yN;have hyM:=h.ap.yM;have hpN:=h.ap.pN;have hpM:=h.ap.pM;have hqN:=h.ap.qN;have hqM:=h.ap.qM;have hdj:=h.ap.dj;have hcy:=h.cy;have hcp:=h.cp;have hcq:=h.cq;have Q:=By hy hpp hqq yp yq pq hyN hyM hpN hpM hqN hqM;have hkl:=h.ks.kl;have hmo:=h.ks.mo;have hcl:cwd.length≤1000000:=(by have:=h.ks.cl;omega)
 have h128:¬ (128:Int)≤(a.toNat:Int):=by omega
 have hmod:((a.toNat:Int)).tmod 11=((a.toNat % 11:Nat):Int):=bF _ 11
 have hlt:a.toNat % 11 < 11:=Nat.mod_lt _ (by decide)
 have hP:=fun p=>iL b raw p
 have hQ:=fun p=>iL c raw p
 have hl1:=gy b hraw
 have hl2:=gy c hraw
 generalize cz b raw=u at hP hl1
 generalize cz c raw=v at hQ hl2
 have hk:=k.toNat_lt
 have hk9:k.toNat % 9 < 9:=Nat.mod_lt _ (by decide)
 have h9:((k.toNat:Int)).tmod 9=((k.toNat % 9:Nat):Int):=bF _ 9
 have hk3:k.toNat % 3 < 3:=Nat.mod_lt _ (by decide)
 have h3:((k.toNat:Int)).tmod 3=((k.toNat % 3:Nat):Int):=bF _ 3
 obtain ⟨more,hmore⟩:∃ t,decide (((k.toNat:Int)).tmod 2=0)=t:=⟨_,rfl⟩
 have hdl:(([120,121,122]:Str).drop (k.toNat % 3)).length≤4000000000:=by rw [List.length_drop];simp only [List.length_cons,List.length_nil];omega
 unfold prC at hcp hcq
 have hw:a.toNat % 11=0∨a.toNat % 11=1∨a.toNat % 11=2∨a.toNat % 11=3∨a.toNat % 11=4∨a.toNat % 11=5∨a.toNat % 11=6∨a.toNat % 11=7∨a.toNat % 11=8∨a.toNat % 11=9∨a.toNat % 11=10:=by omega
 rcases hw with hw|hw|hw|hw|hw|hw|hw|hw|hw|hw|hw
 ·obtain ⟨F1,F2,G1,G2,hPK,e1,e2,e3,e4⟩:=h.op hn (j6 h.ks.st um (eo h.um).1 u (([120,121,122]:Str).drop (k.toNat % 3)) more)
  have hA:=fun p hp hpp hO=>lD (pp:=pp) (st:=st) (N:=N) (F:=H) (F1:=F1) (F2:=F2) hkl hcl um hpN (p:=p) hp hpp hO u (by omega) _ hdl more e1 e2
  have hB:=fun p hp hpp hO=>rP (pp:=qq) (st:=r) (N:=M) (F:=H) (F1:=G1) (F2:=G2) hkl hmo hcl um hqM (p:=p) hp hpp hO u (by omega) _ hdl more e3 e4
  clear e1 e3
  clear e2 e4
  generalize aH (dp s.L cwd um u (([120,121,122]:Str).drop (k.toNat % 3)) more).2=E at hA hB
  unfold prC at hA hB
  rw [hw] at hmod
  refine ⟨_,_,_,hPK,?_⟩
  refine aD (n:=179) (rs:=[.tmp 4]) Tryz.func21 rfl rfl (by decide) rfl rfl rfl ?_;rintro x rfl hrd hng
  rw [bO,hcy,hcp,hcq]
  refine qr0 ?_
  refine mr .o h128 trivial ?_
  refine qw h128 ?_
  refine md (.d [(4,6),(4,8)] [] [0,3,5,6]) trivial (cq (hP _) (cq (hQ _) trivial)) ?_
  refine mr .o hmod trivial ?_
  refine mw0 ?_
  refine md (.d [(14,18),(14,21),(14,26)] [] [4]) (ai h3 hmore) (cq hA (cq hB trivial)) ?_
  refine qw0 ?_
  exact mj
 ·obtain ⟨F1,F2,G1,G2,hPK,e1,e2,e3,e4⟩:=h.op hn (j6 h.ks.st um (eo h.um).1 u (([120,121,122]:Str).drop (k.toNat % 3)) more)
  have hA:=fun p hp hpp hO=>lD (pp:=pp) (st:=st) (N:=N) (F:=H) (F1:=F1) (F2:=F2) hkl hcl um hpN (p:=p) hp hpp hO u (by omega) _ hdl more e1 e2
  have hB:=fun p hp hpp hO=>rP (pp:=qq) (st:=r) (N:=M) (F:=H) (F1:=G1) (F2:=G2) hkl hmo hcl um hqM (p:=p) hp hpp hO u (by omega) _ hdl more e3 e4
  clear e1 e3
  clear e2 e4
  generalize aH (dp s.L cwd um u (([120,121,122]:Str).drop (k.toNat % 3)) more).2=E at hA hB
  unfold prC at hA hB
  rw [hw] at hmod
  refine ⟨_,_,_,hPK,?_⟩
  refine aD (n:=179) (rs:=[.tmp 4]) Tryz.func21 rfl rfl (by decide) rfl rfl rfl ?_;rintro x rfl hrd hng
  rw [bO,hcy,hcp,hcq]
  refine qr0 ?_
  refine mr .o h128 trivial ?_
  refine qw h128 ?_
  refine md (.d [(4,6),(4,8)] [] [0,3,5,6]) trivial (cq (hP _) (cq (hQ _) trivial)) ?_
  refine mr .o hmod trivial ?_
  refine mw0 ?_
  refine md (.d [(14,18),(14,21),(14,26)] [] [4]) (ai h3 hmore) (cq hA (cq hB trivial)) ?_
  refine qw0 ?_
  exact mj
 ·obtain ⟨F1,F2,G1,G2,hPK,e1,e2,e3,e4⟩:=h.op hn (j7 h.ks.st um (eo h.um).2 u)
  have hA:=fun p hp hpp hO=>lE (pp:=pp) (st:=st) (N:=N) (F:=H) (F1:=F1) (F2:=F2) hkl hcl um hpN (p:=p) hp hpp hO u (by omega) e1 e2
  have hB:=fun p hp hpp hO=>rQ (pp:=qq) (st:=r) (N:=M) (F:=H) (F1:=G1) (F2:=G2) hkl hmo hcl um hqM (p:=p) hp hpp hO u (by omega) e3 e4
  clear e1 e3
  clear e2 e4
  generalize aH (dA s.L cwd um u).2=E at hA hB
  unfold prC at hA hB
  rw [hw] at hmod
  refine ⟨_,_,_,hPK,?_⟩
  refine aD (n:=179) (rs:=[.tmp 4]) Tryz.func21 rfl rfl (by decide) rfl rfl rfl ?_;rintro x rfl hrd hng
  rw [bO,hcy,hcp,hcq]
  refine qr0 ?_
  refine mr .o h128 trivial ?_
  refine qw h128 ?_
  refine md (.d [(4,6),(4,8)] [] [0,3,5,6]) trivial (cq (hP _) (cq (hQ _) trivial)) ?_
  refine mr .o hmod trivial ?_
  refine mw0 ?_
  refine md (.d [(5,9)] [] [4]) trivial (cq hA (cq hB trivial)) ?_
  refine qw0 ?_
  exact mj
 ·obtain ⟨F1,F2,G1,G2,hPK,e1,e2,e3,e4⟩:=h.op hn (j7 h.ks.st um (eo h.um).2 u)
  have hA:=fun p hp hpp hO=>lE (pp:=pp) (st:=st) (N:=N) (F:=H) (F1:=F1) (F2:=F2) hkl hcl um hpN (p:=p) hp hpp hO u (by omega) e1 e2
  have hB:=fun p hp hpp hO=>rQ (pp:=qq) (st:=r) (N:=M) (F:=H) (F1:=G1) (F2:=G2) hkl hmo hcl um hqM (p:=p) hp hpp hO u (by omega) e3 e4
  clear e1 e3
  clear e2 e4
  generalize aH (dA s.L cwd um u).2=E at hA hB
  unfold prC at hA hB
  rw [hw] at hmod
  refine ⟨_,_,_,hPK,?_⟩
  refine aD (n:=179) (rs:=[.tmp 4]) Tryz.func21 rfl rfl (by decide) rfl rfl rfl ?_;rintro x rfl hrd hng
  rw [bO,hcy,hcp,hcq]
  refine qr0 ?_
  refine mr .o h128 trivial ?_
  refine qw h128 ?_
  refine md (.d [(4,6),(4,8)] [] [0,3,5,6]) trivial (cq (hP _) (cq (hQ _) trivial)) ?_
  refine mr .o hmod trivial ?_
  refine mw0 ?_
  refine md (.d [(5,9)] [] [4]) trivial (cq hA (cq hB trivial)) ?_
  refine qw0 ?_
  exact mj
 ·obtain ⟨F1,F2,G1,G2,hPK,e1,e2,e3,e4⟩:=h.op hn (iI h.ks.st v u)
  have hA:=fun p hp hpp hO=>j4 (pp:=pp) (st:=st) (N:=N) (F:=H) (F1:=F1) (F2:=F2) hkl hcl um hpN (p:=p) hp hpp hO u (by omega) v (by omega) e1 e2
  have hB:=fun p hp hpp hO=>mg (pp:=qq) (st:=r) (N:=M) (F:=H) (F1:=G1) (F2:=G2) hkl hmo hcl um hqM (p:=p) hp hpp hO u (by omega) v (by omega) e3 e4
  clear e1 e3
  clear e2 e4
  generalize aH (bL s.L cwd v u).2=E at hA hB
  unfold prC at hA hB
  rw [hw] at hmod
  refine ⟨_,_,_,hPK,?_⟩
  refine aD (n:=179) (rs:=[.tmp 4]) Tryz.func21 rfl rfl (by decide) rfl rfl rfl ?_;rintro x rfl hrd hng
  rw [bO,hcy,hcp,hcq]
  refine qr0 ?_
  refine mr .o h128 trivial ?_
  refine qw h128 ?_
  refine md (.d [(4,6),(4,8)] [] [0,3,5,6]) trivial (cq (hP _) (cq (hQ _) trivial)) ?_
  refine mr .o hmod trivial ?_
  refine mw0 ?_
  refine md (.d [(6,10)] [] [4]) trivial (cq hA (cq hB trivial)) ?_
  refine qw0 ?_
  exact mj
 ·obtain ⟨F1,F2,G1,G2,hPK,e1,e2,e3,e4⟩:=h.op hn (iI h.ks.st v u)
  have hA:=fun p hp hpp hO=>j4 (pp:=pp) (st:=st) (N:=N) (F:=H) (F1:=F1) (F2:=F2) hkl hcl um hpN (p:=p) hp hpp hO u (by omega) v (by omega) e1 e2
  have hB:=fun p hp hpp hO=>mg (pp:=qq) (st:=r) (N:=M) (F:=H) (F1:=G1) (F2:=G2) hkl hmo hcl um hqM (p:=p) hp hpp hO u (by omega) v (by omega) e3 e4
  clear e1 e3
  clear e2 e4
  generalize aH (bL s.L cwd v u).2=E at hA hB
  unfold prC at hA hB
  rw [hw] at hmod
  refine ⟨_,_,_,hPK,?_⟩
  refine aD (n:=179) (rs:=[.tmp 4]) Tryz.func21 rfl rfl (by decide) rfl rfl rfl ?_;rintro x rfl hrd hng
  rw [bO,hcy,hcp,hcq]
  refine qr0 ?_
  refine mr .o h128 trivial ?_
  refine qw h128 ?_
  refine md (.d [(4,6),(4,8)] [] [0,3,5,6]) trivial (cq (hP _) (cq (hQ _) trivial)) ?_
  refine mr .o hmod trivial ?_
  refine mw0 ?_
  refine md (.d [(6,10)] [] [4]) trivial (cq hA (cq hB trivial)) ?_
  refine qw0 ?_
  exact mj
 ·obtain ⟨F1,F2,G1,G2,hPK,e1,e2,e3,e4⟩:=h.op hn (oZ h.ks.st u)
  have hA:=fun p hp hpp hO=>tB (pp:=pp) (st:=st) (N:=N) (F:=H) (F1:=F1) (F2:=F2) hkl hcl um hpN (p:=p) hp hpp hO u (by omega) e1 e2
  have hB:=fun p hp hpp hO=>Bc (pp:=qq) (st:=r) (N:=M) (F:=H) (F1:=G1) (F2:=G2) hkl hmo hcl um hqM (p:=p) hp hpp hO u (by omega) e3 e4
  clear e1 e3
  clear e2 e4
  generalize aH (dq s.L cwd u).2=E at hA hB
  unfold prC at hA hB
  rw [hw] at hmod
  refine ⟨_,_,_,hPK,?_⟩
  refine aD (n:=179) (rs:=[.tmp 4]) Tryz.func21 rfl rfl (by decide) rfl rfl rfl ?_;rintro x rfl hrd hng
  rw [bO,hcy,hcp,hcq]
  refine qr0 ?_
  refine mr .o h128 trivial ?_
  refine qw h128 ?_
  refine md (.d [(4,6),(4,8)] [] [0,3,5,6]) trivial (cq (hP _) (cq (hQ _) trivial)) ?_
  refine mr .o hmod trivial ?_
  refine mw0 ?_
  refine md (.d [(5,9)] [] [4]) trivial (cq hA (cq hB trivial)) ?_
  refine qw0 ?_
  exact mj
 ·obtain ⟨F1,F2,G1,G2,hPK,e1,e2,e3,e4⟩:=h.op hn (nv h.ks.st u)
  have hA:=fun p hp hpp hO=>rO (pp:=pp) (st:=st) (N:=N) (F:=H) (F1:=F1) (F2:=F2) hkl hcl um hpN (p:=p) hp hpp hO u (by omega) e1 e2
  have hB:=fun p hp hpp hO=>Di (pp:=qq) (st:=r) (N:=M) (F:=H) (F1:=G1) (F2:=G2) hkl hmo hcl um hqM (p:=p) hp hpp hO u (by omega) e3 e4
  clear e1 e3
  clear e2 e4
  generalize aH (dT s.L cwd u).2=E at hA hB
  unfold prC at hA hB
  rw [hw] at hmod
  refine ⟨_,_,_,hPK,?_⟩
  refine aD (n:=179) (rs:=[.tmp 4]) Tryz.func21 rfl rfl (by decide) rfl rfl rfl ?_;rintro x rfl hrd hng
  rw [bO,hcy,hcp,hcq]
  refine qr0 ?_
  refine mr .o h128 trivial ?_
  refine qw h128 ?_
  refine md (.d [(4,6),(4,8)] [] [0,3,5,6]) trivial (cq (hP _) (cq (hQ _) trivial)) ?_
  refine mr .o hmod trivial ?_
  refine mw0 ?_
  refine md (.d [(5,9)] [] [4]) trivial (cq hA (cq hB trivial)) ?_
  refine qw0 ?_
  exact mj
 ·obtain ⟨F1,F2,G1,G2,hPK,e1,e2,e3,e4⟩:=h.op hn (o5 h.ks.st u v)
  have hA:=fun p hp hpp hO=>tC (pp:=pp) (st:=st) (N:=N) (F:=H) (F1:=F1) (F2:=F2) hkl hcl um hpN (p:=p) hp hpp hO u (by omega) v (by omega) e1 e2
  have hB:=fun p hp hpp hO=>Bx (pp:=qq) (st:=r) (N:=M) (F:=H) (F1:=G1) (F2:=G2) hkl hmo hcl um hqM (p:=p) hp hpp hO u (by omega) v (by omega) e3 e4
  clear e1 e3
  clear e2 e4
  generalize aH (dr s.L cwd u v).2=E at hA hB
  unfold prC at hA hB
  rw [hw] at hmod
  refine ⟨_,_,_,hPK,?_⟩
  refine aD (n:=179) (rs:=[.tmp 4]) Tryz.func21 rfl rfl (by decide) rfl rfl rfl ?_;rintro x rfl hrd hng
  rw [bO,hcy,hcp,hcq]
  refine qr0 ?_
  refine mr .o h128 trivial ?_
  refine qw h128 ?_
  refine md (.d [(4,6),(4,8)] [] [0,3,5,6]) trivial (cq (hP _) (cq (hQ _) trivial)) ?_
  refine mr .o hmod trivial ?_
  refine mw0 ?_
  refine md (.d [(6,10)] [] [4]) trivial (cq hA (cq hB trivial)) ?_
  refine qw0 ?_
  exact mj
 ·obtain ⟨F1,F2,G1,G2,hPK,e1,e2,e3,e4⟩:=h.op hn (nw h.ks.st u (((k.toNat % 9:Nat):Int) - 1))
  have hA:=fun p hp hpp hO=>rN (pp:=pp) (st:=st) (N:=N) (F:=H) (F1:=F1) (F2:=F2) hkl hcl um hpN (p:=p) hp hpp hO u (by omega) (((k.toNat % 9:Nat):Int) - 1) e1 e2
  have hB:=fun p hp hpp hO=>wx (pp:=qq) (st:=r) (N:=M) (F:=H) (F1:=G1) (F2:=G2) hkl hcl um hqM (p:=p) hp hpp hO u (by omega) (((k.toNat % 9:Nat):Int) - 1) e3 e4
  clear e1 e3
  clear e2 e4
  generalize aH (dU s.L cwd u (((k.toNat % 9:Nat):Int) - 1)).2=E at hA hB
  unfold prC at hA hB
  rw [hw] at hmod
  refine ⟨_,_,_,hPK,?_⟩
  refine aD (n:=179) (rs:=[.tmp 4]) Tryz.func21 rfl rfl (by decide) rfl rfl rfl ?_;rintro x rfl hrd hng
  rw [bO,hcy,hcp,hcq]
  refine qr0 ?_
  refine mr .o h128 trivial ?_
  refine qw h128 ?_
  refine md (.d [(4,6),(4,8)] [] [0,3,5,6]) trivial (cq (hP _) (cq (hQ _) trivial)) ?_
  refine mr .o hmod trivial ?_
  refine mw0 ?_
  refine md (.d [(10,14),(10,17)] [] [4]) h9 (cq hA (cq hB trivial)) ?_
  refine qw0 ?_
  exact mj
 ·obtain ⟨F1,G1,hPK,e1,e3⟩:=h.FL hn u
  have hA:=fun p hp hpp hO=>wv (pp:=pp) (st:=st) (N:=N) (F:=H) (F1:=F1) hkl hcl um hpN (p:=p) hp hpp hO u (by omega) e1
  have hB:=fun p hp hpp hO=>Dj (pp:=qq) (st:=r) (N:=M) (F:=H) (F1:=G1) hkl hcl um hqM (p:=p) hp hpp hO u (by omega) e3
  clear e1 e3
  generalize aH (bS s.L cwd u).2=E at hA hB
  unfold prC at hA hB
  rw [hw] at hmod
  refine ⟨_,_,_,hPK,?_⟩
  refine aD (n:=179) (rs:=[.tmp 4]) Tryz.func21 rfl rfl (by decide) rfl rfl rfl ?_;rintro x rfl hrd hng
  rw [bO,hcy,hcp,hcq]
  refine qr0 ?_
  refine mr .o h128 trivial ?_
  refine qw h128 ?_
  refine md (.d [(4,6),(4,8)] [] [0,3,5,6]) trivial (cq (hP _) (cq (hQ _) trivial)) ?_
  refine mr .o hmod trivial ?_
  refine mw0 ?_
  refine cK nmd [] [(5,9)] mixed hng (by kernel_rfl) [4] fun hf C S K hC hS hK=>?_;simp (disch:=first|omega|assumption) only [go_sem,bu,AV.cells,Q,hdj,hON,hOM]
  refine hC _ (hA _ (ar rfl hp) (fun h=>hpp (Oid.ae h)) (hON.sub _ _)) (by simp only [List.mem_cons,forall_eq_or_imp];exact ⟨by simp (disch:=first|omega|assumption) only [go_sem,Q,hdj,hON,hOM],(by first|exact kP _|exact iJ (by simp [hyN,hpN,hqN,hON.mem]) _)⟩) ?_
  simp (disch:=first|omega|assumption) only [go_sem,bu,AV.cells,Q,hdj,hON,hOM,eq_self,decide_true,decide_false,ne_eq,not_true_eq_false,not_false_eq_true]
  refine hC _ (hB _ (ar rfl hp) (fun h=>hqq (Oid.ae h)) (hOM.sub _ _)) (by simp only [List.mem_cons,forall_eq_or_imp];exact ⟨by simp (disch:=first|omega|assumption) only [go_sem,Q,hdj,hON,hOM],(by first|exact kP _|exact iK (by simp [hyM,hpM,hqM,hOM.mem]) hdj _)⟩) ?_
  simp (disch:=first|omega|assumption) only [go_sem,bu,AV.cells,Q,hdj,hON,hOM,eq_self,decide_true,decide_false,ne_eq,not_true_eq_false,not_false_eq_true]
  (first|refine hK (aM rfl) ?_|refine hK (by simp (disch:=first|omega|assumption) only [go_sem,Q,hdj,hON,hOM,List.reverse_cons,List.reverse_nil,ne_eq,not_false_eq_true,implies_true,and_true,true_and]) ?_);clear hK hS hC K S C hf
  refine qw0 ?_
  exact mj
end
end Go.Proofs.YtmoaidkglldhcaaGreatDoor
namespace Go.Proofs.YtmoaidkglldhcaaGreatDoor
open Go Go.Ab
set_option maxRecDepth 20000
set_option maxHeartbeats 8000000
theorem BA {L:PL} (h:POk L) (cwd path:Str):(rdL (jF L cwd path).2).length≤1000000:=by
 cases hr:(jF L cwd path).2 with
 | err e=>exact Nat.zero_le _
 | go l =>
  obtain ⟨a,h1,h2⟩:=bJ hr
  split at h2;· cases h2
  split at h2;· cases h2
  cases h2
  exact (iX h _).2
def BB (y st pp r qq:Oid) (um:Int) (n:Nat) (N M:List Oid) (H:Oid→ao) (a:ActK) (p:Oid):Prop :=
 ∃ (s':St) (cwd':Str) (H':Oid→ao),cj y st pp r qq s' cwd' um (n+1) N M H'∧ah Tryz.prog 62 [.ptr y 0,bu a] (Oid.under p) ⟨bk (KB y pp qq N M,H),.bool true,sb (KB y pp qq N M) H'⟩
section
variable {y st pp r qq:Oid} {s:St} {cwd:Str} {um:Int} {n:Nat} {N M:List Oid} {H:Oid→ao} (h:cj y st pp r qq s cwd um n N M H) (hn:n≤40) (b c k:UInt8) (raw:Str) (hraw:raw.length≤4000000) {p:Oid} (hp:p.mono=false) (hO:bc p (KB y pp qq N M))
include h hn hp hO hraw
theorem yr (a:UInt8):BB y st pp r qq um n N M H ⟨a,b,c,k,raw⟩ p:=by
 unfold BB
 obtain ⟨hy,hpp,hqq,hON,hOM⟩:=KB.old hO;have yp:=h.ap.yp;have yq:=h.ap.yq;have pq:=h.ap.pq;have yp':¬ pp=y:=fun e=>yp e.symm;have yq':¬ qq=y:=fun e=>yq e.symm;have pq':¬ qq=pp:=fun e=>pq e.symm;have hyN:=h.ap.yN;have hyM:=h.ap.yM;have hpN:=h.ap.pN;have hpM:=h.ap.pM;have hqN:=h.ap.qN;have hqM:=h.ap.qM;have hdj:=h.ap.dj;have hcy:=h.cy;have hcp:=h.cp;have hcq:=h.cq;have Q:=By hy hpp hqq yp yq pq hyN hyM hpN hpM hqN hqM;have hkl:=h.ks.kl;have hmo:=h.ks.mo;have hcl:cwd.length≤1000000:=(by have:=h.ks.cl;omega)
 have hmod:((a.toNat:Int)).tmod 5=((a.toNat % 5:Nat):Int):=bF _ 5
 have hlt:a.toNat % 5 < 5:=Nat.mod_lt _ (by decide)
 have hP:=fun p=>iL b raw p
 have hl1:=gy b hraw
 generalize cz b raw=u at hP hl1
 have hk:=k.toNat_lt
 obtain ⟨more,hmore⟩:∃ t,decide (((k.toNat:Int)).tmod 2=0)=t:=⟨_,rfl⟩
 unfold prC at hcp hcq
 have hw:a.toNat % 5=0∨a.toNat % 5=1∨a.toNat % 5=2∨a.toNat % 5=3∨a.toNat % 5=4:=by omega
 rcases hw with hw|hw|hw|hw|hw
 ·obtain ⟨F1,G1,hPK,e1,e3⟩:=h.rd hn (vn h.ks.lk cwd u) (by decide)
  have hA:=fun p hp hpp hO=>vb (pp:=pp) (st:=st) (N:=N) (F:=H) (F1:=F1) hkl hcl um hpN (p:=p) hp hpp hO u (by omega) e1
  have hB:=fun p hp hpp hO=>Ba (pp:=qq) (st:=r) (N:=M) (F:=H) (F1:=G1) hkl hcl um hqM (p:=p) hp hpp hO u (by omega) e3
  clear e1 e3
  unfold rdV at hA hB
  generalize aH (gY s.L cwd u).2=E at hA hB
  generalize rdS (gY s.L cwd u).2=S1 at hA hB
  unfold prC at hA hB
  rw [hw] at hmod
  refine ⟨_,_,_,hPK,?_⟩
  refine aD (n:=170) (rs:=[.tmp 4]) Tryz.func62 rfl rfl (by decide) rfl rfl rfl ?_;rintro x rfl hrd hng
  rw [bO,hcy,hcp,hcq]
  refine qr0 ?_
  refine mr1 (hP _) ?_
  refine mr .o hmod trivial ?_
  refine mw0 ?_
  refine mr1 hA ?_
  refine mr1 hB ?_
  refine mr (.d [] [(3,55)] []) trivial trivial ?_
  refine qw0 ?_
  exact mj
 ·obtain ⟨F1,G1,hPK,e1,e3⟩:=h.rd hn (FK h.ks.lk cwd u) (by decide)
  have hA:=fun p hp hpp hO=>FH (pp:=pp) (st:=st) (N:=N) (F:=H) (F1:=F1) hkl hcl um hpN (p:=p) hp hpp hO u (by omega) e1
  have hB:=fun p hp hpp hO=>FJ (pp:=qq) (st:=r) (N:=M) (F:=H) (F1:=G1) hkl hcl um hqM (p:=p) hp hpp hO u (by omega) e3
  clear e1 e3
  have hll:=BA h.ks.ok.po cwd u
  unfold lsV at hA hB
  generalize aH (jF s.L cwd u).2=E at hA hB
  generalize rdL (jF s.L cwd u).2=PS at hA hB hll
  have hsm:=fun p=>vT PS PS (by omega) (by omega) p
  rw [decide_eq_true rfl] at hsm
  unfold prC at hA hB
  rw [hw] at hmod
  refine ⟨_,_,_,hPK,?_⟩
  refine aD (n:=170) (rs:=[.tmp 4]) Tryz.func62 rfl rfl (by decide) rfl rfl rfl ?_;rintro x rfl hrd hng
  rw [bO,hcy,hcp,hcq]
  refine qr0 ?_
  refine mr1 (hP _) ?_
  refine mr .o hmod trivial ?_
  refine mw0 ?_
  refine mr1 hA ?_
  refine mr1 hB ?_
  refine mr (.d [] [(3,83)] []) trivial (cq (hsm _) trivial) ?_
  refine qw0 ?_
  exact mj
 ·obtain ⟨F1,G1,hPK,e1,e3⟩:=h.rd hn (vo h.ks.lk cwd u) (by decide)
  have hA:=fun p hp hpp hO=>vc (pp:=pp) (st:=st) (N:=N) (F:=H) (F1:=F1) hkl hcl um hpN (p:=p) hp hpp hO u (by omega) e1
  have hB:=fun p hp hpp hO=>vh (pp:=qq) (st:=r) (N:=M) (F:=H) (F1:=G1) hkl hcl um hqM (p:=p) hp hpp hO u (by omega) e3
  clear e1 e3
  unfold rdV at hA hB
  generalize aH (dO s.L cwd u).2=E at hA hB
  generalize rdS (dO s.L cwd u).2=S1 at hA hB
  unfold prC at hA hB
  rw [hw] at hmod
  refine ⟨_,_,_,hPK,?_⟩
  refine aD (n:=170) (rs:=[.tmp 4]) Tryz.func62 rfl rfl (by decide) rfl rfl rfl ?_;rintro x rfl hrd hng
  rw [bO,hcy,hcp,hcq]
  refine qr0 ?_
  refine mr1 (hP _) ?_
  refine mr .o hmod trivial ?_
  refine mw0 ?_
  refine mr1 hA ?_
  refine mr1 hB ?_
  refine mr (.d [] [(3,111)] []) trivial trivial ?_
  refine qw0 ?_
  exact mj
 ·obtain ⟨F1,G1,hPK,e1,e3⟩:=h.rd hn (jK h.ks.lk cwd u more) (by decide)
  have hA:=fun p hp hpp hO=>DZ (pp:=pp) (st:=st) (N:=N) (F:=H) (F1:=F1) hkl hcl um hpN (p:=p) hp hpp hO u (by omega) more e1
  have hB:=fun p hp hpp hO=>cZ (pp:=qq) (st:=r) (N:=M) (F:=H) (F':=G1) hkl u cwd um more hqM hcl (by omega) e3 p hp hpp hO
  clear e1 e3
  unfold fnV at hA hB
  generalize aH (findF s.L cwd u more).2=E at hA hB
  generalize rdB (findF s.L cwd u more).2=B at hA hB
  obtain ⟨pl,ek,em,el⟩:=B
  simp only at hA hB
  unfold prC at hA hB
  rw [hw] at hmod
  refine ⟨_,_,_,hPK,?_⟩
  refine aD (n:=170) (rs:=[.tmp 4]) Tryz.func62 rfl rfl (by decide) rfl rfl rfl ?_;rintro x rfl hrd hng
  rw [bO,hcy,hcp,hcq]
  refine qr0 ?_
  refine mr1 (hP _) ?_
  refine mr .o hmod trivial ?_
  refine mw0 ?_
  refine md (.d [(3,14),(6,14),(9,14)] [] [0,3,5,18,19,20]) hmore (cq hA trivial) ?_
  refine md (.d [(3,14),(6,14),(9,14)] [] [0,3,5,18,19,20,21,22,23]) hmore (cq hB trivial) ?_
  refine mr (.d [] [(3,149),(8,154)] []) trivial trivial ?_
  refine qw0 ?_
  exact mj
 ·obtain ⟨F1,G1,hPK,e1,e3⟩:=h.rd hn (RdB.err (c:=cwd.length+2700) (k:=0) (e:=0) (V:=fun (_:Str)=>True)) (by decide)
  obtain rfl:H=F1:=e1
  obtain rfl:H=G1:=e3
  have hA:=fun p hp hpp hO=>D0 (pp:=pp) (st:=st) (N:=N) (cwd:=cwd) hcl um (p:=p) hp hpp hO
  have hB:=fun p=>Gp (pp:=qq) (st:=r) (N:=M) (F:=H) (cwd:=cwd) um hqM (p:=p)
  generalize x1 cwd=Z at hA hB
  unfold prC at hA hB
  rw [hw] at hmod
  refine ⟨_,_,_,hPK,?_⟩
  refine aD (n:=170) (rs:=[.tmp 4]) Tryz.func62 rfl rfl (by decide) rfl rfl rfl ?_;rintro x rfl hrd hng
  rw [bO,hcy,hcp,hcq]
  refine qr0 ?_
  refine mr1 (hP _) ?_
  refine mr .o hmod trivial ?_
  refine mw0 ?_
  refine md (.d [(4,8)] [] [4]) trivial (cq hA (cq (hB _) trivial)) ?_
  refine qw0 ?_
  exact mj
end
end Go.Proofs.YtmoaidkglldhcaaGreatDoor
namespace Go.Proofs.YtmoaidkglldhcaaGreatDoor
open Go Go.Ab
set_option maxRecDepth 20000
set_option maxHeartbeats 8000000
section
variable {y st pp r qq:Oid} {s:St} {cwd:Str} {um:Int} {n:Nat} {N M:List Oid} {H:Oid→ao} (h:cj y st pp r qq s cwd um n N M H) (hn:n≤40) (b c k:UInt8) (raw:Str) (hraw:raw.length≤4000000) {p:Oid} (hp:p.mono=false) (hO:bc p (KB y pp qq N M))
include h hn hp hO hraw
theorem jL (a:UInt8):Bz y st pp r qq um n N M H ⟨a,b,c,k,raw⟩ p:=by
 by_cases ha:a.toNat < 128
 ·exact DE h hn b c k raw hraw hp hO a ha
 ·obtain ⟨s',cwd',H',hPK,hR⟩:=yr h hn b c k raw hraw (p:=.sub 2 2 p) (ar rfl hp) (hO.sub _ _) a
  obtain ⟨hy,hpp,hqq,hON,hOM⟩:=KB.old hO
  refine ⟨_,_,_,hPK,?_⟩
  simp only [bu] at hR
  have hOK:=hO
  refine aD (n:=179) (rs:=[.tmp 4]) Tryz.func21 rfl rfl (by decide) rfl rfl rfl ?_;rintro x rfl hrd hng
  have h128:(128:Int)≤(a.toNat:Int):=by omega
  rw [AK]
  refine qr0 ?_
  refine qr .o (ai h128 hOK) trivial ?_
  refine qw h128 ?_
  refine aw nmd [] hng (by kernel_rfl) fun hf C S K hC1 hC hS hK=>?_;simp (disch:=first|omega|assumption) only [go_sem,bu,AV.cells,hOK]
  refine hC1 _ hR (by first|exact nbu _|exact nbA (fun e he=>by rw [List.mem_singleton.1 he];exact hOK.mem) _) ?_
  simp (disch:=first|omega|assumption) only [go_sem,bu,AV.cells,hOK]
  refine hK ?_;clear hK hS hC hC1 K S C hf
  refine qw0 ?_
  exact ay (wa qs0 (by first|exact nbu _|exact nbA (fun e he=>by rw [List.mem_singleton.1 he];exact hOK.mem) _))
theorem j8 (a:UInt8):tY y st pp r qq um n N M H ⟨a,b,c,k,raw⟩ p:=by
 obtain ⟨s',cwd',H',hPK,hR⟩:=jL h hn b c k raw hraw hp hO a
 exact hR.nd.weaken (fun v u ⟨hv,hu⟩=>⟨hv,_,_,_,hPK,hu⟩) fun _ _ h=>h.elim
end
end Go.Proofs.YtmoaidkglldhcaaGreatDoor
namespace Go.Proofs.YtmoaidkglldhcaaGreatDoor
open Go Go.Ab
set_option maxRecDepth 20000
set_option maxHeartbeats 4000000
end Go.Proofs.YtmoaidkglldhcaaGreatDoor
namespace Go.Proofs.YtmoaidkglldhcaaGreatDoor
open Go Go.Ab
set_option maxRecDepth 20000
set_option maxHeartbeats 4000000
theorem lH {st:Oid} {N:List Oid} {H:Oid→ao} {s:St} {cwd:Str} {n:Nat} (sp:dI st s N H) (ks:KS s cwd n) (hn:n≤40) {x:Rds × Rs Pts} (hx:OpB (cwd.length+2700) x) :
  ∃ F1 F2,dI st ((s.rds x.1).pts (bT x.2)) N F2∧RP st N s.L x.1 H F1∧PP st N (bT x.2) F1 F2:=by
 have hcl:=ks.cl
 have hlen:=ks.len
 have hpl:=hx.pl
 have h1:=ks.ok.rds x.1
 have hL:(s.rds x.1).L=s.L:=A1 x.1 s
 obtain ⟨F1,a1,a2⟩:=A2 x.1 s H sp ks.ok fun f hf=>by have:=hx.rd f hf;omega
 obtain ⟨F2,a3,a4⟩:=Bw (bT x.2) (s.rds x.1) F1 a1 h1 (by rw [hL];omega) fun q hq=>⟨by have:=(hx.pt q hq).1;omega,(hx.pt q hq).2⟩
 exact ⟨F1,F2,a3,a2,a4⟩
theorem gM (um:Int) (p:Oid) (hp:p.mono=false):∃ y st pp r qq N M H,cj y st pp r qq ⟨[],none⟩ [] (c8 um 7) 0 N M H∧(∀ i ∈ KB y pp qq N M,Oid.under p i) ∧
  ah Tryz.prog 13 [.int .i64 um] (Oid.under p) ⟨[],.ptr y 0,sb (KB y pp qq N M) H⟩:=by
 have ap:Apt (.sub 1 3 p) (.sub 1 5 (.sub 3 7 p)) (.sub 1 5 (.sub 3 13 p)) [.sub 1 2 (.sub 1 0 p),.sub 1 0 (.sub 1 0 p)] [.sub 1 1 (.sub 1 1 p)] :=
  ⟨by simp,by simp,by simp,by simp,by simp,by simp,by simp,by simp,by simp,fun i hi hm=>by
   simp only [List.mem_cons,List.not_mem_nil,or_false] at hi hm
   subst hm
   rcases hi with e|e<;>simp at e⟩
 refine ⟨.sub 1 3 p,.sub 1 2 (.sub 1 0 p),.sub 1 5 (.sub 3 7 p),.sub 1 1 (.sub 1 1 p),.sub 1 5 (.sub 3 13 p),[.sub 1 2 (.sub 1 0 p),.sub 1 0 (.sub 1 0 p)],[.sub 1 1 (.sub 1 1 p)],_,
  cj.mk' (G:=fun _=>.cells [.list 4 [],.list 4 [],.list 3 [],.list 1 [],.bool false]) ap (tR (by simp)) ⟨rfl,.list 4 [],rfl⟩ KS.new (o6 um),fun i hi=>?_,?_⟩
 ·simp only [List.cons_append,List.nil_append,List.mem_cons,List.not_mem_nil,or_false] at hi
  rcases hi with rfl|rfl|rfl|rfl|rfl|rfl
  ·exact Oid.ae (Oid.aq _)
  all_goals exact Oid.ae (Oid.ae (Oid.aq _))
 clear ap
 refine aD (n:=37) (rs:=[.tmp 2]) Tryz.func13 rfl rfl (by decide) rfl rfl rfl ?_;rintro x rfl hrd hng
 (repeat (first|(refine aA rfl rfl ?_)|(refine az rfl rfl ?_)|(refine aw nmd [] hng (by kernel_rfl) fun hf C S K hC1 hC hS hK=>?_;simp (disch:=first|omega|assumption) only [go_sem];(repeat ((first|refine hC1 _ (Aw _) (by simp (disch:=first|omega|assumption) only [go_sem]) ?_|refine hC1 _ (wo _) (by simp (disch:=first|omega|assumption) only [go_sem]) ?_);simp (disch:=first|omega|assumption) only [go_sem]));refine hK ?_;clear hK hS hC hC1 K S C hf)|((first|refine zn ?_|refine ze ?_|refine zk ?_);with_reducible (constructor;repeat constructor);try refine zl ?_)))
 refine qd (.d [(7,11)] [] [3]) trivial (cq (wI _ _ _ _) (cq (DD _ _ _ _) trivial)) ?_
 refine qw0 ?_
 refine ay (bB _ _ qs0 ⟨rfl,rfl⟩ fun i o h=>?_)
 rw [cU] at h
 split at h
 ·rename_i hi
  have h:=Option.some.inj h
  subst h
  simp only [List.cons_append,List.nil_append,List.mem_cons,List.not_mem_nil,or_false] at hi
  rcases hi with rfl|rfl|rfl|rfl|rfl|rfl
  all_goals simp [Mem.af,jk,two,prC]
 ·cases h
abbrev St.after (s:St) (x:Rds × Rs Pts):St:=(s.rds x.1).pts (bT x.2)
def aw0:St:=⟨[],none⟩
def aw1:St:=aw0.after (dA aw0.L [] 0 [97])
def aw2:St:=aw1.after (dp aw1.L [] 0 [97,47,98] [120] false)
def aw3:St:=aw2.rds (gY aw2.L [] [47,97,47,46,47,98]).1
theorem GJ:aH (dA aw0.L [] 0 [97]).2=0:=by kernel_rfl
theorem GK:aH (dp aw1.L [] 0 [97,47,98] [120] false).2=0:=by kernel_rfl
theorem GL:aH (gY aw2.L [] [47,97,47,46,47,98]).2=0:=by kernel_rfl
theorem GM:rdS (gY aw2.L [] [47,97,47,46,47,98]).2=[120]:=by kernel_rfl
theorem GN:aH (dT aw3.L [] [97]).2=16:=by kernel_rfl
theorem eM (p:Oid) (hp:p.mono=false):ah Tryz.prog 12 [] (Oid.under p) ⟨[],.bool true,[]⟩:=by
 refine aD (n:=47) (rs:=[.tmp 0]) Tryz.func12 rfl rfl (by decide) rfl rfl rfl ?_;rintro x rfl hrd hng
 (repeat (first|(refine aA rfl rfl ?_)|(refine az rfl rfl ?_)|(refine aw nmd [] hng (by kernel_rfl) fun hf C S K hC1 hC hS hK=>?_;simp (disch:=first|omega|assumption) only [go_sem];(repeat ((first|refine hC1 _ (Aw _) (by simp (disch:=first|omega|assumption) only [go_sem]) ?_|refine hC1 _ (wI _ _ _ _) (by simp (disch:=first|omega|assumption) only [go_sem]) ?_);simp (disch:=first|omega|assumption) only [go_sem]));refine hK ?_;clear hK hS hC hC1 K S C hf)|((first|refine zn ?_|refine ze ?_|refine zk ?_);with_reducible (constructor;repeat constructor);try refine zl ?_)))
 rw [show c8 0 7=0 from rfl]
 have hO:gK x.p 4 [Oid.sub 1 5 (.sub 3 1 x.p),Oid.sub 1 2 (.sub 1 0 x.p),Oid.sub 1 0 (.sub 1 0 x.p)]:=fun j hj ⟨c',i',hc',hu⟩=>by
  simp only [List.mem_cons,List.not_mem_nil,or_false] at hj
  rcases hj with rfl|rfl|rfl
  all_goals have:=(Oid.apart hu (Oid.ae (Oid.aq _))).1;omega
 have hpN:Oid.sub 1 5 (.sub 3 1 x.p) ∉ [Oid.sub 1 2 (.sub 1 0 x.p),Oid.sub 1 0 (.sub 1 0 x.p)]:=by simp
 have sp0:dI (.sub 1 2 (.sub 1 0 x.p)) aw0 [.sub 1 2 (.sub 1 0 x.p),.sub 1 0 (.sub 1 0 x.p)] _:=tR (a:=.sub 1 2 (.sub 1 0 x.p)) (b:=.sub 1 0 (.sub 1 0 x.p)) (by simp)
 refine dy (Mem.blk [(.sub 1 5 (.sub 3 1 x.p),prC (.sub 1 2 (.sub 1 0 x.p)) [] 0)] [([.sub 1 2 (.sub 1 0 x.p),.sub 1 0 (.sub 1 0 x.p)],two (.sub 1 2 (.sub 1 0 x.p)) (.cells [.map (.sub 1 0 (.sub 1 0 x.p)),.nilPtr]) (.map [.ss] false [] 0))]) (fun i o h=>by
  rw [Mem.cm] at h
  split at h
  ·rename_i e;subst e;simp [Mem.af];exact Option.some.inj h
  ·rw [aW] at h
   split at h
   ·rename_i e
    have h:=Option.some.inj h
    subst h
    simp only [List.mem_cons,List.not_mem_nil,or_false] at e
    rcases e with rfl|rfl<;>simp [Mem.af,two]
   ·cases h) ?_
 generalize two (Oid.sub 1 2 (.sub 1 0 x.p)) (.cells [.map (.sub 1 0 (.sub 1 0 x.p)),.nilPtr]) (.map [.ss] false [] 0)=F0 at sp0 ⊢
 have hO':∀ c i,4≤c→¬ Oid.under (.sub c i x.p) (.sub 1 5 (.sub 3 1 x.p))∧bc (.sub c i x.p) [Oid.sub 1 2 (.sub 1 0 x.p),Oid.sub 1 0 (.sub 1 0 x.p)]:=fun c i h =>
  ⟨hO.sub h i _ List.mem_cons_self,fun j hj=>hO.sub h i j (List.mem_cons_of_mem _ hj)⟩
 clear hO
 generalize [Oid.sub 1 2 (.sub 1 0 x.p),Oid.sub 1 0 (.sub 1 0 x.p)]=N at sp0 hpN hO' ⊢
 generalize Oid.sub 1 2 (.sub 1 0 x.p)=st at sp0 ⊢
 generalize Oid.sub 1 5 (.sub 3 1 x.p)=pp at hpN hO' ⊢
 have hu:(0:Int)≤0∧(0:Int)≤7:=by omega
 have k0:KS aw0 [] 0:=KS.new
 have o1:=j7 k0.st 0 (eo hu).2 [97]
 obtain ⟨F1,F2,sp1,a1,a2⟩:=lH sp0 k0 (by omega) o1.b
 have k1:KS aw1 [] 1:=k0.op (by omega) o1
 have o2:=j6 k1.st 0 (eo hu).1 [97,47,98] [120] false
 obtain ⟨F3,F4,sp2,b1,b2⟩:=lH (s:=aw1) sp1 k1 (by omega) o2.b
 have k2:KS aw2 [] 2:=k1.op (by omega) o2
 have o3:=vn k2.lk [] [47,97,47,46,47,98]
 obtain ⟨F5,F6,sp3,c1,c2⟩:=lH (s:=aw2) sp2 k2 (by omega) (o3.opb (by decide))
 obtain rfl:F5=F6:=c2
 have k3:KS aw3 [] 3:=k2.rd (by omega) o3 (by decide)
 have o4:=nv k3.st [97]
 obtain ⟨F7,F8,sp4,d1,d2⟩:=lH (s:=aw3) sp3 k3 (by omega) o4.b
 have hA1:=fun p hp hpp hO=>lE (pp:=pp) (st:=st) (N:=N) (F:=F0) (F1:=F1) (F2:=F2) k0.kl (by simp) 0 hpN (p:=p) hp hpp hO [97] (by simp) a1 a2
 have hA2:=fun p hp hpp hO=>lD (pp:=pp) (st:=st) (N:=N) (F:=F2) (F1:=F3) (F2:=F4) k1.kl (by simp) 0 hpN (p:=p) hp hpp hO [97,47,98] (by simp) [120] (by simp) false b1 b2
 have hA3:=fun p hp hpp hO=>vb (pp:=pp) (st:=st) (N:=N) (F:=F4) (F1:=F5) k2.kl (by simp) 0 hpN (p:=p) hp hpp hO [47,97,47,46,47,98] (by simp) c1
 have hA4:=fun p hp hpp hO=>rO (pp:=pp) (st:=st) (N:=N) (F:=F5) (F1:=F7) (F2:=F8) k3.kl (by simp) 0 hpN (p:=p) hp hpp hO [97] (by simp) d1 d2
 have hA5:=fun p hp hpp hO=>D0 (pp:=pp) (st:=st) (N:=N) (cwd:=[]) (by simp) 0 (p:=p) hp hpp hO
 simp only [rdV,GJ,GK,GL,GM,GN] at hA1 hA2 hA3 hA4
 rw [show x1 []=[47] from rfl] at hA5
 clear sp0 k0 o1 sp1 a1 a2 k1 o2 sp2 b1 b2 k2 o3 sp3 c1 k3 o4 sp4 d1 d2 hu
 unfold prC at hA1 hA2 hA3 hA4 hA5 ⊢
 (try ((first|refine zn ?_|refine ze ?_|refine zk ?_);with_reducible (constructor;repeat constructor));try refine zl ?_)
 refine aw nmd [] hng (by kernel_rfl) fun hf C S K hC1 hC hS hK=>?_;simp (disch:=first|omega|assumption) only [go_sem]
 refine hC1 _ (hA1 _ (ar rfl hp) (hO' _ _ (by omega)).1 (hO' _ _ (by omega)).2) (by simp only [List.mem_cons,forall_eq_or_imp];exact ⟨by simp (disch:=first|omega|assumption) only [go_sem],(by first|exact nbu _|exact nbA (by simp [hpN]) _)⟩) ?_
 simp (disch:=first|omega|assumption) only [go_sem]
 refine hK ?_;clear hK hS hC hC1 K S C hf
 (try ((first|refine zn ?_|refine ze ?_|refine zk ?_);with_reducible (constructor;repeat constructor));try refine zl ?_)
 refine aw nmd [] hng (by kernel_rfl) fun hf C S K hC1 hC hS hK=>?_;simp (disch:=first|omega|assumption) only [go_sem]
 refine hC1 _ (hA2 _ (ar rfl hp) (hO' _ _ (by omega)).1 (hO' _ _ (by omega)).2) (by simp only [List.mem_cons,forall_eq_or_imp];exact ⟨by simp (disch:=first|omega|assumption) only [go_sem],(by first|exact nbu _|exact nbA (by simp [hpN]) _)⟩) ?_
 simp (disch:=first|omega|assumption) only [go_sem]
 refine hK ?_;clear hK hS hC hC1 K S C hf
 (try ((first|refine zn ?_|refine ze ?_|refine zk ?_);with_reducible (constructor;repeat constructor));try refine zl ?_)
 refine aw nmd [] hng (by kernel_rfl) fun hf C S K hC1 hC hS hK=>?_;simp (disch:=first|omega|assumption) only [go_sem]
 refine hC1 _ (hA3 _ (ar rfl hp) (hO' _ _ (by omega)).1 (hO' _ _ (by omega)).2) (by simp only [List.mem_cons,forall_eq_or_imp];exact ⟨by simp (disch:=first|omega|assumption) only [go_sem],(by first|exact nbu _|exact nbA (by simp [hpN]) _)⟩) ?_
 simp (disch:=first|omega|assumption) only [go_sem]
 refine hK ?_;clear hK hS hC hC1 K S C hf
 (try ((first|refine zn ?_|refine ze ?_|refine zk ?_);with_reducible (constructor;repeat constructor));try refine zl ?_)
 refine aw nmd [(2,25),(6,29),(10,33),(14,37),(19,42)] hng (by kernel_rfl) fun hf C S K hC1 hC hS hK=>?_;simp (disch:=first|omega|assumption) only [go_sem,eq_self,decide_true,decide_false,ne_eq,not_true_eq_false,not_false_eq_true]
 refine hC1 _ (hA4 _ (ar rfl hp) (hO' _ _ (by omega)).1 (hO' _ _ (by omega)).2) (by simp only [List.mem_cons,forall_eq_or_imp];exact ⟨by simp (disch:=first|omega|assumption) only [go_sem],(by first|exact nbu _|exact nbA (by simp [hpN]) _)⟩) ?_
 simp (disch:=first|omega|assumption) only [go_sem,eq_self,decide_true,decide_false,ne_eq,not_true_eq_false,not_false_eq_true]
 refine hC1 _ (hA5 _ (ar rfl hp) (hO' _ _ (by omega)).1 (hO' _ _ (by omega)).2) qs0 ?_
 simp (disch:=first|omega|assumption) only [go_sem,eq_self,decide_true,decide_false,ne_eq,not_true_eq_false,not_false_eq_true]
 refine hK ?_;clear hK hS hC hC1 K S C hf
 refine qw0 ?_
 exact ay (bj rfl)
end Go.Proofs.YtmoaidkglldhcaaGreatDoor
namespace Go.Proofs.YtmoaidkglldhcaaGreatDoor
open Go Go.Ab
set_option maxRecDepth 20000
set_option maxHeartbeats 4000000
theorem dt (y pp qq:Oid) (N M:List Oid) (H:Oid→ao):Mem.blk [] [(KB y pp qq N M,H)]=Mem.blk [(y,H y),(pp,H pp),(qq,H qq)] [(N,H),(M,H)]:=by
 rw [← bO,AK]
theorem jb {x:Ctx} {K:List Oid} {c i:Nat} (h:∀ j ∈ K,Oid.under (.sub c i x.p) j):gK x.p (c+1) K:=fun j hj ⟨c',i',hc',hu⟩=>by
 have:=(Oid.apart hu (h j hj)).1;omega
theorem jc (m:Mem) (K:List Oid) (H:Oid→ao) (i:Oid) (o:ao) (h:Mem.blk [] [(K,H)] i=some o):(m.aL (sb K H)) i=some o:=by
 rw [cU]
 rw [aW] at h
 split at h
 ·rw [if_pos ‹_›];exact h
 ·cases h
theorem cj.same {y st pp r qq:Oid} {s:St} {cwd:Str} {um:Int} {n:Nat} {N M:List Oid} {H:Oid→ao} (h:cj y st pp r qq s cwd um n N M H) (hn:n≤40) (p:Oid) (hp:p.mono=false) (hO:bc p N) (hO':bc p M) :
  ah Tryz.prog 20 [.ptr st 0,.ptr r 0] (Oid.under p) ⟨bk (N,H)++bk (M,H),.bool true,gone (N++M)⟩ :=
 tX h.sp h.sr h.ks.ok (fun q hq=>by have:=h.ks.tr q hq;have:=h.ks.len;omega) h.ap.dj p hp hO hO'
theorem small_ok (l:List ActK) (hl:l.length≤140737488355328) (p:Oid) (hp:p.mono=false):ah Tryz.prog 4 [.list 5 (l.map bu)] (Oid.under p) ⟨[],.bool true,[]⟩:=by
 refine aD (n:=52) (rs:=[.tmp 2]) Tryz.func4 rfl rfl (by decide) rfl rfl rfl ?_;rintro x rfl hrd hng
 (repeat (first|(refine aA rfl rfl ?_)|(refine az rfl rfl ?_)|(refine aw nmd [] hng (by kernel_rfl) fun hf C S K hC1 hC hS hK=>?_;simp (disch:=first|omega|assumption) only [go_sem];(repeat ((first|refine hC1 _ (eM _ (ar rfl hp)) (by simp (disch:=first|omega|assumption) only [go_sem]) ?_);simp (disch:=first|omega|assumption) only [go_sem]));refine hK ?_;clear hK hS hC hC1 K S C hf)|((first|refine zn ?_|refine ze ?_|refine zk ?_);with_reducible (constructor;repeat constructor);try refine zl ?_)))
 obtain ⟨y,st,pp,r,qq,N,M,H,hPK,hun,hB⟩:=gM 0 (.sub 3 0 x.p) (ar rfl hp)
 have hO:=jb hun
 clear hun
 rw [show c8 0 7=0 from rfl] at hPK
 refine qr1 hB ?_
 clear hB
 refine qw0 ?_
 refine dy (Mem.blk [] [(KB y pp qq N M,H)]) (fun i o h=>by rw [← Mem.aJ];exact jc _ _ _ i o h) ?_
 refine bq [0,3,4,5] (fun k s'=>∃ (i c:Nat) (s:St) (cwd:Str) (H:Oid→ao),s' = ⟨[(0,.list 5 (l.map bu)),(3,.bool true),(4,.ptr y 0),(5,.int .i64 i)],Mem.blk [] [(KB y pp qq N M,H)],c,[]⟩∧k=l.length - i∧i≤l.length∧i≤24∧4≤c∧cj y st pp r qq s cwd 0 i N M H∧gK x.p c (KB y pp qq N M)) _ ⟨0,_,_,_,_,rfl,rfl,Nat.zero_le _,by omega,by omega,hPK,hO.mono (by omega)⟩ ?_
 clear hPK hO H
 rintro k s' ⟨i,c,s,cwd,H,rfl,rfl,hi,hi2,hc,hPK,hO⟩
 (try ((first|refine zn ?_|refine ze ?_|refine zk ?_);with_reducible (constructor;repeat constructor));try refine zl ?_)
 refine cu [0,3,4,5,20] (fun s'=>∃ c':Nat,s' = ⟨[(0,.list 5 (l.map bu)),(3,.bool true),(4,.ptr y 0),(5,.int .i64 i),(20,.bool (decide (i < l.length∧i < 24)))],Mem.blk [] [(KB y pp qq N M,H)],c',[]⟩∧c≤c') ?_ ?_
 ·refine aw nmd [(4,17)] hng (by kernel_rfl) fun hf C S K hC1 hC hS hK=>?_;simp (disch:=first|omega|assumption) only [go_sem,List.length_map]
  (repeat' (first|(refine cB (fun hv=>?_) (fun hv=>?_)<;>(try simp only [zb1,zb2,zb3,zb4,zb5] at hv)<;>simp (disch:=first|omega|assumption) only [go_sem,hv,List.length_map])|(refine hK ?_;clear hK hS hC hC1 K S C hf)))
  ·rw [show decide (i < l.length∧i < 24)=decide ((i:Int) < 24) from decide_eq_decide.2 (by omega)]
   exact aO ⟨_,rfl,by omega⟩
  ·rw [show decide (i < l.length∧i < 24)=false from decide_eq_false (by omega)]
   exact aO ⟨_,rfl,by omega⟩
 rintro s' ⟨c',rfl,hc'⟩
 refine aS rfl rfl (fun hb=>?_) (fun hb=>?_)
 ·have hlt:i < l.length:=hb.1
  generalize hg:l.getD i default=g
  obtain ⟨a,b,b2,k,raw⟩:=g
  have hD:=j8 hPK (by omega) (b % 16) (b2 % 16) k [] (by simp) (p:=.sub (c' + 1+1) 2 x.p) (ar rfl hp) (hO.sub (by omega) 2) a
  unfold tY at hD
  have h1:((b.toNat:Int)).tmod 16=(((b % 16:UInt8).toNat:Nat):Int):=by rw [UInt8.toNat_mod];exact bF _ 16
  have h2:((b2.toNat:Int)).tmod 16=(((b2 % 16:UInt8).toNat:Nat):Int):=by rw [UInt8.toNat_mod];exact bF _ 16
  simp only [bu] at hD
  have hmem:∀ c i,c'≤c→Oid.sub c i x.p ∉ KB y pp qq N M:=fun c i h=>hO.mem (by omega)
  (try ((first|refine zn ?_|refine ze ?_|refine zk ?_);with_reducible (constructor;repeat constructor));try refine zl ?_)
  refine aw nmd [] hng (by kernel_rfl) fun hf C S K hC1 hC hS hK=>?_;simp (disch:=first|omega|assumption) only [go_sem,hg,bu,AV.cells,List.length_map]
  refine hK ?_;clear hK hS hC hC1 K S C hf
  refine qr .o (ai h1 h2) trivial ?_
  refine aw nmd [] hng (by kernel_rfl) fun hf C S K hC1 hC hS hK=>?_;simp (disch:=first|omega|assumption) only [go_sem]
  refine hC _ _ _ hD (by exact nbA (fun e he=>by rw [List.mem_singleton.1 he];exact hmem _ _ (by omega)) _) ?_ (fun _ _ h=>h.elim)
  rintro _ _ ⟨rfl,s',cwd',H',hPK',rfl⟩
  simp (disch:=first|omega|assumption) only [go_sem,hmem _ _ (Nat.le_refl _),decide_true,decide_false,ne_eq,not_true_eq_false,not_false_eq_true]
  refine hK ?_;clear hK hS hC hC1 K S C hf
  refine qw0 ?_
  exact ⟨_,_,by omega,fun i o h=>jc _ _ _ i o h,i+1,_,_,_,_,rfl,rfl,by omega,by omega,by omega,hPK',hO.mono (by omega)⟩
 ·obtain ⟨hy,hpp,hqq,hON,hOM⟩:=KB.old (hO.sub hc' 10)
  have hyN:=hPK.ap.yN;have hyM:=hPK.ap.yM;have hpN:=hPK.ap.pN;have hpM:=hPK.ap.pM;have hqN:=hPK.ap.qN;have hqM:=hPK.ap.qM;have hdj:=hPK.ap.dj
  have hsame:=fun p hp ho ho'=>hPK.same (by omega) p hp ho ho'
  have hcy:=hPK.cy
  rw [dt,hcy]
  (try ((first|refine zn ?_|refine ze ?_|refine zk ?_);with_reducible (constructor;repeat constructor));try refine zl ?_)
  refine cK nmd [(1,41)] [] mixed hng (by kernel_rfl) [2] fun hf C S K hC hS hK=>?_;simp (disch:=first|omega|assumption) only [go_sem,decide_true,decide_false,ne_eq,not_true_eq_false,not_false_eq_true]
  refine hC _ (hsame _ (ar rfl hp) hON hOM) (fun q hq=>?_) ?_
  ·rcases List.mem_append.1 hq with hq|hq
   ·exact iJ (by simp [hyN,hpN,hqN]) _ q hq
   ·exact iK (by simp [hyM,hpM,hqM]) hdj _ q hq
  simp (disch:=first|omega|assumption) only [go_sem,decide_true,decide_false,ne_eq,not_true_eq_false,not_false_eq_true]
  (first|refine hK (aM rfl) ?_|refine hK (by simp (disch:=first|omega|assumption) only [go_sem,List.reverse_cons,List.reverse_nil,ne_eq,not_false_eq_true,implies_true]) ?_);clear hK hS hC K S C hf
  refine qw0 ?_
  exact ay (bj rfl)
end Go.Proofs.YtmoaidkglldhcaaGreatDoor
namespace Go.Proofs.YtmoaidkglldhcaaGreatDoor
open Go Go.Ab
set_option maxRecDepth 20000
set_option maxHeartbeats 4000000
theorem yt {y pp qq:Oid} {N M:List Oid} (h:Apt y pp qq N M) (a b c:ao) (F G:Oid→ao) (i:Oid) (o:ao) (hh:Mem.blk [] [(KB y pp qq N M,jk y pp qq a b c N F G)] i=some o):Mem.blk [(y,a),(pp,b),(qq,c)] [(N,F),(M,G)] i=some o:=by
 rw [dt,Dz,DA h,DB h] at hh
 simp only [Mem.cm] at hh ⊢
 split at hh
 ·rw [if_pos ‹_›];exact hh
 rw [if_neg ‹_›]
 split at hh
 ·rw [if_pos ‹_›];exact hh
 rw [if_neg ‹_›]
 split at hh
 ·rw [if_pos ‹_›];exact hh
 rw [if_neg ‹_›]
 rw [aW] at hh ⊢
 split at hh
 ·rename_i hi
  rw [vu h i hi] at hh;rw [if_pos hi];exact hh
 rw [if_neg ‹_›]
 rw [aW] at hh ⊢
 split at hh
 ·rename_i hi
  rw [vv h i hi] at hh;rw [if_pos hi];exact hh
 ·cases hh
theorem KS.begin {s:St} {cwd:Str} {n:Nat} (h:KS s cwd n):KS s.begin cwd n :=
 ⟨h.ok.begin,h.ek,h.well,h.np,h.cd,h.len,h.key,h.cl,fun q hq=>by
  simp only [St.begin,Option.some.injEq] at hq
  subst hq
  exact ⟨Nat.zero_le _,Nat.zero_le _⟩⟩
theorem KS.halt {s:St} {cwd:Str} {n:Nat} (h:KS s cwd n):KS s.halt cwd n :=
 ⟨h.ok.halt,h.ek,h.well,h.np,h.cd,h.len,h.key,h.cl,fun q hq=>by cases hq⟩
theorem KS.reads {s:St} {cwd:Str} {n:Nat} (h:KS s cwd n):s.reads.length≤20000 * n:=by
 unfold St.reads
 cases ht:s.t with
 | none=>exact Nat.zero_le _
 | some q=>exact (h.tr q ht).1
theorem KS.writes {s:St} {cwd:Str} {n:Nat} (h:KS s cwd n):s.writes.length≤4 * n:=by
 unfold St.writes
 cases ht:s.t with
 | none=>exact Nat.zero_le _
 | some q=>rw [List.length_map];exact (h.tr q ht).2
section
variable {y st pp r qq:Oid} {s:St} {cwd:Str} {um:Int} {n:Nat} {N M:List Oid} {H:Oid→ao} (h:cj y st pp r qq s cwd um n N M H)
include h
theorem cj.begin {p:Oid} (hO:bc p (KB y pp qq N M)):∃ (N':List Oid) (F' G':Oid→ao),cj y st pp r qq s.begin cwd um n N' M (jkP y st pp r qq cwd um N' F' G')∧(∀ i ∈ N',i ∈ N∨Oid.under p i) ∧
  ah Tryz.prog 33 [.ptr st 0] (Oid.under p) ⟨bk (N,H),.tuple [],sbx N' F'⟩∧∀ p',bc p' M→ah Tryz.prog 37 [.ptr r 0] (Oid.under p') ⟨bk (M,H),.tuple [],sb M G'⟩:=by
 obtain ⟨hy,hpp,hqq,hON,hOM⟩:=KB.old hO
 obtain ⟨N',F',hF,hN',hA⟩:=qF h.sp p hON
 obtain ⟨G',hG,hB⟩:=vq h.sr h.ks.ok
 have ap':Apt y pp qq N' M:=⟨h.ap.yp,h.ap.yq,h.ap.pq,fun hi=>(hN' y hi).elim h.ap.yN hy,h.ap.yM,fun hi=>(hN' pp hi).elim h.ap.pN hpp,h.ap.pM,fun hi=>(hN' qq hi).elim h.ap.qN hqq,h.ap.qM,fun i hi hm=>(hN' i hi).elim (fun hi=>h.ap.dj i hi hm) (hOM i hm)⟩
 exact ⟨N',F',G',.mk' ap' hF hG h.ks.begin h.um,hN',hA,hB⟩
theorem cj.fin (hn:n≤40):∃ (N':List Oid) (F' G':Oid→ao),Apt y pp qq N' M∧dI st s.halt N' F'∧eN r s.halt M G'∧(∀ i ∈ N',i ∈ N) ∧
  (∀ p,p.mono=false→bc p N→ah Tryz.prog 35 [.ptr st 0] (Oid.under p) ⟨bk (N,H),.tuple [.list 3 (s.reads.map a8),.list 3 (s.writes.map a8)],sbx N' F'⟩) ∧
  ∀ p,bc p M→ah Tryz.prog 40 [.ptr r 0] (Oid.under p) ⟨bk (M,H),.tuple [.list 3 (s.reads.map a8),.list 3 (s.writes.map a8)],sb M G'⟩:=by
 obtain ⟨N',F',hF,hN',hA⟩:=wF h.sp h.ks.ok (fun q hq=>by have:=h.ks.tr q hq;omega)
 obtain ⟨G',hG,hB⟩:=Br h.sr h.ks.ok (fun q hq=>by have:=h.ks.tr q hq;omega)
 exact ⟨N',F',G',⟨h.ap.yp,h.ap.yq,h.ap.pq,fun hi=>h.ap.yN (hN' y hi),h.ap.yM,fun hi=>h.ap.pN (hN' pp hi),h.ap.pM,fun hi=>h.ap.qN (hN' qq hi),h.ap.qM,fun i hi hm=>h.ap.dj i (hN' i hi) hm⟩,hF,hG,hN',hA,hB⟩
end
theorem plays6_ok (um:Int) (l:List ActK) (hl:l.length≤140737488355328) (p:Oid) (hp:p.mono=false):ah Tryz.prog 10 [.int .i64 um,.list 5 (l.map bu)] (Oid.under p) ⟨[],.bool true,[]⟩:=by
 refine aD (n:=92) (rs:=[.tmp 4]) Tryz.func10 rfl rfl (by decide) rfl rfl rfl ?_;rintro x rfl hrd hng
 (repeat (first|(refine aA rfl rfl ?_)|(refine az rfl rfl ?_)|(refine aw nmd [] hng (by kernel_rfl) fun hf C S K hC1 hC hS hK=>?_;simp (disch:=first|omega|assumption) only [go_sem];(repeat ((first|refine hC1 _ (eM _ (ar rfl hp)) (by simp (disch:=first|omega|assumption) only [go_sem]) ?_);simp (disch:=first|omega|assumption) only [go_sem]));refine hK ?_;clear hK hS hC hC1 K S C hf)|((first|refine zn ?_|refine ze ?_|refine zk ?_);with_reducible (constructor;repeat constructor);try refine zl ?_)))
 obtain ⟨y,st,pp,r,qq,N,M,H,hPK,hun,hB⟩:=gM um (.sub 3 1 x.p) (ar rfl hp)
 have hO:=jb hun
 clear hun
 have hum:=o6 um
 generalize c8 um 7=u at hPK hum
 refine qr1 hB ?_
 clear hB
 refine qw0 ?_
 refine dy (Mem.blk [] [(KB y pp qq N M,H)]) (fun i o h=>by rw [← Mem.aJ];exact jc _ _ _ i o h) ?_
 obtain ⟨N',F',G',hPK',hN',hA,hB⟩:=hPK.begin (p:=.sub 5 4 x.p) (hO.sub (by omega) 4)
 have hyN:=hPK.ap.yN;have hyM:=hPK.ap.yM;have hpN:=hPK.ap.pN;have hpM:=hPK.ap.pM;have hqN:=hPK.ap.qN;have hqM:=hPK.ap.qM;have hdj:=hPK.ap.dj;have hcy:=hPK.cy;have hcp:=hPK.cp;have hcq:=hPK.cq
 rw [dt,hcy,hcp,hcq]
 refine aw nmd [] hng (by kernel_rfl) fun hf C S K hC1 hC hS hK=>?_;simp (disch:=first|omega|assumption) only [go_sem]
 refine hC1 _ hA (by exact iJ (by simp [hyN,hpN,hqN]) _) ?_
 simp (disch:=first|omega|assumption) only [go_sem]
 refine hK ?_;clear hK hS hC hC1 K S C hf
 (try ((first|refine zn ?_|refine ze ?_|refine zk ?_);with_reducible (constructor;repeat constructor));try refine zl ?_)
 refine oK (P:=Tryz.prog) (A:=[(y,_),(pp,_),(qq,_)]) (Bs:=[(M,H)]) (fun e he=>by
  simp only [List.mem_cons,List.not_mem_nil,or_false] at he
  rcases he with rfl|rfl|rfl
  ·exact hPK'.ap.yN
  ·exact hPK'.ap.pN
  ·exact hPK'.ap.qN) (fun B hB=>by rw [List.mem_singleton.1 hB];exact hdj) ?_
 have hyN2:=hPK'.ap.yN;have hpN2:=hPK'.ap.pN;have hqN2:=hPK'.ap.qN;have hdj2:=hPK'.ap.dj
 refine aw nmd [] hng (by kernel_rfl) fun hf C S K hC1 hC hS hK=>?_;simp (disch:=first|omega|assumption) only [go_sem,hyN2,hpN2,hqN2,hdj2]
 refine hC1 _ (hB _ (fun j hj=>hO.sub (by omega) _ j (by simp [hj]))) (by exact iK (by simp [hyM,hpM,hqM]) hdj2 _) ?_
 simp (disch:=first|omega|assumption) only [go_sem,hyN2,hpN2,hqN2,hdj2,hyM,hpM,hqM]
 refine hK ?_;clear hK hS hC hC1 K S C hf
 refine qw0 ?_
 have hO2:gK x.p 7 (KB y pp qq N' M):=fun j hj hyo=>by
  have hold:∀ j ∈ KB y pp qq N M,¬ dV x.p 7 j:=fun j hj hyo=>hO j hj (hyo.mono (by omega))
  rcases List.mem_cons.1 hj with rfl|hj
  ·exact hold _ (by simp) hyo
  rcases List.mem_cons.1 hj with rfl|hj
  ·exact hold _ (by simp) hyo
  rcases List.mem_cons.1 hj with rfl|hj
  ·exact hold _ (by simp) hyo
  rcases List.mem_append.1 hj with hj|hj
  ·rcases hN' j hj with hi|hi
   ·exact hold j (by simp [hi]) hyo
   ·obtain ⟨c1,i1,hc1,hu⟩:=hyo
    have:=(Oid.apart hi hu).1;omega
  ·exact hold j (by simp [hj]) hyo
 refine dy (Mem.blk [] [(KB y pp qq N' M,jkP y st pp r qq [] u N' F' G')]) (fun i o hh=>yt hPK'.ap _ _ _ _ _ i o hh) ?_
 refine bq [1,5,6,7] (fun k s'=>∃ (i c:Nat) (s:St) (cwd:Str) (H:Oid→ao),s' = ⟨[(1,.list 5 (l.map bu)),(5,.bool true),(6,.ptr y 0),(7,.int .i64 i)],Mem.blk [] [(KB y pp qq N' M,H)],c,[]⟩∧k=l.length - i∧i≤l.length∧i≤24∧7≤c∧cj y st pp r qq s cwd u i N' M H∧gK x.p c (KB y pp qq N' M)) _ ⟨0,_,_,_,_,rfl,rfl,Nat.zero_le _,by omega,by omega,hPK',hO2.mono (by omega)⟩ ?_
 clear hPK hPK' hO hO2 hA hB hcy hcp hcq hN' hyN hyM hpN hpM hqN hqM hdj hyN2 hpN2 hqN2 hdj2 H F' G' N
 rintro k s' ⟨i,c,s,cwd,H,rfl,rfl,hi,hi2,hc,hPK,hO⟩
 (try ((first|refine zn ?_|refine ze ?_|refine zk ?_);with_reducible (constructor;repeat constructor));try refine zl ?_)
 refine cu [1,5,6,7,36] (fun s'=>∃ c':Nat,s' = ⟨[(1,.list 5 (l.map bu)),(5,.bool true),(6,.ptr y 0),(7,.int .i64 i),(36,.bool (decide (i < l.length∧i < 24)))],Mem.blk [] [(KB y pp qq N' M,H)],c',[]⟩∧c≤c') ?_ ?_
 ·refine aw nmd [(4,33)] hng (by kernel_rfl) fun hf C S K hC1 hC hS hK=>?_;simp (disch:=first|omega|assumption) only [go_sem,List.length_map]
  (repeat' (first|(refine cB (fun hv=>?_) (fun hv=>?_)<;>(try simp only [zb1,zb2,zb3,zb4,zb5] at hv)<;>simp (disch:=first|omega|assumption) only [go_sem,hv,List.length_map])|(refine hK ?_;clear hK hS hC hC1 K S C hf)))
  ·rw [show decide (i < l.length∧i < 24)=decide ((i:Int) < 24) from decide_eq_decide.2 (by omega)]
   exact aO ⟨_,rfl,by omega⟩
  ·rw [show decide (i < l.length∧i < 24)=false from decide_eq_false (by omega)]
   exact aO ⟨_,rfl,by omega⟩
 rintro s' ⟨c',rfl,hc'⟩
 refine aS rfl rfl (fun hb=>?_) (fun hb=>?_)
 ·have hlt:i < l.length:=hb.1
  generalize hg:l.getD i default=g
  obtain ⟨a,b,b2,k,raw⟩:=g
  by_cases hr:300 < raw.length
  ·have hr':(300:Int) < (raw.length:Int):=by omega
   (try ((first|refine zn ?_|refine ze ?_|refine zk ?_);with_reducible (constructor;repeat constructor));try refine zl ?_)
   refine aw nmd [] hng (by kernel_rfl) fun hf C S K hC1 hC hS hK=>?_;simp (disch:=first|omega|assumption) only [go_sem,hg,bu,AV.cells,List.length_map,hr',decide_true,decide_false,ne_eq,not_true_eq_false,not_false_eq_true]
   refine hK ?_;clear hK hS hC hC1 K S C hf
   refine qw hr' ?_
   exact ay (bj rfl)
  have hr':¬ (300:Int) < (raw.length:Int):=by omega
  have hD:=j8 hPK (by omega) b b2 k raw (by omega) (p:=.sub (c' + 1) 5 x.p) (ar rfl hp) (hO.sub (by omega) 5) a
  unfold tY at hD
  simp only [bu] at hD
  (try ((first|refine zn ?_|refine ze ?_|refine zk ?_);with_reducible (constructor;repeat constructor));try refine zl ?_)
  refine aw nmd [] hng (by kernel_rfl) fun hf C S K hC1 hC hS hK=>?_;simp (disch:=first|omega|assumption) only [go_sem,hg,bu,AV.cells,List.length_map,hr',decide_true,decide_false,ne_eq,not_true_eq_false,not_false_eq_true]
  refine hK ?_;clear hK hS hC hC1 K S C hf
  refine qw hr' ?_
  refine aw nmd [] hng (by kernel_rfl) fun hf C S K hC1 hC hS hK=>?_;simp (disch:=first|omega|assumption) only [go_sem,hg,bu,AV.cells,List.length_map]
  refine hC _ _ _ hD (by show ∀ q,q ∈ bk _→_;rw [lZ];trivial) ?_ (fun _ _ h=>h.elim)
  rintro _ _ ⟨rfl,s',cwd',H',hPK',rfl⟩
  simp (disch:=first|omega|assumption) only [go_sem,decide_true,decide_false,ne_eq,not_true_eq_false,not_false_eq_true]
  refine hK ?_;clear hK hS hC hC1 K S C hf
  refine qw0 ?_
  exact ⟨_,_,by omega,fun i o h=>h,i+1,_,_,_,_,rfl,rfl,by omega,by omega,by omega,hPK',hO.mono (by omega)⟩
 ·obtain ⟨N2,F2,G2,ap2,sp2,sr2,hN2,hA,hB⟩:=hPK.fin (by omega)
  obtain ⟨hy,hpp,hqq,hON,hOM⟩:=KB.old (hO.sub hc' 4)
  have hks:=hPK.ks.halt
  have hs1:=fun p=>kN s.reads (by have:=hPK.ks.reads;omega) p
  have hs2:=fun p=>kN s.writes (by have:=hPK.ks.writes;omega) p
  have hsame:=fun p hp ho ho'=>tX sp2 sr2 hks.ok (fun q hq=>by cases hq) ap2.dj p hp ho ho'
  generalize s.reads=R1 at hA hB hs1
  generalize s.writes=W1 at hA hB hs2
  have hyN:=hPK.ap.yN;have hyM:=hPK.ap.yM;have hpN:=hPK.ap.pN;have hpM:=hPK.ap.pM;have hqN:=hPK.ap.qN;have hqM:=hPK.ap.qM;have hdj:=hPK.ap.dj;have hcy:=hPK.cy;have hcp:=hPK.cp;have hcq:=hPK.cq
  have hON':gK x.p c' N':=fun j hj h=>hO j (by simp [hj]) (h.mono hc')
  have hOM':gK x.p c' M:=fun j hj h=>hO j (by simp [hj]) (h.mono hc')
  have hON2:gK x.p c' N2:=fun j hj h=>hON' j (hN2 j hj) h
  have hyN2:=ap2.yN;have hpN2:=ap2.pN;have hqN2:=ap2.qN;have hdj2:=ap2.dj
  rw [dt,hcy,hcp,hcq]
  (try ((first|refine zn ?_|refine ze ?_|refine zk ?_);with_reducible (constructor;repeat constructor));try refine zl ?_)
  refine aw nmd [] hng (by kernel_rfl) fun hf C S K hC1 hC hS hK=>?_;simp (disch:=first|omega|assumption) only [go_sem]
  refine hC1 _ (hA _ (ar rfl hp) (hON'.sub (by omega) _)) (by exact iJ (by simp [hyN,hpN,hqN]) _) ?_
  simp (disch:=first|omega|assumption) only [go_sem]
  refine hK ?_;clear hK hS hC hC1 K S C hf
  (try ((first|refine zn ?_|refine ze ?_|refine zk ?_);with_reducible (constructor;repeat constructor));try refine zl ?_)
  refine oK (P:=Tryz.prog) (A:=[(y,_),(pp,_),(qq,_)]) (Bs:=[(M,H)]) (fun e he=>by
   simp only [List.mem_cons,List.not_mem_nil,or_false] at he
   rcases he with rfl|rfl|rfl
   ·exact hyN2
   ·exact hpN2
   ·exact hqN2) (fun B hB=>by rw [List.mem_singleton.1 hB];exact hdj) ?_
  refine aw nmd [] hng (by kernel_rfl) fun hf C S K hC1 hC hS hK=>?_;simp (disch:=first|omega|assumption) only [go_sem,hyN2,hpN2,hqN2,hdj2]
  refine hC1 _ (hB _ (hOM'.sub (by omega) _)) (by exact iK (by simp [hyM,hpM,hqM]) hdj2 _) ?_
  simp (disch:=first|omega|assumption) only [go_sem,hyN2,hpN2,hqN2,hdj2,hyM,hpM,hqM]
  refine hK ?_;clear hK hS hC hC1 K S C hf
  (try ((first|refine zn ?_|refine ze ?_|refine zk ?_);with_reducible (constructor;repeat constructor));try refine zl ?_)
  refine cK nmd [(1,71),(6,76),(11,81)] [] mixed hng (by kernel_rfl) [4] fun hf C S K hC hS hK=>?_;simp (disch:=first|omega|assumption) only [go_sem,hyN2,hpN2,hqN2,hdj2,hyM,hpM,hqM,decide_true,decide_false,ne_eq,not_true_eq_false,not_false_eq_true]
  refine hC _ (hs1 _) (fun _ h=>by cases h) ?_
  simp (disch:=first|omega|assumption) only [go_sem,decide_true,decide_false,ne_eq,not_true_eq_false,not_false_eq_true]
  refine hC _ (hs2 _) (fun _ h=>by cases h) ?_
  simp (disch:=first|omega|assumption) only [go_sem,decide_true,decide_false,ne_eq,not_true_eq_false,not_false_eq_true]
  refine hC _ (hsame _ (ar rfl hp) (hON2.sub (by omega) _) (hOM'.sub (by omega) _)) (fun q hq=>?_) ?_
  ·rcases List.mem_append.1 hq with hq|hq
   ·exact iJ (by simp [hyN2,hpN2,hqN2]) _ q hq
   ·exact iK (by simp [hyM,hpM,hqM]) hdj2 _ q hq
  simp (disch:=first|omega|assumption) only [go_sem,decide_true,decide_false,ne_eq,not_true_eq_false,not_false_eq_true]
  (first|refine hK (aM rfl) ?_|refine hK (by simp (disch:=first|omega|assumption) only [go_sem,List.reverse_cons,List.reverse_nil,ne_eq,not_false_eq_true,implies_true]) ?_);clear hK hS hC K S C hf
  refine qw0 ?_
  exact ay (bj rfl)
end Go.Proofs.YtmoaidkglldhcaaGreatDoor
namespace Go.Proofs.YtmoaidkglldhcaaGreatDoor
open Go Go.Ab
set_option maxRecDepth 20000
set_option maxHeartbeats 4000000
theorem gN {N:List Oid} {F G:Oid→ao} (h:∀ i ∈ N,F i=G i):bk (N,F)=bk (N,G):=List.map_congr_left fun i hi=>by show (i,F i)=(i,G i);rw [h i hi]
def o7 (l:List ActK):Bool:=l.all fun a=>decide (a.raw.length≤300)
theorem tZ {l:List ActK} (h:o7 l=true) {i:Nat} (hi:i < l.length):(l.getD i default).raw.length≤300:=by
 unfold o7 at h
 rw [List.all_eq_true] at h
 have:=h (l.getD i default) (by rw [ck hi];exact List.getElem_mem hi)
 exact of_decide_eq_true this
theorem vw (l:List ActK) (hl:l.length≤140737488355328) (p:Oid):ah Tryz.prog 22 [.list 5 (l.map bu)] (Oid.under p) ⟨[],.bool (o7 l),[]⟩:=by
 refine aD (n:=17) (rs:=[.tmp 2]) Tryz.func22 rfl rfl (by decide) rfl rfl rfl ?_;rintro x rfl hrd hng
 refine qw0 ?_
 refine bq [0,3] (fun k s'=>∃ (i c:Nat),s' = ⟨[(0,.list 5 (l.map bu)),(3,.int .i64 i)],Mem.of [],c,[]⟩∧k=l.length - i∧i≤l.length∧o7 l=o7 (l.drop i)) _ ⟨0,_,rfl,rfl,Nat.zero_le _,rfl⟩ ?_
 rintro k s' ⟨i,c,rfl,rfl,hi,hr⟩
 (repeat (first|(refine aA rfl rfl ?_)|(refine az rfl rfl ?_)|(refine aw nmd [] hng (by kernel_rfl) fun hf C S K hC1 hC hS hK=>?_;simp (disch:=first|omega|assumption) only [go_sem,List.length_map];refine hK ?_;clear hK hS hC hC1 K S C hf)|((first|refine zn ?_|refine ze ?_|refine zk ?_);with_reducible (constructor;repeat constructor);try refine zl ?_)))
 refine aS rfl rfl (fun hb=>?_) (fun hb=>?_)
 ·have hlt:i < l.length:=by omega
  have hd:l.drop i=l.getD i default::l.drop (i+1):=by rw [ck hlt];exact List.drop_eq_getElem_cons hlt
  have hr2:o7 (l.drop i)=(decide ((l.getD i default).raw.length≤300) && o7 (l.drop (i+1))):=by rw [hd];rfl
  rw [hr2] at hr
  generalize hg:l.getD i default=g at hr
  obtain ⟨a,b,b2,k,raw⟩:=g
  by_cases hr':300 < raw.length
  ·have hr3:(300:Int) < (raw.length:Int):=by omega
   have hd2:decide ((⟨a,b,b2,k,raw⟩:ActK).raw.length≤300)=false:=decide_eq_false (by show ¬ raw.length≤300;omega)
   rw [hr,hd2,Bool.false_and]
   (try ((first|refine zn ?_|refine ze ?_|refine zk ?_);with_reducible (constructor;repeat constructor));try refine zl ?_)
   refine aw nmd [] hng (by kernel_rfl) fun hf C S K hC1 hC hS hK=>?_;simp (disch:=first|omega|assumption) only [go_sem,hg,bu,AV.cells,List.length_map,hr3,decide_true,decide_false,ne_eq,not_true_eq_false,not_false_eq_true]
   refine hK ?_;clear hK hS hC hC1 K S C hf
   refine qw hr3 ?_
   exact ay (bj rfl)
  ·have hr3:¬ (300:Int) < (raw.length:Int):=by omega
   have hd2:decide ((⟨a,b,b2,k,raw⟩:ActK).raw.length≤300)=true:=decide_eq_true (by show raw.length≤300;omega)
   rw [hd2,Bool.true_and] at hr
   (try ((first|refine zn ?_|refine ze ?_|refine zk ?_);with_reducible (constructor;repeat constructor));try refine zl ?_)
   refine aw nmd [] hng (by kernel_rfl) fun hf C S K hC1 hC hS hK=>?_;simp (disch:=first|omega|assumption) only [go_sem,hg,bu,AV.cells,List.length_map,hr3,decide_true,decide_false,ne_eq,not_true_eq_false,not_false_eq_true]
   refine hK ?_;clear hK hS hC hC1 K S C hf
   refine qw hr3 ?_
   exact ⟨_,_,by omega,fun _ _ h=>h,i+1,_,rfl,rfl,by omega,hr⟩
 ·have:i=l.length:=by omega
  subst this
  rw [hr,List.drop_length]
  refine qw0 ?_
  exact ay (bj rfl)
theorem finds_ok (l:List ActK) (hl:l.length≤140737488355328) (nn:UInt8) (path:Str) (fol:Bool) (p:Oid) (hp:p.mono=false):ah Tryz.prog 9 [.list 5 (l.map bu),.int .u8 nn.toNat,.str path,.bool fol] (Oid.under p) ⟨[],.bool true,[]⟩:=by
 refine aD (n:=133) (rs:=[.tmp 8]) Tryz.func9 rfl rfl (by decide) rfl rfl rfl ?_;rintro x rfl hrd hng
 (repeat (first|(refine aA rfl rfl ?_)|(refine az rfl rfl ?_)|(refine aw nmd [] hng (by kernel_rfl) fun hf C S K hC1 hC hS hK=>?_;simp (disch:=first|omega|assumption) only [go_sem];(repeat ((first|refine hC1 _ (eM _ (ar rfl hp)) (by simp (disch:=first|omega|assumption) only [go_sem]) ?_);simp (disch:=first|omega|assumption) only [go_sem]));refine hK ?_;clear hK hS hC hC1 K S C hf)|((first|refine zn ?_|refine ze ?_|refine zk ?_);with_reducible (constructor;repeat constructor);try refine zl ?_)))
 obtain ⟨y,st,pp,r,qq,N,M,H,hPK,hun,hB⟩:=gM 0 (.sub 3 0 x.p) (ar rfl hp)
 have hO:=jb hun
 clear hun
 rw [show c8 0 7=0 from rfl] at hPK
 have hrw:=fun p=>vw l hl p
 refine qr1 hB ?_
 clear hB
 (try ((first|refine zn ?_|refine ze ?_|refine zk ?_);with_reducible (constructor;repeat constructor));try refine zl ?_)
 refine dy (Mem.blk [] [(KB y pp qq N M,H)]) (fun i o h=>by rw [← Mem.aJ];exact jc _ _ _ i o h) ?_
 by_cases hpl:300 < path.length
 ·have e1:(300:Int) < (path.length:Int):=by omega
  refine qr (.d [] [(2,29),(7,34)] []) e1 trivial ?_
  refine qw0 ?_
  refine qr (.d [] [(2,41)] []) trivial trivial ?_
  refine qw0 ?_
  exact ay (bj rfl)
 have e1:¬ (300:Int) < (path.length:Int):=by omega
 by_cases hra:o7 l=true
 case neg =>
  rw [Bool.not_eq_true] at hra
  rw [hra] at hrw
  refine qr (.d [] [(2,29),(7,34)] []) e1 (cq (hrw _) trivial) ?_
  refine qw0 ?_
  refine qr (.d [] [(2,41)] []) trivial trivial ?_
  refine qw0 ?_
  exact ay (bj rfl)
 have hrw':=hrw
 rw [hra] at hrw'
 refine qr (.d [] [(2,29),(7,34)] []) e1 (cq (hrw' _) trivial) ?_
 clear hrw hrw'
 refine qw0 ?_
 refine bq [0,1,2,3,9,10,11] (fun k s'=>∃ (i c:Nat) (s:St) (cwd:Str) (H:Oid→ao),s' = ⟨[(0,.list 5 (l.map bu)),(1,.int .u8 nn.toNat),(2,.str path),(3,.bool fol),(9,.bool true),(10,.ptr y 0),(11,.int .i64 i)],Mem.blk [] [(KB y pp qq N M,H)],c,[]⟩∧k=l.length - i∧i≤l.length∧i≤16∧4≤c∧cj y st pp r qq s cwd 0 i N M H∧gK x.p c (KB y pp qq N M)) _ ⟨0,_,_,_,_,rfl,rfl,Nat.zero_le _,by omega,by omega,hPK,hO.mono (by omega)⟩ ?_
 clear hPK hO H
 rintro k s' ⟨i,c,s,cwd,H,rfl,rfl,hi,hi2,hc,hPK,hO⟩
 (try ((first|refine zn ?_|refine ze ?_|refine zk ?_);with_reducible (constructor;repeat constructor));try refine zl ?_)
 refine cu [0,1,2,3,9,10,11,51] (fun s'=>∃ c':Nat,s' = ⟨[(0,.list 5 (l.map bu)),(1,.int .u8 nn.toNat),(2,.str path),(3,.bool fol),(9,.bool true),(10,.ptr y 0),(11,.int .i64 i),(51,.bool (decide (i < l.length∧i < 16)))],Mem.blk [] [(KB y pp qq N M,H)],c',[]⟩∧c≤c') ?_ ?_
 ·refine aw nmd [(4,48)] hng (by kernel_rfl) fun hf C S K hC1 hC hS hK=>?_;simp (disch:=first|omega|assumption) only [go_sem,List.length_map]
  (repeat' (first|(refine cB (fun hv=>?_) (fun hv=>?_)<;>(try simp only [zb1,zb2,zb3,zb4,zb5] at hv)<;>simp (disch:=first|omega|assumption) only [go_sem,hv,List.length_map])|(refine hK ?_;clear hK hS hC hC1 K S C hf)))
  ·rw [show decide (i < l.length∧i < 16)=decide ((i:Int) < 16) from decide_eq_decide.2 (by omega)]
   exact aO ⟨_,rfl,by omega⟩
  ·rw [show decide (i < l.length∧i < 16)=false from decide_eq_false (by omega)]
   exact aO ⟨_,rfl,by omega⟩
 rintro s' ⟨c',rfl,hc'⟩
 refine aS rfl rfl (fun hb=>?_) (fun hb=>?_)
 ·have hlt:i < l.length:=hb.1
  have hrl:=tZ hra hlt
  generalize hg:l.getD i default=g at hrl
  obtain ⟨a,b,b2,k,raw⟩:=g
  simp only at hrl
  have hD:=j8 hPK (by omega) b b2 k raw (by omega) (p:=.sub c' 5 x.p) (ar rfl hp) (hO.sub (by omega) 5) a
  unfold tY at hD
  simp only [bu] at hD
  (try ((first|refine zn ?_|refine ze ?_|refine zk ?_);with_reducible (constructor;repeat constructor));try refine zl ?_)
  refine aw nmd [] hng (by kernel_rfl) fun hf C S K hC1 hC hS hK=>?_;simp (disch:=first|omega|assumption) only [go_sem,hg,bu,AV.cells,List.length_map]
  refine hC _ _ _ hD (by show ∀ q,q ∈ bk _→_;rw [lZ];trivial) ?_ (fun _ _ h=>h.elim)
  rintro _ _ ⟨rfl,s',cwd',H',hPK',rfl⟩
  simp (disch:=first|omega|assumption) only [go_sem,decide_true,decide_false,ne_eq,not_true_eq_false,not_false_eq_true]
  refine hK ?_;clear hK hS hC hC1 K S C hf
  refine qw0 ?_
  exact ⟨_,_,by omega,fun i o h=>h,i+1,_,_,_,_,rfl,rfl,by omega,by omega,by omega,hPK',hO.mono (by omega)⟩
 ·have hPt:=fun p=>iL nn path p
  have hul:=gy nn (raw:=path) (by omega)
  generalize cz nn path=u at hPt hul
  refine qr1 (hPt _) ?_
  clear hPt
  (try ((first|refine zn ?_|refine ze ?_|refine zk ?_);with_reducible (constructor;repeat constructor));try refine zl ?_)
  have hyN:=hPK.ap.yN;have hyM:=hPK.ap.yM;have hpN:=hPK.ap.pN;have hpM:=hPK.ap.pM;have hqN:=hPK.ap.qN;have hqM:=hPK.ap.qM;have hdj:=hPK.ap.dj;have hcy:=hPK.cy;have hcp:=hPK.cp;have hcq:=hPK.cq
  obtain ⟨N',F',G',hPK',hN',hA,hB⟩:=hPK.begin (p:=.sub (c' + 1) 4 x.p) (hO.sub (by omega) 4)
  have hON':gK x.p (c' + 2) N':=fun j hj hyo=>by
   rcases hN' j hj with hi|hi
   ·exact hO j (by simp [hi]) (hyo.mono (by omega))
   ·obtain ⟨c1,i1,hc1,hu⟩:=hyo
    have:=(Oid.apart hi hu).1;omega
  have hOM':gK x.p c' M:=fun j hj h=>hO j (by simp [hj]) (h.mono hc')
  have hpp:∀ c i,c'≤c→¬ Oid.under (.sub c i x.p) pp:=fun c i h=>hO.sub (by omega) i pp (by simp)
  have hqq:∀ c i,c'≤c→¬ Oid.under (.sub c i x.p) qq:=fun c i h=>hO.sub (by omega) i qq (by simp)
  obtain ⟨hy0,hpp0,hqq0,-,-⟩:=KB.old (hO.sub hc' 4)
  have py:∀ c i,c'≤c→¬ Oid.sub c i x.p=y:=fun c i h e=>hO.sub (c:=c) (by omega) i y (by simp) (e ▸ Oid.aq _)
  have ppy:∀ c i,c'≤c→¬ Oid.sub c i x.p=pp:=fun c i h e=>hpp c i h (e ▸ Oid.aq _)
  have pqy:∀ c i,c'≤c→¬ Oid.sub c i x.p=qq:=fun c i h e=>hqq c i h (e ▸ Oid.aq _)
  have mN:∀ c i,c' + 2≤c→Oid.sub c i x.p ∉ N':=fun c i h=>hON'.mem h
  have mM:∀ c i,c'≤c→Oid.sub c i x.p ∉ M:=fun c i h=>hOM'.mem h
  obtain ⟨F1,G1,hPK2,e1,e3⟩:=hPK'.rd (by omega) (jK hPK'.ks.lk cwd u fol) (by decide)
  have hkl:=hPK'.ks.kl
  have hcl:cwd.length≤1000000:=by have:=hPK'.ks.cl;omega
  have ap':=hPK'.ap
  have yp:=ap'.yp;have yq:=ap'.yq;have pq:=ap'.pq
  have yp':¬ pp=y:=fun e=>yp e.symm
  have yq':¬ qq=y:=fun e=>yq e.symm
  have pq':¬ qq=pp:=fun e=>pq e.symm
  have hyN2:=ap'.yN;have hpN2:=ap'.pN;have hqN2:=ap'.qN;have hdj2:=ap'.dj
  have hAf:∀ p,p.mono=false→¬ Oid.under p pp→bc p N'→ah Tryz.prog 38 [.ptr pp 0,.str u,.bool fol] (Oid.under p) ⟨(pp,prC st cwd 0)::bk (N',F'),fnV (findF s.begin.L cwd u fol).2,sb N' F1⟩:=fun p hp hpp hO=>by
   rw [← gN (vu ap' (G:=G'))]
   exact DZ hkl hcl 0 ap'.pN hp hpp hO u (by omega) fol e1
  have hBf:∀ p,p.mono=false→¬ Oid.under p qq→bc p M→ah Tryz.prog 39 [.ptr qq 0,.str u,.bool fol] (Oid.under p) ⟨(qq,prC r cwd 0)::bk (M,G'),fnV (findF s.begin.L cwd u fol).2,sb M G1⟩:=fun p hp hqq hO=>by
   rw [← gN (vv ap' (F:=F'))]
   exact cZ hkl u cwd 0 fol ap'.qM hcl (by omega) e3 p hp hqq hO
  obtain ⟨N2,F2,G2,ap2,sp2,sr2,hN2,hA2,hB2⟩:=hPK2.fin (by omega)
  rw [gN (vu ap')] at hA2
  rw [gN (vv ap')] at hB2
  have hs1:=fun p=>kN (s.begin.rds (findF s.begin.L cwd u fol).1).reads (by have:=hPK2.ks.reads;omega) p
  generalize (s.begin.rds (findF s.begin.L cwd u fol).1).reads=R1 at hA2 hB2 hs1
  generalize (s.begin.rds (findF s.begin.L cwd u fol).1).writes=W1 at hA2 hB2
  unfold fnV at hAf hBf
  generalize aH (findF s.begin.L cwd u fol).2=E at hAf hBf
  generalize rdB (findF s.begin.L cwd u fol).2=B at hAf hBf
  obtain ⟨pl,ek,em,el⟩:=B
  simp only at hAf hBf
  clear e1 e3 hPK2 sp2 sr2
  unfold prC at hAf hBf hcp hcq
  have m15:Oid.sub (c' + 1+1+1) 11 x.p ∉ M:=mM _ _ (by omega)
  have m16:Oid.sub (c' + 1+1+1+1) 11 x.p ∉ M:=mM _ _ (by omega)
  have n15:Oid.sub (c' + 1+1+1) 11 x.p ∉ N':=mN _ _ (by omega)
  have n16:Oid.sub (c' + 1+1+1+1) 11 x.p ∉ N':=mN _ _ (by omega)
  have hyN3:=ap2.yN;have hpN3:=ap2.pN;have hqN3:=ap2.qN;have hdj3:=ap2.dj
  have n25:Oid.sub (c' + 1+1+1) 11 x.p ∉ N2:=fun h=>n15 (hN2 _ h)
  have n26:Oid.sub (c' + 1+1+1+1) 11 x.p ∉ N2:=fun h=>n16 (hN2 _ h)
  rw [dt,hcy,hcp,hcq]
  refine aw nmd [] hng (by kernel_rfl) fun hf C S K hC1 hC hS hK=>?_;simp (disch:=first|omega|assumption) only [go_sem]
  refine hC1 _ hA (by exact iJ (by simp [hyN,hpN,hqN]) _) ?_
  simp (disch:=first|omega|assumption) only [go_sem]
  refine hK ?_;clear hK hS hC hC1 K S C hf
  (try ((first|refine zn ?_|refine ze ?_|refine zk ?_);with_reducible (constructor;repeat constructor));try refine zl ?_)
  refine oK (P:=Tryz.prog) (A:=[(y,_),(pp,_),(qq,_)]) (Bs:=[(M,H)]) (fun e he=>by
   simp only [List.mem_cons,List.not_mem_nil,or_false] at he
   rcases he with rfl|rfl|rfl
   ·exact hyN2
   ·exact hpN2
   ·exact hqN2) (fun B hB=>by rw [List.mem_singleton.1 hB];exact hdj) ?_
  refine aw nmd [] hng (by kernel_rfl) fun hf C S K hC1 hC hS hK=>?_;simp (disch:=first|omega|assumption) only [go_sem,hyN2,hpN2,hqN2,hdj2]
  refine hC1 _ (hB _ (hOM'.sub (by omega) _)) (by exact iK (by simp [hyM,hpM,hqM]) hdj2 _) ?_
  simp (disch:=first|omega|assumption) only [go_sem,hyN2,hpN2,hqN2,hdj2,hyM,hpM,hqM]
  refine hK ?_;clear hK hS hC hC1 K S C hf
  (try ((first|refine zn ?_|refine ze ?_|refine zk ?_);with_reducible (constructor;repeat constructor));try refine zl ?_)
  refine aw nmd [] hng (by kernel_rfl) fun hf C S K hC1 hC hS hK=>?_;simp (disch:=first|omega|assumption) only [go_sem,hyN2,hpN2,hqN2,hdj2,hyM,hpM,hqM,yp,yq,pq,yp',yq',pq',py,ppy,pqy,m15,m16,n15,n16]
  refine hC1 _ (hAf _ (ar rfl hp) (hpp _ _ (by omega)) (hON'.sub (by omega) _)) (by simp only [List.mem_cons,forall_eq_or_imp];exact ⟨by simp (disch:=first|omega|assumption) only [go_sem,hyN2,hpN2,hqN2,hdj2,hyM,hpM,hqM,yp,yq,pq,yp',yq',pq',py,ppy,pqy,m15,m16,n15,n16],(by first|exact kP _|exact iJ (by simp [hyN2,hpN2,hqN2,n15,n16]) _)⟩) ?_
  simp (disch:=first|omega|assumption) only [go_sem,hyN2,hpN2,hqN2,hdj2,hyM,hpM,hqM,yp,yq,pq,yp',yq',pq',py,ppy,pqy,m15,m16,n15,n16]
  refine hK ?_;clear hK hS hC hC1 K S C hf
  (try ((first|refine zn ?_|refine ze ?_|refine zk ?_);with_reducible (constructor;repeat constructor));try refine zl ?_)
  refine aw nmd [] hng (by kernel_rfl) fun hf C S K hC1 hC hS hK=>?_;simp (disch:=first|omega|assumption) only [go_sem,hyN2,hpN2,hqN2,hdj2,hyM,hpM,hqM,yp,yq,pq,yp',yq',pq',py,ppy,pqy,m15,m16,n15,n16]
  refine hC1 _ (hBf _ (ar rfl hp) (hqq _ _ (by omega)) (hOM'.sub (by omega) _)) (by simp only [List.mem_cons,forall_eq_or_imp];exact ⟨by simp (disch:=first|omega|assumption) only [go_sem,hyN2,hpN2,hqN2,hdj2,hyM,hpM,hqM,yp,yq,pq,yp',yq',pq',py,ppy,pqy,m15,m16,n15,n16],(by first|exact kP _|exact iK (by simp [hyM,hpM,hqM,m15,m16]) hdj2 _)⟩) ?_
  simp (disch:=first|omega|assumption) only [go_sem,hyN2,hpN2,hqN2,hdj2,hyM,hpM,hqM,yp,yq,pq,yp',yq',pq',py,ppy,pqy,m15,m16,n15,n16]
  refine hK ?_;clear hK hS hC hC1 K S C hf
  (try ((first|refine zn ?_|refine ze ?_|refine zk ?_);with_reducible (constructor;repeat constructor));try refine zl ?_)
  refine aw nmd [] hng (by kernel_rfl) fun hf C S K hC1 hC hS hK=>?_;simp (disch:=first|omega|assumption) only [go_sem,hyN2,hpN2,hqN2,hdj2,hyM,hpM,hqM,yp,yq,pq,yp',yq',pq',py,ppy,pqy,m15,m16,n15,n16]
  refine hC1 _ (hA2 _ (ar rfl hp) (hON'.sub (by omega) _)) (by first|exact kP _|exact iJ (by simp [hyN2,hpN2,hqN2,n15,n16]) _) ?_
  simp (disch:=first|omega|assumption) only [go_sem,hyN2,hpN2,hqN2,hdj2,hyM,hpM,hqM,yp,yq,pq,yp',yq',pq',py,ppy,pqy,m15,m16,n15,n16]
  refine hK ?_;clear hK hS hC hC1 K S C hf
  (try ((first|refine zn ?_|refine ze ?_|refine zk ?_);with_reducible (constructor;repeat constructor));try refine zl ?_)
  refine oK (P:=Tryz.prog) (A:=[(y,_),(pp,_),(qq,_),(Oid.sub (c' + 1+1+1) 11 x.p,_),(Oid.sub (c' + 1+1+1+1) 11 x.p,_)]) (Bs:=[(M,G1)]) (fun e he=>by
   simp only [List.mem_cons,List.not_mem_nil,or_false] at he
   rcases he with rfl|rfl|rfl|rfl|rfl<;>assumption) (fun B hB=>by rw [List.mem_singleton.1 hB];exact hdj2) ?_
  refine aw nmd [] hng (by kernel_rfl) fun hf C S K hC1 hC hS hK=>?_;simp (disch:=first|omega|assumption) only [go_sem,hyN2,hpN2,hqN2,hdj2,hyM,hpM,hqM,yp,yq,pq,yp',yq',pq',py,ppy,pqy,m15,m16,n15,n16,hyN3,hpN3,hqN3,hdj3,n25,n26]
  refine hC1 _ (hB2 _ (hOM'.sub (by omega) _)) (by exact iK (by simp [hyM,hpM,hqM,m15,m16]) hdj3 _) ?_
  simp (disch:=first|omega|assumption) only [go_sem,hyN2,hpN2,hqN2,hdj2,hyM,hpM,hqM,yp,yq,pq,yp',yq',pq',py,ppy,pqy,m15,m16,n15,n16,hyN3,hpN3,hqN3,hdj3,n25,n26]
  refine hK ?_;clear hK hS hC hC1 K S C hf
  refine qr (.d [] [(1,113),(6,118),(11,123),(16,128)] []) (ai hyN2 (ai hpN2 (ai hqN2 (ai hdj2 (ai hyM (ai hpM (ai hqM (ai yp (ai yq (ai pq (ai yp' (ai yq' (ai pq' (ai py (ai ppy (ai pqy (ai m15 (ai m16 (ai n15 (ai n16 (ai hyN3 (ai hpN3 (ai hqN3 (ai hdj3 (ai n25 n26))))))))))))))))))))))))) (cq (hs1 _) trivial) ?_
  refine qw0 ?_
  exact ay (bj rfl)
end Go.Proofs.YtmoaidkglldhcaaGreatDoor
namespace Go.Proofs.YtmoaidkglldhcaaGreatDoor
open Go Go.Ab
set_option maxRecDepth 20000
set_option maxHeartbeats 8000000
def cdR:Rds × Rs Str→Rds × Rs Pts
 | (r,.err e)=>(r,.err e)
 | (r,.go _)=>(r,.go [])
def iq (L:PL) (cwd:Str) (um:Int) (w:Nat) (u v:Str) (k:UInt8):Rds × Rs Pts :=
 if w=0 then dp L cwd um u [110,101,119] (decide (((k.toNat:Int)).tmod 2=0))
 else if w=1 then dA L cwd um u
 else if w=2 then bL L cwd v u
 else if w=3 then dq L cwd u
 else if w=4 then dT L cwd u
 else if w=5 then dr L cwd u v
 else if w=6 then dU L cwd u (((k.toNat % 9:Nat):Int) - 1)
 else cdR (bS L cwd u)
def pJ (L:PL) (cwd:Str) (w:Nat) (u:Str):Str:=if w=7 then cdN cwd (bS L cwd u).2 else cwd
theorem BC (x:Rds × Rs Str):(cdR x).1=x.1:=by obtain ⟨r,a⟩:=x;cases a<;>rfl
theorem ua (x:Rds × Rs Str):bT (cdR x).2=[]:=by obtain ⟨r,a⟩:=x;cases a<;>rfl
theorem Gt (x:Rds × Rs Str):aH (cdR x).2=aH x.2:=by obtain ⟨r,a⟩:=x;cases a<;>rfl
theorem BD (r:Rs Pts) (h:¬ aH r=0):bT r=[]:=by cases r with|err e=>rfl|go l=>exact absurd rfl h
theorem FN {L:PL} {cwd:Str} (h:StK L cwd) {um:Int} (hum:0≤um∧um≤7) (w:Nat) (u v:Str) (k:UInt8):OpB (cwd.length+2700) (iq L cwd um w u v k):=by
 unfold iq
 split;· exact (j6 h um (eo hum).1 _ _ _).b
 split;· exact (j7 h um (eo hum).2 _).b
 split;· exact (iI h _ _).b
 split;· exact (oZ h _).b
 split;· exact (nv h _).b
 split;· exact (o5 h _ _).b
 split;· exact (nw h _ _).b
 have:=(rT h.lk cwd u).opb (by decide)
 exact ⟨by rw [BC];exact this.rd,by rw [BC];exact this.rl,fun q hq=>(by rw [ua] at hq;cases hq),by rw [ua];exact Nat.zero_le _⟩
section
variable {st pp:Oid} {N:List Oid} {F F1 F2:Oid→ao} {L:PL} (hkl:KL L) {cwd:Str} (hcl:cwd.length≤1000000) (um:Int) (hpN:pp ∉ N) (b c k:UInt8) (raw:Str) (hraw:raw.length≤4000000) {p:Oid} (hp:p.mono=false) (hpp:¬ Oid.under p pp) (hON:bc p N)
include hkl hcl hpN hraw hp hpp hON
theorem FO (a:UInt8) (hA:RP st N L (iq L cwd um (a.toNat % 8) (cz b raw) (cz c raw) k).1 F F1) (hP:PP st N (bT (iq L cwd um (a.toNat % 8) (cz b raw) (cz c raw) k).2) F1 F2) :
  ah Tryz.prog 34 [.ptr pp 0,bu ⟨a,b,c,k,raw⟩] (Oid.under p) ⟨(pp,prC st cwd um)::bk (N,F),.int .i64 (aH (iq L cwd um (a.toNat % 8) (cz b raw) (cz c raw) k).2),(pp,some (prC st (pJ L cwd (a.toNat % 8) (cz b raw)) um))::sb N F2⟩:=by
 have hQ1:=fun p=>iL b raw p
 have hQ2:=fun p=>iL c raw p
 have hl1:=gy b hraw
 have hl2:=gy c hraw
 generalize cz b raw=u at hQ1 hl1 hA hP ⊢
 generalize cz c raw=v at hQ2 hl2 hA hP ⊢
 have hmod:((a.toNat:Int)).tmod 8=((a.toNat % 8:Nat):Int):=bF _ 8
 have hlt:a.toNat % 8 < 8:=Nat.mod_lt _ (by decide)
 generalize a.toNat % 8=w at hA hP hmod hlt ⊢
 have hk:=k.toNat_lt
 have hk9:k.toNat % 9 < 9:=Nat.mod_lt _ (by decide)
 have h9:((k.toNat:Int)).tmod 9=((k.toNat % 9:Nat):Int):=bF _ 9
 unfold prC
 refine aD (n:=69) (rs:=[.tmp 4]) Tryz.func34 rfl rfl (by decide) rfl rfl rfl ?_;rintro x rfl hrd hng
 rw [aC]
 (try ((first|refine zn ?_|refine ze ?_|refine zk ?_);with_reducible (constructor;repeat constructor));try refine zl ?_)
 refine aw nmd [] hng (by kernel_rfl) fun hf C S K hC1 hC hS hK=>?_;simp (disch:=first|omega|assumption) only [go_sem,bu,AV.cells,Oid.ab hpp,Oid.aa hpp,hpN,hON]
 refine hK ?_;clear hK hS hC hC1 K S C hf
 (try ((first|refine zn ?_|refine ze ?_|refine zk ?_);with_reducible (constructor;repeat constructor));try refine zl ?_)
 refine cK nmd [] [(4,6),(4,8)] mixed hng (by kernel_rfl) [0,3,5,6] fun hf C S K hC hS hK=>?_;simp (disch:=first|omega|assumption) only [go_sem,bu,AV.cells,Oid.ab hpp,Oid.aa hpp,hpN,hON]
 refine hC _ (hQ1 _) (fun _ h=>by cases h) ?_
 simp (disch:=first|omega|assumption) only [go_sem,bu,AV.cells,Oid.ab hpp,Oid.aa hpp,hpN,hON]
 refine hC _ (hQ2 _) (fun _ h=>by cases h) ?_
 simp (disch:=first|omega|assumption) only [go_sem,bu,AV.cells,Oid.ab hpp,Oid.aa hpp,hpN,hON]
 (first|refine hK (aM rfl) ?_|refine hK (by simp (disch:=first|omega|assumption) only [go_sem,List.reverse_cons,List.reverse_nil,ne_eq,not_false_eq_true,implies_true]) ?_);clear hK hS hC K S C hf
 (try ((first|refine zn ?_|refine ze ?_|refine zk ?_);with_reducible (constructor;repeat constructor));try refine zl ?_)
 refine aw nmd [] hng (by kernel_rfl) fun hf C S K hC1 hC hS hK=>?_;simp (disch:=first|omega|assumption) only [go_sem,bu,AV.cells,Oid.ab hpp,Oid.aa hpp,hpN,hON,hmod]
 refine hK ?_;clear hK hS hC hC1 K S C hf
 clear hmod
 have hw:w=0∨w=1∨w=2∨w=3∨w=4∨w=5∨w=6∨w=7:=by omega
 rcases hw with rfl|rfl|rfl|rfl|rfl|rfl|rfl|rfl
 ·have hX:iq L cwd um 0 u v k=dp L cwd um u [110,101,119] (decide (((k.toNat:Int)).tmod 2=0)):=rfl
  have hY:pJ L cwd 0 u=cwd:=rfl
  rw [hX] at hA hP ⊢
  rw [hY]
  have hC0:=fun p hp hpp hO=>lD (pp:=pp) (st:=st) (N:=N) (F:=F) (F1:=F1) (F2:=F2) hkl hcl um hpN (p:=p) hp hpp hO u (by omega) [110,101,119] (by simp) _ hA hP
  clear hX hY
  generalize aH (dp L cwd um u [110,101,119] (decide (((k.toNat:Int)).tmod 2=0))).2=E at hC0 ⊢
  unfold prC at hC0
  (repeat (first|(refine aA rfl rfl ?_)|(refine az rfl rfl ?_)|(refine aw nmd [] hng (by kernel_rfl) fun hf C S K hC1 hC hS hK=>?_;simp (disch:=first|omega|assumption) only [go_sem,bu,AV.cells,Oid.ab hpp,Oid.aa hpp,hpN,hON,eq_self,decide_true,decide_false,ne_eq,not_true_eq_false,not_false_eq_true];refine hK ?_;clear hK hS hC hC1 K S C hf)|((first|refine zn ?_|refine ze ?_|refine zk ?_);with_reducible (constructor;repeat constructor);try refine zl ?_)))
  refine aw nmd [] hng (by kernel_rfl) fun hf C S K hC1 hC hS hK=>?_;simp (disch:=first|omega|assumption) only [go_sem,bu,AV.cells,Oid.ab hpp,Oid.aa hpp,hpN,hON,h9]
  refine hC1 _ (hC0 _ (ar rfl hp) (fun h=>hpp (Oid.ae h)) (hON.sub _ _)) (by simp only [List.mem_cons,forall_eq_or_imp];exact ⟨by simp (disch:=first|omega|assumption) only [go_sem,Oid.ab hpp,Oid.aa hpp,hpN,hON],(by first|exact nbu _|exact nbA (by simp [hpN,hON.mem]) _)⟩) ?_
  simp (disch:=first|omega|assumption) only [go_sem,bu,AV.cells,Oid.ab hpp,Oid.aa hpp,hpN,hON,eq_self,decide_true,decide_false,ne_eq,not_true_eq_false,not_false_eq_true]
  refine hK ?_;clear hK hS hC hC1 K S C hf
  (repeat (first|(refine aA rfl rfl ?_)|(refine az rfl rfl ?_)|(refine aw nmd [] hng (by kernel_rfl) fun hf C S K hC1 hC hS hK=>?_;simp (disch:=first|omega|assumption) only [go_sem];refine hK ?_;clear hK hS hC hC1 K S C hf)|((first|refine zn ?_|refine ze ?_|refine zk ?_);with_reducible (constructor;repeat constructor);try refine zl ?_)))
  refine ay (cX (by simp (disch:=first|omega|assumption) only [go_sem,Oid.ab hpp,Oid.aa hpp,hpN,hON]) (by show _=some _;simp (disch:=first|omega|assumption) only [go_sem,Oid.ab hpp,Oid.aa hpp,hpN,hON]) (by first|exact nbu _|exact nbA (by simp [hpN,hON.mem]) _))
 ·have hX:iq L cwd um 1 u v k=dA L cwd um u:=rfl
  have hY:pJ L cwd 1 u=cwd:=rfl
  rw [hX] at hA hP ⊢
  rw [hY]
  have hC0:=fun p hp hpp hO=>lE (pp:=pp) (st:=st) (N:=N) (F:=F) (F1:=F1) (F2:=F2) hkl hcl um hpN (p:=p) hp hpp hO u (by omega) hA hP
  clear hX hY
  generalize aH (dA L cwd um u).2=E at hC0 ⊢
  unfold prC at hC0
  (repeat (first|(refine aA rfl rfl ?_)|(refine az rfl rfl ?_)|(refine aw nmd [] hng (by kernel_rfl) fun hf C S K hC1 hC hS hK=>?_;simp (disch:=first|omega|assumption) only [go_sem,bu,AV.cells,Oid.ab hpp,Oid.aa hpp,hpN,hON,eq_self,decide_true,decide_false,ne_eq,not_true_eq_false,not_false_eq_true];refine hK ?_;clear hK hS hC hC1 K S C hf)|((first|refine zn ?_|refine ze ?_|refine zk ?_);with_reducible (constructor;repeat constructor);try refine zl ?_)))
  refine aw nmd [] hng (by kernel_rfl) fun hf C S K hC1 hC hS hK=>?_;simp (disch:=first|omega|assumption) only [go_sem,bu,AV.cells,Oid.ab hpp,Oid.aa hpp,hpN,hON,h9]
  refine hC1 _ (hC0 _ (ar rfl hp) (fun h=>hpp (Oid.ae h)) (hON.sub _ _)) (by simp only [List.mem_cons,forall_eq_or_imp];exact ⟨by simp (disch:=first|omega|assumption) only [go_sem,Oid.ab hpp,Oid.aa hpp,hpN,hON],(by first|exact nbu _|exact nbA (by simp [hpN,hON.mem]) _)⟩) ?_
  simp (disch:=first|omega|assumption) only [go_sem,bu,AV.cells,Oid.ab hpp,Oid.aa hpp,hpN,hON,eq_self,decide_true,decide_false,ne_eq,not_true_eq_false,not_false_eq_true]
  refine hK ?_;clear hK hS hC hC1 K S C hf
  (repeat (first|(refine aA rfl rfl ?_)|(refine az rfl rfl ?_)|(refine aw nmd [] hng (by kernel_rfl) fun hf C S K hC1 hC hS hK=>?_;simp (disch:=first|omega|assumption) only [go_sem];refine hK ?_;clear hK hS hC hC1 K S C hf)|((first|refine zn ?_|refine ze ?_|refine zk ?_);with_reducible (constructor;repeat constructor);try refine zl ?_)))
  refine ay (cX (by simp (disch:=first|omega|assumption) only [go_sem,Oid.ab hpp,Oid.aa hpp,hpN,hON]) (by show _=some _;simp (disch:=first|omega|assumption) only [go_sem,Oid.ab hpp,Oid.aa hpp,hpN,hON]) (by first|exact nbu _|exact nbA (by simp [hpN,hON.mem]) _))
 ·have hX:iq L cwd um 2 u v k=bL L cwd v u:=rfl
  have hY:pJ L cwd 2 u=cwd:=rfl
  rw [hX] at hA hP ⊢
  rw [hY]
  have hC0:=fun p hp hpp hO=>j4 (pp:=pp) (st:=st) (N:=N) (F:=F) (F1:=F1) (F2:=F2) hkl hcl um hpN (p:=p) hp hpp hO u (by omega) v (by omega) hA hP
  clear hX hY
  generalize aH (bL L cwd v u).2=E at hC0 ⊢
  unfold prC at hC0
  (repeat (first|(refine aA rfl rfl ?_)|(refine az rfl rfl ?_)|(refine aw nmd [] hng (by kernel_rfl) fun hf C S K hC1 hC hS hK=>?_;simp (disch:=first|omega|assumption) only [go_sem,bu,AV.cells,Oid.ab hpp,Oid.aa hpp,hpN,hON,eq_self,decide_true,decide_false,ne_eq,not_true_eq_false,not_false_eq_true];refine hK ?_;clear hK hS hC hC1 K S C hf)|((first|refine zn ?_|refine ze ?_|refine zk ?_);with_reducible (constructor;repeat constructor);try refine zl ?_)))
  refine aw nmd [] hng (by kernel_rfl) fun hf C S K hC1 hC hS hK=>?_;simp (disch:=first|omega|assumption) only [go_sem,bu,AV.cells,Oid.ab hpp,Oid.aa hpp,hpN,hON,h9]
  refine hC1 _ (hC0 _ (ar rfl hp) (fun h=>hpp (Oid.ae h)) (hON.sub _ _)) (by simp only [List.mem_cons,forall_eq_or_imp];exact ⟨by simp (disch:=first|omega|assumption) only [go_sem,Oid.ab hpp,Oid.aa hpp,hpN,hON],(by first|exact nbu _|exact nbA (by simp [hpN,hON.mem]) _)⟩) ?_
  simp (disch:=first|omega|assumption) only [go_sem,bu,AV.cells,Oid.ab hpp,Oid.aa hpp,hpN,hON,eq_self,decide_true,decide_false,ne_eq,not_true_eq_false,not_false_eq_true]
  refine hK ?_;clear hK hS hC hC1 K S C hf
  (repeat (first|(refine aA rfl rfl ?_)|(refine az rfl rfl ?_)|(refine aw nmd [] hng (by kernel_rfl) fun hf C S K hC1 hC hS hK=>?_;simp (disch:=first|omega|assumption) only [go_sem];refine hK ?_;clear hK hS hC hC1 K S C hf)|((first|refine zn ?_|refine ze ?_|refine zk ?_);with_reducible (constructor;repeat constructor);try refine zl ?_)))
  refine ay (cX (by simp (disch:=first|omega|assumption) only [go_sem,Oid.ab hpp,Oid.aa hpp,hpN,hON]) (by show _=some _;simp (disch:=first|omega|assumption) only [go_sem,Oid.ab hpp,Oid.aa hpp,hpN,hON]) (by first|exact nbu _|exact nbA (by simp [hpN,hON.mem]) _))
 ·have hX:iq L cwd um 3 u v k=dq L cwd u:=rfl
  have hY:pJ L cwd 3 u=cwd:=rfl
  rw [hX] at hA hP ⊢
  rw [hY]
  have hC0:=fun p hp hpp hO=>tB (pp:=pp) (st:=st) (N:=N) (F:=F) (F1:=F1) (F2:=F2) hkl hcl um hpN (p:=p) hp hpp hO u (by omega) hA hP
  clear hX hY
  generalize aH (dq L cwd u).2=E at hC0 ⊢
  unfold prC at hC0
  (repeat (first|(refine aA rfl rfl ?_)|(refine az rfl rfl ?_)|(refine aw nmd [] hng (by kernel_rfl) fun hf C S K hC1 hC hS hK=>?_;simp (disch:=first|omega|assumption) only [go_sem,bu,AV.cells,Oid.ab hpp,Oid.aa hpp,hpN,hON,eq_self,decide_true,decide_false,ne_eq,not_true_eq_false,not_false_eq_true];refine hK ?_;clear hK hS hC hC1 K S C hf)|((first|refine zn ?_|refine ze ?_|refine zk ?_);with_reducible (constructor;repeat constructor);try refine zl ?_)))
  refine aw nmd [] hng (by kernel_rfl) fun hf C S K hC1 hC hS hK=>?_;simp (disch:=first|omega|assumption) only [go_sem,bu,AV.cells,Oid.ab hpp,Oid.aa hpp,hpN,hON,h9]
  refine hC1 _ (hC0 _ (ar rfl hp) (fun h=>hpp (Oid.ae h)) (hON.sub _ _)) (by simp only [List.mem_cons,forall_eq_or_imp];exact ⟨by simp (disch:=first|omega|assumption) only [go_sem,Oid.ab hpp,Oid.aa hpp,hpN,hON],(by first|exact nbu _|exact nbA (by simp [hpN,hON.mem]) _)⟩) ?_
  simp (disch:=first|omega|assumption) only [go_sem,bu,AV.cells,Oid.ab hpp,Oid.aa hpp,hpN,hON,eq_self,decide_true,decide_false,ne_eq,not_true_eq_false,not_false_eq_true]
  refine hK ?_;clear hK hS hC hC1 K S C hf
  (repeat (first|(refine aA rfl rfl ?_)|(refine az rfl rfl ?_)|(refine aw nmd [] hng (by kernel_rfl) fun hf C S K hC1 hC hS hK=>?_;simp (disch:=first|omega|assumption) only [go_sem];refine hK ?_;clear hK hS hC hC1 K S C hf)|((first|refine zn ?_|refine ze ?_|refine zk ?_);with_reducible (constructor;repeat constructor);try refine zl ?_)))
  refine ay (cX (by simp (disch:=first|omega|assumption) only [go_sem,Oid.ab hpp,Oid.aa hpp,hpN,hON]) (by show _=some _;simp (disch:=first|omega|assumption) only [go_sem,Oid.ab hpp,Oid.aa hpp,hpN,hON]) (by first|exact nbu _|exact nbA (by simp [hpN,hON.mem]) _))
 ·have hX:iq L cwd um 4 u v k=dT L cwd u:=rfl
  have hY:pJ L cwd 4 u=cwd:=rfl
  rw [hX] at hA hP ⊢
  rw [hY]
  have hC0:=fun p hp hpp hO=>rO (pp:=pp) (st:=st) (N:=N) (F:=F) (F1:=F1) (F2:=F2) hkl hcl um hpN (p:=p) hp hpp hO u (by omega) hA hP
  clear hX hY
  generalize aH (dT L cwd u).2=E at hC0 ⊢
  unfold prC at hC0
  (repeat (first|(refine aA rfl rfl ?_)|(refine az rfl rfl ?_)|(refine aw nmd [] hng (by kernel_rfl) fun hf C S K hC1 hC hS hK=>?_;simp (disch:=first|omega|assumption) only [go_sem,bu,AV.cells,Oid.ab hpp,Oid.aa hpp,hpN,hON,eq_self,decide_true,decide_false,ne_eq,not_true_eq_false,not_false_eq_true];refine hK ?_;clear hK hS hC hC1 K S C hf)|((first|refine zn ?_|refine ze ?_|refine zk ?_);with_reducible (constructor;repeat constructor);try refine zl ?_)))
  refine aw nmd [] hng (by kernel_rfl) fun hf C S K hC1 hC hS hK=>?_;simp (disch:=first|omega|assumption) only [go_sem,bu,AV.cells,Oid.ab hpp,Oid.aa hpp,hpN,hON,h9]
  refine hC1 _ (hC0 _ (ar rfl hp) (fun h=>hpp (Oid.ae h)) (hON.sub _ _)) (by simp only [List.mem_cons,forall_eq_or_imp];exact ⟨by simp (disch:=first|omega|assumption) only [go_sem,Oid.ab hpp,Oid.aa hpp,hpN,hON],(by first|exact nbu _|exact nbA (by simp [hpN,hON.mem]) _)⟩) ?_
  simp (disch:=first|omega|assumption) only [go_sem,bu,AV.cells,Oid.ab hpp,Oid.aa hpp,hpN,hON,eq_self,decide_true,decide_false,ne_eq,not_true_eq_false,not_false_eq_true]
  refine hK ?_;clear hK hS hC hC1 K S C hf
  (repeat (first|(refine aA rfl rfl ?_)|(refine az rfl rfl ?_)|(refine aw nmd [] hng (by kernel_rfl) fun hf C S K hC1 hC hS hK=>?_;simp (disch:=first|omega|assumption) only [go_sem];refine hK ?_;clear hK hS hC hC1 K S C hf)|((first|refine zn ?_|refine ze ?_|refine zk ?_);with_reducible (constructor;repeat constructor);try refine zl ?_)))
  refine ay (cX (by simp (disch:=first|omega|assumption) only [go_sem,Oid.ab hpp,Oid.aa hpp,hpN,hON]) (by show _=some _;simp (disch:=first|omega|assumption) only [go_sem,Oid.ab hpp,Oid.aa hpp,hpN,hON]) (by first|exact nbu _|exact nbA (by simp [hpN,hON.mem]) _))
 ·have hX:iq L cwd um 5 u v k=dr L cwd u v:=rfl
  have hY:pJ L cwd 5 u=cwd:=rfl
  rw [hX] at hA hP ⊢
  rw [hY]
  have hC0:=fun p hp hpp hO=>tC (pp:=pp) (st:=st) (N:=N) (F:=F) (F1:=F1) (F2:=F2) hkl hcl um hpN (p:=p) hp hpp hO u (by omega) v (by omega) hA hP
  clear hX hY
  generalize aH (dr L cwd u v).2=E at hC0 ⊢
  unfold prC at hC0
  (repeat (first|(refine aA rfl rfl ?_)|(refine az rfl rfl ?_)|(refine aw nmd [] hng (by kernel_rfl) fun hf C S K hC1 hC hS hK=>?_;simp (disch:=first|omega|assumption) only [go_sem,bu,AV.cells,Oid.ab hpp,Oid.aa hpp,hpN,hON,eq_self,decide_true,decide_false,ne_eq,not_true_eq_false,not_false_eq_true];refine hK ?_;clear hK hS hC hC1 K S C hf)|((first|refine zn ?_|refine ze ?_|refine zk ?_);with_reducible (constructor;repeat constructor);try refine zl ?_)))
  refine aw nmd [] hng (by kernel_rfl) fun hf C S K hC1 hC hS hK=>?_;simp (disch:=first|omega|assumption) only [go_sem,bu,AV.cells,Oid.ab hpp,Oid.aa hpp,hpN,hON,h9]
  refine hC1 _ (hC0 _ (ar rfl hp) (fun h=>hpp (Oid.ae h)) (hON.sub _ _)) (by simp only [List.mem_cons,forall_eq_or_imp];exact ⟨by simp (disch:=first|omega|assumption) only [go_sem,Oid.ab hpp,Oid.aa hpp,hpN,hON],(by first|exact nbu _|exact nbA (by simp [hpN,hON.mem]) _)⟩) ?_
  simp (disch:=first|omega|assumption) only [go_sem,bu,AV.cells,Oid.ab hpp,Oid.aa hpp,hpN,hON,eq_self,decide_true,decide_false,ne_eq,not_true_eq_false,not_false_eq_true]
  refine hK ?_;clear hK hS hC hC1 K S C hf
  (repeat (first|(refine aA rfl rfl ?_)|(refine az rfl rfl ?_)|(refine aw nmd [] hng (by kernel_rfl) fun hf C S K hC1 hC hS hK=>?_;simp (disch:=first|omega|assumption) only [go_sem];refine hK ?_;clear hK hS hC hC1 K S C hf)|((first|refine zn ?_|refine ze ?_|refine zk ?_);with_reducible (constructor;repeat constructor);try refine zl ?_)))
  refine ay (cX (by simp (disch:=first|omega|assumption) only [go_sem,Oid.ab hpp,Oid.aa hpp,hpN,hON]) (by show _=some _;simp (disch:=first|omega|assumption) only [go_sem,Oid.ab hpp,Oid.aa hpp,hpN,hON]) (by first|exact nbu _|exact nbA (by simp [hpN,hON.mem]) _))
 ·have hX:iq L cwd um 6 u v k=dU L cwd u (((k.toNat % 9:Nat):Int) - 1):=rfl
  have hY:pJ L cwd 6 u=cwd:=rfl
  rw [hX] at hA hP ⊢
  rw [hY]
  have hC0:=fun p hp hpp hO=>rN (pp:=pp) (st:=st) (N:=N) (F:=F) (F1:=F1) (F2:=F2) hkl hcl um hpN (p:=p) hp hpp hO u (by omega) (((k.toNat % 9:Nat):Int) - 1) hA hP
  clear hX hY
  generalize aH (dU L cwd u (((k.toNat % 9:Nat):Int) - 1)).2=E at hC0 ⊢
  unfold prC at hC0
  (repeat (first|(refine aA rfl rfl ?_)|(refine az rfl rfl ?_)|(refine aw nmd [] hng (by kernel_rfl) fun hf C S K hC1 hC hS hK=>?_;simp (disch:=first|omega|assumption) only [go_sem,bu,AV.cells,Oid.ab hpp,Oid.aa hpp,hpN,hON,eq_self,decide_true,decide_false,ne_eq,not_true_eq_false,not_false_eq_true];refine hK ?_;clear hK hS hC hC1 K S C hf)|((first|refine zn ?_|refine ze ?_|refine zk ?_);with_reducible (constructor;repeat constructor);try refine zl ?_)))
  refine aw nmd [] hng (by kernel_rfl) fun hf C S K hC1 hC hS hK=>?_;simp (disch:=first|omega|assumption) only [go_sem,bu,AV.cells,Oid.ab hpp,Oid.aa hpp,hpN,hON,h9]
  refine hC1 _ (hC0 _ (ar rfl hp) (fun h=>hpp (Oid.ae h)) (hON.sub _ _)) (by simp only [List.mem_cons,forall_eq_or_imp];exact ⟨by simp (disch:=first|omega|assumption) only [go_sem,Oid.ab hpp,Oid.aa hpp,hpN,hON],(by first|exact nbu _|exact nbA (by simp [hpN,hON.mem]) _)⟩) ?_
  simp (disch:=first|omega|assumption) only [go_sem,bu,AV.cells,Oid.ab hpp,Oid.aa hpp,hpN,hON,eq_self,decide_true,decide_false,ne_eq,not_true_eq_false,not_false_eq_true]
  refine hK ?_;clear hK hS hC hC1 K S C hf
  (repeat (first|(refine aA rfl rfl ?_)|(refine az rfl rfl ?_)|(refine aw nmd [] hng (by kernel_rfl) fun hf C S K hC1 hC hS hK=>?_;simp (disch:=first|omega|assumption) only [go_sem];refine hK ?_;clear hK hS hC hC1 K S C hf)|((first|refine zn ?_|refine ze ?_|refine zk ?_);with_reducible (constructor;repeat constructor);try refine zl ?_)))
  refine ay (cX (by simp (disch:=first|omega|assumption) only [go_sem,Oid.ab hpp,Oid.aa hpp,hpN,hON]) (by show _=some _;simp (disch:=first|omega|assumption) only [go_sem,Oid.ab hpp,Oid.aa hpp,hpN,hON]) (by first|exact nbu _|exact nbA (by simp [hpN,hON.mem]) _))
 ·have hX:iq L cwd um 7 u v k=cdR (bS L cwd u):=rfl
  have hY:pJ L cwd 7 u=cdN cwd (bS L cwd u).2:=rfl
  rw [hX] at hA hP ⊢
  rw [hY]
  rw [BC] at hA
  rw [ua] at hP
  rw [Gt]
  obtain rfl:F1=F2:=hP
  have hC0:=fun p hp hpp hO=>wv (pp:=pp) (st:=st) (N:=N) (F:=F) (F1:=F1) hkl hcl um hpN (p:=p) hp hpp hO u (by omega) hA
  clear hX hY
  generalize aH (bS L cwd u).2=E at hC0 ⊢
  generalize cdN cwd (bS L cwd u).2=C at hC0 ⊢
  unfold prC at hC0
  (repeat (first|(refine aA rfl rfl ?_)|(refine az rfl rfl ?_)|(refine aw nmd [] hng (by kernel_rfl) fun hf C S K hC1 hC hS hK=>?_;simp (disch:=first|omega|assumption) only [go_sem,bu,AV.cells,Oid.ab hpp,Oid.aa hpp,hpN,hON,eq_self,decide_true,decide_false,ne_eq,not_true_eq_false,not_false_eq_true];refine hK ?_;clear hK hS hC hC1 K S C hf)|((first|refine zn ?_|refine ze ?_|refine zk ?_);with_reducible (constructor;repeat constructor);try refine zl ?_)))
  refine aw nmd [] hng (by kernel_rfl) fun hf C S K hC1 hC hS hK=>?_;simp (disch:=first|omega|assumption) only [go_sem,bu,AV.cells,Oid.ab hpp,Oid.aa hpp,hpN,hON,h9]
  refine hC1 _ (hC0 _ (ar rfl hp) (fun h=>hpp (Oid.ae h)) (hON.sub _ _)) (by simp only [List.mem_cons,forall_eq_or_imp];exact ⟨by simp (disch:=first|omega|assumption) only [go_sem,Oid.ab hpp,Oid.aa hpp,hpN,hON],(by first|exact nbu _|exact nbA (by simp [hpN,hON.mem]) _)⟩) ?_
  simp (disch:=first|omega|assumption) only [go_sem,bu,AV.cells,Oid.ab hpp,Oid.aa hpp,hpN,hON,eq_self,decide_true,decide_false,ne_eq,not_true_eq_false,not_false_eq_true]
  refine hK ?_;clear hK hS hC hC1 K S C hf
  (repeat (first|(refine aA rfl rfl ?_)|(refine az rfl rfl ?_)|(refine aw nmd [] hng (by kernel_rfl) fun hf C S K hC1 hC hS hK=>?_;simp (disch:=first|omega|assumption) only [go_sem];refine hK ?_;clear hK hS hC hC1 K S C hf)|((first|refine zn ?_|refine ze ?_|refine zk ?_);with_reducible (constructor;repeat constructor);try refine zl ?_)))
  refine ay (cX (by simp (disch:=first|omega|assumption) only [go_sem,Oid.ab hpp,Oid.aa hpp,hpN,hON]) (by show _=some _;simp (disch:=first|omega|assumption) only [go_sem,Oid.ab hpp,Oid.aa hpp,hpN,hON]) (by first|exact nbu _|exact nbA (by simp [hpN,hON.mem]) _))
end
end Go.Proofs.YtmoaidkglldhcaaGreatDoor
namespace Go.Proofs.YtmoaidkglldhcaaGreatDoor
open Go Go.Ab
set_option maxRecDepth 20000
set_option maxHeartbeats 4000000
def Gu (p:Oid) (v:AV) (u:List (Oid × Option ao)):Prop :=
 ∃ (y st pp r qq:Oid) (s:St) (cwd:Str) (n:Nat) (N M:List Oid) (H:Oid→ao),cj y st pp r qq s cwd 0 n N M H∧n≤16∧(∀ i ∈ KB y pp qq N M,Oid.under p i)∧v = .tuple [.ptr st 0,.ptr pp 0]∧u=sb (KB y pp qq N M) H
theorem wJ (l:List ActK) (hl:l.length≤140737488355328) (hra:o7 l=true) (p:Oid) (hp:p.mono=false):bV Tryz.prog 23 [.list 5 (l.map bu)] (Oid.under p) [] (Gu p) (fun _ _=>False):=by
 refine gI (n:=33) (rs:=[.tmp 2,.tmp 3]) Tryz.func23 rfl rfl (by decide) rfl rfl rfl ?_;rintro x rfl hrd hng
 refine qw0 ?_
 obtain ⟨y,st,pp,r,qq,N,M,H,hPK,hun,hB⟩:=gM 0 (.sub 1 0 x.p) (ar rfl hp)
 have hO:=jb hun
 have hun':∀ i ∈ KB y pp qq N M,Oid.under x.p i:=fun i hi=>Oid.ae (hun i hi)
 clear hun
 rw [show c8 0 7=0 from rfl] at hPK
 refine qr1 hB ?_
 clear hB
 refine qw0 ?_
 refine dy (Mem.blk [] [(KB y pp qq N M,H)]) (fun i o h=>by rw [← Mem.aJ];exact jc _ _ _ i o h) ?_
 refine bq [0,4,5] (fun k s'=>∃ (i c:Nat) (s:St) (cwd:Str) (H:Oid→ao),s' = ⟨[(0,.list 5 (l.map bu)),(4,.ptr y 0),(5,.int .i64 i)],Mem.blk [] [(KB y pp qq N M,H)],c,[]⟩∧k=l.length - i∧i≤l.length∧i≤16∧2≤c∧cj y st pp r qq s cwd 0 i N M H∧gK x.p c (KB y pp qq N M)) _ ⟨0,_,_,_,_,rfl,rfl,Nat.zero_le _,by omega,by omega,hPK,hO.mono (by omega)⟩ ?_
 clear hPK hO H
 rintro k s' ⟨i,c,s,cwd,H,rfl,rfl,hi,hi2,hc,hPK,hO⟩
 (try ((first|refine zn ?_|refine ze ?_|refine zk ?_);with_reducible (constructor;repeat constructor));try refine zl ?_)
 refine cu [0,4,5,16] (fun s'=>∃ c':Nat,s' = ⟨[(0,.list 5 (l.map bu)),(4,.ptr y 0),(5,.int .i64 i),(16,.bool (decide (i < l.length∧i < 16)))],Mem.blk [] [(KB y pp qq N M,H)],c',[]⟩∧c≤c') ?_ ?_
 ·refine aw nmd [(4,13)] hng (by kernel_rfl) fun hf C S K hC1 hC hS hK=>?_;simp (disch:=first|omega|assumption) only [go_sem,List.length_map]
  (repeat' (first|(refine cB (fun hv=>?_) (fun hv=>?_)<;>(try simp only [zb1,zb2,zb3,zb4,zb5] at hv)<;>simp (disch:=first|omega|assumption) only [go_sem,hv,List.length_map])|(refine hK ?_;clear hK hS hC hC1 K S C hf)))
  ·rw [show decide (i < l.length∧i < 16)=decide ((i:Int) < 16) from decide_eq_decide.2 (by omega)]
   exact aO ⟨_,rfl,by omega⟩
  ·rw [show decide (i < l.length∧i < 16)=false from decide_eq_false (by omega)]
   exact aO ⟨_,rfl,by omega⟩
 rintro s' ⟨c',rfl,hc'⟩
 refine aS rfl rfl (fun hb=>?_) (fun hb=>?_)
 ·have hlt:i < l.length:=hb.1
  have hrl:=tZ hra hlt
  generalize hg:l.getD i default=g at hrl
  obtain ⟨a,b,b2,k,raw⟩:=g
  simp only at hrl
  have hD:=j8 hPK (by omega) b b2 k raw (by omega) (p:=.sub c' 5 x.p) (ar rfl hp) (hO.sub (by omega) 5) a
  unfold tY at hD
  simp only [bu] at hD
  (try ((first|refine zn ?_|refine ze ?_|refine zk ?_);with_reducible (constructor;repeat constructor));try refine zl ?_)
  refine aw nmd [] hng (by kernel_rfl) fun hf C S K hC1 hC hS hK=>?_;simp (disch:=first|omega|assumption) only [go_sem,hg,bu,AV.cells,List.length_map]
  refine hC _ _ _ hD (by show ∀ q,q ∈ bk _→_;rw [lZ];trivial) ?_ (fun _ _ h=>h.elim)
  rintro _ _ ⟨rfl,s',cwd',H',hPK',rfl⟩
  simp (disch:=first|omega|assumption) only [go_sem,decide_true,decide_false,ne_eq,not_true_eq_false,not_false_eq_true]
  refine hK ?_;clear hK hS hC hC1 K S C hf
  refine qw0 ?_
  exact ⟨_,_,by omega,fun i o h=>h,i+1,_,_,_,_,rfl,rfl,by omega,by omega,by omega,hPK',hO.mono (by omega)⟩
 ·have hyN:=hPK.ap.yN;have hyM:=hPK.ap.yM;have hpN:=hPK.ap.pN;have hpM:=hPK.ap.pM;have hqN:=hPK.ap.qN;have hqM:=hPK.ap.qM;have hdj:=hPK.ap.dj;have hcy:=hPK.cy;have hcp:=hPK.cp;have hcq:=hPK.cq
  rw [dt,hcy,hcp,hcq]
  refine qd (.d [] [] [2,3]) trivial trivial ?_
  refine qw0 ?_
  refine ay (bB (.tuple [.ptr st 0,.ptr pp 0]) (sb (KB y pp qq N M) H) qs0 ⟨y,st,pp,r,qq,s,cwd,i,N,M,H,hPK,hi2,hun',rfl,rfl⟩ fun j o h=>?_)
  rw [← hcy,← hcp,← hcq,← dt]
  rw [cU] at h
  split at h
  ·rw [aW,if_pos ‹_›];exact h
  ·cases h
theorem BE {y pp qq:Oid} {N M:List Oid} {H:Oid→ao} {b:Oid} {ob op:ao} (hb:b ∉ KB y pp qq N M) (hp:H pp=op) (i:Oid) (o:ao) (h:Mem.blk [(b,ob),(pp,op)] [(N,H)] i=some o):((Mem.of [(b,ob)]).aL (sb (KB y pp qq N M) H)) i=some o:=by
 rw [cU]
 rw [Mem.cm] at h
 split at h
 ·rename_i e
  simp only at e
  rw [if_neg (by rw [e];exact hb),Mem.af,if_pos e];exact h
 rw [Mem.cm] at h
 split at h
 ·rename_i e
  simp only at e
  rw [if_pos (by rw [e];simp),e,hp];exact h
 rw [aW] at h
 split at h
 ·rename_i e
  rw [if_pos (by simp [e])];exact h
 ·cases h
theorem FP {L:PL} {cwd:Str} (h:StK L cwd) {um:Int} (hum:0≤um∧um≤7) (w:Nat) (u v:Str) (k:UInt8):OpK L cwd (iq L cwd um w u v k):=by
 have hb:=FN h hum w u v k
 unfold iq at hb ⊢
 split;· exact j6 h um (eo hum).1 _ _ _
 split;· exact j7 h um (eo hum).2 _
 split;· exact iI h _ _
 split;· exact oZ h _
 split;· exact nv h _
 split;· exact o5 h _ _
 split;· exact nw h _ _
 rename_i h0 h1 h2 h3 h4 h5 h6
 rw [if_neg h0,if_neg h1,if_neg h2,if_neg h3,if_neg h4,if_neg h5,if_neg h6] at hb
 exact ⟨hb,by rw [ua];exact h.we,by rw [ua];exact h.cd⟩
theorem rW (s:St) (x:Rds × Rs Pts) (h:bT x.2=[]):((s.begin.rds x.1).pts (bT x.2)).writes=[]:=by
 rw [h]
 show (s.begin.rds x.1).writes=[]
 unfold St.begin
 rw [Bl];rfl
theorem refuses_ok (l:List ActK) (hl:l.length≤140737488355328) (a:ActK) (p:Oid) (hp:p.mono=false):ah Tryz.prog 8 [.list 5 (l.map bu),bu a] (Oid.under p) ⟨[],.bool true,[]⟩:=by
 obtain ⟨a,b,b2,k,raw⟩:=a
 refine aD (n:=55) (rs:=[.tmp 4]) Tryz.func8 rfl rfl (by decide) rfl rfl rfl ?_;rintro x rfl hrd hng
 have hrw:=fun p=>vw l hl p
 refine qr0 ?_
 (repeat (first|(refine aA rfl rfl ?_)|(refine az rfl rfl ?_)|(refine aw nmd [] hng (by kernel_rfl) fun hf C S K hC1 hC hS hK=>?_;simp (disch:=first|omega|assumption) only [go_sem];(repeat ((first|refine hC1 _ (eM _ (ar rfl hp)) (by simp (disch:=first|omega|assumption) only [go_sem]) ?_);simp (disch:=first|omega|assumption) only [go_sem]));refine hK ?_;clear hK hS hC hC1 K S C hf)|((first|refine zn ?_|refine ze ?_|refine zk ?_);with_reducible (constructor;repeat constructor);try refine zl ?_)))
 by_cases hra:o7 l=true
 case neg =>
  rw [Bool.not_eq_true] at hra
  rw [hra] at hrw
  refine qr (.d [] [(3,17)] []) trivial (cq (hrw _) trivial) ?_
  refine qw0 ?_
  exact ay (bj rfl)
 rw [hra] at hrw
 by_cases hpl:300 < raw.length
 ·have e1:(300:Int) < (raw.length:Int):=by omega
  refine qr (.d [] [(3,17)] []) e1 (cq (hrw _) trivial) ?_
  refine qw0 ?_
  exact ay (bj rfl)
 have e1:¬ (300:Int) < (raw.length:Int):=by omega
 refine qr (.d [] [(3,17)] []) e1 (cq (hrw _) trivial) ?_
 refine qw0 ?_
 refine aw nmd [] hng (by kernel_rfl) fun hf C S K hC1 hC hS hK=>?_;simp (disch:=first|omega|assumption) only [go_sem]
 refine hC _ _ _ (wJ l hl hra _ (ar rfl hp)) (fun _ h=>by cases h) ?_ (fun _ _ h=>h.elim)
 rintro _ _ ⟨y,st,pp,r,qq,s,cwd,n,N,M,H,hPK,hn,hun,rfl,rfl⟩
 have hb0:Oid.sub 0 0 x.p ∉ KB y pp qq N M:=fun hm=>by
  have:=(Oid.apart (hun _ hm) (Oid.aq _)).1;omega
 have hO:=jb hun
 clear hun
 simp (disch:=first|omega|assumption) only [go_sem]
 refine hK ?_;clear hK hS hC hC1 K S C hf
 (try ((first|refine zn ?_|refine ze ?_|refine zk ?_);with_reducible (constructor;repeat constructor));try refine zl ?_)
 refine dy (Mem.blk [(Oid.sub 0 0 x.p,.cells [.int .u8 a.toNat,.int .u8 b.toNat,.int .u8 b2.toNat,.int .u8 k.toNat,.str raw]),(pp,prC st cwd 0)] [(N,H)]) (fun i o h=>by rw [← Mem.aJ];exact BE hb0 hPK.cp i o h) ?_
 obtain ⟨N',F',sp',hN',hA⟩:=qF hPK.sp (.sub 6 1 x.p) (fun j hj=>hO.sub (by omega) 1 j (by simp [hj]))
 have hum:=hPK.um
 have ks':=hPK.ks.begin
 have hpN:=hPK.ap.pN
 have hpp:∀ c i,5≤c→¬ Oid.under (.sub c i x.p) pp:=fun c i h=>hO.sub (by omega) i pp (by simp)
 have hpN':pp ∉ N':=fun hi=>(hN' pp hi).elim hpN (hpp 6 1 (by omega))
 have hON':gK x.p 7 N':=fun j hj hyo=>by
  rcases hN' j hj with hi|hi
  ·exact hO j (by simp [hi]) (hyo.mono (by omega))
  ·obtain ⟨c1,i1,hc1,hu⟩:=hyo
   have:=(Oid.apart hi hu).1;omega
 have hbN:Oid.sub 0 0 x.p ∉ N:=fun h=>hb0 (by simp [h])
 have hbp:¬ Oid.sub 0 0 x.p=pp:=fun e=>hb0 (by simp [e])
 have hbp':¬ pp=Oid.sub 0 0 x.p:=fun e=>hbp e.symm
 have hbN':Oid.sub 0 0 x.p ∉ N':=fun h=>(hN' _ h).elim hbN fun hu=>by
  have:=(Oid.apart hu (Oid.aq _)).1;omega
 have hkl:=ks'.kl
 have hcl:cwd.length≤1000000:=by have:=ks'.cl;omega
 have ok:=FP ks'.st hum (a.toNat % 8) (cz b raw) (cz b2 raw) k
 obtain ⟨F1,F2,sp2,r1,r2⟩:=lH sp' ks' (by omega) ok.b
 have ks2:=ks'.op (by omega) ok
 have hact:=fun p hp hpp hON=>FO (st:=st) (pp:=pp) (N:=N') hkl hcl 0 hpN' b b2 k raw (by omega) (p:=p) hp hpp hON a r1 r2
 obtain ⟨N2,F3,sp3,hN2,hE⟩:=wF sp2 ks2.ok (fun q hq=>by have:=ks2.tr q hq;omega)
 have hwr:=rW s (iq s.begin.L cwd 0 (a.toNat % 8) (cz b raw) (cz b2 raw) k)
 have hep:=BD (iq s.begin.L cwd 0 (a.toNat % 8) (cz b raw) (cz b2 raw) k).2
 generalize pJ s.begin.L cwd (a.toNat % 8) (cz b raw)=cw at hact
 generalize ((s.begin.rds (iq s.begin.L cwd 0 (a.toNat % 8) (cz b raw) (cz b2 raw) k).1).pts (bT (iq s.begin.L cwd 0 (a.toNat % 8) (cz b raw) (cz b2 raw) k).2))=s2 at hE hwr
 generalize s2.reads=R1 at hE
 generalize s2.writes=W1 at hE hwr
 generalize bT (iq s.begin.L cwd 0 (a.toNat % 8) (cz b raw) (cz b2 raw) k).2=PTS at hwr hep
 generalize aH (iq s.begin.L cwd 0 (a.toNat % 8) (cz b raw) (cz b2 raw) k).2=E at hact hep
 clear sp' ks' ok sp2 r1 r2 ks2 sp3 hkl
 simp only [bu,prC] at hact ⊢
 refine qr (.d [] [(2,31)] []) trivial trivial ?_
 refine qw0 ?_
 refine aw nmd [] hng (by kernel_rfl) fun hf C S K hC1 hC hS hK=>?_;simp (disch:=first|omega|assumption) only [go_sem]
 refine hC1 _ hA (by exact nbA (by simp [hpN,hbN]) _) ?_
 simp (disch:=first|omega|assumption) only [go_sem]
 refine hK ?_;clear hK hS hC hC1 K S C hf
 (try ((first|refine zn ?_|refine ze ?_|refine zk ?_);with_reducible (constructor;repeat constructor));try refine zl ?_)
 refine oK (P:=Tryz.prog) (A:=[(Oid.sub 0 0 x.p,_),(pp,_)]) (Bs:=[]) (fun e he=>by
  simp only [List.mem_cons,List.not_mem_nil,or_false] at he
  rcases he with rfl|rfl<;>assumption) (fun B hB=>by cases hB) ?_
 refine aw nmd [] hng (by kernel_rfl) fun hf C S K hC1 hC hS hK=>?_;simp (disch:=first|omega|assumption) only [go_sem,hbp,hbp',hpN',hbN']
 refine hC1 _ (hact _ (ar rfl hp) (hpp _ _ (by omega)) (hON'.sub (by omega) _)) (by simp only [List.mem_cons,forall_eq_or_imp];exact ⟨by simp (disch:=first|omega|assumption) only [go_sem,hbp,hbp',hpN',hbN'],(by first|exact nbu _|exact nbA (by simp [hpN',hbN']) _)⟩) ?_
 simp (disch:=first|omega|assumption) only [go_sem,hbp,hbp',hpN',hbN']
 refine hK ?_;clear hK hS hC hC1 K S C hf
 (try ((first|refine zn ?_|refine ze ?_|refine zk ?_);with_reducible (constructor;repeat constructor));try refine zl ?_)
 refine aw nmd [] hng (by kernel_rfl) fun hf C S K hC1 hC hS hK=>?_;simp (disch:=first|omega|assumption) only [go_sem,hbp,hbp',hpN',hbN']
 refine hC1 _ (hE _ (ar rfl hp) (hON'.sub (by omega) _)) (by first|exact nbu _|exact nbA (by simp [hpN',hbN']) _) ?_
 simp (disch:=first|omega|assumption) only [go_sem]
 refine hK ?_;clear hK hS hC hC1 K S C hf
 (try ((first|refine zn ?_|refine ze ?_|refine zk ?_);with_reducible (constructor;repeat constructor));try refine zl ?_)
 by_cases hz:E=0
 ·refine qr (.d [] [(1,46),(4,49)] []) hz trivial ?_
  refine qw0 ?_
  exact ay (bj rfl)
 ·have hW:W1=[]:=hwr (hep hz)
  subst hW
  refine aw nmd [(1,46),(4,49)] hng (by kernel_rfl) fun hf C S K hC1 hC hS hK=>?_;simp (disch:=first|omega|assumption) only [go_sem,hz,eq_self,List.map_nil,List.length_nil,decide_true,decide_false,ne_eq,not_true_eq_false,not_false_eq_true]
  refine hK ?_;clear hK hS hC hC1 K S C hf
  refine qw0 ?_
  exact ay (bj rfl)
end Go.Proofs.YtmoaidkglldhcaaGreatDoor
namespace Go.Proofs.YtmoaidkglldhcaaGreatDoor
open Go Go.Ab
set_option maxRecDepth 20000
set_option maxHeartbeats 4000000
theorem BF (w:List Str) (k:Nat) (hk:k < w.length):mkP (w.take (k+1))=mkP (w.take k)++(47::w.getD k []):=by
 rw [List.take_add_one,List.getElem?_eq_getElem hk,List.getD_eq_getElem?_getD,List.getElem?_eq_getElem hk]
 exact fD _ _
theorem DF (w:List Str):∀ k,(mkP (w.take k)).length≤(mkP w).length:=fun k=>by
 have:mkP w=mkP (w.take k)++mkP (w.drop k):=by
  have key:∀ a b:List Str,mkP (a++b)=mkP a++mkP b:=fun a b=>by
   induction a with
   | nil=>rfl
   | cons x a ih=>simp [mkP,ih]
  rw [← key,List.take_append_drop]
 rw [this,List.length_append];omega
theorem DG (r:Oid) (L:PL) (hs:SOK ⟨L,none⟩) (hw:cx L) (hk:∀ q ∈ L,q.1.length≤1000000) (OO:AV) (p:Oid) (hp:p.mono=false) (hr:¬ Oid.under p r) :
  ah Tryz.prog 28 [.ptr r 0] (Oid.under p) ⟨[(r,.cells [.list 4 (L.map aB),OO,.list 3 [],.list 1 [],.bool false])],.bool true,[(r,none)]⟩:=by
 have hat:∀ (OO:AV) (n:Str),n.length≤1000000→∃ O2:AV,∀ p:Oid,p.mono=false→¬ Oid.under p r→ah Tryz.prog 61 [.ptr r 0,.str n] (Oid.under p) ⟨[(r,.cells [.list 4 (L.map aB),OO,.list 3 [],.list 1 [],.bool false])],(aF L n).av,[(r,some (.cells [.list 4 (L.map aB),O2,.list 3 [],.list 1 [],.bool false]))]⟩:=by
  intro OO n hn
  obtain ⟨F',⟨_,O2,h3⟩,h2⟩:=u7 (r:=r) (s:=⟨L,none⟩) (N:=[r]) (F:=fun _=>.cells [.list 4 (L.map aB),OO,.list 3 [],.list 1 [],.bool false]) ⟨rfl,OO,rfl⟩ hs (fun q hq=>by cases hq) n (by omega)
  refine ⟨O2,fun p hp hr=>?_⟩
  have:=h2 p hp (fun i hi=>by rw [List.mem_singleton.1 hi];exact hr)
  simp only [sb,List.map_cons,List.map_nil,h3] at this
  exact this
 have hpa:=fun OO p hr=>qp r L hs.po.len OO (.list 3 []) (.list 1 []) false p hr
 have hr':∀ c i,¬ Oid.under (.sub c i p) r:=fun c i h=>hr (Oid.ae h)
 have hLl:=hs.po.len
 simp only at hLl
 refine aD (n:=75) (rs:=[.tmp 2]) Tryz.func28 rfl rfl (by decide) rfl rfl rfl ?_;rintro x rfl hrd hng
 refine qw0 ?_
 refine qr .o (uu hr) (cq (hpa OO _ (hr' _ _)) trivial) ?_
 refine qw0 ?_
 refine bq [0,3,4] (fun k s'=>∃ (i c:Nat) (OO:AV),s' = ⟨[(0,.ptr r 0),(3,.list 1 (L.map fun q=>.str q.1)),(4,.int .i64 i)],Mem.of [(r,.cells [.list 4 (L.map aB),OO,.list 3 [],.list 1 [],.bool false])],c,[]⟩∧k=L.length - i∧i≤L.length) _ ⟨0,_,OO,rfl,rfl,Nat.zero_le _⟩ ?_
 rintro k s' ⟨i,c,OO,rfl,rfl,hi⟩
 (repeat (first|(refine aA rfl rfl ?_)|(refine az rfl rfl ?_)|(refine aw nmd [] hng (by kernel_rfl) fun hf C S K hC1 hC hS hK=>?_;simp (disch:=first|omega|assumption) only [go_sem,List.length_map];refine hK ?_;clear hK hS hC hC1 K S C hf)|((first|refine zn ?_|refine ze ?_|refine zk ?_);with_reducible (constructor;repeat constructor);try refine zl ?_)))
 refine aS rfl rfl (fun hb=>?_) (fun hb=>?_)
 case refine_2 =>
  refine qw0 ?_
  refine ay (a6 qs0 ?_ ?_)
  all_goals simp [Mem.af]
 have hlt:i < L.length:=by omega
 have hgm:L.getD i default ∈ L:=by rw [List.getD_eq_getElem?_getD,List.getElem?_eq_getElem hlt];exact List.getElem_mem hlt
 generalize hg:L.getD i default=g at hgm
 have hup:=hw.up hgm
 have hgl:=hk g hgm
 obtain ⟨l,n,h1,h2,h3,h4⟩:=hw g hgm
 obtain ⟨path,gb⟩:=g
 simp only at h3 hgl hup
 have hpw:aV path=l++[n]:=by
  rw [h3];exact vp _ fun x hx=>(List.mem_append.1 hx).elim (h1 x) fun h=>by rw [List.mem_singleton.1 h];exact h2
 have hwa:∀ x ∈ l++[n],tL x:=fun x hx=>(List.mem_append.1 hx).elim (h1 x) fun h=>by rw [List.mem_singleton.1 h];exact h2
 have hpc:=fun p=>kL path (by omega) p
 rw [hpw] at hpc
 generalize l++[n]=w at hpc h3 hwa
 clear h1 h2 h4 hpw
 have hwl:w.length≤path.length:=by
  rw [h3]
  have key:∀ w:List Str,w.length≤(mkP w).length:=fun w=>by
   induction w with
   | nil=>exact Nat.zero_le _
   | cons x w ih=>simp only [mkP,List.length_cons,List.length_append];omega
  exact key w
 have hpl:=fun k=>DF w k
 rw [← h3] at hpl
 (try ((first|refine zn ?_|refine ze ?_|refine zk ?_);with_reducible (constructor;repeat constructor));try refine zl ?_)
 refine aw nmd [] hng (by kernel_rfl) fun hf C S K hC1 hC hS hK=>?_;simp (disch:=first|omega|assumption) only [go_sem,Oid.ab hr,Oid.aa hr,hg]
 refine hC _ _ _ (hpc _) (fun _ h=>by cases h) ?_ (fun _ _ h=>h.elim)
 rintro _ _ ⟨id,hid,rfl,rfl⟩
 have i1:¬ id=r:=fun e=>hr (Oid.ae (e ▸ hid))
 have i2:¬ r=id:=fun e=>i1 e.symm
 simp (disch:=first|omega|assumption) only [go_sem,Oid.ab hr,Oid.aa hr,i1,i2]
 refine hK ?_;clear hK hS hC hC1 K S C hf
 (try ((first|refine zn ?_|refine ze ?_|refine zk ?_);with_reducible (constructor;repeat constructor));try refine zl ?_)
 refine fJ id 1 (w.map AV.str) (qs (ai (uu hr) (ai i1 i2))) ?_
 simp (disch:=first|omega|assumption) only [go_sem,Oid.ab hr,Oid.aa hr,i1,i2,List.length_map]
 clear i1 i2 hid
 refine qw0 ?_
 refine bq [0,3,4,5,7,8] (fun k' s'=>∃ (j c:Nat),s' = ⟨[(0,.ptr r 0),(3,.list 1 (L.map fun q=>.str q.1)),(4,.int .i64 i),(5,.list 1 (w.map AV.str)),(7,.str (mkP (w.take j))),(8,.int .i64 j)],Mem.of [(r,.cells [.list 4 (L.map aB),OO,.list 3 [],.list 1 [],.bool false])],c,[]⟩∧k' = w.length - j∧j≤w.length) _ ⟨0,_,rfl,rfl,Nat.zero_le _⟩ ?_
 rintro k' s' ⟨j,c',rfl,rfl,hj⟩
 (repeat (first|(refine aA rfl rfl ?_)|(refine az rfl rfl ?_)|(refine aw nmd [] hng (by kernel_rfl) fun hf C S K hC1 hC hS hK=>?_;simp (disch:=first|omega|assumption) only [go_sem,List.length_map];refine hK ?_;clear hK hS hC hC1 K S C hf)|((first|refine zn ?_|refine ze ?_|refine zk ?_);with_reducible (constructor;repeat constructor);try refine zl ?_)))
 refine aS rfl rfl (fun hb=>?_) (fun hb=>?_)
 case refine_2 =>
  obtain rfl:j=w.length:=by omega
  rw [List.take_length,← h3]
  obtain ⟨O2,hA⟩:=hat OO (aR path) (Nat.le_trans (gL path) hgl)
  have hab:=fun p=>A9 path (by omega) p
  obtain ⟨-,-,hk2⟩:=hup
  generalize aF L (aR path)=B at hA hk2
  obtain ⟨ek,em,el⟩:=B
  simp only at hk2
  subst hk2
  simp only [Bits.av] at hA
  refine qw0 ?_
  refine aw nmd [(6,64)] hng (by kernel_rfl) fun hf C S K hC1 hC hS hK=>?_;simp (disch:=first|omega|assumption) only [go_sem,Oid.ab hr,Oid.aa hr,hg,eq_self,decide_true,decide_false,ne_eq,not_true_eq_false,not_false_eq_true]
  refine hC1 _ (hab _) (fun _ h=>by cases h) ?_
  simp (disch:=first|omega|assumption) only [go_sem,Oid.ab hr,Oid.aa hr,hg,eq_self,decide_true,decide_false,ne_eq,not_true_eq_false,not_false_eq_true]
  refine hC1 _ (hA _ (ar rfl hp) (hr' _ _)) (qs (uu hr)) ?_
  simp (disch:=first|omega|assumption) only [go_sem,Oid.ab hr,Oid.aa hr,hg,eq_self,decide_true,decide_false,ne_eq,not_true_eq_false,not_false_eq_true]
  refine hK ?_;clear hK hS hC hC1 K S C hf
  refine qw0 ?_
  exact ⟨_,_,by omega,fun i o h=>h,i+1,_,O2,rfl,rfl,by omega⟩
 have hjl:j < w.length:=by omega
 have hpc1:tL (w.getD j default):=hwa _ (by rw [List.getD_eq_getElem?_getD,List.getElem?_eq_getElem hjl];exact List.getElem_mem hjl)
 have htk:=BF w j hjl
 have hpj:(mkP (w.take j)).length≤1000000:=Nat.le_trans (hpl j) hgl
 have hpj1:(mkP (w.take j)++[47]).length≤1000001:=by rw [List.length_append];exact Nat.succ_le_succ hpj
 generalize hgn:w.getD j default=pc at hpc1
 rw [show w.getD j []=pc from hgn] at htk
 obtain ⟨p1,p2,p3,p4,p5⟩:=hpc1
 have p3':¬ (32:Int) < (pc.length:Int):=by omega
 refine qr .o hgn trivial ?_
 refine qr (.d [] [(6,44),(13,51)] []) (ai hgn (ai p3' (ai p4 p5))) trivial ?_
 refine qw0 ?_
 rw [show mkP (w.take j)++[47]++pc=mkP (w.take (j+1)) by rw [htk];simp]
 exact ⟨_,_,by omega,fun i o h=>h,j+1,_,rfl,rfl,by omega⟩
end Go.Proofs.YtmoaidkglldhcaaGreatDoor
namespace Go.Proofs.YtmoaidkglldhcaaGreatDoor
open Go Go.Ab
set_option maxRecDepth 20000
set_option maxHeartbeats 4000000
theorem kwell_ok (l:List ActK) (hl:l.length≤140737488355328) (p:Oid) (hp:p.mono=false):ah Tryz.prog 5 [.list 5 (l.map bu)] (Oid.under p) ⟨[],.bool true,[]⟩:=by
 refine aD (n:=49) (rs:=[.tmp 2]) Tryz.func5 rfl rfl (by decide) rfl rfl rfl ?_;rintro x rfl hrd hng
 have hrw:=fun p=>vw l hl p
 (repeat (first|(refine aA rfl rfl ?_)|(refine az rfl rfl ?_)|(refine aw nmd [] hng (by kernel_rfl) fun hf C S K hC1 hC hS hK=>?_;simp (disch:=first|omega|assumption) only [go_sem];(repeat ((first|refine hC1 _ (eM _ (ar rfl hp)) (by simp (disch:=first|omega|assumption) only [go_sem]) ?_);simp (disch:=first|omega|assumption) only [go_sem]));refine hK ?_;clear hK hS hC hC1 K S C hf)|((first|refine zn ?_|refine ze ?_|refine zk ?_);with_reducible (constructor;repeat constructor);try refine zl ?_)))
 by_cases hra:o7 l=true
 case neg =>
  rw [Bool.not_eq_true] at hra
  rw [hra] at hrw
  refine qr1 (hrw _) ?_
  refine qw0 ?_
  exact ay (bj rfl)
 rw [hra] at hrw
 refine qr1 (hrw _) ?_
 refine qw0 ?_
 refine aw nmd [] hng (by kernel_rfl) fun hf C S K hC1 hC hS hK=>?_;simp (disch:=first|omega|assumption) only [go_sem]
 refine hC _ _ _ (wJ l hl hra _ (ar rfl hp)) (fun _ h=>by cases h) ?_ (fun _ _ h=>h.elim)
 rintro _ _ ⟨y,st,pp,r,qq,s,cwd,n,N,M,H,hPK,hn,hun,rfl,rfl⟩
 have hO:=jb hun
 clear hun
 simp (disch:=first|omega|assumption) only [go_sem]
 refine hK ?_;clear hK hS hC hC1 K S C hf
 (try ((first|refine zn ?_|refine ze ?_|refine zk ?_);with_reducible (constructor;repeat constructor));try refine zl ?_)
 have sp:=hPK.sp
 have hs:=hPK.ks.ok
 have hwk:=hPK.ks.well
 have hky:∀ q ∈ s.L,q.1.length≤1000000:=fun q hq=>by have:=hPK.ks.key q hq;omega
 have hON:gK x.p 5 N:=fun j hj=>hO j (by simp [hj])
 refine dy (Mem.blk [] [(N,H)]) (fun i o h=>by
  rw [← Mem.aJ,cU]
  rw [aW] at h
  split at h
  ·rw [if_pos (by simp [*])];exact h
  ·cases h) ?_
 have hek:=hPK.ks.ek
 clear hO hPK hn
 refine qw0 ?_
 refine aw nmd [] hng (by kernel_rfl) fun hf C S K hC1 hC hS hK=>?_;simp (disch:=first|omega|assumption) only [go_sem]
 refine hC1 _ (qP sp hs _ (hON.sub (by omega) _)) (nbA (A:=[]) (fun _ h=>by cases h) []) ?_
 simp (disch:=first|omega|assumption) only [go_sem]
 refine hK ?_;clear hK hS hC hC1 K S C hf
 (repeat (first|(refine aA rfl rfl ?_)|(refine az rfl rfl ?_)|(refine aw nmd [] hng (by kernel_rfl) fun hf C S K hC1 hC hS hK=>?_;simp (disch:=first|omega|assumption) only [go_sem];(repeat ((first|refine hC1 _ (wo _) (by simp (disch:=first|omega|assumption) only [go_sem]) ?_);simp (disch:=first|omega|assumption) only [go_sem]));refine hK ?_;clear hK hS hC hC1 K S C hf)|((first|refine zn ?_|refine ze ?_|refine zk ?_);with_reducible (constructor;repeat constructor);try refine zl ?_)))
 have hR0:∀ c i,8≤c→¬ Oid.under (.sub c i x.p) (Oid.sub 1 1 (.sub 7 0 x.p)):=fun c i h hu=>by
  have:=(Oid.apart hu (Oid.ae (Oid.aq _))).1;omega
 have hRN:Oid.sub 1 1 (.sub 7 0 x.p) ∉ N:=fun h=>hON _ h ⟨7,0,by omega,Oid.ae (Oid.aq _)⟩
 refine dy (Mem.blk [(Oid.sub 1 1 (.sub 7 0 x.p),.cells [.list 4 [],.list 4 [],.list 3 [],.list 1 [],.bool false])] [(N,H)]) (fun i o h=>h) ?_
 generalize Oid.sub 1 1 (.sub 7 0 x.p)=R0 at hR0 hRN ⊢
 refine bq [0,3,4,6,7,8] (fun k s'=>∃ (i c:Nat) (s1:St) (H:Oid→ao) (OO:AV),s' = ⟨[(0,.list 5 (l.map bu)),(3,.bool true),(4,.ptr st 0),(6,.list 1 (s.L.map fun q=>.str q.1)),(7,.ptr R0 0),(8,.int .i64 i)],Mem.blk [(R0,.cells [.list 4 ((s.L.take i).map aB),OO,.list 3 [],.list 1 [],.bool false])] [(N,H)],c,[]⟩∧k=s.L.length - i∧i≤s.L.length∧8≤c∧s1.L=s.L∧dI st s1 N H∧SOK s1) _ ⟨0,_,s,H,.list 4 [],rfl,rfl,Nat.zero_le _,(by decide),rfl,sp,hs⟩ ?_
 clear sp
 rintro k s' ⟨i,c,s1,H,OO,rfl,rfl,hi,hc,hL,sp,hs1⟩
 (repeat (first|(refine aA rfl rfl ?_)|(refine az rfl rfl ?_)|(refine aw nmd [] hng (by kernel_rfl) fun hf C S K hC1 hC hS hK=>?_;simp (disch:=first|omega|assumption) only [go_sem,List.length_map];refine hK ?_;clear hK hS hC hC1 K S C hf)|((first|refine zn ?_|refine ze ?_|refine zk ?_);with_reducible (constructor;repeat constructor);try refine zl ?_)))
 refine aS rfl rfl (fun hb=>?_) (fun hb=>?_)
 case refine_2 =>
  obtain rfl:i=s.L.length:=by omega
  rw [List.take_length]
  have hs0:SOK ⟨s.L,none⟩:=⟨hs.sl,hs.po,hs.no,fun q h=>by cases h⟩
  have hW:=fun p hp hr=>DG R0 s.L hs0 hwk hky OO p hp hr
  refine qw0 ?_
  refine aw nmd [(1,45)] hng (by kernel_rfl) fun hf C S K hC1 hC hS hK=>?_;simp (disch:=first|omega|assumption) only [go_sem,decide_true,decide_false,ne_eq,not_true_eq_false,not_false_eq_true]
  refine hC1 _ (hW _ (ar rfl hp) (hR0 _ _ (by omega))) qs0 ?_
  simp (disch:=first|omega|assumption) only [go_sem,decide_true,decide_false,ne_eq,not_true_eq_false,not_false_eq_true]
  refine hK ?_;clear hK hS hC hC1 K S C hf
  refine qw0 ?_
  exact ay (bj rfl)
 have hlt:i < s.L.length:=by omega
 have hLl:=hs.po.len
 have hst:SOK ⟨s.L.take i,none⟩:=⟨hs.sl.sublist (List.take_sublist _ _),⟨(by rw [List.length_take];have:=hs.po.len;omega),fun q h=>hs.po.key q (List.mem_of_mem_take h),fun q h=>hs.po.val q (List.mem_of_mem_take h)⟩,fun q h=>hs.no q (List.mem_of_mem_take h),fun q h=>by cases h⟩
 have hgi:s.L.getD i default=s.L[i]:=by rw [List.getD_eq_getElem?_getD,List.getElem?_eq_getElem hlt];rfl
 have hgm:s.L[i] ∈ s.L:=List.getElem_mem hlt
 have hup:=hwk.up hgm
 have hk0:¬ (s.L[i]).2.k=0:=by have:=(hek _ hgm).k;omega
 have hga:=Dw hs.sl hlt hup.2.1
 have hpt:=Bq hs.sl hlt hup.2.1 hk0
 have hgl:=hky _ hgm
 generalize s.L[i]=g at hgi hgm hga hpt hgl
 obtain ⟨nm,B⟩:=g
 simp only at hga hpt hgl
 obtain ⟨F1,sp1,hA⟩:=uZ sp hs1 nm (by omega)
 rw [hL,hga] at hA
 obtain ⟨G1,⟨_,O2,h3⟩,hP⟩:=tu (r:=R0) (s:=⟨s.L.take i,none⟩) (N:=[R0]) (F:=fun _=>.cells [.list 4 ((s.L.take i).map aB),OO,.list 3 [],.list 1 [],.bool false]) ⟨rfl,OO,rfl⟩ hst (fun q hq=>by cases hq) nm B
 simp only [St.put,hpt] at h3
 simp only [sb,bk,List.map_cons,List.map_nil,h3] at hP
 (try ((first|refine zn ?_|refine ze ?_|refine zk ?_);with_reducible (constructor;repeat constructor));try refine zl ?_)
 refine cK nmd [] [(4,10)] mixed hng (by kernel_rfl) [0,3,4,6,7,8] fun hf C S K hC hS hK=>?_;simp (disch:=first|omega|assumption) only [go_sem,hgi,hRN]
 refine hC _ (hA _ (ar rfl hp) (hON.sub (by omega) _)) (by exact nbA (by simp [hRN]) _) ?_
 simp (disch:=first|omega|assumption) only [go_sem,hgi,hRN]
 refine hC _ (hP _ (ar rfl hp) (fun j hj=>by rw [List.mem_singleton.1 hj];exact hR0 _ _ (by omega))) (qs hRN) ?_
 simp (disch:=first|omega|assumption) only [go_sem,hgi,hRN]
 (first|refine hK (aM rfl) ?_|refine hK (by simp (disch:=first|omega|assumption) only [go_sem,List.reverse_cons,List.reverse_nil,ne_eq,not_false_eq_true,implies_true]) ?_);clear hK hS hC K S C hf
 refine qw0 ?_
 exact ⟨_,_,by omega,fun i o h=>h,i+1,_,s1.read (nm,false),F1,O2,rfl,rfl,by omega,by omega,hL,sp1,hs1.read _⟩
end Go.Proofs.YtmoaidkglldhcaaGreatDoor
namespace Go.Ab
theorem os {p e:Prop} (e1:e) (h:e→p:=by intro e;simp (disch:=first|omega|assumption) only [go_sem,eq_self,decide_true,decide_false,ne_eq,not_true_eq_false,not_false_eq_true,Q,e];first|done|fail):p:=h e1
theorem ot {p q e:Prop} (e1:e) (k:q) (h:e→eU q→p:=by intro e k;refine qt (ai Q e) ?_;exact k.out):p:=h e1 ⟨k⟩
theorem ot0 {p q:Prop} (k:q) (h:eU q→p:=by intro k;refine qt (ai Q trivial) ?_;exact k.out):p:=h ⟨k⟩
theorem ow {p q e:Prop} (e1:e) (k:q) (h:e→eU q→p:=by intro e k;refine qw (ai Q e) ?_;exact k.out):p:=h e1 ⟨k⟩
theorem ow0 {p q:Prop} (k:q) (h:eU q→p:=by intro k;refine qw (ai Q trivial) ?_;exact k.out):p:=h ⟨k⟩
theorem on {p e:Prop} (e1:e) (h:e→p:=by intro e;first|(intro _ h;cases h;done)|exact kP _|(refine iJ ?_ _;simp (disch:=omega) [Q];done)|(refine iK ?_ hdj _;simp (disch:=omega) [Q];done)|exact os e|(simp only [List.mem_cons,forall_eq_or_imp];refine ⟨os e,?_⟩;first|exact kP _|(refine iJ ?_ _;simp (disch:=omega) [Q];done)|(refine iK ?_ hdj _;simp (disch:=omega) [Q];done))):p:=h e1
theorem om {p c:Prop} (c1:c) (h:c→p:=by intro c;first|exact c|exact c (ar rfl hp)|exact c _ (ar rfl hp) (hO.sub (by omega) _)):p:=h c1
theorem or {p q e c:Prop} {U gl:List (Nat × Nat)} {ts:List Nat} (g:HD U gl ts) (e1:e) (c1:c) (k:q) (h:HD U gl ts→e→c→eU q→p:=by
  intro g e c k;(try refine qv ?_)
  refine vQ g hng (by kernel_rfl) fun hf C S K hC1 hC hS hK=>?_;refine ot e ?_
  repeat (obtain ⟨c1,c⟩:CC _ _:=c;refine hC1 _ (om c1) (on e) ?_;refine ot e ?_)
  refine hK ?_;clear hK hS hC hC1 K S C hf;(try refine qv ?_)
  exact k.out):p:=h g e1 c1 ⟨k⟩
theorem od {p q e c:Prop} {U gl:List (Nat × Nat)} {ts:List Nat} (g:HD U gl ts) (e1:e) (c1:c) (k:q) (h:HD U gl ts→e→c→eU q→p:=by
  intro g e c k;(try refine qv ?_)
  refine ij g mixed hng (by kernel_rfl) fun hf C S K hC hS hK=>?_;refine ot e ?_
  repeat (obtain ⟨c1,c⟩:CC _ _:=c;refine hC _ (om c1) (on e) ?_;refine ot e ?_)
  (first|refine hK (aM rfl) ?_|refine hK (by simp (disch:=first|omega|assumption) only [go_sem,List.reverse_cons,List.reverse_nil,ne_eq,not_false_eq_true,implies_true]) ?_);clear hK hS hC K S C hf;(try refine qv ?_)
  exact k.out):p:=h g e1 c1 ⟨k⟩
theorem or1 {p q c:Prop} (c1:c) (k:q) (h:c→eU q→p:=by intro c k;refine or .o trivial (cq c trivial) ?_;exact k.out):p:=h c1 ⟨k⟩
end Go.Ab
namespace Go.Proofs.YtmoaidkglldhcaaGreatDoor
open Go Go.Ab
set_option maxRecDepth 20000
set_option maxHeartbeats 4000000
section
variable {y st pp r qq:Oid} {s:St} {cwd:Str} {um:Int} {n:Nat} {N M:List Oid} {F G:Oid→ao}
abbrev cS (y st pp r qq:Oid) (s:St) (cwd:Str) (um:Int) (n:Nat) (N M:List Oid) (F G:Oid→ao):Prop:=cj y st pp r qq s cwd um n N M (jkP y st pp r qq cwd um N F G)
structure ub (f g:Nat) (xs:List AV) (y st pp r qq:Oid) (cwd:Str) (um:Int) (N M:List Oid) (F G F' G':Oid→ao) (v:AV):Prop where
 a:∀ p,p.mono=false→bc p (KB y pp qq N M)→ah Tryz.prog f (.ptr pp 0::xs) (Oid.under p) ⟨(pp,prC st cwd um)::bk (N,F),v,sb N F'⟩
 b:∀ p,p.mono=false→bc p (KB y pp qq N M)→ah Tryz.prog g (.ptr qq 0::xs) (Oid.under p) ⟨(qq,prC r cwd um)::bk (M,G),v,sb M G'⟩
theorem cj.toJ {H:Oid→ao} (h:cj y st pp r qq s cwd um n N M H):cS y st pp r qq s cwd um n N M H H:=.mk' h.ap h.sp h.sr h.ks h.um
section
variable (h:cS y st pp r qq s cwd um n N M F G)
include h
theorem cS.bN:bk (N,F)=bk (N,jkP y st pp r qq cwd um N F G):=gN fun i hi=>(vu h.ap i hi).symm
theorem cS.bM:bk (M,G)=bk (M,jkP y st pp r qq cwd um N F G):=gN fun i hi=>(vv h.ap i hi).symm
theorem cS.write (hn:n≤40) (u d:Str) (hu:u.length≤4000000000) (hd:d.length≤4000000000) (more:Bool):∃ (s':St) (F' G':Oid→ao) (E:Int),cS y st pp r qq s' cwd um (n+1) N M F' G'∧ub 16 17 [.str u,.str d,.bool more] y st pp r qq cwd um N M F G F' G' (.int .i64 E):=by
 obtain ⟨F1,F2,G1,G2,hPK,e1,e2,e3,e4⟩:=h.op hn (j6 h.ks.st um (eo h.um).1 u d more)
 refine ⟨_,F2,G2,aH (dp s.L cwd um u d more).2,hPK,⟨fun p hp hO=>?_,fun p hp hO=>?_⟩⟩<;>obtain ⟨hy,hpp,hqq,hON,hOM⟩:=KB.old hO
 ·rw [cS.bN h];exact lD h.ks.kl (by have:=h.ks.cl;omega) um h.ap.pN (p:=p) hp hpp hON u hu _ hd more e1 e2
 ·rw [cS.bM h];exact rP h.ks.kl h.ks.mo (by have:=h.ks.cl;omega) um h.ap.qM (p:=p) hp hqq hOM u hu _ hd more e3 e4
theorem cS.Gv (hn:n≤40) (u:Str) (hu:u.length≤4000000000):∃ (s':St) (F' G':Oid→ao) (E:Int),cS y st pp r qq s' cwd um (n+1) N M F' G'∧ub 31 32 [.str u] y st pp r qq cwd um N M F G F' G' (.int .i64 E):=by
 obtain ⟨F1,F2,G1,G2,hPK,e1,e2,e3,e4⟩:=h.op hn (j7 h.ks.st um (eo h.um).2 u)
 refine ⟨_,F2,G2,aH (dA s.L cwd um u).2,hPK,⟨fun p hp hO=>?_,fun p hp hO=>?_⟩⟩<;>obtain ⟨hy,hpp,hqq,hON,hOM⟩:=KB.old hO
 ·rw [cS.bN h];exact lE h.ks.kl (by have:=h.ks.cl;omega) um h.ap.pN (p:=p) hp hpp hON u hu e1 e2
 ·rw [cS.bM h];exact rQ h.ks.kl h.ks.mo (by have:=h.ks.cl;omega) um h.ap.qM (p:=p) hp hqq hOM u hu e3 e4
theorem cS.symlink (hn:n≤40) (v u:Str) (hu:u.length≤4000000000) (hv:v.length≤4000000000):∃ (s':St) (F' G':Oid→ao) (E:Int),cS y st pp r qq s' cwd um (n+1) N M F' G'∧ub 14 15 [.str v,.str u] y st pp r qq cwd um N M F G F' G' (.int .i64 E):=by
 obtain ⟨F1,F2,G1,G2,hPK,e1,e2,e3,e4⟩:=h.op hn (iI h.ks.st v u)
 refine ⟨_,F2,G2,aH (bL s.L cwd v u).2,hPK,⟨fun p hp hO=>?_,fun p hp hO=>?_⟩⟩<;>obtain ⟨hy,hpp,hqq,hON,hOM⟩:=KB.old hO
 ·rw [cS.bN h];exact j4 h.ks.kl (by have:=h.ks.cl;omega) um h.ap.pN (p:=p) hp hpp hON u hu v hv e1 e2
 ·rw [cS.bM h];exact mg h.ks.kl h.ks.mo (by have:=h.ks.cl;omega) um h.ap.qM (p:=p) hp hqq hOM u hu v hv e3 e4
theorem cS.D4 (hn:n≤40) (u:Str) (hu:u.length≤4000000000) (k:Int):∃ (s':St) (F' G':Oid→ao) (E:Int),cS y st pp r qq s' cwd um (n+1) N M F' G'∧ub 29 30 [.str u,.int .i64 k] y st pp r qq cwd um N M F G F' G' (.int .i64 E):=by
 obtain ⟨F1,F2,G1,G2,hPK,e1,e2,e3,e4⟩:=h.op hn (nw h.ks.st u k)
 refine ⟨_,F2,G2,aH (dU s.L cwd u k).2,hPK,⟨fun p hp hO=>?_,fun p hp hO=>?_⟩⟩<;>obtain ⟨hy,hpp,hqq,hON,hOM⟩:=KB.old hO
 ·rw [cS.bN h];exact rN h.ks.kl (by have:=h.ks.cl;omega) um h.ap.pN (p:=p) hp hpp hON u hu k e1 e2
 ·rw [cS.bM h];exact wx h.ks.kl (by have:=h.ks.cl;omega) um h.ap.qM (p:=p) hp hqq hOM u hu k e3 e4
theorem cS.read (hn:n≤40) (u:Str) (hu:u.length≤4000000000):∃ (s':St) (F' G':Oid→ao) (S:Str) (E:Int),cS y st pp r qq s' cwd um (n+1) N M F' G'∧ub 18 19 [.str u] y st pp r qq cwd um N M F G F' G' (.tuple [.str S,.int .i64 E]):=by
 obtain ⟨F2,G2,hPK,e1,e3⟩:=h.rd hn (vn h.ks.lk cwd u) (by decide)
 refine ⟨_,F2,G2,rdS (gY s.L cwd u).2,aH (gY s.L cwd u).2,hPK,⟨fun p hp hO=>?_,fun p hp hO=>?_⟩⟩<;>obtain ⟨hy,hpp,hqq,hON,hOM⟩:=KB.old hO
 ·rw [cS.bN h];exact vb h.ks.kl (by have:=h.ks.cl;omega) um h.ap.pN (p:=p) hp hpp hON u hu e1
 ·rw [cS.bM h];exact Ba h.ks.kl (by have:=h.ks.cl;omega) um h.ap.qM (p:=p) hp hqq hOM u hu e3
theorem cS.same (hn:n≤40) (p:Oid) (hp:p.mono=false) (hO:bc p (KB y pp qq N M)) :
  ah Tryz.prog 20 [.ptr st 0,.ptr r 0] (Oid.under p) ⟨bk (N,F)++bk (M,G),.bool true,gone (N++M)⟩:=by
 obtain ⟨hy,hpp,hqq,hON,hOM⟩:=KB.old hO
 rw [cS.bN h,cS.bM h]
 exact cj.same h hn p hp hON hOM
end
theorem BG (ap:Apt y pp qq N M) {a b c:ao} {E:List (Oid × ao)} (hE:∀ e ∈ E,e.1 ∉ N∧e.1 ∉ M) {m:Mem} (hm:m=Mem.blk ([(y,a),(pp,b),(qq,c)]++E) [(N,F),(M,G)]):∀ i o,Mem.blk [] [(KB y pp qq N M,jk y pp qq a b c N F G)] i=some o→m i=some o:=by
 subst hm
 intro i o h
 rw [aW] at h
 split at h
 case isFalse=>cases h
 rename_i hi
 have h:=Option.some.inj h
 subst h
 show Mem.blk ((y,a)::(pp,b)::(qq,c)::E) _ i=_
 rw [Mem.cm]
 rcases List.mem_cons.1 hi with rfl|hi1
 ·rw [if_pos rfl,Dz]
 have n1:¬ i=y:=by
  rintro rfl
  simp only [List.mem_cons,List.mem_append] at hi1
  rcases hi1 with e|e|e|e
  ·exact ap.yp e
  ·exact ap.yq e
  ·exact ap.yN e
  ·exact ap.yM e
 rw [if_neg n1,Mem.cm]
 rcases List.mem_cons.1 hi1 with rfl|hi2
 ·rw [if_pos rfl,DA ap]
 have n2:¬ i=pp:=by
  rintro rfl
  simp only [List.mem_cons,List.mem_append] at hi2
  rcases hi2 with e|e|e
  ·exact ap.pq e
  ·exact ap.pN e
  ·exact ap.pM e
 rw [if_neg n2,Mem.cm]
 rcases List.mem_cons.1 hi2 with rfl|hi3
 ·rw [if_pos rfl,DB ap]
 have n3:¬ i=qq:=by
  rintro rfl
  rcases List.mem_append.1 hi3 with e|e
  ·exact ap.qN e
  ·exact ap.qM e
 rw [if_neg n3]
 have key:Mem.blk [] [(N,F),(M,G)] i=some (jk y pp qq a b c N F G i):=by
  rw [aW]
  by_cases hN:i ∈ N
  ·rw [if_pos hN,vu ap i hN]
  ·have hM:i ∈ M:=(List.mem_append.1 hi3).resolve_left hN
   rw [if_neg hN,aW,if_pos hM,vv ap i hM]
 clear n1 n2 n3
 induction E with
 | nil=>exact key
 | cons e E ih =>
  rw [Mem.cm,if_neg]
  ·exact ih fun e' he=>hE e' (List.mem_cons_of_mem _ he)
  ·rintro rfl
   obtain ⟨k1,k2⟩:=hE e List.mem_cons_self
   exact (List.mem_append.1 hi3).elim k1 k2
theorem vx {y pp qq p:Oid} {N M:List Oid} {c:Nat} (h:gK p c (KB y pp qq N M)) (ap:Apt y pp qq N M) :
  (∀ d i,c≤d→¬ y = .sub d i p)∧(∀ d i,c≤d→¬ .sub d i p=y)∧(∀ d i,c≤d→¬ pp = .sub d i p)∧(∀ d i,c≤d→¬ .sub d i p=pp)∧(∀ d i,c≤d→¬ qq = .sub d i p)∧(∀ d i,c≤d→¬ .sub d i p=qq)∧(∀ d i,c≤d→.sub d i p ∉ N)∧(∀ d i,c≤d→.sub d i p ∉ M)∧DJ N M ∧
  ¬ y=pp∧¬ y=qq∧¬ pp=qq∧¬ pp=y∧¬ qq=y∧¬ qq=pp∧y ∉ N∧y ∉ M∧pp ∉ N∧pp ∉ M∧qq ∉ N∧qq ∉ M:=by
 have hm:∀ d i,c≤d→Oid.sub d i p ∉ KB y pp qq N M:=fun d i hd=>h.mem hd
 refine ⟨fun d i hd e=>hm d i hd (by simp [e]),fun d i hd e=>hm d i hd (by simp [e]),fun d i hd e=>hm d i hd (by simp [e]),fun d i hd e=>hm d i hd (by simp [e]),fun d i hd e=>hm d i hd (by simp [e]),fun d i hd e=>hm d i hd (by simp [e]),fun d i hd e=>hm d i hd (by simp [e]),fun d i hd e=>hm d i hd (by simp [e]),
  ap.dj,ap.yp,ap.yq,ap.pq,fun e=>ap.yp e.symm,fun e=>ap.yq e.symm,fun e=>ap.pq e.symm,ap.yN,ap.yM,ap.pN,ap.pM,ap.qN,ap.qM⟩
end
end Go.Proofs.YtmoaidkglldhcaaGreatDoor
namespace Go.Proofs.YtmoaidkglldhcaaGreatDoor
open Go Go.Ab
set_option maxRecDepth 20000
set_option maxHeartbeats 4000000
def jM:List Str:=[[97],[98],[99],[100],[101],[102],[103],[104],[105],[106],[107],[108],[109]]
theorem o8 (i:Nat) (hi:i < 13):(jM.getD i default).length=1:=by
 have key:∀ k,k < 13→(jM.getD k default).length=1:=by decide
 exact key i hi
theorem links_ok (n:UInt8) (turned ends:Bool) (p:Oid) (hp:p.mono=false):ah Tryz.prog 3 [.int .u8 n.toNat,.bool turned,.bool ends] (Oid.under p) ⟨[],.bool true,[]⟩:=by
 have h12:((n.toNat:Int)).tmod 12=((n.toNat % 12:Nat):Int):=bF _ 12
 have hlt:n.toNat % 12 < 12:=Nat.mod_lt _ (by decide)
 have hnl:[AV.str [97],AV.str [98],AV.str [99],AV.str [100],AV.str [101],AV.str [102],AV.str [103],AV.str [104],AV.str [105],AV.str [106],AV.str [107],AV.str [108],AV.str [109]]=jM.map AV.str:=rfl
 refine aD (n:=133) (rs:=[.tmp 6]) Tryz.func3 rfl rfl (by decide) rfl rfl rfl ?_;rintro x rfl hrd hng
 (repeat (first|(refine aA rfl rfl ?_)|(refine az rfl rfl ?_)|(refine aw nmd [] hng (by kernel_rfl) fun hf C S K hC1 hC hS hK=>?_;simp (disch:=first|omega|assumption) only [go_sem];(repeat ((first|refine hC1 _ (eM _ (ar rfl hp)) (by simp (disch:=first|omega|assumption) only [go_sem]) ?_);simp (disch:=first|omega|assumption) only [go_sem]));refine hK ?_;clear hK hS hC hC1 K S C hf)|((first|refine zn ?_|refine ze ?_|refine zk ?_);with_reducible (constructor;repeat constructor);try refine zl ?_)))
 obtain ⟨y,st,pp,r,qq,N,M,H,hPK,hun,hB⟩:=gM 0 (.sub 3 0 x.p) (ar rfl hp)
 have hO:=jb hun
 clear hun
 rw [show c8 0 7=0 from rfl] at hPK
 refine qr1 hB ?_
 clear hB
 generalize n.toNat % 12=k at h12 hlt
 refine dy (Mem.blk [] [(KB y pp qq N M,H)]) (fun i o h=>by rw [← Mem.aJ];exact jc _ _ _ i o h) ?_
 have Q:=vx hO hPK.ap
 obtain ⟨yp,yq,pq,yN,yM,pN,pM,qN,qM,hdj⟩:=hPK.ap
 rw [dt,hPK.cy,hPK.cp,hPK.cq]
 replace hPK:=hPK.toJ
 refine ow (ai h12 hnl) ?_
 refine bq [1,2,7,8,9,10,11] (fun q s'=>∃ (i c:Nat) (s:St) (F G:Oid→ao),s' = ⟨[(1,.bool turned),(2,.bool ends),(7,.bool true),(8,.ptr y 0),(9,.list 1 (jM.map AV.str)),(10,.int .i64 (1+(k:Int))),(11,.int .i64 i)],Mem.blk [(y,.cells [.ptr st 0,.ptr pp 0,.ptr r 0,.ptr qq 0]),(pp,prC st [] 0),(qq,prC r [] 0)] [(N,F),(M,G)],c,[]⟩∧q=k+1 - i∧i≤k+1∧8≤c∧cS y st pp r qq s [] 0 i N M F G) _ ⟨0,_,_,H,H,rfl,rfl,Nat.zero_le _,Nat.le_refl _,hPK⟩ ?_
 clear hPK H
 rintro q s' ⟨i,c,s,F,G,rfl,rfl,hi,hc,hPK⟩
 refine ow0 ?_
 refine aS rfl rfl (fun hb=>?_) (fun hb=>?_)
 case refine_2 =>
  clear hnl h12
  have hcy:8≤c:=hc
  obtain ⟨s1,F1,G1,E,hJ,hB⟩:=hPK.write (by omega) [97] [120] (by simp) (by simp) false
  obtain ⟨s2,F2,G2,S,E2,hJ2,hB2⟩:=hJ.read (by omega) [97] (by simp)
  have hSm:=fun p hp ho=>hJ2.same (by omega) p hp ho
  have hA:=hB.a;have hB:=hB.b;have hA2:=hB2.a;have hB2:=hB2.b;unfold prC at hA hB hA2 hB2 ⊢
  refine ow0 ?_
  refine or1 hA ?_
  refine or1 hB ?_
  refine or1 hA2 ?_
  refine or1 hB2 ?_
  refine ij (HD.d [] [(1,107),(6,112),(11,117),(16,122)] [6]) mixed hng (by kernel_rfl) fun hf C S K hC hS hK=>?_;refine ot0 ?_
  refine hC _ (hSm _ (ar rfl hp) (hO.sub (by omega) _)) (fun q hq=>?_) ?_
  ·rcases List.mem_append.1 hq with hq|hq
   ·exact iJ (by simp [yN,pN,qN]) _ q hq
   ·exact iK (by simp [yM,pM,qM]) hdj _ q hq
  refine ot0 ?_
  (first|refine hK (aM rfl) ?_|refine hK (by simp (disch:=first|omega|assumption) only [go_sem,List.reverse_cons,List.reverse_nil,ne_eq,not_false_eq_true,implies_true]) ?_);clear hK hS hC K S C hf
  refine ow0 ?_
  exact ay (bj rfl)
 have hik:i < k+1:=by omega
 have hn1:=o8 (i+1) (by omega)
 have hn0:=o8 i (by omega)
 have hnl2:jM.length=13:=rfl
 have hti:((i:Int)+1).toNat=i+1:=by omega
 have h00:jM.getD 0 default=[97]:=rfl
 have hm2:((i:Int)).tmod 2=((i % 2:Nat):Int):=bF _ 2
 generalize hg1:jM.getD (i+1) default=t1 at hn1
 generalize hg0:jM.getD i default=t0 at hn0
 refine or .o (ai hti (ai hg1 hnl2)) trivial ?_
 obtain ⟨b1,hb1⟩:∃ b,decide ((i:Int)=1+(k:Int) - 1)=b:=⟨_,rfl⟩
 obtain ⟨b2,hb2⟩:∃ b,decide (((i % 2:Nat):Int)=1)=b:=⟨_,rfl⟩
 cases turned with
 | false =>
  refine or (.d [] [(1,41)] []) trivial trivial ?_
  refine ow0 ?_
  cases ends with
  | false =>
   refine or (.d [] [(1,51)] []) trivial trivial ?_
   refine ow0 ?_
   obtain ⟨s2,F2,G2,E,hJ,hB⟩:=hPK.symlink (by omega) (t1) t0 (by omega) (by first|omega|(simp only [List.length_append,List.length_cons,List.length_nil];omega))
   have hA:=hB.a;have hB:=hB.b;unfold prC at hA hB ⊢
   refine od (.d [(9,13),(9,18)] [] [1,2,7,8,9,10,11,79]) (ai hg0 hnl2) (cq hA (cq hB trivial)) ?_
   refine ow0 ?_
   exact ⟨_,_,by omega,fun i o h=>h,i+1,_,s2,F2,G2,rfl,rfl,by omega,by omega,hJ⟩
  | true =>
   refine or (.d [] [(1,51)] []) (ai hm2 hb2) trivial ?_
   cases b2 with
   | false =>
    refine ow0 ?_
    obtain ⟨s2,F2,G2,E,hJ,hB⟩:=hPK.symlink (by omega) (t1) t0 (by omega) (by first|omega|(simp only [List.length_append,List.length_cons,List.length_nil];omega))
    have hA:=hB.a;have hB:=hB.b;unfold prC at hA hB ⊢
    refine od (.d [(9,13),(9,18)] [] [1,2,7,8,9,10,11,79]) (ai hg0 hnl2) (cq hA (cq hB trivial)) ?_
    refine ow0 ?_
    exact ⟨_,_,by omega,fun i o h=>h,i+1,_,s2,F2,G2,rfl,rfl,by omega,by omega,hJ⟩
   | true =>
    refine ow0 ?_
    obtain ⟨s2,F2,G2,E,hJ,hB⟩:=hPK.symlink (by omega) (46::47::(t1++[47])) t0 (by omega) (by first|omega|(simp only [List.length_append,List.length_cons,List.length_nil];omega))
    have hA:=hB.a;have hB:=hB.b;unfold prC at hA hB ⊢
    refine od (.d [(9,13),(9,18)] [] [1,2,7,8,9,10,11,79]) (ai hg0 hnl2) (cq hA (cq hB trivial)) ?_
    refine ow0 ?_
    exact ⟨_,_,by omega,fun i o h=>h,i+1,_,s2,F2,G2,rfl,rfl,by omega,by omega,hJ⟩
 | true =>
  refine or (.d [] [(1,41)] []) hb1 trivial ?_
  cases b1 with
  | false =>
   refine ow0 ?_
   cases ends with
   | false =>
    refine or (.d [] [(1,51)] []) trivial trivial ?_
    refine ow0 ?_
    obtain ⟨s2,F2,G2,E,hJ,hB⟩:=hPK.symlink (by omega) (t1) t0 (by omega) (by first|omega|(simp only [List.length_append,List.length_cons,List.length_nil];omega))
    have hA:=hB.a;have hB:=hB.b;unfold prC at hA hB ⊢
    refine od (.d [(9,13),(9,18)] [] [1,2,7,8,9,10,11,79]) (ai hg0 hnl2) (cq hA (cq hB trivial)) ?_
    refine ow0 ?_
    exact ⟨_,_,by omega,fun i o h=>h,i+1,_,s2,F2,G2,rfl,rfl,by omega,by omega,hJ⟩
   | true =>
    refine or (.d [] [(1,51)] []) (ai hm2 hb2) trivial ?_
    cases b2 with
    | false =>
     refine ow0 ?_
     obtain ⟨s2,F2,G2,E,hJ,hB⟩:=hPK.symlink (by omega) (t1) t0 (by omega) (by first|omega|(simp only [List.length_append,List.length_cons,List.length_nil];omega))
     have hA:=hB.a;have hB:=hB.b;unfold prC at hA hB ⊢
     refine od (.d [(9,13),(9,18)] [] [1,2,7,8,9,10,11,79]) (ai hg0 hnl2) (cq hA (cq hB trivial)) ?_
     refine ow0 ?_
     exact ⟨_,_,by omega,fun i o h=>h,i+1,_,s2,F2,G2,rfl,rfl,by omega,by omega,hJ⟩
    | true =>
     refine ow0 ?_
     obtain ⟨s2,F2,G2,E,hJ,hB⟩:=hPK.symlink (by omega) (46::47::(t1++[47])) t0 (by omega) (by first|omega|(simp only [List.length_append,List.length_cons,List.length_nil];omega))
     have hA:=hB.a;have hB:=hB.b;unfold prC at hA hB ⊢
     refine od (.d [(9,13),(9,18)] [] [1,2,7,8,9,10,11,79]) (ai hg0 hnl2) (cq hA (cq hB trivial)) ?_
     refine ow0 ?_
     exact ⟨_,_,by omega,fun i o h=>h,i+1,_,s2,F2,G2,rfl,rfl,by omega,by omega,hJ⟩
  | true =>
   refine ow h00 ?_
   cases ends with
   | false =>
    refine or (.d [] [(1,51)] []) trivial trivial ?_
    refine ow0 ?_
    obtain ⟨s2,F2,G2,E,hJ,hB⟩:=hPK.symlink (by omega) ([97]) t0 (by omega) (by first|omega|(simp only [List.length_append,List.length_cons,List.length_nil];omega))
    have hA:=hB.a;have hB:=hB.b;unfold prC at hA hB ⊢
    refine od (.d [(9,13),(9,18)] [] [1,2,7,8,9,10,11,79]) (ai hg0 hnl2) (cq hA (cq hB trivial)) ?_
    refine ow0 ?_
    exact ⟨_,_,by omega,fun i o h=>h,i+1,_,s2,F2,G2,rfl,rfl,by omega,by omega,hJ⟩
   | true =>
    refine or (.d [] [(1,51)] []) (ai hm2 hb2) trivial ?_
    cases b2 with
    | false =>
     refine ow0 ?_
     obtain ⟨s2,F2,G2,E,hJ,hB⟩:=hPK.symlink (by omega) ([97]) t0 (by omega) (by first|omega|(simp only [List.length_append,List.length_cons,List.length_nil];omega))
     have hA:=hB.a;have hB:=hB.b;unfold prC at hA hB ⊢
     refine od (.d [(9,13),(9,18)] [] [1,2,7,8,9,10,11,79]) (ai hg0 hnl2) (cq hA (cq hB trivial)) ?_
     refine ow0 ?_
     exact ⟨_,_,by omega,fun i o h=>h,i+1,_,s2,F2,G2,rfl,rfl,by omega,by omega,hJ⟩
    | true =>
     refine ow (show ∀ (i:Decidable True) (v:Option AV),@gd True i v=v from fun i v=>@y5 True i v trivial) ?_
     obtain ⟨s2,F2,G2,E,hJ,hB⟩:=hPK.symlink (by omega) [46,47,97,47] t0 (by omega) (by first|omega|(simp only [List.length_append,List.length_cons,List.length_nil];omega))
     have hA:=hB.a;have hB:=hB.b;unfold prC at hA hB ⊢
     refine od (.d [(9,13),(9,18)] [] [1,2,7,8,9,10,11,79]) (ai hg0 hnl2) (cq hA (cq hB trivial)) ?_
     refine ow0 ?_
     exact ⟨_,_,by omega,fun i o h=>h,i+1,_,s2,F2,G2,rfl,rfl,by omega,by omega,hJ⟩
end Go.Proofs.YtmoaidkglldhcaaGreatDoor
namespace Go.Proofs.YtmoaidkglldhcaaGreatDoor
open Go Go.Ab
set_option maxRecDepth 20000
set_option maxHeartbeats 4000000
def mv:List Str:=[[97],[97,47,98],[97,47,108],[97,47,110,101,119],[97,47,108,47,120],[97,47,46],[97,47,46,46]]
theorem vA (i:Nat) (hi:i < 7):(mv.getD i default).length≤5:=by
 have key:∀ k,k < 7→(mv.getD k default).length≤5:=by decide
 exact key i hi
theorem DH {b:Oid} {ob:ao} {K:List Oid} {H:Oid→ao} (hb:b ∉ K) (i:Oid) (o:ao) (h:Mem.blk [(b,ob)] [(K,H)] i=some o):((Mem.of [(b,ob)]).aL (sb K H)) i=some o:=by
 rw [cU]
 rw [Mem.cm] at h
 split at h
 ·rename_i e
  simp only at e
  subst e
  rw [if_neg hb,Mem.af,if_pos rfl];exact h
 ·rw [aW] at h
  split at h
  ·rw [if_pos ‹_›];exact h
  ·cases h
theorem yu (e:Oid × ao) (y pp qq:Oid) (N M:List Oid) (H:Oid→ao):Mem.blk [e] [(KB y pp qq N M,H)]=Mem.blk [e,(y,H y),(pp,H pp),(qq,H qq)] [(N,H),(M,H)]:=by
 simp [Mem.blk,bk,List.map_append]
theorem yv {y pp qq:Oid} {N M:List Oid} (ap:Apt y pp qq N M) {a b c:ao} {F G:Oid→ao} (e:Oid × ao) (i:Oid) (o:ao) (h:Mem.blk [e] [(KB y pp qq N M,jk y pp qq a b c N F G)] i=some o):Mem.blk [e,(y,a),(pp,b),(qq,c)] [(N,F),(M,G)] i=some o:=by
 rw [Mem.cm] at h ⊢
 split at h
 ·rw [if_pos ‹_›];exact h
 ·rw [if_neg ‹_›];exact BG ap (E:=[]) (fun _ h=>by cases h) rfl i o h
theorem modes_ok (d f:UInt8) (a:ActK) (p:Oid) (hp:p.mono=false):ah Tryz.prog 6 [.int .u8 d.toNat,.int .u8 f.toNat,bu a] (Oid.under p) ⟨[],.bool true,[]⟩:=by
 obtain ⟨w,a,b,k,raw⟩:=a
 have hd8:((d.toNat:Int)).tmod 8=((d.toNat % 8:Nat):Int):=bF _ 8
 have hf8:((f.toNat:Int)).tmod 8=((f.toNat % 8:Nat):Int):=bF _ 8
 have h7:((k.toNat:Int)).tmod 7=((k.toNat % 7:Nat):Int):=bF _ 7
 have hlt:k.toNat % 7 < 7:=Nat.mod_lt _ (by decide)
 have hml:[AV.str [97],AV.str [97,47,98],AV.str [97,47,108],AV.str [97,47,110,101,119],AV.str [97,47,108,47,120],AV.str [97,47,46],AV.str [97,47,46,46]]=mv.map AV.str:=rfl
 have hm7:mv.length=7:=rfl
 refine aD (n:=110) (rs:=[.tmp 6]) Tryz.func6 rfl rfl (by decide) rfl rfl rfl ?_;rintro x rfl hrd hng
 (repeat (first|(refine aA rfl rfl ?_)|(refine az rfl rfl ?_)|(refine aw nmd [] hng (by kernel_rfl) fun hf C S K hC1 hC hS hK=>?_;simp (disch:=first|omega|assumption) only [go_sem];(repeat ((first|refine hC1 _ (eM _ (ar rfl hp)) (by simp (disch:=first|omega|assumption) only [go_sem]) ?_);simp (disch:=first|omega|assumption) only [go_sem]));refine hK ?_;clear hK hS hC hC1 K S C hf)|((first|refine zn ?_|refine ze ?_|refine zk ?_);with_reducible (constructor;repeat constructor);try refine zl ?_)))
 obtain ⟨y,st,pp,r,qq,N,M,H,hPK,hun,hB⟩:=gM 0 (.sub 3 0 x.p) (ar rfl hp)
 have hb0:Oid.sub 0 0 x.p ∉ KB y pp qq N M:=fun hm=>by
  have:=(Oid.apart (hun _ hm) (Oid.aq _)).1;omega
 have hO:=jb hun
 clear hun
 rw [show c8 0 7=0 from rfl] at hPK
 refine qr1 hB ?_
 clear hB
 refine dy (Mem.blk [(Oid.sub 0 0 x.p,.cells [.int .u8 w.toNat,.int .u8 a.toNat,.int .u8 b.toNat,.int .u8 k.toNat,.str raw])] [(KB y pp qq N M,H)]) (fun i o h=>by rw [← Mem.aJ];exact DH hb0 i o h) ?_
 have b0N:Oid.sub 0 0 x.p ∉ N:=fun h=>hb0 (by simp [h])
 have b0M:Oid.sub 0 0 x.p ∉ M:=fun h=>hb0 (by simp [h])
 have b0y:¬ Oid.sub 0 0 x.p=y:=fun h=>hb0 (by simp [h])
 have b0p:¬ Oid.sub 0 0 x.p=pp:=fun h=>hb0 (by simp [h])
 have b0q:¬ Oid.sub 0 0 x.p=qq:=fun h=>hb0 (by simp [h])
 have yb0:¬ y=Oid.sub 0 0 x.p:=fun e=>b0y e.symm
 have pb0:¬ pp=Oid.sub 0 0 x.p:=fun e=>b0p e.symm
 have qb0:¬ qq=Oid.sub 0 0 x.p:=fun e=>b0q e.symm
 obtain ⟨yp,yq,pq,yN,yM,pN,pM,qN,qM,hdj⟩:=id hPK.ap
 have Q:=ai (vx hO hPK.ap) (ai hb0 (ai b0N (ai b0M (ai b0y (ai b0p (ai b0q (ai yb0 (ai pb0 qb0))))))))
 by_cases hpl:300 < raw.length
 ·have e1:(300:Int) < (raw.length:Int):=by omega
  refine or (.d [] [(2,17)] []) e1 trivial ?_
  refine ow0 ?_
  refine or (.d [] [(2,25)] []) trivial trivial ?_
  refine ow0 ?_
  exact ay (bj rfl)
 have e1:¬ (300:Int) < (raw.length:Int):=by omega
 refine or (.d [] [(2,17)] []) e1 trivial ?_
 refine ow0 ?_
 obtain ⟨s1,cwd1,H1,hPK1,hD1⟩:=jL hPK (by omega) 0 0 0 [] (by simp) (p:=.sub 5 2 x.p) (ar rfl hp) (hO.sub (by omega) 2) 2
 have hD1:ah Tryz.prog 21 [.ptr y 0,.agg [.int .u8 2,.int .u8 0,.int .u8 0,.int .u8 0,.str []]] (Oid.under (.sub 5 2 x.p)) ⟨bk (KB y pp qq N M,H),.bool true,sb (KB y pp qq N M) H1⟩:=hD1
 refine or1 hD1 ?_
 obtain ⟨s2,cwd2,H2,hPK2,hD2⟩:=jL hPK1 (by omega) 2 0 0 [] (by simp) (p:=.sub 6 2 x.p) (ar rfl hp) (hO.sub (by omega) 2) 0
 have hD2:ah Tryz.prog 21 [.ptr y 0,.agg [.int .u8 0,.int .u8 2,.int .u8 0,.int .u8 0,.str []]] (Oid.under (.sub 6 2 x.p)) ⟨bk (KB y pp qq N M,H1),.bool true,sb (KB y pp qq N M) H2⟩:=hD2
 refine or1 hD2 ?_
 rw [yu,hPK2.cy,hPK2.cp,hPK2.cq]
 obtain ⟨s3,F3,G3,E3,hJ3,hB3⟩:=hPK2.toJ.symlink (by omega) [98] [97,47,108] (by simp) (by simp)
 obtain ⟨s4,F4,G4,E4,hJ4,hB4⟩:=hJ3.D4 (by omega) [97,47,98] (by simp) ((f.toNat % 8:Nat):Int)
 obtain ⟨s5,F5,G5,E5,hJ5,hB5⟩:=hJ4.D4 (by omega) [97] (by simp) ((d.toNat % 8:Nat):Int)
 have hA3:=hB3.a;have hB3:=hB3.b;have hA4:=hB4.a;have hB4:=hB4.b;have hA5:=hB5.a;have hB5:=hB5.b
 have hjk:∀ i o,Mem.blk [(Oid.sub 0 0 x.p,.cells [.int .u8 w.toNat,.int .u8 240,.int .u8 b.toNat,.int .u8 k.toNat,.str (mv.getD (k.toNat % 7) default)])] [(KB y pp qq N M,jkP y st pp r qq cwd2 0 N F5 G5)] i=some o→_:=yv hJ5.ap _
 unfold prC at hA3 hB3 hA4 hB4 hA5 hB5 hjk ⊢
 refine or1 hA3 ?_
 refine or1 hB3 ?_
 refine od (.d [(7,11),(25,29)] [(17,61)] [5,7,8,9]) (ai hd8 hf8) (cq hA4 (cq hB4 (cq hA5 (cq hB5 trivial)))) ?_
 have hnr:=vA _ hlt
 generalize hg:mv.getD (k.toNat % 7) default=nr at hnr hjk
 refine ow (ai hml (ai h7 (ai hm7 hg))) ?_
 refine dy _ hjk ?_
 obtain ⟨s6,cwd6,H6,hPK6,hD6⟩:=jL hJ5 (by omega) 240 b k nr (by omega) (p:=.sub 13 7 x.p) (ar rfl hp) (hO.sub (by omega) 7) w
 have hD6:ah Tryz.prog 21 [.ptr y 0,.agg [.int .u8 w.toNat,.int .u8 240,.int .u8 b.toNat,.int .u8 k.toNat,.str nr]] (Oid.under (.sub 13 7 x.p)) ⟨bk (KB y pp qq N M,jkP y st pp r qq cwd2 0 N F5 G5),.bool true,sb (KB y pp qq N M) H6⟩:=hD6
 have hSm:=fun p hp ho=>hPK6.same (by omega) p hp ho
 unfold prC at hD6
 have hy6:Mem.blk [] [(KB y pp qq N M,H6)] y=some (.cells [.ptr st 0,.ptr pp 0,.ptr r 0,.ptr qq 0]):=by rw [aW,if_pos (by simp),hPK6.cy]
 have hmem:∀ i ∈ KB y pp qq N M,∀ ob,Mem.blk [(Oid.sub 0 0 x.p,ob)] [(KB y pp qq N M,H6)] i=some (H6 i):=fun i hi ob=>by
  rw [Mem.cm,if_neg (show ¬ i=Oid.sub 0 0 x.p from fun e=>hb0 (e ▸ hi)),aW,if_pos hi]
 obtain ⟨-,-,-,hON,hOM⟩:=KB.old (hO.sub (show 4≤13 by omega) 18)
 generalize jkP y st pp r qq cwd2 0 N F5 G5=HJ at hD6
 refine ij (HD.d [] [(1,91),(4,94),(9,99)] [6]) mixed hng (by kernel_rfl) fun hf C S K hC hS hK=>?_;refine ot hy6 ?_
 refine hC _ hD6 (on trivial) ?_
 refine ot hy6 ?_
 refine hC _ (hSm _ (ar rfl hp) hON hOM) (fun q hq=>?_) ?_
 ·rcases List.mem_append.1 hq with hq|hq
  all_goals
   obtain ⟨k1,k2⟩:=bR.1 hq
   rw [k2]
   exact hmem _ (by simp only [List.mem_cons,List.mem_append];simp [k1]) _
 refine ot hy6 ?_
 (first|refine hK (aM rfl) ?_|refine hK (by simp (disch:=first|omega|assumption) only [go_sem,List.reverse_cons,List.reverse_nil,ne_eq,not_false_eq_true,implies_true]) ?_);clear hK hS hC K S C hf
 refine ow0 ?_
 exact ay (bj rfl)
end Go.Proofs.YtmoaidkglldhcaaGreatDoor
namespace Go.Proofs.YtmoaidkglldhcaaGreatDoor
open Go Go.Ab
set_option maxRecDepth 20000
set_option maxHeartbeats 4000000
theorem jN {P:Program} [Laid P] {o:Oper} {ρ:Operand→AV} {sp:Oid→Prop} {s d el:TypeId} {y:Operand} {id:Oid} {l:Str} {ag:Bool} {sz bt:Nat} (ho:o.op = .convert s d y) (hy:ρ y = .sl id 1 l.length) (h0:0 < l.length)
  (hs:tyk P s=some (.slice el ag sz bt)) (h8:u8K (tyk P el)=true) (hd:tyk P d=some .str):aG P o ρ sp ⟨[(id,.arr 1 (l.map byA))],.str l,[]⟩:=by
 refine aG.of fun x g a w m hm hn hop _=>?_
 have hv:=hop y (by simp [Op.operands,ho])
 rw [hy] at hv
 obtain ⟨ds,hds,rfl,_⟩:=aK hs
 obtain ⟨dd,hdd,rfl⟩:=aK hd
 have he8:P.underlying el=some (.int .u8):=by
  unfold u8K at h8
  split at h8
  ·rename_i hk;obtain ⟨d8,h9,rfl⟩:=aK hk;exact h9
  ·cases h8
 obtain ⟨b,cap,hu,hb,hcap,hrw⟩:=hv.dM.resolve_left (fun h=>by omega)
 obtain ⟨b',h1,h2,h3,h4⟩:=hm.iN (hn (id,.arr 1 (l.map byA)) (by simp)) hb
 rw [hb] at h1;simp only [Option.some.injEq] at h1;subst h1
 obtain ⟨c,t,fz,c1,c2,c3,c4,c5,c6⟩:=h4
 have hcell:∀ j (hj:j < l.length),w.cell? ((⟨b,0,none⟩:Addr).add j)=some (.int .u8 (l[j].toNat:Int)):=fun j hj=>by
  have h6:=c6 j 0 (by simpa using hj) (by omega)
  have hx:(l.map byA).getD j .undef=byA l[j]:=by rw [List.getD_eq_getElem?_getD,List.getElem?_map,List.getElem?_eq_getElem hj];rfl
  rw [hx] at h6
  have h7:(byA l[j]).cells.getD 0 .undef = .int .u8 (l[j].toNat:Int):=rfl
  rw [h7] at h6
  have h8:=h6.bm
  have hsz:j < c.size:=by simp at c2;omega
  have hadd:((⟨b,0,none⟩:Addr).add j)=⟨b,j,none⟩:=by
   unfold Addr.add
   by_cases hj0:j=0
   ·subst hj0;simp
   ·simp [hj0]
  rw [hadd]
  rw [Array.getD_eq_getD_getElem?] at h8
  rw [show j * 1+0=j by omega,Array.getElem?_eq_getElem hsz] at h8
  simp only [Option.getD_some] at h8
  simp [World.cell?,c1,Array.getElem?_eq_getElem hsz,h8]
 have hrun:=run_convert_bytes_back (P:=P) w s d el ⟨b,0,none⟩ cap l hds he8 hdd hcell
 refine ⟨g,.value (.string ⟨l.toArray⟩),_,w,?_,.inl rfl,Gh.le_refl g,fun _ _=>rfl,.str _ _ rfl,hm⟩
 simp [execOp,ho,hu,hrun]
theorem mw {b:Oid} {ob:ao} {K:List Oid} {H:Oid→ao} (hb:b ∉ K) (i:Oid) (o:ao) (h:Mem.blk [] [(K,H)] i=some o):Mem.blk [(b,ob)] [(K,H)] i=some o:=by
 rw [Mem.cm,if_neg]
 ·exact h
 ·rintro rfl
  rw [aW,if_neg hb] at h
  cases h
theorem BH (P:Program) (s d:TypeId) (i:Oid) (sz n:Nat):nW P s d (.sl i sz n)=none:=by
 unfold nW
 split
 ·rename_i h;cases h
 ·rename_i h;cases h
 ·rfl
theorem long_ok (n k kd:UInt8) (p:Oid) (hp:p.mono=false):ah Tryz.prog 7 [.int .u8 n.toNat,.int .u8 k.toNat,.int .u8 kd.toNat] (Oid.under p) ⟨[],.bool true,[]⟩:=by
 have h8:((n.toNat:Int)).tmod 8=((n.toNat % 8:Nat):Int):=bF _ 8
 have h10:((n.toNat:Int)).tmod 10=((n.toNat % 10:Nat):Int):=bF _ 10
 have h3:((n.toNat:Int)).tmod 3=((n.toNat % 3:Nat):Int):=bF _ 3
 have h12:((k.toNat:Int)).tmod 12=((k.toNat % 12:Nat):Int):=bF _ 12
 have h4:((kd.toNat:Int)).tmod 4=((kd.toNat % 4:Nat):Int):=bF _ 4
 have hlr:∀ n:Nat,(List.replicate n (0:UInt8)).length=n:=fun n=>List.length_replicate
 have hcv:=fun i sz n=>BH Tryz.prog 55 9 i sz n
 have l8:n.toNat % 8 < 8:=Nat.mod_lt _ (by decide)
 refine aD (n:=184) (rs:=[.tmp 6]) Tryz.func7 rfl rfl (by decide) rfl rfl rfl ?_;rintro x rfl hrd hng
 (repeat (first|(refine aA rfl rfl ?_)|(refine az rfl rfl ?_)|(refine aw nmd [] hng (by kernel_rfl) fun hf C S K hC1 hC hS hK=>?_;simp (disch:=first|omega|assumption) only [go_sem];(repeat ((first|refine hC1 _ (eM _ (ar rfl hp)) (by simp (disch:=first|omega|assumption) only [go_sem]) ?_);simp (disch:=first|omega|assumption) only [go_sem]));refine hK ?_;clear hK hS hC hC1 K S C hf)|((first|refine zn ?_|refine ze ?_|refine zk ?_);with_reducible (constructor;repeat constructor);try refine zl ?_)))
 obtain ⟨y,st,pp,r,qq,N,M,H,hPK,hun,hB⟩:=gM 0 (.sub 3 0 x.p) (ar rfl hp)
 have hO:=jb hun
 clear hun
 rw [show c8 0 7=0 from rfl] at hPK
 refine qr1 hB ?_
 clear hB
 refine dy (Mem.blk [] [(KB y pp qq N M,H)]) (fun i o h=>by rw [← Mem.aJ];exact jc _ _ _ i o h) ?_
 have Q:=vx hO hPK.ap
 refine ow0 ?_
 refine aw nmd [] hng (by kernel_rfl) fun hf C S K hC1 hC hS hK=>?_;refine ot h8 ?_
 refine hS _ _ _ (fun o' hd ho'=>(im (nid:=.sub 5 4 x.p) (n:=28+n.toNat % 8) (v0:=.int .u8 0) (sz:=1) (bytes:=1) ho' rfl rfl rfl rfl rfl rfl (by omega) (by omega) (by omega) (Oid.aq _) rfl).nd) (fun _ h=>by cases h) ?_ (fun _ _ h=>h.elim)
 rintro _ _ ⟨rfl,rfl⟩
 refine ot (ai h8 hcv) ?_
 refine hS _ _ _ (fun o' hd ho'=>(jN (id:=.sub 5 4 x.p) (l:=List.replicate (28+n.toNat % 8) 0) ho' (by rw [List.length_replicate];rfl) (by rw [List.length_replicate];omega) rfl rfl rfl).nd) (by rw [List.map_replicate,show byA 0 = .int .u8 0 from rfl];exact qs0) ?_ (fun _ _ h=>h.elim)
 rintro _ _ ⟨rfl,rfl⟩
 refine ot h8 ?_
 refine hK ?_;clear hK hS hC hC1 K S C hf
 refine dy (Mem.blk [] [(KB y pp qq N M,H)]) (mw (hO.mem (by omega))) ?_
 generalize hnm:List.replicate (28+n.toNat % 8) (0:UInt8)=nm
 have hnl:nm.length≤100:=by rw [← hnm,List.length_replicate];omega
 clear hnm
 have l12:k.toNat % 12 < 12:=Nat.mod_lt _ (by decide)
 refine ow0 ?_
 refine bq [0,1,2,7,8,9,10,11] (fun q s'=>∃ (i c:Nat) (pt:Str),s' = ⟨[(0,.int .u8 n.toNat),(1,.int .u8 k.toNat),(2,.int .u8 kd.toNat),(7,.bool true),(8,.ptr y 0),(9,.str nm),(10,.str pt),(11,.int .i64 i)],Mem.blk [] [(KB y pp qq N M,H)],c,[]⟩∧q=k.toNat % 12 - i∧i≤k.toNat % 12∧pt.length≤5 * i∧6≤c) _ ⟨0,_,[],rfl,rfl,Nat.zero_le _,Nat.le_refl _,by decide⟩ ?_
 rintro q s' ⟨i,c,pt,rfl,rfl,hi,hpt,hc⟩
 refine ow h12 ?_
 refine aS rfl rfl (fun hb=>?_) (fun hb=>?_)
 case refine_1 =>
  refine ow0 ?_
  exact ⟨_,_,by omega,fun i o h=>h,i+1,_,pt++[97,47,46,46,47],rfl,rfl,by omega,by simp only [List.length_append,List.length_cons,List.length_nil];omega,by omega⟩
 have l10:n.toNat % 10 < 10:=Nat.mod_lt _ (by decide)
 have l3:n.toNat % 3 < 3:=Nat.mod_lt _ (by decide)
 refine ow0 ?_
 refine aw nmd [] hng (by kernel_rfl) fun hf C S K hC1 hC hS hK=>?_;refine ot h10 ?_
 refine hS _ _ _ (fun o' hd ho'=>(im (nid:=.sub (c+1) 5 x.p) (n:=140+n.toNat % 10) (v0:=.int .u8 0) (sz:=1) (bytes:=1) ho' rfl rfl rfl rfl rfl rfl (by omega) (by omega) (by omega) (Oid.aq _) rfl).nd) (fun _ h=>by cases h) ?_ (fun _ _ h=>h.elim)
 rintro _ _ ⟨rfl,rfl⟩
 refine ot (ai h10 hcv) ?_
 refine hS _ _ _ (fun o' hd ho'=>(jN (id:=.sub (c+1) 5 x.p) (l:=List.replicate (140+n.toNat % 10) 0) ho' (by rw [List.length_replicate];rfl) (by rw [List.length_replicate];omega) rfl rfl rfl).nd) (by rw [List.map_replicate,show byA 0 = .int .u8 0 from rfl];exact qs0) ?_ (fun _ _ h=>h.elim)
 rintro _ _ ⟨rfl,rfl⟩
 refine ot (ai h10 hlr) ?_
 refine hK ?_;clear hK hS hC hC1 K S C hf
 refine dy (Mem.blk [] [(KB y pp qq N M,H)]) (mw (hO.mem (by omega))) ?_
 generalize hpa:pt++List.replicate (140+n.toNat % 10) (0:UInt8)=pa
 have hpal:pa.length≤1000:=by rw [← hpa,List.length_append,List.length_replicate];omega
 clear hpa
 refine qv ?_
 refine aw nmd [] hng (by kernel_rfl) fun hf C S K hC1 hC hS hK=>?_;refine ot h3 ?_
 refine hS _ _ _ (fun o' hd ho'=>(im (nid:=.sub (c+1+1) 4 x.p) (n:=99999+n.toNat % 3) (v0:=.int .u8 0) (sz:=1) (bytes:=1) ho' rfl rfl rfl rfl rfl rfl (by omega) (by omega) (by omega) (Oid.aq _) rfl).nd) (fun _ h=>by cases h) ?_ (fun _ _ h=>h.elim)
 rintro _ _ ⟨rfl,rfl⟩
 refine ot (ai h3 hcv) ?_
 refine hS _ _ _ (fun o' hd ho'=>(jN (id:=.sub (c+1+1) 4 x.p) (l:=List.replicate (99999+n.toNat % 3) 0) ho' (by rw [List.length_replicate];rfl) (by rw [List.length_replicate];omega) rfl rfl rfl).nd) (by rw [List.map_replicate,show byA 0 = .int .u8 0 from rfl];exact qs0) ?_ (fun _ _ h=>h.elim)
 rintro _ _ ⟨rfl,rfl⟩
 refine ot h3 ?_
 refine hK ?_;clear hK hS hC hC1 K S C hf
 refine dy (Mem.blk [] [(KB y pp qq N M,H)]) (mw (hO.mem (by omega))) ?_
 generalize hda:List.replicate (99999+n.toNat % 3) (0:UInt8)=da
 have hdal:da.length≤1000000:=by rw [← hda,List.length_replicate];omega
 clear hda
 obtain ⟨s1,cwd1,H1,hPK1,hD1⟩:=jL hPK (by omega) 0 0 0 [] (by simp) (p:=.sub (c+1+1+1) 2 x.p) (ar rfl hp) (hO.sub (by omega) 2) 2
 have hD1:ah Tryz.prog 21 [.ptr y 0,.agg [.int .u8 2,.int .u8 0,.int .u8 0,.int .u8 0,.str []]] (Oid.under (.sub (c+1+1+1) 2 x.p)) ⟨bk (KB y pp qq N M,H),.bool true,sb (KB y pp qq N M) H1⟩:=hD1
 refine or1 hD1 ?_
 rw [dt,hPK1.cy,hPK1.cp,hPK1.cq]
 obtain ⟨yp,yq,pq,yN,yM,pN,pM,qN,qM,hdj⟩:=id hPK1.ap
 have hJ1:=hPK1.toJ
 refine or .o h4 trivial ?_
 have l4:kd.toNat % 4 < 4:=Nat.mod_lt _ (by decide)
 generalize kd.toNat % 4=z at l4
 have hz:z=0∨z=1∨z=2∨z=3:=by omega
 rcases hz with rfl|rfl|rfl|rfl
 ·refine ow0 ?_
  obtain ⟨s2,F2,G2,E,hJ2,hB2⟩:=hJ1.Gv (by omega) nm (by omega)
  have hSm:=fun p hp ho=>hJ2.same (by omega) p hp ho
  have hA2:=hB2.a;have hB2:=hB2.b;unfold prC at hA2 hB2 ⊢
  refine ij (HD.d [(7,11)] [(1,58),(16,73)] [6]) mixed hng (by kernel_rfl) fun hf C S K hC hS hK=>?_;refine ot0 ?_
  refine hC _ (om hA2) (on trivial) ?_;refine ot0 ?_
  refine hC _ (om hB2) (on trivial) ?_;refine ot0 ?_
  refine hC _ (hSm _ (ar rfl hp) (hO.sub (by omega) _)) (fun q hq=>?_) ?_
  ·rcases List.mem_append.1 hq with hq|hq
   ·exact iJ (by simp [yN,pN,qN]) _ q hq
   ·exact iK (by simp [yM,pM,qM]) hdj _ q hq
  refine ot0 ?_
  (first|refine hK (aM rfl) ?_|refine hK (by simp (disch:=first|omega|assumption) only [go_sem,List.reverse_cons,List.reverse_nil,ne_eq,not_false_eq_true,implies_true]) ?_);clear hK hS hC K S C hf
  refine ow0 ?_
  exact ay (bj rfl)
 ·refine ow0 ?_
  obtain ⟨s2,F2,G2,E,hJ2,hB2⟩:=hJ1.write (by omega) pa [120] (by omega) (by simp) false
  have hSm:=fun p hp ho=>hJ2.same (by omega) p hp ho
  have hA2:=hB2.a;have hB2:=hB2.b;unfold prC at hA2 hB2 ⊢
  refine ij (HD.d [(7,11)] [(1,87),(16,102)] [6]) mixed hng (by kernel_rfl) fun hf C S K hC hS hK=>?_;refine ot0 ?_
  refine hC _ (om hA2) (on trivial) ?_;refine ot0 ?_
  refine hC _ (om hB2) (on trivial) ?_;refine ot0 ?_
  refine hC _ (hSm _ (ar rfl hp) (hO.sub (by omega) _)) (fun q hq=>?_) ?_
  ·rcases List.mem_append.1 hq with hq|hq
   ·exact iJ (by simp [yN,pN,qN]) _ q hq
   ·exact iK (by simp [yM,pM,qM]) hdj _ q hq
  refine ot0 ?_
  (first|refine hK (aM rfl) ?_|refine hK (by simp (disch:=first|omega|assumption) only [go_sem,List.reverse_cons,List.reverse_nil,ne_eq,not_false_eq_true,implies_true]) ?_);clear hK hS hC K S C hf
  refine ow0 ?_
  exact ay (bj rfl)
 ·refine ow0 ?_
  obtain ⟨s2,F2,G2,E,hJ2,hB2⟩:=hJ1.symlink (by omega) pa [108] (by simp) (by omega)
  have hSm:=fun p hp ho=>hJ2.same (by omega) p hp ho
  have hA2:=hB2.a;have hB2:=hB2.b;unfold prC at hA2 hB2 ⊢
  refine ij (HD.d [(7,11)] [(1,116),(16,131)] [6]) mixed hng (by kernel_rfl) fun hf C S K hC hS hK=>?_;refine ot0 ?_
  refine hC _ (om hA2) (on trivial) ?_;refine ot0 ?_
  refine hC _ (om hB2) (on trivial) ?_;refine ot0 ?_
  refine hC _ (hSm _ (ar rfl hp) (hO.sub (by omega) _)) (fun q hq=>?_) ?_
  ·rcases List.mem_append.1 hq with hq|hq
   ·exact iJ (by simp [yN,pN,qN]) _ q hq
   ·exact iK (by simp [yM,pM,qM]) hdj _ q hq
  refine ot0 ?_
  (first|refine hK (aM rfl) ?_|refine hK (by simp (disch:=first|omega|assumption) only [go_sem,List.reverse_cons,List.reverse_nil,ne_eq,not_false_eq_true,implies_true]) ?_);clear hK hS hC K S C hf
  refine ow0 ?_
  exact ay (bj rfl)
 ·refine ow0 ?_
  obtain ⟨s2,F2,G2,E,hJ2,hB2⟩:=hJ1.write (by omega) [102] da (by simp) (by omega) false
  obtain ⟨s3,F3,G3,E3,hJ3,hB3⟩:=hJ2.write (by omega) [102] [120,121] (by simp) (by simp) true
  have hSm:=fun p hp ho=>hJ3.same (by omega) p hp ho
  have hA2:=hB2.a;have hB2:=hB2.b;have hA3:=hB3.a;have hB3:=hB3.b;unfold prC at hA2 hB2 hA3 hB3 ⊢
  refine od (.d [(5,9)] [] [7,8,13,14]) trivial (cq hA2 (cq hB2 trivial)) ?_
  refine ow0 ?_
  refine ij (HD.d [(11,15)] [(1,155),(6,160),(19,173)] [6]) mixed hng (by kernel_rfl) fun hf C S K hC hS hK=>?_;refine ot0 ?_
  refine hC _ (om hA3) (on trivial) ?_;refine ot0 ?_
  refine hC _ (om hB3) (on trivial) ?_;refine ot0 ?_
  refine hC _ (hSm _ (ar rfl hp) (hO.sub (by omega) _)) (fun q hq=>?_) ?_
  ·rcases List.mem_append.1 hq with hq|hq
   ·exact iJ (by simp [yN,pN,qN]) _ q hq
   ·exact iK (by simp [yM,pM,qM]) hdj _ q hq
  refine ot0 ?_
  (first|refine hK (aM rfl) ?_|refine hK (by simp (disch:=first|omega|assumption) only [go_sem,List.reverse_cons,List.reverse_nil,ne_eq,not_false_eq_true,implies_true]) ?_);clear hK hS hC K S C hf
  refine ow0 ?_
  exact ay (bj rfl)
end Go.Proofs.YtmoaidkglldhcaaGreatDoor
namespace Go.Proofs.YtmoaidkglldhcaaGreatDoor
open Go Go.Ab
set_option maxRecDepth 100000
theorem c_str:Tryz.prog.cellsOf 9=1:=by kernel_rfl
theorem c_u8:Tryz.prog.cellsOf 5=1:=by kernel_rfl
theorem BI:Tryz.prog.cellsOf 41=5:=by kernel_rfl
theorem Gw:Tryz.prog.bytesOf 41=24:=by kernel_rfl
theorem rd_act:Rd Tryz.prog 41 bu (fun a=>a.raw.length≤reachBytes) :=
 (xb Tryz.underlying41 (by kernel_rfl) (jx rfl (rd_u8 Tryz.underlying5 c_u8) (jx (by rw [c_u8]) (rd_u8 Tryz.underlying5 c_u8) (jx (by rw [c_u8]) (rd_u8 Tryz.underlying5 c_u8) (jx (by rw [c_u8]) (rd_u8 Tryz.underlying5 c_u8) (jx (by rw [c_u8]) (rd_str Tryz.underlying9 c_str) (Cd _))))))).map
  (fun p=>⟨p.1,p.2.1,p.2.2.1,p.2.2.2.1,p.2.2.2.2.1⟩) (fun _ _=>rfl) (fun _=>BI.symm) (fun _ h=>h.2.2.2.2.1)
theorem c_acts:Tryz.prog.cellsOf 39=1:=by kernel_rfl
theorem rd_acts:Rd Tryz.prog 39 (fun l:List ActK=>.list 5 (l.map bu)) (fun l=>l.length≤140737488355328) :=
 (zK Tryz.underlying39 c_acts (by rw [BI];decide) rd_act).map id (fun _ _=>by rw [BI];rfl) (fun _=>c_acts.symm) (fun l h=>by
  have h1:=h.1
  rw [Gw] at h1
  unfold reachBytes at h1
  show l.length≤_
  omega)
theorem c_bool:Tryz.prog.cellsOf 4=1:=by kernel_rfl
theorem c_int:Tryz.prog.cellsOf 3=1:=by kernel_rfl
end Go.Proofs.YtmoaidkglldhcaaGreatDoor
