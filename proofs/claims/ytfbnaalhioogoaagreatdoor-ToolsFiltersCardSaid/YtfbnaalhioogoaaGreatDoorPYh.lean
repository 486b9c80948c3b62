/- A part of the proof: the texts Z35, Z36, KO, KR, KP, KQ, KT, KU, Z37, KV, LA, TI, W1, W2, MU, one behind the other. -/
import Derived.Test.YtfbnaalhioogoaaGreatDoorPYg
set_option linter.unusedVariables false
set_option linter.unusedSimpArgs false
set_option linter.unusedSectionVars false
namespace Go.Proofs.YtfbnaalhioogoaaGreatDoor
open Go Go.Ab
set_option maxRecDepth 20000
set_option maxHeartbeats 4000000
theorem nq {N:List Oid} {G:Oid→aw} (m:Mem):∀ x,x ∈ bk (N,G)→(m.aI (sb N G)) x.1=some x.2:=fun x hx=>by
 obtain ⟨h1,h2⟩:=cA.1 hx
 rw [dV,if_pos h1,h2]
theorem p5 {A:List (Oid × aw)} {N:List Oid} {F:Oid→aw} (hA:∀ e ∈ A,e.1 ∉ N) (Bs:List Bk):∀ x,x ∈ bk (N,F)→Mem.blk A ((N,F)::Bs) x.1=some x.2:=by
 induction A with
 | nil=>intro x hx;obtain ⟨h1,h2⟩:=cA.1 hx;rw [bG,if_pos h1,h2]
 | cons a A ih =>
  intro x hx
  rw [Mem.gW,if_neg fun e:x.1=a.1=>hA a List.mem_cons_self (e ▸ (cA.1 hx).1)]
  exact ih (fun e he=>hA e (List.mem_cons_of_mem _ he)) x hx
theorem Hy {A:List (Oid × aw)} {N M:List Oid} {F G:Oid→aw} (hA:∀ e ∈ A,e.1 ∉ M) (hd:DJ N M) (Bs:List Bk):∀ x,x ∈ bk (M,G)→Mem.blk A ((N,F)::(M,G)::Bs) x.1=some x.2:=by
 induction A with
 | nil=>intro x hx;obtain ⟨h1,h2⟩:=cA.1 hx;rw [bG,if_neg (fun h=>hd _ h h1),bG,if_pos h1,h2]
 | cons a A ih =>
  intro x hx
  rw [Mem.gW,if_neg fun e:x.1=a.1=>hA a List.mem_cons_self (e ▸ (cA.1 hx).1)]
  exact ih (fun e he=>hA e (List.mem_cons_of_mem _ he)) x hx
section
variable {pr st r:Oid} {s:St} {RD WR:List Tch} {N M:List Oid} {H:Oid→aw} (h:va pr st r s RD WR N M H) (b m k l:UInt8) {p:Oid} (hp:p.mono=false) (hO:bE p (pr::(N++M)))
include h hp hO
end
end Go.Proofs.YtfbnaalhioogoaaGreatDoor
namespace Go.Proofs.YtfbnaalhioogoaaGreatDoor
open Go Go.Ab
set_option maxRecDepth 20000
set_option maxHeartbeats 4000000
theorem wI {r:Oid} {s:St} {M:List Oid} {G:Oid→aw} (h:fO r s M G) (hs:SOK s) (p:Oid) (ho:bE p M):af Tryz.prog 48 [.ptr r 0] (Oid.under p) ⟨bk (M,G),.list 1 ((s.L.map (·.1)).map AV.str),[]⟩:=by
 have key:∃ OO RR WW:AV,∃ tr:Bool,G r = .cells [.list 4 (s.L.map aL),OO,RR,WW,.bool tr]:=by
  obtain ⟨L,t0⟩:=s
  obtain ⟨rfl,h⟩:=h
  cases t0 with
  | none=>obtain ⟨OO,h⟩:=h;exact ⟨_,_,_,_,h⟩
  | some q=>exact ⟨_,_,_,_,h⟩
 obtain ⟨OO,RR,WW,tr,hG⟩:=key
 have hM:M=[r]:=by
  obtain ⟨L,t0⟩:=s
  exact h.1
 have hr:r ∈ M:=by rw [hM];exact List.mem_singleton.2 rfl
 rw [List.map_map]
 refine af.DI (zf r s.L hs.po.len OO RR WW tr p (ho r hr)) fun q hq=>?_
 rw [List.mem_singleton.1 hq]
 exact cA.2 ⟨hr,hG.symm⟩
theorem DM {st r:Oid} {s:St} {N M:List Oid} {F G:Oid→aw} (h1:dA st s N F) (h2:fO r s M G) (hs:SOK s) (hR:∀ q,s.t=some q→q.R.length+s.L.length≤1000000∧q.W.length≤1000000) (hdj:DJ N M)
  (p:Oid) (hp:p.mono=false) (hO:bE p N) (hO':bE p M):af Tryz.prog 16 [.ptr st 0,.ptr r 0] (Oid.under p) ⟨bk (N,F)++bk (M,G),.bool true,gone (N++M)⟩:=by
 have hpa:=fun p ho=>Ak h1 hs p ho
 have hpb:=fun p ho=>wI h2 hs p ho
 have hzl:(s.L.map (·.1)).length≤1000000:=by rw [List.length_map];exact hs.po.len
 have hzk:∀ n ∈ s.L.map (·.1),n.length≤1000000:=fun n hn=>by
  obtain ⟨q,hq,rfl⟩:=List.mem_map.1 hn
  exact hs.po.key q hq
 have hR':∀ q,s.t=some q→q.R.length+(s.L.map (·.1)).length≤1000000∧q.W.length≤1000000:=by rw [List.length_map];exact hR
 rw [show (s.L.map fun q:Str × Bits=>AV.str q.1)=(s.L.map (·.1)).map AV.str by rw [List.map_map];rfl] at hpa
 generalize s.L.map (·.1)=PS at hpa hpb hzl hzk hR'
 have hsm:=fun p=>Gz PS PS (by omega) (by omega) p
 rw [decide_eq_true rfl] at hsm
 refine aJ (n:=33) (rs:=[.tmp 4]) Tryz.func16 rfl rfl (by decide) rfl rfl rfl ?_;rintro x rfl hrd hng
 rw [GJ]
 refine qr0 ?_
 refine aj nmd [] hng (by kernel_rfl) fun hf C S K hC1 hC hS hK=>?_;simp (disch:=first|omega|assumption) only [go_sem]
 refine hC1 _ (hpb _ (hO'.sub _ _)) (by first|exact nq _|exact Hy (by simp) hdj _) ?_
 simp (disch:=first|omega|assumption) only [go_sem]
 refine hK ?_;clear hK hS hC hC1 K S C hf
 (try ((first|refine zn ?_|refine ze ?_|refine zk ?_);with_reducible (constructor;repeat constructor));try refine zl ?_)
 refine aj nmd [] hng (by kernel_rfl) fun hf C S K hC1 hC hS hK=>?_;simp (disch:=first|omega|assumption) only [go_sem,decide_true,decide_false,ne_eq,not_true_eq_false,not_false_eq_true]
 refine hC1 _ (hpa _ (hO.sub _ _)) (by first|exact nq _|exact p5 (by simp) _) ?_
 simp (disch:=first|omega|assumption) only [go_sem,decide_true,decide_false,ne_eq,not_true_eq_false,not_false_eq_true]
 refine hC1 _ (hsm _) (fun _ h=>by cases h) ?_
 simp (disch:=first|omega|assumption) only [go_sem,decide_true,decide_false,ne_eq,not_true_eq_false,not_false_eq_true]
 refine hK ?_;clear hK hS hC hC1 K S C hf
 refine qw0 ?_
 refine bm [0,1,5,6] (fun k s'=>∃ (i c:Nat) (z:St) (F G:Oid→aw),s' = ⟨[(0,.ptr st 0),(1,.ptr r 0),(5,.list 1 (PS.map AV.str)),(6,.int .i64 i)],Mem.blk [] [(N,F),(M,G)],c,[]⟩∧k=PS.length - i∧i≤PS.length∧dA st z N F∧fO r z M G∧SOK z ∧
  ∀ q,z.t=some q→q.R.length+(PS.length - i)≤1000000∧q.W.length≤1000000) _ ⟨0,_,s,_,_,rfl,rfl,Nat.zero_le _,h1,h2,hs,hR'⟩ ?_
 clear h1 h2 hs hR hR' hpa hpb
 rintro k s' ⟨i,c,z,F1,G1,rfl,rfl,hi,h1,h2,hs,hR⟩
 (repeat (first|(refine aq rfl rfl ?_)|(refine ar rfl rfl ?_)|(refine aj nmd [] hng (by kernel_rfl) fun hf C S K hC1 hC hS hK=>?_;simp (disch:=first|omega|assumption) only [go_sem,List.length_map];refine hK ?_;clear hK hS hC hC1 K S C hf)|((first|refine zn ?_|refine ze ?_|refine zk ?_);with_reducible (constructor;repeat constructor);try refine zl ?_)))
 refine aX rfl rfl (fun hb=>?_) (fun hb=>?_)
 ·have hlt:i < PS.length:=by omega
  have hgl:=hzk (PS.getD i default) (by rw [cg hlt];exact List.getElem_mem hlt)
  generalize hg:PS.getD i default=g at hgl
  obtain ⟨F',hF,hA⟩:=CB h1 hs g (by omega)
  obtain ⟨G',hG,hB⟩:=CD h2 hs (fun q hq=>by have:=hR q hq;omega) g (by omega)
  have hs':=hs.read (g,false)
  have hR':∀ q,(z.read (g,false)).t=some q→q.R.length+(PS.length - (i+1))≤1000000∧q.W.length≤1000000:=fun q hq=>by
   simp only [St.read,Option.map_eq_some_iff] at hq
   obtain ⟨a,ha,rfl⟩:=hq
   have h3:=hR a ha
   have h4:=jY (old:=a.old) (W:=a.W) (f:=(g,false)) (hs.tr a ha).sr
   have h5:(a.read (g,false)).R.length≤a.R.length+1:=h4
   have h6:(a.read (g,false)).W=a.W:=rfl
   rw [h6];omega
  generalize aO z.L g=B at hA hB
  obtain ⟨ek,em,el⟩:=B
  simp only [Bits.av] at hA hB
  (try ((first|refine zn ?_|refine ze ?_|refine zk ?_);with_reducible (constructor;repeat constructor));try refine zl ?_)
  refine cX nmd [] [(5,10)] mixed hng (by kernel_rfl) [0,1,5,6,32] fun hf C S K hC hS hK=>?_;simp (disch:=first|omega|assumption) only [go_sem,hg,List.length_map]
  refine hC _ (hA _ (ax rfl hp) (hO.sub _ _)) (by first|exact nq _|exact p5 (by simp) _) ?_
  simp (disch:=first|omega|assumption) only [go_sem,hg,List.length_map]
  refine hC _ (hB _ (ax rfl hp) (hO'.sub _ _)) (by first|exact nq _|exact Hy (by simp) hdj _) ?_
  simp (disch:=first|omega|assumption) only [go_sem,hdj,eq_self,decide_true,decide_false,ne_eq,not_true_eq_false,not_false_eq_true]
  (first|refine hK (aV rfl) ?_|refine hK (by simp (disch:=first|omega|assumption) only [go_sem,List.reverse_cons,List.reverse_nil,ne_eq,not_false_eq_true,implies_true]) ?_);clear hK hS hC K S C hf
  refine qw0 ?_
  exact ⟨_,_,by omega,fun _ _ h=>h,i+1,_,_,_,_,rfl,rfl,by omega,hF,hG,hs',hR'⟩
 ·refine qw0 ?_
  exact aA (zI rfl)
end Go.Proofs.YtfbnaalhioogoaaGreatDoor
namespace Go.Proofs.YtfbnaalhioogoaaGreatDoor
open Go Go.Ab
set_option maxRecDepth 20000
theorem DN {st:Oid} {N:List Oid}:∀ (l:Pts) (s:St) (F:Oid→aw),dA st s N F→SOK s→s.L.length+l.length≤1000000→(∀ q ∈ l,q.1.length≤1000000∧VK q.2)→∃ F',dA st (s.pts l) N F'∧PP st N l F F'
 | [],s,F,h,_,_,_=>⟨F,h,rfl⟩
 | q::l,s,F,h,hs,hl,hv=>by
  have hq:=hv q List.mem_cons_self
  simp only [List.length_cons] at hl
  have hs1:=hs.put q.1 q.2 (by omega) hq.1 hq.2.ok hq.2.pos
  have hl1:(s.put q.1 q.2).L.length≤s.L.length+1:=jA q.1 q.2 s.L
  obtain ⟨F1,h1,h2⟩:=GO h hs q.1 q.2
  obtain ⟨F',k1,k2⟩:=DN l (s.put q.1 q.2) F1 h1 hs1 (by omega) fun x hx=>hv x (List.mem_cons_of_mem _ hx)
  exact ⟨F',k1,F1,h2,k2⟩
theorem Ik {r:Oid} {M:List Oid}:∀ (l:Pts) (s:St) (F:Oid→aw),fO r s M F→SOK s→s.L.length+l.length≤1000000→(∀ q ∈ l,q.1.length≤1000000∧VK q.2)→(∀ q,s.t=some q→q.R.length≤1000000∧q.W.length+l.length≤1000000)→∃ F',fO r (s.pts l) M F'∧PR r M l F F'
 | [],s,F,h,_,_,_,_=>⟨F,h,rfl⟩
 | q::l,s,F,h,hs,hl,hv,hR=>by
  have hq:=hv q List.mem_cons_self
  simp only [List.length_cons] at hl hR
  have hs1:=hs.put q.1 q.2 (by omega) hq.1 hq.2.ok hq.2.pos
  have hl1:(s.put q.1 q.2).L.length≤s.L.length+1:=jA q.1 q.2 s.L
  obtain ⟨F1,h1,h2⟩:=CE h hs (fun x hx=>by have:=hR x hx;omega) q.1 q.2
  obtain ⟨F',k1,k2⟩:=Ik l (s.put q.1 q.2) F1 h1 hs1 (by omega) (fun x hx=>hv x (List.mem_cons_of_mem _ hx)) fun x hx=>by
   simp only [St.put,Option.map_eq_some_iff] at hx
   obtain ⟨q0,h5,rfl⟩:=hx
   have h6:=hR q0 h5
   have h7:=oW (n:=q.1) (hs.tr q0 h5).sw
   refine ⟨h6.1,?_⟩
   show (fe true q.1 q0.W).length+_≤_
   omega
  exact ⟨F',k1,F1,h2,k2⟩
def jk (y pp qq:Oid) (a b c:aw) (N:List Oid) (F G:Oid→aw):Oid→aw:=fun i=>if i=y then a else if i=pp then b else if i=qq then c else if i ∈ N then F i else G i
structure Apt (y pp qq:Oid) (N M:List Oid):Prop where
 yp:¬ y=pp
 yq:¬ y=qq
 pq:¬ pp=qq
 yN:y ∉ N
 yM:y ∉ M
 pN:pp ∉ N
 pM:pp ∉ M
 qN:qq ∉ N
 qM:qq ∉ M
 dj:DJ N M
abbrev KB (y pp qq:Oid) (N M:List Oid):List Oid:=y::pp::qq::(N++M)
section
variable {y pp qq:Oid} {N M:List Oid} (h:Apt y pp qq N M) {a b c:aw} {F G:Oid→aw}
include h
omit h in
theorem M0:jk y pp qq a b c N F G y=a:=if_pos rfl
theorem M1:jk y pp qq a b c N F G pp=b:=by unfold jk;rw [if_neg (fun e=>h.yp e.symm),if_pos rfl]
theorem M3:jk y pp qq a b c N F G qq=c:=by unfold jk;rw [if_neg (fun e=>h.yq e.symm),if_neg (fun e=>h.pq e.symm),if_pos rfl]
theorem M4:∀ i ∈ N,jk y pp qq a b c N F G i=F i:=fun i hi=>by
 unfold jk;rw [if_neg (fun e:i=y=>h.yN (e ▸ hi)),if_neg (fun e:i=pp=>h.pN (e ▸ hi)),if_neg (fun e:i=qq=>h.qN (e ▸ hi)),if_pos hi]
theorem M5:∀ i ∈ M,jk y pp qq a b c N F G i=G i:=fun i hi=>by
 unfold jk;rw [if_neg (fun e:i=y=>h.yM (e ▸ hi)),if_neg (fun e:i=pp=>h.pM (e ▸ hi)),if_neg (fun e:i=qq=>h.qM (e ▸ hi)),if_neg (fun hn=>h.dj i hn hi)]
end
theorem Am (y pp qq:Oid) (N M:List Oid) (H:Oid→aw):Mem.of (bk (KB y pp qq N M,H))=Mem.blk [(y,H y),(pp,H pp),(qq,H qq)] [(N,H),(M,H)]:=by
 simp [Mem.blk,bk,List.map_append]
structure gB (y st pp r qq:Oid) (s:St) (cwd:Str) (um:Int) (n:Nat) (N M:List Oid) (H:Oid→aw):Prop where
 ap:Apt y pp qq N M
 cy:H y = .cells [.ptr st 0,.ptr pp 0,.ptr r 0,.ptr qq 0]
 cp:H pp=prC st cwd um
 cq:H qq=prC r cwd um
 sp:dA st s N H
 sr:fO r s M H
 ks:KS s cwd n
 um:0≤um∧um≤7
abbrev jkP (y st pp r qq:Oid) (cwd:Str) (um:Int) (N:List Oid) (F G:Oid→aw):Oid→aw:=jk y pp qq (.cells [.ptr st 0,.ptr pp 0,.ptr r 0,.ptr qq 0]) (prC st cwd um) (prC r cwd um) N F G
theorem gB.mk' {y st pp r qq:Oid} {s:St} {cwd:Str} {um:Int} {n:Nat} {N M:List Oid} {F G:Oid→aw} (ap:Apt y pp qq N M) (sp:dA st s N F) (sr:fO r s M G) (ks:KS s cwd n) (um':0≤um∧um≤7) :
  gB y st pp r qq s cwd um n N M (jkP y st pp r qq cwd um N F G) :=
 ⟨ap,M0,M1 ap,M3 ap,sp.congr (M4 ap),sr.congr (M5 ap),ks,um'⟩
section
variable {y st pp r qq:Oid} {s:St} {cwd:Str} {um:Int} {n:Nat} {N M:List Oid} {H:Oid→aw} (h:gB y st pp r qq s cwd um n N M H)
include h
omit h in
theorem KB.old {p:Oid} (ho:bE p (KB y pp qq N M)):¬ Oid.under p y∧¬ Oid.under p pp∧¬ Oid.under p qq∧bE p N∧bE p M :=
 ⟨ho y (by simp),ho pp (by simp),ho qq (by simp),fun i hi=>ho i (by simp [hi]),fun i hi=>ho i (by simp [hi])⟩
theorem gB.ops (hn:n≤40) {x:Rds × Rs Pts} (hx:OpB (cwd.length+2700) x) :
  ∃ F1 F2 G1 G2,dA st ((s.rds x.1).pts (dP x.2)) N F2∧fO r ((s.rds x.1).pts (dP x.2)) M G2∧RP st N s.L x.1 H F1∧PP st N (dP x.2) F1 F2∧RR' r M s.L x.1 H G1∧PR r M (dP x.2) G1 G2:=by
 have hks:=h.ks
 have hcl:=hks.cl
 have hlen:=hks.len
 have hpl:=hx.pl
 have hrl:=hx.rl
 have h1:=hks.ok.rds x.1
 have hL:(s.rds x.1).L=s.L:=CF x.1 s
 have hrd:∀ f ∈ x.1,f.1.length≤140737488355000:=fun f hf=>by have:=hx.rd f hf;omega
 have hpt:∀ q ∈ dP x.2,q.1.length≤1000000∧VK q.2:=fun q hq=>⟨by have:=(hx.pt q hq).1;omega,(hx.pt q hq).2⟩
 obtain ⟨F1,a1,a2⟩:=CG x.1 s H h.sp hks.ok hrd
 obtain ⟨F2,a3,a4⟩:=DN (dP x.2) (s.rds x.1) F1 a1 h1 (by rw [hL];omega) hpt
 obtain ⟨G1,b1,b2⟩:=HP x.1 s H h.sr hks.ok (fun q hq=>by have:=hks.tr q hq;omega) hrd
 obtain ⟨G2,b3,b4⟩:=Ik (dP x.2) (s.rds x.1) G1 b1 h1 (by rw [hL];omega) hpt fun q hq=>by
  obtain ⟨q0,e1,e2,e3,e4⟩:=sM x.1 s hks.ok q hq
  have:=hks.tr q0 e1
  rw [e3];omega
 exact ⟨F1,F2,G1,G2,a3,b3,a2,a4,b2,b4⟩
theorem gB.op (hn:n≤40) {x:Rds × Rs Pts} (hx:OpK s.L cwd x) :
  ∃ F1 F2 G1 G2,gB y st pp r qq ((s.rds x.1).pts (dP x.2)) cwd um (n+1) N M (jkP y st pp r qq cwd um N F2 G2)∧RP st N s.L x.1 H F1∧PP st N (dP x.2) F1 F2∧RR' r M s.L x.1 H G1∧PR r M (dP x.2) G1 G2:=by
 obtain ⟨F1,F2,G1,G2,a,b,c⟩:=h.ops hn hx.b
 exact ⟨F1,F2,G1,G2,.mk' h.ap a b (h.ks.op (by omega) hx) h.um,c⟩
theorem gB.rd (hn:n≤40) {α:Type} {k:Nat} {V:α→Prop} {x:Rds × Rs α} (hx:RdB (cwd.length+2700) k x V) (hk:k≤20000) :
  ∃ F1 G1,gB y st pp r qq (s.rds x.1) cwd um (n+1) N M (jkP y st pp r qq cwd um N F1 G1)∧RP st N s.L x.1 H F1∧RR' r M s.L x.1 H G1:=by
 obtain ⟨F1,F2,G1,G2,a,b,c,c1,d,d1⟩:=h.ops hn (hx.opb hk)
 obtain rfl:F1=F2:=c1
 obtain rfl:G1=G2:=d1
 exact ⟨F1,G1,.mk' h.ap a b (h.ks.rd (by omega) hx hk) h.um,c,d⟩
end
end Go.Proofs.YtfbnaalhioogoaaGreatDoor
namespace Go.Proofs.YtfbnaalhioogoaaGreatDoor
open Go Go.Ab
set_option maxRecDepth 20000
set_option maxHeartbeats 8000000
section
variable {pp st:Oid} {N:List Oid} {F F1 F2:Oid→aw} {L:PL} (hK:KL L) (hm:∀ n,0≤(aO L n).m∧(aO L n).m≤7) {cwd:Str} (hc:cwd.length≤1000000) (um:Int) (hpN:pp ∉ N) {p:Oid} (hp:p.mono=false) (hpp:¬ Oid.under p pp) (hO:bE p N)
include hK hm hc hpN hp hpp hO
end
end Go.Proofs.YtfbnaalhioogoaaGreatDoor
namespace Go.Proofs.YtfbnaalhioogoaaGreatDoor
open Go Go.Ab
set_option maxRecDepth 20000
set_option maxHeartbeats 8000000
structure Mz where
 w:UInt8
 a:UInt8
 b:UInt8
 n:UInt8
 raw:Str
instance:Inhabited Mz:=⟨⟨0,0,0,0,[]⟩⟩
def M6 (a:Mz):AV:=.agg [.int .u8 a.w.toNat,.int .u8 a.a.toNat,.int .u8 a.b.toNat,.int .u8 a.n.toNat,.str a.raw]
attribute [go_sem] M6 AV.cells
theorem Hz (st:Oid) (cwd:Str) (um:Int) (p:Oid):af Tryz.prog 24 [.ptr st 0,.str cwd,.int .i64 um] (Oid.under p) ⟨[],.ptr (.sub 1 5 p) 0,[(.sub 1 5 p,some (prC st cwd (iQ um 7)))]⟩:=by
 refine aJ (n:=13) (rs:=[.tmp 6]) Tryz.func24 rfl rfl (by decide) rfl rfl rfl ?_;rintro x rfl hrd hng
 refine qw0 ?_
 refine aA (aZ rfl ?_ ?_)
 all_goals simp [Mem.ao,prC]
theorem HA (st:Oid) (cwd:Str) (um:Int) (p:Oid):af Tryz.prog 52 [.ptr st 0,.str cwd,.int .i64 um] (Oid.under p) ⟨[],.ptr (.sub 1 5 p) 0,[(.sub 1 5 p,some (prC st cwd (iQ um 7)))]⟩:=by
 refine aJ (n:=13) (rs:=[.tmp 6]) Tryz.func52 rfl rfl (by decide) rfl rfl rfl ?_;rintro x rfl hrd hng
 refine qw0 ?_
 refine aA (aZ rfl ?_ ?_)
 all_goals simp [Mem.ao,prC]
end Go.Proofs.YtfbnaalhioogoaaGreatDoor
namespace Go.Proofs.YtfbnaalhioogoaaGreatDoor
open Go Go.Ab
set_option maxRecDepth 20000
set_option maxHeartbeats 8000000
section
variable {y st pp r qq:Oid} {s:St} {cwd:Str} {um:Int} {n:Nat} {N M:List Oid} {H:Oid→aw} (h:gB y st pp r qq s cwd um n N M H) (hn:n≤40) (b c k:UInt8) (raw:Str) (hraw:raw.length≤140737488355328) {p:Oid} (hp:p.mono=false) (hO:bE p (KB y pp qq N M))
include h hn hp hO hraw
end
end Go.Proofs.YtfbnaalhioogoaaGreatDoor
namespace Go.Proofs.YtfbnaalhioogoaaGreatDoor
open Go Go.Ab
set_option maxRecDepth 20000
set_option maxHeartbeats 8000000
section
variable {y st pp r qq:Oid} {s:St} {cwd:Str} {um:Int} {n:Nat} {N M:List Oid} {H:Oid→aw} (h:gB y st pp r qq s cwd um n N M H) (hn:n≤40) (b c k:UInt8) (raw:Str) (hraw:raw.length≤140737488355328) {p:Oid} (hp:p.mono=false) (hO:bE p (KB y pp qq N M))
include h hn hp hO hraw
end
end Go.Proofs.YtfbnaalhioogoaaGreatDoor
namespace Go.Proofs.YtfbnaalhioogoaaGreatDoor
open Go Go.Ab
set_option maxRecDepth 20000
set_option maxHeartbeats 8000000
section
variable {y st pp r qq:Oid} {s:St} {cwd:Str} {um:Int} {n:Nat} {N M:List Oid} {H:Oid→aw} (h:gB y st pp r qq s cwd um n N M H) (hn:n≤40) (b c k:UInt8) (raw:Str) (hraw:raw.length≤140737488355328) {p:Oid} (hp:p.mono=false) (hO:bE p (KB y pp qq N M))
include h hn hp hO hraw
end
end Go.Proofs.YtfbnaalhioogoaaGreatDoor
namespace Go.Proofs.YtfbnaalhioogoaaGreatDoor
open Go Go.Ab
set_option maxRecDepth 20000
set_option maxHeartbeats 4000000
end Go.Proofs.YtfbnaalhioogoaaGreatDoor
namespace Go.Proofs.YtfbnaalhioogoaaGreatDoor
open Go Go.Ab
set_option maxRecDepth 20000
set_option maxHeartbeats 4000000
theorem iW {st:Oid} {N:List Oid} {H:Oid→aw} {s:St} {cwd:Str} {n:Nat} (sp:dA st s N H) (ks:KS s cwd n) (hn:n≤40) {x:Rds × Rs Pts} (hx:OpB (cwd.length+2700) x) :
  ∃ F1 F2,dA st ((s.rds x.1).pts (dP x.2)) N F2∧RP st N s.L x.1 H F1∧PP st N (dP x.2) F1 F2:=by
 have hcl:=ks.cl
 have hlen:=ks.len
 have hpl:=hx.pl
 have h1:=ks.ok.rds x.1
 have hL:(s.rds x.1).L=s.L:=CF x.1 s
 obtain ⟨F1,a1,a2⟩:=CG x.1 s H sp ks.ok fun f hf=>by have:=hx.rd f hf;omega
 obtain ⟨F2,a3,a4⟩:=DN (dP x.2) (s.rds x.1) F1 a1 h1 (by rw [hL];omega) fun q hq=>⟨by have:=(hx.pt q hq).1;omega,(hx.pt q hq).2⟩
 exact ⟨F1,F2,a3,a2,a4⟩
theorem vb (um:Int) (p:Oid) (hp:p.mono=false):∃ y st pp r qq N M H,gB y st pp r qq ⟨[],none⟩ [] (iQ um 7) 0 N M H∧(∀ i ∈ KB y pp qq N M,Oid.under p i) ∧
  af Tryz.prog 17 [.int .i64 um] (Oid.under p) ⟨[],.ptr y 0,sb (KB y pp qq N M) H⟩:=by
 have ap:Apt (.sub 1 3 p) (.sub 1 5 (.sub 3 7 p)) (.sub 1 5 (.sub 3 13 p)) [.sub 1 2 (.sub 1 0 p),.sub 1 0 (.sub 1 0 p)] [.sub 1 1 (.sub 1 1 p)] :=
  ⟨by simp,by simp,by simp,by simp,by simp,by simp,by simp,by simp,by simp,fun i hi hm=>by
   simp only [List.mem_cons,List.not_mem_nil,or_false] at hi hm
   subst hm
   rcases hi with e|e<;>simp at e⟩
 refine ⟨.sub 1 3 p,.sub 1 2 (.sub 1 0 p),.sub 1 5 (.sub 3 7 p),.sub 1 1 (.sub 1 1 p),.sub 1 5 (.sub 3 13 p),[.sub 1 2 (.sub 1 0 p),.sub 1 0 (.sub 1 0 p)],[.sub 1 1 (.sub 1 1 p)],_,
  gB.mk' (G:=fun _=>.cells [.list 4 [],.list 4 [],.list 3 [],.list 1 [],.bool false]) ap (DK (by simp)) ⟨rfl,.list 4 [],rfl⟩ KS.new (wG um),fun i hi=>?_,?_⟩
 ·simp only [List.cons_append,List.nil_append,List.mem_cons,List.not_mem_nil,or_false] at hi
  rcases hi with rfl|rfl|rfl|rfl|rfl|rfl
  ·exact Oid.ae (Oid.az _)
  all_goals exact Oid.ae (Oid.ae (Oid.az _))
 clear ap
 refine aJ (n:=37) (rs:=[.tmp 2]) Tryz.func17 rfl rfl (by decide) rfl rfl rfl ?_;rintro x rfl hrd hng
 (repeat (first|(refine aq rfl rfl ?_)|(refine ar rfl rfl ?_)|(refine aj nmd [] hng (by kernel_rfl) fun hf C S K hC1 hC hS hK=>?_;simp (disch:=first|omega|assumption) only [go_sem];(repeat ((first|refine hC1 _ (Kn _) (by simp (disch:=first|omega|assumption) only [go_sem]) ?_|refine hC1 _ (GL _) (by simp (disch:=first|omega|assumption) only [go_sem]) ?_);simp (disch:=first|omega|assumption) only [go_sem]));refine hK ?_;clear hK hS hC hC1 K S C hf)|((first|refine zn ?_|refine ze ?_|refine zk ?_);with_reducible (constructor;repeat constructor);try refine zl ?_)))
 refine qd (.d [(7,11)] [] [3]) trivial (cq (Hz _ _ _ _) (cq (HA _ _ _ _) trivial)) ?_
 refine qw0 ?_
 refine aA (bO _ _ qs0 ⟨rfl,rfl⟩ fun i o h=>?_)
 rw [dV] at h
 split at h
 ·rename_i hi
  have h:=Option.some.inj h
  subst h
  simp only [List.cons_append,List.nil_append,List.mem_cons,List.not_mem_nil,or_false] at hi
  rcases hi with rfl|rfl|rfl|rfl|rfl|rfl
  all_goals simp [Mem.ao,jk,two,prC]
 ·cases h
abbrev St.after (s:St) (x:Rds × Rs Pts):St:=(s.rds x.1).pts (dP x.2)
end Go.Proofs.YtfbnaalhioogoaaGreatDoor
namespace Go.Proofs.YtfbnaalhioogoaaGreatDoor
open Go Go.Ab
set_option maxRecDepth 20000
set_option maxHeartbeats 4000000
theorem wJ (y pp qq:Oid) (N M:List Oid) (H:Oid→aw):Mem.blk [] [(KB y pp qq N M,H)]=Mem.blk [(y,H y),(pp,H pp),(qq,H qq)] [(N,H),(M,H)]:=by
 rw [← Am,Ks]
theorem DO {x:Ctx} {K:List Oid} {c i:Nat} (h:∀ j ∈ K,Oid.under (.sub c i x.p) j):oQ x.p (c+1) K:=fun j hj ⟨c',i',hc',hu⟩=>by
 have:=(Oid.apart hu (h j hj)).1;omega
theorem xZ (m:Mem) (K:List Oid) (H:Oid→aw) (i:Oid) (o:aw) (h:Mem.blk [] [(K,H)] i=some o):(m.aI (sb K H)) i=some o:=by
 rw [dV]
 rw [bG] at h
 split at h
 ·rw [if_pos ‹_›];exact h
 ·cases h
theorem gB.same {y st pp r qq:Oid} {s:St} {cwd:Str} {um:Int} {n:Nat} {N M:List Oid} {H:Oid→aw} (h:gB y st pp r qq s cwd um n N M H) (hn:n≤40) (p:Oid) (hp:p.mono=false) (hO:bE p N) (hO':bE p M) :
  af Tryz.prog 16 [.ptr st 0,.ptr r 0] (Oid.under p) ⟨bk (N,H)++bk (M,H),.bool true,gone (N++M)⟩ :=
 DM h.sp h.sr h.ks.ok (fun q hq=>by have:=h.ks.tr q hq;have:=h.ks.len;omega) h.ap.dj p hp hO hO'
end Go.Proofs.YtfbnaalhioogoaaGreatDoor
namespace Go.Proofs.YtfbnaalhioogoaaGreatDoor
open Go Go.Ab
set_option maxRecDepth 20000
set_option maxHeartbeats 4000000
def b0:St:=⟨[],none⟩
def b1:St:=b0.after (c7 b0.L [] 0 [97] [120] false)
def b2:St:=b1.after (jD b1.L [] 0 [100])
def b3:St:=b2.after (c7 b2.L [] 0 [100,47,97] [120] false)
theorem M7:dI (c7 b0.L [] 0 [97] [120] false).2=0:=by kernel_rfl
theorem M8:dI (jD b1.L [] 0 [100]).2=0:=by kernel_rfl
theorem M9:xA (findF b2.L [] [100] true).2 [97] [100]=[100,47,97]:=by kernel_rfl
theorem MA:(dq b2.L [] [97]).2 = .go [120]:=by kernel_rfl
theorem MB:dI (c7 b2.L [] 0 [100,47,97] [120] false).2=0:=by kernel_rfl
theorem Na:(dq b3.L [] [100,47,97]).2 = .go [120]:=by kernel_rfl
theorem MC:(dq b3.L [] [122]).2 = .err 10:=by kernel_rfl
theorem Nb:qW [99,97,116] [122] 10=[99,97,116,58,32,122,58,32,101,114,114,111,114,32,49,48,10]:=by kernel_rfl
theorem sO {s:St} (h:s.t=none):∀ {l:Rds},s.rds l=s
 | []=>rfl
 | f::l=>by
  have h1:s.read f=s:=by
   obtain ⟨L,t⟩:=s
   simp only at h
   subst h;rfl
  show (s.read f).rds l=s
  rw [h1];exact sO h
theorem wK (p:Oid) (hp:p.mono=false):af Tryz.prog 9 [] (Oid.under p) ⟨[],.bool true,[]⟩:=by
 refine aJ (n:=91) (rs:=[.tmp 0]) Tryz.func9 rfl rfl (by decide) rfl rfl rfl ?_;rintro x rfl hrd hng
 (repeat (first|(refine aq rfl rfl ?_)|(refine ar rfl rfl ?_)|(refine aj nmd [] hng (by kernel_rfl) fun hf C S K hC1 hC hS hK=>?_;simp (disch:=first|omega|assumption) only [go_sem];refine hK ?_;clear hK hS hC hC1 K S C hf)|((first|refine zn ?_|refine ze ?_|refine zk ?_);with_reducible (constructor;repeat constructor);try refine zl ?_)))
 obtain ⟨y,st,pp,r,qq,N,M,H,hPK,hun,hB⟩:=vb 0 (.sub 1 0 x.p) (ax rfl hp)
 have hO:=DO hun
 clear hun
 rw [show iQ 0 7=0 from rfl] at hPK
 refine aj nmd [] hng (by kernel_rfl) fun hf C S K hC1 hC hS hK=>?_;simp (disch:=first|omega|assumption) only [go_sem]
 refine hC1 _ hB (fun _ h=>by cases h) ?_
 simp (disch:=first|omega|assumption) only [go_sem]
 refine hK ?_;clear hK hS hC hC1 K S C hf
 clear hB
 (try ((first|refine zn ?_|refine ze ?_|refine zk ?_);with_reducible (constructor;repeat constructor));try refine zl ?_)
 refine l4 (Mem.blk [] [(KB y pp qq N M,H)]) (fun i o h=>by rw [← Mem.aN];exact xZ _ _ _ i o h) ?_
 (repeat (first|(refine aq rfl rfl ?_)|(refine ar rfl rfl ?_)|(refine aj nmd [] hng (by kernel_rfl) fun hf C S K hC1 hC hS hK=>?_;simp (disch:=first|omega|assumption) only [go_sem];refine hK ?_;clear hK hS hC hC1 K S C hf)|((first|refine zn ?_|refine ze ?_|refine zk ?_);with_reducible (constructor;repeat constructor);try refine zl ?_)))
 have hyN:=hPK.ap.yN;have hyM:=hPK.ap.yM;have hpN:=hPK.ap.pN;have hpM:=hPK.ap.pM;have hqN:=hPK.ap.qN;have hqM:=hPK.ap.qM;have hdj:=hPK.ap.dj;have hcy:=hPK.cy;have hcp:=hPK.cp;have hcq:=hPK.cq;have yp:=hPK.ap.yp;have yq:=hPK.ap.yq;have pq:=hPK.ap.pq;have yp':¬ pp=y:=fun e=>yp e.symm;have yq':¬ qq=y:=fun e=>yq e.symm;have pq':¬ qq=pp:=fun e=>pq e.symm
 have hON:oQ x.p 2 N:=fun j hj h=>hO j (by simp [hj]) h
 have hpp:∀ c i,2≤c→¬ Oid.under (.sub c i x.p) pp:=fun c i h=>hO.sub h i pp (by simp)
 have hs:∀ c i,2≤c→¬ Oid.sub c i x.p=y∧¬ y=Oid.sub c i x.p∧¬ Oid.sub c i x.p=pp∧¬ pp=Oid.sub c i x.p∧¬ Oid.sub c i x.p=qq∧¬ qq=Oid.sub c i x.p∧Oid.sub c i x.p ∉ N∧Oid.sub c i x.p ∉ M:=fun c i h=>by
  have hm:=hO.mem (c:=c) (i:=i) h
  simp only [List.mem_cons,List.mem_append,not_or] at hm
  exact ⟨hm.1,fun e=>hm.1 e.symm,hm.2.1,fun e=>hm.2.1 e.symm,hm.2.2.1,fun e=>hm.2.2.1 e.symm,hm.2.2.2.1,hm.2.2.2.2⟩
 have Q5:=hs 5 9 (by omega)
 have Q7:=hs 7 9 (by omega)
 have Q8:=hs 8 9 (by omega)
 have n5:=Q5.2.2.2.2.2.2.1;have n7:=Q7.2.2.2.2.2.2.1;have n8:=Q8.2.2.2.2.2.2.1
 have m5:=Q5.2.2.2.2.2.2.2;have m7:=Q7.2.2.2.2.2.2.2;have m8:=Q8.2.2.2.2.2.2.2
 clear hs
 have sp0:=hPK.sp
 have k0:KS b0 [] 0:=KS.new
 have hu:(0:Int)≤0∧(0:Int)≤7:=by omega
 have o1:=xX k0.st 0 (sN hu).1 [97] [120] false
 obtain ⟨F1,F2,sp1,a1,a2⟩:=iW (s:=b0) sp0 k0 (by omega) o1.b
 have k1:KS b1 [] 1:=k0.op (by omega) o1
 have o2:=Hw k1.st 0 (sN hu).2 [100]
 obtain ⟨F3,F4,sp2,c1,c2⟩:=iW (s:=b1) sp1 k1 (by omega) o2.b
 have k2:KS b2 [] 2:=k1.op (by omega) o2
 have o3:=my k2.lk [] [100] true
 obtain ⟨F5,F5',sp3,d1,d2⟩:=iW (s:=b2) sp2 k2 (by omega) (o3.opb (by decide))
 obtain rfl:F5=F5':=d2
 have k3:=k2.rd (by omega) o3 (by decide)
 have sp3:dA st (b2.rds (findF b2.L [] [100] true).1) N F5:=sp3
 rw [sO rfl] at k3 sp3
 have o4:=wF k3.lk [] [97]
 obtain ⟨F6,F6',sp4,e1,e2⟩:=iW (s:=b2) sp3 k3 (by omega) (o4.opb (by decide))
 obtain rfl:F6=F6':=e2
 have k4:=k3.rd (by omega) o4 (by decide)
 have sp4:dA st (b2.rds (dq b2.L [] [97]).1) N F6:=sp4
 rw [sO rfl] at k4 sp4
 have o5:=xX k4.st 0 (sN hu).1 [100,47,97] [120] false
 obtain ⟨F7,F8,sp5,f1,f2⟩:=iW (s:=b2) sp4 k4 (by omega) o5.b
 have k5:KS b3 [] 5:=k4.op (by omega) o5
 have o6:=wF k5.lk [] [100,47,97]
 obtain ⟨F9,F9',sp6,g1,g2⟩:=iW (s:=b3) sp5 k5 (by omega) (o6.opb (by decide))
 obtain rfl:F9=F9':=g2
 have k6:=k5.rd (by omega) o6 (by decide)
 have sp6:dA st (b3.rds (dq b3.L [] [100,47,97]).1) N F9:=sp6
 rw [sO rfl] at k6 sp6
 have o7:=wF k6.lk [] [122]
 obtain ⟨F10,F10',sp7,i1,i2⟩:=iW (s:=b3) sp6 k6 (by omega) (o7.opb (by decide))
 obtain rfl:F10=F10':=i2
 have hA1:=fun p hp hpp hO=>xw (pp:=pp) (st:=st) (N:=N) (F:=H) (F1:=F1) (F2:=F2) k0.kl (by simp) 0 hpN (p:=p) hp hpp hO [97] (by simp) [120] (by simp) false a1 a2
 rw [M7] at hA1
 have hU2:UtP pp st [] 0 N F2 F4 59 [109,107,100,105,114] [] [[100]] ⟨0,[],[]⟩ ⟨0,[],[]⟩:=z7 0 hpN [109,107,100,105,114] [] ⟨0,[],[]⟩ ⟨0,[],[]⟩ (by decide) (by decide) [[100]] (by simp) (by decide)
  (.cons [100] [] 0 F2 F4 F4 _ _ (by decide) (by decide) (fun p hp hpp hO=>by
   have:=GY (pp:=pp) (st:=st) (N:=N) (F:=F2) (F1:=F3) (F2:=F4) k1.kl (by simp) 0 hpN (p:=p) hp hpp hO [100] (by simp) c1 c2
   rw [M8] at this;exact this) (by rw [C0];exact .nil _ _))
 have hA2:=fun p hp hpp hO=>lH [109,107,100,105,114] [[100]] [] 59 (by kernel_rfl) (by kernel_rfl) ⟨0,[],[]⟩ hU2 hpN p hp hpp hO
 have hU3:=Mv k2.kl (by simp) 0 hpN [99,112] [] ⟨0,[],[]⟩ (by decide) (by decide) [97] [100] [120] (by decide) (by decide) (by decide) d1 e1 (by rw [MA];rfl) (by rw [MA];rfl) [100,47,97] M9 (by decide) f1 f2 (by rw [MB];decide)
 rw [MB,C0] at hU3
 have hA3:=fun p hp hpp hO=>lH [99,112] [[97],[100]] [] 55 (by kernel_rfl) (by kernel_rfl) ⟨0,[],[]⟩ hU3 hpN p hp hpp hO
 have hA4:=fun p hp hpp hO=>vZ (pp:=pp) (st:=st) (N:=N) (F:=F8) (F1:=F9) k5.kl (by simp) 0 hpN (p:=p) hp hpp hO [100,47,97] (by simp) g1
 rw [Na] at hA4
 have hU5:=wB (pp:=pp) (st:=st) (N:=N) (F:=F9) (cwd:=[]) 0 hpN [91] [] ⟨0,[],[]⟩
 have hA5:=fun p hp hpp hO=>lH [91] [[49],[45,108,116],[50],[93]] [] 65 (by kernel_rfl) (by kernel_rfl) ⟨0,[],[]⟩ hU5 hpN p hp hpp hO
 have hU6:=Ll (cwd:=[]) k6.kl (by simp) 0 hpN [99,97,116] [] ⟨0,[],[]⟩ (by decide) (by decide) (by decide) (by decide) [[122]] (by simp) (by decide) (by simp) (F:=F9) (F':=F10) (by unfold uQ;rw [if_neg (by decide)];exact ⟨F10,i1,rfl⟩) (fun a ha=>by rw [List.mem_singleton.1 ha,MC];decide)
 rw [show pC b3.L [] [99,97,116] [] [[122]] ⟨0,[],[]⟩=⟨1,[],qW [99,97,116] [122] 10⟩ from by unfold pC;rw [if_neg (by decide)];unfold pC;rw [MC];rfl,Nb] at hU6
 have hA6:=fun p hp hpp hO=>lH [99,97,116] [[122]] [] 54 (by kernel_rfl) (by kernel_rfl) _ hU6 hpN p hp hpp hO
 clear hU2 hU3 hU5 hU6 sp0 k0 o1 sp1 a1 a2 k1 o2 sp2 c1 c2 k2 o3 sp3 d1 k3 o4 sp4 e1 k4 o5 sp5 f1 f2 k5 o6 sp6 g1 k6 o7 sp7 i1 hu hPK
 simp only [rdV,rdS,dI,Res.av,List.map_cons,List.map_nil] at hA2 hA3 hA4 hA5 hA6
 unfold prC at hA1 hA2 hA3 hA4 hA5 hA6 hcp hcq
 rw [wJ,hcy,hcp,hcq]
 (try ((first|refine zn ?_|refine ze ?_|refine zk ?_);with_reducible (constructor;repeat constructor));try refine zl ?_)
 refine aj nmd [] hng (by kernel_rfl) fun hf C S K hC1 hC hS hK=>?_;simp (disch:=first|omega|assumption) only [go_sem,Q5,Q7,Q8,hyN,hpN,hqN,hdj,hyM,hpM,hqM,yp,yq,pq,yp',yq',pq']
 refine hC1 _ (hA1 _ (ax rfl hp) (hpp _ _ (by omega)) (hON.sub (by omega) _)) (by simp only [List.mem_cons,forall_eq_or_imp];exact ⟨by simp (disch:=first|omega|assumption) only [go_sem,Q5,Q7,Q8,hyN,hpN,hqN,hdj,hyM,hpM,hqM,yp,yq,pq,yp',yq',pq'],(by first|exact nq _|exact p5 (by simp [hyN,hpN,hqN,Q5,Q7,Q8]) _)⟩) ?_
 simp (disch:=first|omega|assumption) only [go_sem,Q5,Q7,Q8,hyN,hpN,hqN,hdj,hyM,hpM,hqM,yp,yq,pq,yp',yq',pq']
 refine hK ?_;clear hK hS hC hC1 K S C hf
 (try ((first|refine zn ?_|refine ze ?_|refine zk ?_);with_reducible (constructor;repeat constructor));try refine zl ?_)
 refine aj nmd [] hng (by kernel_rfl) fun hf C S K hC1 hC hS hK=>?_;simp (disch:=first|omega|assumption) only [go_sem,Q5,Q7,Q8,hyN,hpN,hqN,hdj,hyM,hpM,hqM,yp,yq,pq,yp',yq',pq']
 refine hC1 _ (hA2 _ (ax rfl hp) (hpp _ _ (by omega)) (hON.sub (by omega) _)) (by simp only [List.mem_cons,forall_eq_or_imp];exact ⟨by simp (disch:=first|omega|assumption) only [go_sem,Q5,Q7,Q8,hyN,hpN,hqN,hdj,hyM,hpM,hqM,yp,yq,pq,yp',yq',pq'],(by first|exact nq _|exact p5 (by simp [hyN,hpN,hqN,Q5,Q7,Q8]) _)⟩) ?_
 simp (disch:=first|omega|assumption) only [go_sem,Q5,Q7,Q8,hyN,hpN,hqN,hdj,hyM,hpM,hqM,yp,yq,pq,yp',yq',pq']
 refine hK ?_;clear hK hS hC hC1 K S C hf
 (try ((first|refine zn ?_|refine ze ?_|refine zk ?_);with_reducible (constructor;repeat constructor));try refine zl ?_)
 refine aj nmd [] hng (by kernel_rfl) fun hf C S K hC1 hC hS hK=>?_;simp (disch:=first|omega|assumption) only [go_sem,Q5,Q7,Q8,hyN,hpN,hqN,hdj,hyM,hpM,hqM,yp,yq,pq,yp',yq',pq']
 refine hC1 _ (hA3 _ (ax rfl hp) (hpp _ _ (by omega)) (hON.sub (by omega) _)) (by simp only [List.mem_cons,forall_eq_or_imp];exact ⟨by simp (disch:=first|omega|assumption) only [go_sem,Q5,Q7,Q8,hyN,hpN,hqN,hdj,hyM,hpM,hqM,yp,yq,pq,yp',yq',pq'],(by first|exact nq _|exact p5 (by simp [hyN,hpN,hqN,Q5,Q7,Q8]) _)⟩) ?_
 simp (disch:=first|omega|assumption) only [go_sem,Q5,Q7,Q8,hyN,hpN,hqN,hdj,hyM,hpM,hqM,yp,yq,pq,yp',yq',pq']
 refine hK ?_;clear hK hS hC hC1 K S C hf
 (try ((first|refine zn ?_|refine ze ?_|refine zk ?_);with_reducible (constructor;repeat constructor));try refine zl ?_)
 refine aj nmd [] hng (by kernel_rfl) fun hf C S K hC1 hC hS hK=>?_;simp (disch:=first|omega|assumption) only [go_sem,Q5,Q7,Q8,hyN,hpN,hqN,hdj,hyM,hpM,hqM,yp,yq,pq,yp',yq',pq']
 refine hC1 _ (hA4 _ (ax rfl hp) (hpp _ _ (by omega)) (hON.sub (by omega) _)) (by simp only [List.mem_cons,forall_eq_or_imp];exact ⟨by simp (disch:=first|omega|assumption) only [go_sem,Q5,Q7,Q8,hyN,hpN,hqN,hdj,hyM,hpM,hqM,yp,yq,pq,yp',yq',pq'],(by first|exact nq _|exact p5 (by simp [hyN,hpN,hqN,Q5,Q7,Q8]) _)⟩) ?_
 simp (disch:=first|omega|assumption) only [go_sem,Q5,Q7,Q8,hyN,hpN,hqN,hdj,hyM,hpM,hqM,yp,yq,pq,yp',yq',pq']
 refine hK ?_;clear hK hS hC hC1 K S C hf
 (try ((first|refine zn ?_|refine ze ?_|refine zk ?_);with_reducible (constructor;repeat constructor));try refine zl ?_)
 refine aj nmd [] hng (by kernel_rfl) fun hf C S K hC1 hC hS hK=>?_;simp (disch:=first|omega|assumption) only [go_sem,Q5,Q7,Q8,hyN,hpN,hqN,hdj,hyM,hpM,hqM,yp,yq,pq,yp',yq',pq']
 refine hC1 _ (hA5 _ (ax rfl hp) (hpp _ _ (by omega)) (hON.sub (by omega) _)) (by simp only [List.mem_cons,forall_eq_or_imp];exact ⟨by simp (disch:=first|omega|assumption) only [go_sem,Q5,Q7,Q8,hyN,hpN,hqN,hdj,hyM,hpM,hqM,yp,yq,pq,yp',yq',pq'],(by first|exact nq _|exact p5 (by simp [hyN,hpN,hqN,Q5,Q7,Q8]) _)⟩) ?_
 simp (disch:=first|omega|assumption) only [go_sem,Q5,Q7,Q8,hyN,hpN,hqN,hdj,hyM,hpM,hqM,yp,yq,pq,yp',yq',pq']
 refine hK ?_;clear hK hS hC hC1 K S C hf
 (try ((first|refine zn ?_|refine ze ?_|refine zk ?_);with_reducible (constructor;repeat constructor));try refine zl ?_)
 refine aj nmd [] hng (by kernel_rfl) fun hf C S K hC1 hC hS hK=>?_;simp (disch:=first|omega|assumption) only [go_sem,Q5,Q7,Q8,hyN,hpN,hqN,hdj,hyM,hpM,hqM,yp,yq,pq,yp',yq',pq']
 refine hC1 _ (hA6 _ (ax rfl hp) (hpp _ _ (by omega)) (hON.sub (by omega) _)) (by simp only [List.mem_cons,forall_eq_or_imp];exact ⟨by simp (disch:=first|omega|assumption) only [go_sem,Q5,Q7,Q8,hyN,hpN,hqN,hdj,hyM,hpM,hqM,yp,yq,pq,yp',yq',pq'],(by first|exact nq _|exact p5 (by simp [hyN,hpN,hqN,Q5,Q7,Q8]) _)⟩) ?_
 simp (disch:=first|omega|assumption) only [go_sem,Q5,Q7,Q8,hyN,hpN,hqN,hdj,hyM,hpM,hqM,yp,yq,pq,yp',yq',pq']
 refine hK ?_;clear hK hS hC hC1 K S C hf
 (try ((first|refine zn ?_|refine ze ?_|refine zk ?_);with_reducible (constructor;repeat constructor));try refine zl ?_)
 refine aj nmd [(1,60),(6,65),(10,69),(14,73),(17,76),(22,81),(27,86)] hng (by kernel_rfl) fun hf C S K hC1 hC hS hK=>?_;simp (disch:=first|omega|assumption) only [go_sem,Q5,Q7,Q8,hyN,hpN,hqN,hdj,hyM,hpM,hqM,yp,yq,pq,yp',yq',pq',eq_self,decide_true,decide_false,ne_eq,not_true_eq_false,not_false_eq_true]
 refine hK ?_;clear hK hS hC hC1 K S C hf
 (repeat (first|(refine aq rfl rfl ?_)|(refine ar rfl rfl ?_)|(refine aj nmd [] hng (by kernel_rfl) fun hf C S K hC1 hC hS hK=>?_;simp (disch:=first|omega|assumption) only [go_sem];refine hK ?_;clear hK hS hC hC1 K S C hf)|((first|refine zn ?_|refine ze ?_|refine zk ?_);with_reducible (constructor;repeat constructor);try refine zl ?_)))
 exact aA (bd rfl)
end Go.Proofs.YtfbnaalhioogoaaGreatDoor
namespace Go.Proofs.YtfbnaalhioogoaaGreatDoor
open Go Go.Ab
set_option maxRecDepth 20000
set_option maxHeartbeats 4000000
theorem DP {q:Oid} (nm:Str) (args:List Str) (t:Str) (r:Res) (hh:bM (.str nm) (TM 15)=false) (hv:fE (.str nm) .nilFn (TM 15) = .nilFn)
  (hF:∀ p,p.mono=false→af Tryz.prog 69 [.list 1 ((nm::args).map AV.str),.str t] (Oid.under p) ⟨[],.tuple [r.av,.bool true],[]⟩) (p:Oid) (hp:p.mono=false) :
  af Tryz.prog 20 [.ptr q 0,.list 1 ((nm::args).map AV.str),.str t] (Oid.under p) ⟨[],.tuple [r.av,.bool true],[]⟩:=by
 obtain ⟨st',out',err'⟩:=r
 unfold Res.av at hF ⊢
 simp only at hF ⊢
 refine aJ (n:=49) (rs:=[.cell 6 45,.tmp 7]) Tryz.func20 rfl rfl (by decide) rfl rfl rfl ?_;rintro x rfl hrd hng
 refine qr0 ?_
 refine aj nmd [] hng (by kernel_rfl) fun hf C S K hC1 hC hS hK=>?_;simp (disch:=first|omega|assumption) only [go_sem,Nat.reduceAdd,Bool.false_eq_true,if_false,HR,HS,HT,HU,HV,HW,HX,HY,HZ,H0,H2,H3,H4,H5,H6,H7,H8,H9,Ia,Ib,CQ,CR,CS,CT,CU,CV,CW,CX,CY,CZ]
 refine hK ?_;clear hK hS hC hC1 K S C hf
 (repeat (first|(refine aq rfl rfl ?_)|(refine ar rfl rfl ?_)|(refine aj nmd [] hng (by kernel_rfl) fun hf C S K hC1 hC hS hK=>?_;simp (disch:=first|omega|assumption) only [go_sem,hh,hv,Bool.not_false];refine hK ?_;clear hK hS hC hC1 K S C hf)|((first|refine zn ?_|refine ze ?_|refine zk ?_);with_reducible (constructor;repeat constructor);try refine zl ?_)))
 refine qr1 (hF _) ?_
 refine qw0 ?_
 exact aA (ay qs0)
def ry:List Str:=[[116,114,117,101],[102,97,108,115,101],[101,99,104,111],[104,101,97,100],[116,97,105,108],[119,99],[115,111,114,116],[117,110,105,113],[99,117,116],[116,114],[103,114,101,112],[98,97,115,101,110,97,109,101],[100,105,114,110,97,109,101]]
theorem DQ (p:Oid):af Tryz.prog 18 [] (Oid.under p) ⟨[],.list 1 (ry.map AV.str),[]⟩:=by
 refine aJ (n:=2) (rs:=[.tmp 0]) Tryz.func18 rfl rfl (by decide) rfl rfl rfl ?_;rintro x rfl hrd hng
 refine qw0 ?_
 exact aA (bd rfl)
theorem HB (k:Nat) (hk:k < 13):bM (.str (ry.getD k default)) (TM 15)=false∧fE (.str (ry.getD k default)) .nilFn (TM 15) = .nilFn:=by
 have h:k=0∨k=1∨k=2∨k=3∨k=4∨k=5∨k=6∨k=7∨k=8∨k=9∨k=10∨k=11∨k=12:=by omega
 rcases h with rfl|rfl|rfl|rfl|rfl|rfl|rfl|rfl|rfl|rfl|rfl|rfl|rfl<;>exact ⟨by kernel_rfl,by kernel_rfl⟩
theorem DS (k:Nat) (hk:k < 13) (args:List Str) (ha:∀ s ∈ args,s.length≤4000000) (hal:args.length≤4000000) (t:Str) (ht:t.length≤4000000) :
  ∃ r:Res,∀ p,p.mono=false→af Tryz.prog 69 [.list 1 ((ry.getD k default::args).map AV.str),.str t] (Oid.under p) ⟨[],.tuple [r.av,.bool true],[]⟩:=by
 have h:k=0∨k=1∨k=2∨k=3∨k=4∨k=5∨k=6∨k=7∨k=8∨k=9∨k=10∨k=11∨k=12:=by omega
 rcases h with rfl|rfl|rfl|rfl|rfl|rfl|rfl|rfl|rfl|rfl|rfl|rfl|rfl
 ·exact Du args ha hal t
 ·exact zZ args ha hal t
 ·exact Dv args ha hal t
 ·exact Dm args t ha ht
 ·exact Dn args t ha ht
 ·exact Lj args ha hal t ht
 ·exact Dq args hal t ht
 ·exact Dr args hal t ht
 ·exact Hh args t ha ht
 ·exact Lh args t ha ht
 ·exact Ds args t ha ht
 ·exact Dp args t ha
 ·exact Hf args t ha
theorem Ao {l:List Str} {s:Str} (h:s ∈ l):s.length+1≤(aQ l).length:=by
 induction l with
 | nil=>cases h
 | cons a l ih =>
  simp only [aQ,List.length_append,List.length_singleton]
  rcases List.mem_cons.1 h with rfl|h
  ·omega
  ·have:=ih h;omega
theorem vc {K N:List Oid} {H:Oid→aw} (hN:∀ i ∈ N,i ∈ K):∀ {A:List (Oid × aw)},(∀ a ∈ A,a.1 ∈ K∧H a.1=a.2)→∀ i o,Mem.blk A [(N,H)] i=some o→Mem.blk [] [(K,H)] i=some o
 | [],_,i,o,h=>by
  rw [bG] at h ⊢
  split at h
  ·rw [if_pos (hN i ‹_›)];exact h
  ·cases h
 | a::A,hA,i,o,h=>by
  rw [Mem.gW] at h
  split at h
  ·rename_i e
   have h1:=hA a List.mem_cons_self
   rw [bG,if_pos (by rw [e];exact h1.1),e,h1.2];exact h
  ·exact vc hN (fun b hb=>hA b (List.mem_cons_of_mem _ hb)) i o h
theorem wL (s:St):s.begin.reads=[]∧s.begin.writes=[]:=⟨rfl,rfl⟩
end Go.Proofs.YtfbnaalhioogoaaGreatDoor
namespace Go.Proofs.YtfbnaalhioogoaaGreatDoor
open Go Go.Ab
set_option maxRecDepth 20000
set_option maxHeartbeats 4000000
theorem filters18_ok (l:List Str) (k:UInt8) (t:Str) (hl:l.length≤140737488355328) (hs:∀ s ∈ l,s.length≤140737488355328) (ht:t.length≤140737488355328) (p:Oid) (hp:p.mono=false) :
  af Tryz.prog 6 [.list 1 (l.map AV.str),.int .u8 k.toNat,.str t] (Oid.under p) ⟨[],.bool true,[]⟩:=by
 have hget:∀ i,(l.getD i default).length≤140737488355328:=fun i=>by
  rw [List.getD_eq_getElem?_getD]
  cases h:l[i]? with
  | none=>exact Nat.zero_le _
  | some s=>exact hs s (List.mem_of_getElem? h)
 have htm:(k.toNat:Int).tmod 13=((k.toNat % 13:Nat):Int):=oy k.toNat 13
 have hk:k.toNat % 13 < 13:=Nat.mod_lt _ (by decide)
 refine aJ (n:=101) (rs:=[.tmp 6]) Tryz.func6 rfl rfl (by decide) rfl rfl rfl ?_;rintro x rfl hrd hng
 (repeat (first|(refine aq rfl rfl ?_)|(refine ar rfl rfl ?_)|(refine aj nmd [] hng (by kernel_rfl) fun hf C S K hC1 hC hS hK=>?_;simp (disch:=first|omega|assumption) only [go_sem];(repeat ((first|refine hC1 _ (wK _ (ax rfl hp)) (by simp (disch:=first|omega|assumption) only [go_sem]) ?_);simp (disch:=first|omega|assumption) only [go_sem]));refine hK ?_;clear hK hS hC hC1 K S C hf)|((first|refine zn ?_|refine ze ?_|refine zk ?_);with_reducible (constructor;repeat constructor);try refine zl ?_)))
 refine bm [0,1,2,7,8,9] (fun k' s'=>∃ i c:Nat,k' = l.length - i∧i≤l.length∧(aQ (l.take i)).length≤140737488355800∧s' = ⟨[(0,.list 1 (l.map .str)),(1,.int .u8 k.toNat),(2,.str t),(7,.bool true),(8,.int .i64 ((aQ (l.take i)).length:Nat)),(9,.int .i64 i)],Mem.of [],c,[]⟩) _ ⟨0,_,rfl,Nat.zero_le _,by simp [aQ],rfl⟩ ?_
 rintro k' s' ⟨i,c,rfl,hi,hb300,rfl⟩
 have hle:=gY (l:=l) i
 generalize hmm:(aQ (l.take i)).length=m at hle hb300
 (try ((first|refine zn ?_|refine ze ?_|refine zk ?_);with_reducible (constructor;repeat constructor));try refine zl ?_)
 refine cQ [0,1,2,7,8,9,26] (fun s'=>∃ (b:Bool),s' = ⟨[(0,.list 1 (l.map .str)),(1,.int .u8 k.toNat),(2,.str t),(7,.bool true),(8,.int .i64 (m:Int)),(9,.int .i64 i),(26,.bool b)],Mem.of [],c+1,[]⟩∧(b=true↔(i < l.length∧m≤300))) ?_ ?_
 ·refine aj nmd [(4,23)] hng (by kernel_rfl) fun hf C S K hC1 hC hS hK=>?_;simp (disch:=first|omega|assumption) only [go_sem,List.length_map,decide_true,decide_false,ne_eq,not_true_eq_false,not_false_eq_true]
  (repeat' (first|(refine aD (fun hv=>?_) (fun hv=>?_)<;>(try simp only [zb1,zb2,zb3,zb4,zb5] at hv)<;>simp (disch:=first|omega|assumption) only [go_sem,hv,List.length_map,decide_true,decide_false,ne_eq,not_true_eq_false,not_false_eq_true])|(refine hK ?_;clear hK hS hC hC1 K S C hf)))
  all_goals first
   | contradiction
   | exact aT ⟨_,rfl,by simp only [decide_eq_true_eq];omega⟩
   | exact aT ⟨_,rfl,by simp only [Bool.false_eq_true,false_iff];omega⟩
 rintro s' ⟨b,rfl,hiff⟩
 refine jr rfl rfl (fun hb=>?_) (fun hb=>?_)
 ·obtain ⟨hlt,h300⟩:=hiff.1 hb
  have hjt:=kR (l:=l) (i:=i) hlt
  have hsl:=hget i
  generalize hq:l.getD i default=q at hjt hsl
  have hlen:=congrArg List.length hjt
  rw [List.length_append,List.length_append,List.length_singleton,hmm] at hlen
  (repeat (first|(refine aq rfl rfl ?_)|(refine ar rfl rfl ?_)|(refine aj nmd [] hng (by kernel_rfl) fun hf C S K hC1 hC hS hK=>?_;simp (disch:=first|omega|assumption) only [go_sem,List.length_map,hq];refine hK ?_;clear hK hS hC hC1 K S C hf)|((first|refine zn ?_|refine ze ?_|refine zk ?_);with_reducible (constructor;repeat constructor);try refine zl ?_)))
  refine ⟨_,_,?_,fun _ _ h=>h,i+1,c+1+1+1,rfl,by omega,by omega,?_⟩
  ·omega
  ·rw [hlen];rfl
 ·have hst:¬ (i < l.length∧m≤300):=fun h=>by rw [hiff.2 h] at hb;cases hb
  have hm:m≤300↔(aQ l).length≤300:=by
   by_cases h1:i < l.length
   ·constructor
    ·intro h;exact absurd ⟨h1,h⟩ hst
    ·intro h;omega
   ·have hE:l.take i=l:=List.take_of_length_le (by omega)
    rw [hE] at hmm
    omega
  clear hst hiff
  (repeat (first|(refine aq rfl rfl ?_)|(refine ar rfl rfl ?_)|(refine aj nmd [] hng (by kernel_rfl) fun hf C S K hC1 hC hS hK=>?_;simp (disch:=first|omega|assumption) only [go_sem];refine hK ?_;clear hK hS hC hC1 K S C hf)|((first|refine zn ?_|refine ze ?_|refine zk ?_);with_reducible (constructor;repeat constructor);try refine zl ?_)))
  obtain ⟨y,st,pp,r,qq,N,M,H,hPK,hun,hB⟩:=vb 0 (.sub (c+1) 0 x.p) (ax rfl hp)
  have hO:=DO hun
  clear hun
  rw [show iQ 0 7=0 from rfl] at hPK
  refine aj nmd [] hng (by kernel_rfl) fun hf C S K hC1 hC hS hK=>?_;simp (disch:=first|omega|assumption) only [go_sem]
  refine hC1 _ hB (fun _ h=>by cases h) ?_
  simp (disch:=first|omega|assumption) only [go_sem]
  refine hK ?_;clear hK hS hC hC1 K S C hf
  clear hB
  (try ((first|refine zn ?_|refine ze ?_|refine zk ?_);with_reducible (constructor;repeat constructor));try refine zl ?_)
  refine l4 (Mem.blk [] [(KB y pp qq N M,H)]) (fun i o h=>by rw [← Mem.aN];exact xZ _ _ _ i o h) ?_
  by_cases h1:t.length≤300
  case neg =>
   have e1:(t.length:Int) > 300:=by omega
   refine aj nmd [(2,40),(7,45)] hng (by kernel_rfl) fun hf C S K hC1 hC hS hK=>?_;simp (disch:=first|omega|assumption) only [go_sem,e1,decide_true,decide_false,ne_eq,not_true_eq_false,not_false_eq_true]
   refine hK ?_;clear hK hS hC hC1 K S C hf
   (repeat (first|(refine aq rfl rfl ?_)|(refine ar rfl rfl ?_)|(refine aj nmd [] hng (by kernel_rfl) fun hf C S K hC1 hC hS hK=>?_;simp (disch:=first|omega|assumption) only [go_sem];refine hK ?_;clear hK hS hC hC1 K S C hf)|((first|refine zn ?_|refine ze ?_|refine zk ?_);with_reducible (constructor;repeat constructor);try refine zl ?_)))
   refine aj nmd [(2,51)] hng (by kernel_rfl) fun hf C S K hC1 hC hS hK=>?_;simp (disch:=first|omega|assumption) only [go_sem,decide_true,decide_false,ne_eq,not_true_eq_false,not_false_eq_true]
   refine hK ?_;clear hK hS hC hC1 K S C hf
   (repeat (first|(refine aq rfl rfl ?_)|(refine ar rfl rfl ?_)|(refine aj nmd [] hng (by kernel_rfl) fun hf C S K hC1 hC hS hK=>?_;simp (disch:=first|omega|assumption) only [go_sem];refine hK ?_;clear hK hS hC hC1 K S C hf)|((first|refine zn ?_|refine ze ?_|refine zk ?_);with_reducible (constructor;repeat constructor);try refine zl ?_)))
   exact aA (bd rfl)
  have e1:¬ (t.length:Int) > 300:=by omega
  by_cases h2:m≤300
  case neg =>
   have e2:(m:Int) > 300:=by omega
   refine aj nmd [(2,40),(7,45)] hng (by kernel_rfl) fun hf C S K hC1 hC hS hK=>?_;simp (disch:=first|omega|assumption) only [go_sem,e1,e2,decide_true,decide_false,ne_eq,not_true_eq_false,not_false_eq_true]
   refine hK ?_;clear hK hS hC hC1 K S C hf
   (repeat (first|(refine aq rfl rfl ?_)|(refine ar rfl rfl ?_)|(refine aj nmd [] hng (by kernel_rfl) fun hf C S K hC1 hC hS hK=>?_;simp (disch:=first|omega|assumption) only [go_sem];refine hK ?_;clear hK hS hC hC1 K S C hf)|((first|refine zn ?_|refine ze ?_|refine zk ?_);with_reducible (constructor;repeat constructor);try refine zl ?_)))
   refine aj nmd [(2,51)] hng (by kernel_rfl) fun hf C S K hC1 hC hS hK=>?_;simp (disch:=first|omega|assumption) only [go_sem,decide_true,decide_false,ne_eq,not_true_eq_false,not_false_eq_true]
   refine hK ?_;clear hK hS hC hC1 K S C hf
   (repeat (first|(refine aq rfl rfl ?_)|(refine ar rfl rfl ?_)|(refine aj nmd [] hng (by kernel_rfl) fun hf C S K hC1 hC hS hK=>?_;simp (disch:=first|omega|assumption) only [go_sem];refine hK ?_;clear hK hS hC hC1 K S C hf)|((first|refine zn ?_|refine ze ?_|refine zk ?_);with_reducible (constructor;repeat constructor);try refine zl ?_)))
   exact aA (bd rfl)
  have e2:¬ (m:Int) > 300:=by omega
  have hln:=eB l
  have hjl:=hm.1 h2
  have hse:∀ s ∈ l,s.length≤300:=fun s hs=>by have:=Ao hs;omega
  have hno:=HB _ hk
  obtain ⟨res,hF⟩:=DS _ hk l (fun s hs=>by have:=hse s hs;omega) (by omega) t (by omega)
  have hnm:=fun p=>DQ p
  have hnl:ry.length=13:=rfl
  generalize k.toNat % 13=kk at htm hk hno hF
  generalize ry=FL at hno hF hnm hnl
  generalize hq:FL.getD kk default=nm at hno hF
  have hRun:=fun p hp=>DP (q:=pp) nm l t res hno.1 hno.2 hF p hp
  obtain ⟨rs,ro,re⟩:=res
  unfold Res.av at hRun
  have hks:=hPK.ks
  have hyN:=hPK.ap.yN
  have hcy:=hPK.cy
  have hON:oQ x.p (c+1+1) N:=fun j hj h=>hO j (by simp [hj]) h
  have hs':∀ d i,c+2≤d→¬ Oid.sub d i x.p=y∧¬ y=Oid.sub d i x.p∧Oid.sub d i x.p ∉ N:=fun d i h=>by
   have hm:=hO.mem (c:=d) (i:=i) h
   simp only [List.mem_cons,List.mem_append,not_or] at hm
   exact ⟨hm.1,fun e=>hm.1 e.symm,hm.2.2.2.1⟩
  have Q0:=hs' (c+1+1+1+1) 0 (by omega)
  have Q1:=hs' (c+1+1+1+1+1) 8 (by omega)
  have Q2:=hs' (c+1+1+1+1+1+1) 2 (by omega)
  have n0:=Q0.2.2;have n1:=Q1.2.2;have n2:=Q2.2.2
  refine aj nmd [(2,40),(7,45)] hng (by kernel_rfl) fun hf C S K hC1 hC hS hK=>?_;simp (disch:=first|omega|assumption) only [go_sem,e1,e2,decide_true,decide_false,ne_eq,not_true_eq_false,not_false_eq_true]
  refine hK ?_;clear hK hS hC hC1 K S C hf
  (try ((first|refine zn ?_|refine ze ?_|refine zk ?_);with_reducible (constructor;repeat constructor));try refine zl ?_)
  refine l4 (Mem.blk [(y,.cells [.ptr st 0,.ptr pp 0,.ptr r 0,.ptr qq 0])] [(N,H)]) (vc (fun i hi=>by simp [hi]) (fun a ha=>by rw [List.mem_singleton.1 ha];exact ⟨by simp,hcy⟩)) ?_
  (repeat (first|(refine aq rfl rfl ?_)|(refine ar rfl rfl ?_)|(refine aj nmd [] hng (by kernel_rfl) fun hf C S K hC1 hC hS hK=>?_;simp (disch:=first|omega|assumption) only [go_sem];refine hK ?_;clear hK hS hC hC1 K S C hf)|((first|refine zn ?_|refine ze ?_|refine zk ?_);with_reducible (constructor;repeat constructor);try refine zl ?_)))
  refine js 11 1 rfl ?_
  simp (disch:=first|omega|assumption) only [go_sem,Q0]
  refine aj nmd [] hng (by kernel_rfl) fun hf C S K hC1 hC hS hK=>?_;simp (disch:=first|omega|assumption) only [go_sem,htm,hnl,hq,List.length_map,Q0,Q1,Q2]
  refine hC1 _ (hnm _) (fun _ h=>by cases h) ?_
  simp (disch:=first|omega|assumption) only [go_sem,htm,hnl,hq,List.length_map,Q0,Q1,Q2]
  refine hK ?_;clear hK hS hC hC1 K S C hf
  (try ((first|refine zn ?_|refine ze ?_|refine zk ?_);with_reducible (constructor;repeat constructor));try refine zl ?_)
  refine aj nmd [] hng (by kernel_rfl) fun hf C S K hC1 hC hS hK=>?_;simp (disch:=first|omega|assumption) only [go_sem,List.length_map,Q1,Q2]
  refine hK ?_;clear hK hS hC hC1 K S C hf
  refine cI (.sub (c+1+1+1+1+1+1) 2 x.p) 1 ((nm::l).map AV.str) (by simp (disch:=first|omega|assumption) only [go_sem,Q2,List.map_cons]) ?_
  have hlen1:(1+l.length=l.length+1)=True:=eq_true (by omega)
  simp (disch:=first|omega|assumption) only [go_sem,List.length_map,List.length_cons,hlen1,if_true,Q2]
  (try ((first|refine zn ?_|refine ze ?_|refine zk ?_);with_reducible (constructor;repeat constructor));try refine zl ?_)
  simp only [List.map_cons] at hRun
  have hks:=hPK.ks.ok.begin
  obtain ⟨N',F',sp',hN',hA⟩:=Af hPK.sp (.sub (c+1+1+1+1+1+1+1) 4 x.p) (hON.sub (by omega) 4)
  have hyN':y ∉ N':=fun h=>(hN' y h).elim hyN (fun hu=>hO y (by simp) ⟨_,_,by omega,hu⟩)
  have hNo:∀ d i,c+8≤d→∀ j ∈ N',¬ Oid.under (.sub d i x.p) j:=fun d i hd j hj hu=>by
   rcases hN' j hj with h|h
   ·exact hON j h ⟨d,i,by omega,hu⟩
   ·have:=(Oid.apart h hu).1;omega
  have Q3:=hs' (c+1+1+1+1+1+1+1+1) 10 (by omega)
  have n3:Oid.sub (c+1+1+1+1+1+1+1+1) 10 x.p ∉ N':=fun h=>hNo _ _ (by omega) _ h (Oid.az _)
  obtain ⟨N2,F2,sp2,hN2,hE⟩:=Hv sp' hks (fun q hq=>by cases hq;exact ⟨Nat.zero_le _,Nat.zero_le _⟩)
  refine aj nmd [] hng (by kernel_rfl) fun hf C S K hC1 hC hS hK=>?_;simp (disch:=first|omega|assumption) only [go_sem]
  refine hC1 _ hA (nbA (by simp [hyN]) _) ?_
  simp (disch:=first|omega|assumption) only [go_sem]
  refine hK ?_;clear hK hS hC hC1 K S C hf
  (try ((first|refine zn ?_|refine ze ?_|refine zk ?_);with_reducible (constructor;repeat constructor));try refine zl ?_)
  refine Ku (P:=Tryz.prog) (A:=[(y,_)]) (Bs:=[]) (fun e he=>by rw [List.mem_singleton.1 he];exact hyN') (fun B hB=>by cases hB) ?_
  refine aj nmd [] hng (by kernel_rfl) fun hf C S K hC1 hC hS hK=>?_;simp (disch:=first|omega|assumption) only [go_sem,Q3,hyN']
  refine hC1 _ (hRun _ (ax rfl hp)) (fun _ h=>by cases h) ?_
  simp (disch:=first|omega|assumption) only [go_sem,Q3,hyN']
  refine hK ?_;clear hK hS hC hC1 K S C hf
  (try ((first|refine zn ?_|refine ze ?_|refine zk ?_);with_reducible (constructor;repeat constructor));try refine zl ?_)
  refine aj nmd [] hng (by kernel_rfl) fun hf C S K hC1 hC hS hK=>?_;simp (disch:=first|omega|assumption) only [go_sem,Q3,hyN']
  refine hC1 _ (hE _ (ax rfl hp) (hNo _ _ (by omega))) (nbA (by simp [hyN',n3]) _) ?_
  simp (disch:=first|omega|assumption) only [go_sem,Q3,hyN']
  refine hK ?_;clear hK hS hC hC1 K S C hf
  refine l4 (Mem.of []) (fun i o h=>by cases h) ?_
  (try ((first|refine zn ?_|refine ze ?_|refine zk ?_);with_reducible (constructor;repeat constructor));try refine zl ?_)
  have f0:((0:Nat):Int)+((0:Nat):Int)=0:=rfl
  refine aj nmd [(1,90),(4,93)] hng (by kernel_rfl) fun hf C S K hC1 hC hS hK=>?_;simp (disch:=first|omega|assumption) only [go_sem,List.map_nil,List.length_nil,f0,wL,eq_self,decide_true,decide_false,ne_eq,not_true_eq_false,not_false_eq_true]
  refine hK ?_;clear hK hS hC hC1 K S C hf
  (repeat (first|(refine aq rfl rfl ?_)|(refine ar rfl rfl ?_)|(refine aj nmd [] hng (by kernel_rfl) fun hf C S K hC1 hC hS hK=>?_;simp (disch:=first|omega|assumption) only [go_sem];refine hK ?_;clear hK hS hC hC1 K S C hf)|((first|refine zn ?_|refine ze ?_|refine zk ?_);with_reducible (constructor;repeat constructor);try refine zl ?_)))
  exact aA (bd rfl)
end Go.Proofs.YtfbnaalhioogoaaGreatDoor
namespace Go.Proofs.YtfbnaalhioogoaaGreatDoor
open Go Go.Ab
set_option maxRecDepth 100000
theorem band {a b:Bool} (h1:a=true) (h2:b=true):(a && b)=true:=by rw [h1,h2];rfl
theorem c_str:Tryz.prog.cellsOf 9=1:=by kernel_rfl
theorem c_u8:Tryz.prog.cellsOf 5=1:=by kernel_rfl
theorem c_strs:Tryz.prog.cellsOf 27=1:=by kernel_rfl
theorem MD:Tryz.prog.bytesOf 9=16:=by kernel_rfl
theorem rd_strs:Rd Tryz.prog 27 (fun l:List Str=>.list 1 (l.map AV.str)) (fun l=>l.length≤140737488355328∧∀ t ∈ l,t.length≤140737488355328) :=
 (Bz Tryz.underlying27 c_strs (by rw [c_str];decide) (rd_str Tryz.underlying9 c_str)).map id (fun _ _=>by rw [c_str];rfl) (fun _=>c_strs.symm) (fun l h=>by
  have h1:=h.1
  rw [MD] at h1
  have h2:=h.2
  unfold reachBytes at h1 h2
  refine ⟨?_,fun t ht=>?_⟩
  ·show l.length≤_;omega
  ·have:=h2 t ht;omega)
end Go.Proofs.YtfbnaalhioogoaaGreatDoor
