/- A part of the proof: the texts TD, TQ, KH, KI, KJ, KK, KL, KM, KR, TR, TS, TE, one behind the other. -/
import Derived.Test.YtfbnaalhioogoaaGreatDoorPVe
set_option linter.unusedVariables false
set_option linter.unusedSimpArgs false
set_option linter.unusedSectionVars false
namespace Go.Proofs.YtfbnaalhioogoaaGreatDoor
open Go Go.Ab
set_option maxRecDepth 20000
set_option maxHeartbeats 4000000
theorem qa (s:Str):(Lib.trimSuffix s [47]).length≤s.length:=by
 unfold Lib.trimSuffix
 split
 ·rw [List.length_take];omega
 ·exact Nat.le_refl _
theorem uS {q pp:Oid} {o a:ah} {N:List Oid} {f g:Oid→ah} {m:Mem} (hq:m q=some o) (hp:m pp=some a) (h4:∀ x,x ∈ bk (N,g)→m x.1=some x.2) :
  ∀ i o',((Mem.of ((q,o)::(pp,a)::bk (N,f))).aK (sb N g)) i=some o'→m i=some o' :=
 dE (A0:=[(q,o),(pp,a)]) (U:=[]) (fun x h=>by cases h) (fun x h _=>by
  simp only [List.mem_cons,List.not_mem_nil,or_false] at h
  rcases h with rfl|rfl
  ·exact hq
  ·exact hp) h4
section
variable {pp st:Oid} {N:List Oid} {F F1 F2 F3 F4:Oid→ah} {L:PL} (hK:KL L) {cwd:Str} (hc:cwd.length≤1000000) (um:Int) (hpN:pp ∉ N)
include hK hc hpN
theorem lN (nm inp:Str) (r:Res) (fr to':Str) (hfr:fr.length≤4000000000) (hto:to'.length≤4000000000) (hA:RP st N L (findF L cwd to' true).1 F F1) (q p:Oid) (hp:p.mono=false) (hqN:q ∉ N) (hqp:¬ q=pp) (hq:¬ Oid.under p q) (hpp:¬ Oid.under p pp) (hO:aY p N) :
  aj Tryz.prog 132 [.ptr q 0,.str fr,.str to'] (Oid.under p) ⟨(q,dL pp nm inp r)::(pp,prC st cwd um)::bk (N,F),.str (gy (findF L cwd to' true).2 fr to'),sb N F1⟩:=by
 have hF:=fun p hp hpp hO=>Fa (pp:=pp) (st:=st) hK hc um hpN (p:=p) hp hpp hO to' (by omega) true hA
 have hqp':¬ pp=q:=fun e=>hqp e.symm
 have hB:=fun p=>Em fr hfr p
 have hT:=fun sp=>oZ to' [47] (by omega) sp
 have htl:=qa to'
 have hbl:=lM fr
 unfold gy
 unfold fnV at hF
 clear hA
 generalize aA (findF L cwd to' true).2=E at hF ⊢
 generalize rdB (findF L cwd to' true).2=B at hF ⊢
 obtain ⟨pl,ek,em,el⟩:=B
 obtain ⟨st',out,err⟩:=r
 simp only at hF ⊢
 unfold prC at hF ⊢
 unfold dL
 refine aD (n:=34) (rs:=[.tmp 6]) Tryz.func132 rfl rfl (by decide) rfl rfl rfl ?_;rintro x rfl hrd hng
 rw [dK]
 (try ((first|refine zn ?_|refine ze ?_|refine zk ?_);with_reducible (constructor;repeat constructor));try refine zl ?_)
 refine ao nmd [] hng (by kernel_rfl) fun hf C S K hC1 hC hS hK=>?_;simp (disch:=first|omega|assumption) only [go_sem,Oid.ab hq,Oid.aa hq,Oid.ab hpp,Oid.aa hpp,hpN,hqN,hqp,hqp',hO]
 refine hK ?_;clear hK hS hC hC1 K S C hf
 (try ((first|refine zn ?_|refine ze ?_|refine zk ?_);with_reducible (constructor;repeat constructor));try refine zl ?_)
 refine ao nmd [] hng (by kernel_rfl) fun hf C S K hC1 hC hS hK=>?_;simp (disch:=first|omega|assumption) only [go_sem,Oid.ab hq,Oid.aa hq,Oid.ab hpp,Oid.aa hpp,hpN,hqN,hqp,hqp',hO]
 refine hC1 _ (hF _ (aq rfl hp) (fun h=>hpp (Oid.ae h)) (hO.sub _ _)) (by simp only [List.mem_cons,forall_eq_or_imp];exact ⟨by simp (disch:=first|omega|assumption) only [go_sem,Oid.ab hq,Oid.aa hq,Oid.ab hpp,Oid.aa hpp,hpN,hqN,hqp,hqp',hO],(by first|exact nbu _|exact nbA (by simp [hpN,hqN,hO.mem]) _)⟩) ?_
 simp (disch:=first|omega|assumption) only [go_sem,Oid.ab hq,Oid.aa hq,Oid.ab hpp,Oid.aa hpp,hpN,hqN,hqp,hqp',hO]
 refine hK ?_;clear hK hS hC hC1 K S C hf
 (try ((first|refine zn ?_|refine ze ?_|refine zk ?_);with_reducible (constructor;repeat constructor));try refine zl ?_)
 by_cases hE:E=0
 case neg =>
  rw [if_neg (fun h=>hE h.1)]
  refine ao nmd [(2,22)] hng (by kernel_rfl) fun hf C S K hC1 hC hS hK=>?_;simp (disch:=first|omega|assumption) only [go_sem,Oid.ab hq,Oid.aa hq,Oid.ab hpp,Oid.aa hpp,hpN,hqN,hqp,hqp',hO,hE,decide_true,decide_false,ne_eq,not_true_eq_false,not_false_eq_true]
  refine hK ?_;clear hK hS hC hC1 K S C hf
  (repeat (first|(refine ay rfl rfl ?_)|(refine aw rfl rfl ?_)|(refine ao nmd [] hng (by kernel_rfl) fun hf C S K hC1 hC hS hK=>?_;simp (disch:=first|omega|assumption) only [go_sem,Oid.ab hq,Oid.aa hq,Oid.ab hpp,Oid.aa hpp,hpN,hqN,hqp,hqp',hO];refine hK ?_;clear hK hS hC hC1 K S C hf)|((first|refine zn ?_|refine ze ?_|refine zk ?_);with_reducible (constructor;repeat constructor);try refine zl ?_)))
  refine aB (bp (.str to') _ (by simp (disch:=first|omega|assumption) only [go_sem]) ⟨rfl,rfl⟩ (uS (by show _=some _;simp (disch:=first|omega|assumption) only [go_sem,Oid.ab hq,Oid.aa hq,Oid.ab hpp,Oid.aa hpp,hpN,hqN,hqp,hqp',hO]) (by show _=some _;simp (disch:=first|omega|assumption) only [go_sem,Oid.ab hq,Oid.aa hq,Oid.ab hpp,Oid.aa hpp,hpN,hqN,hqp,hqp',hO]) (by first|exact nbu _|exact nbA (by simp [hpN,hqN,hO.mem]) _)))
 subst hE
 by_cases hk:ek=2
 case neg =>
  rw [if_neg (fun h=>hk h.2)]
  refine ao nmd [(2,22)] hng (by kernel_rfl) fun hf C S K hC1 hC hS hK=>?_;simp (disch:=first|omega|assumption) only [go_sem,Oid.ab hq,Oid.aa hq,Oid.ab hpp,Oid.aa hpp,hpN,hqN,hqp,hqp',hO,hk,eq_self,decide_true,decide_false,ne_eq,not_true_eq_false,not_false_eq_true]
  refine hK ?_;clear hK hS hC hC1 K S C hf
  (repeat (first|(refine ay rfl rfl ?_)|(refine aw rfl rfl ?_)|(refine ao nmd [] hng (by kernel_rfl) fun hf C S K hC1 hC hS hK=>?_;simp (disch:=first|omega|assumption) only [go_sem,Oid.ab hq,Oid.aa hq,Oid.ab hpp,Oid.aa hpp,hpN,hqN,hqp,hqp',hO];refine hK ?_;clear hK hS hC hC1 K S C hf)|((first|refine zn ?_|refine ze ?_|refine zk ?_);with_reducible (constructor;repeat constructor);try refine zl ?_)))
  refine aB (bp (.str to') _ (by simp (disch:=first|omega|assumption) only [go_sem]) ⟨rfl,rfl⟩ (uS (by show _=some _;simp (disch:=first|omega|assumption) only [go_sem,Oid.ab hq,Oid.aa hq,Oid.ab hpp,Oid.aa hpp,hpN,hqN,hqp,hqp',hO]) (by show _=some _;simp (disch:=first|omega|assumption) only [go_sem,Oid.ab hq,Oid.aa hq,Oid.ab hpp,Oid.aa hpp,hpN,hqN,hqp,hqp',hO]) (by first|exact nbu _|exact nbA (by simp [hpN,hqN,hO.mem]) _)))
 subst hk
 rw [if_pos ⟨rfl,rfl⟩]
 refine ao nmd [(2,22)] hng (by kernel_rfl) fun hf C S K hC1 hC hS hK=>?_;simp (disch:=first|omega|assumption) only [go_sem,Oid.ab hq,Oid.aa hq,Oid.ab hpp,Oid.aa hpp,hpN,hqN,hqp,hqp',hO,eq_self,decide_true,decide_false,ne_eq,not_true_eq_false,not_false_eq_true]
 refine hK ?_;clear hK hS hC hC1 K S C hf
 (repeat (first|(refine ay rfl rfl ?_)|(refine aw rfl rfl ?_)|(refine ao nmd [] hng (by kernel_rfl) fun hf C S K hC1 hC hS hK=>?_;simp (disch:=first|omega|assumption) only [go_sem,Oid.ab hq,Oid.aa hq,Oid.ab hpp,Oid.aa hpp,hpN,hqN,hqp,hqp',hO];refine hK ?_;clear hK hS hC hC1 K S C hf)|((first|refine zn ?_|refine ze ?_|refine zk ?_);with_reducible (constructor;repeat constructor);try refine zl ?_)))
 refine ao nmd [] hng (by kernel_rfl) fun hf C S K hC1 hC hS hK=>?_;simp (disch:=first|omega|assumption) only [go_sem,Oid.ab hq,Oid.aa hq,Oid.ab hpp,Oid.aa hpp,hpN,hqN,hqp,hqp',hO]
 refine hC1 _ (hT _) (fun _ h=>by cases h) ?_
 simp (disch:=first|omega|assumption) only [go_sem,Oid.ab hq,Oid.aa hq,Oid.ab hpp,Oid.aa hpp,hpN,hqN,hqp,hqp',hO]
 refine hC1 _ (hB _) (fun _ h=>by cases h) ?_
 simp (disch:=first|omega|assumption) only [go_sem,Oid.ab hq,Oid.aa hq,Oid.ab hpp,Oid.aa hpp,hpN,hqN,hqp,hqp',hO]
 refine hK ?_;clear hK hS hC hC1 K S C hf
 (repeat (first|(refine ay rfl rfl ?_)|(refine aw rfl rfl ?_)|(refine ao nmd [] hng (by kernel_rfl) fun hf C S K hC1 hC hS hK=>?_;simp (disch:=first|omega|assumption) only [go_sem,Oid.ab hq,Oid.aa hq,Oid.ab hpp,Oid.aa hpp,hpN,hqN,hqp,hqp',hO];refine hK ?_;clear hK hS hC hC1 K S C hf)|((first|refine zn ?_|refine ze ?_|refine zk ?_);with_reducible (constructor;repeat constructor);try refine zl ?_)))
 refine aB (bp (.str _) _ (by simp (disch:=first|omega|assumption) only [go_sem]) ⟨rfl,rfl⟩ (uS (by show _=some _;simp (disch:=first|omega|assumption) only [go_sem,Oid.ab hq,Oid.aa hq,Oid.ab hpp,Oid.aa hpp,hpN,hqN,hqp,hqp',hO]) (by show _=some _;simp (disch:=first|omega|assumption) only [go_sem,Oid.ab hq,Oid.aa hq,Oid.ab hpp,Oid.aa hpp,hpN,hqN,hqp,hqp',hO]) (by first|exact nbu _|exact nbA (by simp [hpN,hqN,hO.mem]) _)))
theorem HJ (nm inp:Str) (r:Res) (hnm:nm.length≤4000000000) (hre:r.err.length≤1000000000000) (a b:Str) (ha:a.length≤4000000000) (hb:b.length≤4000000000) (h1:RP st N L (findF L cwd b true).1 F F1) (h2:RP st N L (aI L cwd a).1 F1 F2) (he:¬ aA (aI L cwd a).2=0) (he2:-9223372036854775808≤aA (aI L cwd a).2∧aA (aI L cwd a).2≤9223372036854775807) :
  UtP pp st cwd um N F F2 55 nm inp [a,b] r (r.add nm a (aA (aI L cwd a).2)):=by
 unfold UtP;intro q p hp hqN hqp hq hpp hO;have hqp':¬ pp=q:=fun e=>hqp e.symm
 have hT:=fun p hp h3 h4 h5=>lN hK hc um hpN nm inp r a b ha hb h1 q p hp hqN hqp h3 h4 h5
 have hR:=fun p hp hpp hO=>ki (pp:=pp) (st:=st) hK hc um hpN (p:=p) hp hpp hO a (by omega) h2
 have hX:=fun p hp hq=>gH (pp:=pp) nm inp r a (aA (aI L cwd a).2) hnm ha hre he2 q p hp hq
 unfold rdV at hR
 clear h1 h2 he2
 generalize gy (findF L cwd b true).2 a b=to' at hT
 generalize r.add nm a (aA (aI L cwd a).2)=r' at hX ⊢
 generalize aA (aI L cwd a).2=E at hR hX he
 generalize rdS (aI L cwd a).2=S1 at hR
 obtain ⟨st',out,err⟩:=r
 obtain ⟨st2,out2,err2⟩:=r'
 unfold prC at hT hR ⊢
 unfold dL at hT hX ⊢
 refine aD (n:=49) (rs:=[]) Tryz.func55 rfl rfl (by decide) rfl rfl rfl ?_;rintro x rfl hrd hng
 rw [dK]
 (repeat (first|(refine ay rfl rfl ?_)|(refine aw rfl rfl ?_)|(refine ao nmd [] hng (by kernel_rfl) fun hf C S K hC1 hC hS hK=>?_;simp (disch:=first|omega|assumption) only [go_sem,Oid.ab hq,Oid.aa hq,Oid.ab hpp,Oid.aa hpp,hpN,hqN,hqp,hqp',hO];refine hK ?_;clear hK hS hC hC1 K S C hf)|((first|refine zn ?_|refine ze ?_|refine zk ?_);with_reducible (constructor;repeat constructor);try refine zl ?_)))
 refine bJ nmd [] [] mixed hng (by kernel_rfl) [0,1,4] fun hf C S K hC hS hK=>?_;simp (disch:=first|omega|assumption) only [go_sem,Oid.ab hq,Oid.aa hq,Oid.ab hpp,Oid.aa hpp,hpN,hqN,hqp,hqp',hO]
 refine hC _ (hT _ (aq rfl hp) (fun h=>hq (Oid.ae h)) (fun h=>hpp (Oid.ae h)) (hO.sub _ _)) (by simp only [List.mem_cons,forall_eq_or_imp];exact ⟨by simp (disch:=first|omega|assumption) only [go_sem,Oid.ab hq,Oid.aa hq,Oid.ab hpp,Oid.aa hpp,hpN,hqN,hqp,hqp',hO],by simp (disch:=first|omega|assumption) only [go_sem,Oid.ab hq,Oid.aa hq,Oid.ab hpp,Oid.aa hpp,hpN,hqN,hqp,hqp',hO],(by first|exact nbu _|exact nbA (by simp [hpN,hqN,hO.mem]) _)⟩) ?_
 simp (disch:=first|omega|assumption) only [go_sem,Oid.ab hq,Oid.aa hq,Oid.ab hpp,Oid.aa hpp,hpN,hqN,hqp,hqp',hO]
 (first|refine hK (aE rfl) ?_|refine hK (by simp (disch:=first|omega|assumption) only [go_sem,List.reverse_cons,List.reverse_nil,ne_eq,not_false_eq_true,implies_true]) ?_);clear hK hS hC K S C hf
 (try ((first|refine zn ?_|refine ze ?_|refine zk ?_);with_reducible (constructor;repeat constructor));try refine zl ?_)
 refine bJ nmd [] [] mixed hng (by kernel_rfl) [0,1,4,5,6] fun hf C S K hC hS hK=>?_;simp (disch:=first|omega|assumption) only [go_sem,Oid.ab hq,Oid.aa hq,Oid.ab hpp,Oid.aa hpp,hpN,hqN,hqp,hqp',hO]
 refine hC _ (hR _ (aq rfl hp) (fun h=>hpp (Oid.ae h)) (hO.sub _ _)) (by simp only [List.mem_cons,forall_eq_or_imp];exact ⟨by simp (disch:=first|omega|assumption) only [go_sem,Oid.ab hq,Oid.aa hq,Oid.ab hpp,Oid.aa hpp,hpN,hqN,hqp,hqp',hO],(by first|exact nbu _|exact nbA (by simp [hpN,hqN,hO.mem]) _)⟩) ?_
 simp (disch:=first|omega|assumption) only [go_sem,Oid.ab hq,Oid.aa hq,Oid.ab hpp,Oid.aa hpp,hpN,hqN,hqp,hqp',hO]
 (first|refine hK (aE rfl) ?_|refine hK (by simp (disch:=first|omega|assumption) only [go_sem,List.reverse_cons,List.reverse_nil,ne_eq,not_false_eq_true,implies_true]) ?_);clear hK hS hC K S C hf
 (try ((first|refine zn ?_|refine ze ?_|refine zk ?_);with_reducible (constructor;repeat constructor));try refine zl ?_)
 refine qr (.d [] [] []) he trivial ?_
 (repeat (first|(refine ay rfl rfl ?_)|(refine aw rfl rfl ?_)|(refine ao nmd [] hng (by kernel_rfl) fun hf C S K hC1 hC hS hK=>?_;simp (disch:=first|omega|assumption) only [go_sem];refine hK ?_;clear hK hS hC hC1 K S C hf)|((first|refine zn ?_|refine ze ?_|refine zk ?_);with_reducible (constructor;repeat constructor);try refine zl ?_)))
 refine ao nmd [] hng (by kernel_rfl) fun hf C S K hC1 hC hS hK=>?_;simp (disch:=first|omega|assumption) only [go_sem,Oid.ab hq,Oid.aa hq,Oid.ab hpp,Oid.aa hpp,hpN,hqN,hqp,hqp',hO]
 refine hC1 _ (hX _ (aq rfl hp) (fun h=>hq (Oid.ae h))) (by simp (disch:=first|omega|assumption) only [go_sem,Oid.ab hq,Oid.aa hq,Oid.ab hpp,Oid.aa hpp,hpN,hqN,hqp,hqp',hO]) ?_
 simp (disch:=first|omega|assumption) only [go_sem,Oid.ab hq,Oid.aa hq,Oid.ab hpp,Oid.aa hpp,hpN,hqN,hqp,hqp',hO]
 refine hK ?_;clear hK hS hC hC1 K S C hf
 (repeat (first|(refine ay rfl rfl ?_)|(refine aw rfl rfl ?_)|(refine ao nmd [] hng (by kernel_rfl) fun hf C S K hC1 hC hS hK=>?_;simp (disch:=first|omega|assumption) only [go_sem];refine hK ?_;clear hK hS hC hC1 K S C hf)|((first|refine zn ?_|refine ze ?_|refine zk ?_);with_reducible (constructor;repeat constructor);try refine zl ?_)))
 exact aB (bp (.tuple []) _ rfl ⟨rfl,rfl⟩ (jo hqp (by simp (disch:=first|omega|assumption) only [go_sem,Oid.ab hq,Oid.aa hq,Oid.ab hpp,Oid.aa hpp,hpN,hqN,hqp,hqp',hO]) (by show _=some _;simp (disch:=first|omega|assumption) only [go_sem,Oid.ab hq,Oid.aa hq,Oid.ab hpp,Oid.aa hpp,hpN,hqN,hqp,hqp',hO]) (by first|exact nbu _|exact nbA (by simp [hpN,hqN,hO.mem]) _)))
theorem Fe (nm inp:Str) (r:Res) (hnm:nm.length≤4000000000) (hre:r.err.length≤1000000000000) (a b s:Str) (ha:a.length≤4000000000) (hb:b.length≤2000000000) (hs:s.length≤4000000000) (h1:RP st N L (findF L cwd b true).1 F F1) (h2:RP st N L (aI L cwd a).1 F1 F2) (hr0:aA (aI L cwd a).2=0) (hrs:rdS (aI L cwd a).2=s) (to':Str) (hto:gy (findF L cwd b true).2 a b=to') (htl:to'.length≤4000000000)
  (h3:RP st N L (bw L cwd um to' s false).1 F2 F3) (h4:PP st N (bT (bw L cwd um to' s false).2) F3 F4) (he2:-9223372036854775808≤aA (bw L cwd um to' s false).2∧aA (bw L cwd um to' s false).2≤9223372036854775807) :
  UtP pp st cwd um N F F4 55 nm inp [a,b] r (r.add nm to' (aA (bw L cwd um to' s false).2)):=by
 unfold UtP;intro q p hp hqN hqp hq hpp hO;have hqp':¬ pp=q:=fun e=>hqp e.symm
 have hT:=fun p hp h3 h4 h5=>lN hK hc um hpN nm inp r a b ha (by omega) h1 q p hp hqN hqp h3 h4 h5
 rw [hto] at hT
 have hR:=fun p hp hpp hO=>ki (pp:=pp) (st:=st) hK hc um hpN (p:=p) hp hpp hO a (by omega) h2
 have hW:=fun p hp hpp hO=>mM (pp:=pp) (st:=st) hK hc um hpN (p:=p) hp hpp hO to' (by omega) s (by omega) false h3 h4
 have hX:=fun p hp hq=>gH (pp:=pp) nm inp r to' (aA (bw L cwd um to' s false).2) hnm htl hre he2 q p hp hq
 unfold rdV at hR
 rw [hr0,hrs] at hR
 clear h1 h2 h3 h4 he2 hr0 hrs hto
 generalize r.add nm to' (aA (bw L cwd um to' s false).2)=r' at hX ⊢
 generalize aA (bw L cwd um to' s false).2=E at hW hX
 obtain ⟨st',out,err⟩:=r
 obtain ⟨st2,out2,err2⟩:=r'
 unfold prC at hT hR hW ⊢
 unfold dL at hT hX ⊢
 refine aD (n:=49) (rs:=[]) Tryz.func55 rfl rfl (by decide) rfl rfl rfl ?_;rintro x rfl hrd hng
 rw [dK]
 (repeat (first|(refine ay rfl rfl ?_)|(refine aw rfl rfl ?_)|(refine ao nmd [] hng (by kernel_rfl) fun hf C S K hC1 hC hS hK=>?_;simp (disch:=first|omega|assumption) only [go_sem,Oid.ab hq,Oid.aa hq,Oid.ab hpp,Oid.aa hpp,hpN,hqN,hqp,hqp',hO];refine hK ?_;clear hK hS hC hC1 K S C hf)|((first|refine zn ?_|refine ze ?_|refine zk ?_);with_reducible (constructor;repeat constructor);try refine zl ?_)))
 refine bJ nmd [] [] mixed hng (by kernel_rfl) [0,1,4] fun hf C S K hC hS hK=>?_;simp (disch:=first|omega|assumption) only [go_sem,Oid.ab hq,Oid.aa hq,Oid.ab hpp,Oid.aa hpp,hpN,hqN,hqp,hqp',hO]
 refine hC _ (hT _ (aq rfl hp) (fun h=>hq (Oid.ae h)) (fun h=>hpp (Oid.ae h)) (hO.sub _ _)) (by simp only [List.mem_cons,forall_eq_or_imp];exact ⟨by simp (disch:=first|omega|assumption) only [go_sem,Oid.ab hq,Oid.aa hq,Oid.ab hpp,Oid.aa hpp,hpN,hqN,hqp,hqp',hO],by simp (disch:=first|omega|assumption) only [go_sem,Oid.ab hq,Oid.aa hq,Oid.ab hpp,Oid.aa hpp,hpN,hqN,hqp,hqp',hO],(by first|exact nbu _|exact nbA (by simp [hpN,hqN,hO.mem]) _)⟩) ?_
 simp (disch:=first|omega|assumption) only [go_sem,Oid.ab hq,Oid.aa hq,Oid.ab hpp,Oid.aa hpp,hpN,hqN,hqp,hqp',hO]
 (first|refine hK (aE rfl) ?_|refine hK (by simp (disch:=first|omega|assumption) only [go_sem,List.reverse_cons,List.reverse_nil,ne_eq,not_false_eq_true,implies_true]) ?_);clear hK hS hC K S C hf
 (try ((first|refine zn ?_|refine ze ?_|refine zk ?_);with_reducible (constructor;repeat constructor));try refine zl ?_)
 refine bJ nmd [] [] mixed hng (by kernel_rfl) [0,1,4,5,6] fun hf C S K hC hS hK=>?_;simp (disch:=first|omega|assumption) only [go_sem,Oid.ab hq,Oid.aa hq,Oid.ab hpp,Oid.aa hpp,hpN,hqN,hqp,hqp',hO]
 refine hC _ (hR _ (aq rfl hp) (fun h=>hpp (Oid.ae h)) (hO.sub _ _)) (by simp only [List.mem_cons,forall_eq_or_imp];exact ⟨by simp (disch:=first|omega|assumption) only [go_sem,Oid.ab hq,Oid.aa hq,Oid.ab hpp,Oid.aa hpp,hpN,hqN,hqp,hqp',hO],(by first|exact nbu _|exact nbA (by simp [hpN,hqN,hO.mem]) _)⟩) ?_
 simp (disch:=first|omega|assumption) only [go_sem,Oid.ab hq,Oid.aa hq,Oid.ab hpp,Oid.aa hpp,hpN,hqN,hqp,hqp',hO]
 (first|refine hK (aE rfl) ?_|refine hK (by simp (disch:=first|omega|assumption) only [go_sem,List.reverse_cons,List.reverse_nil,ne_eq,not_false_eq_true,implies_true]) ?_);clear hK hS hC K S C hf
 (repeat (first|(refine ay rfl rfl ?_)|(refine aw rfl rfl ?_)|(refine ao nmd [] hng (by kernel_rfl) fun hf C S K hC1 hC hS hK=>?_;simp (disch:=first|omega|assumption) only [go_sem];refine hK ?_;clear hK hS hC hC1 K S C hf)|((first|refine zn ?_|refine ze ?_|refine zk ?_);with_reducible (constructor;repeat constructor);try refine zl ?_)))
 refine ao nmd [] hng (by kernel_rfl) fun hf C S K hC1 hC hS hK=>?_;simp (disch:=first|omega|assumption) only [go_sem,Oid.ab hq,Oid.aa hq,Oid.ab hpp,Oid.aa hpp,hpN,hqN,hqp,hqp',hO]
 refine hC1 _ (hW _ (aq rfl hp) (fun h=>hpp (Oid.ae h)) (hO.sub _ _)) (by simp only [List.mem_cons,forall_eq_or_imp];exact ⟨by simp (disch:=first|omega|assumption) only [go_sem,Oid.ab hq,Oid.aa hq,Oid.ab hpp,Oid.aa hpp,hpN,hqN,hqp,hqp',hO],(by first|exact nbu _|exact nbA (by simp [hpN,hqN,hO.mem]) _)⟩) ?_
 simp (disch:=first|omega|assumption) only [go_sem,Oid.ab hq,Oid.aa hq,Oid.ab hpp,Oid.aa hpp,hpN,hqN,hqp,hqp',hO]
 refine hC1 _ (hX _ (aq rfl hp) (fun h=>hq (Oid.ae h))) (by simp (disch:=first|omega|assumption) only [go_sem,Oid.ab hq,Oid.aa hq,Oid.ab hpp,Oid.aa hpp,hpN,hqN,hqp,hqp',hO]) ?_
 simp (disch:=first|omega|assumption) only [go_sem,Oid.ab hq,Oid.aa hq,Oid.ab hpp,Oid.aa hpp,hpN,hqN,hqp,hqp',hO]
 refine hK ?_;clear hK hS hC hC1 K S C hf
 exact bZ (bt (.tuple []) _ rfl ⟨rfl,rfl⟩ (jo hqp (by simp (disch:=first|omega|assumption) only [go_sem,Oid.ab hq,Oid.aa hq,Oid.ab hpp,Oid.aa hpp,hpN,hqN,hqp,hqp',hO]) (by show _=some _;simp (disch:=first|omega|assumption) only [go_sem,Oid.ab hq,Oid.aa hq,Oid.ab hpp,Oid.aa hpp,hpN,hqN,hqp,hqp',hO]) (by first|exact nbu _|exact nbA (by simp [hpN,hqN,hO.mem]) _)))
theorem HK (nm inp:Str) (r:Res) (hnm:nm.length≤4000000000) (hre:r.err.length≤1000000000000) (a b:Str) (ha:a.length≤4000000000) (hb:b.length≤2000000000) (h1:RP st N L (findF L cwd b true).1 F F1) (to':Str) (hto:gy (findF L cwd b true).2 a b=to') (htl:to'.length≤4000000000)
  (h3:RP st N L (bj L cwd a to').1 F1 F2) (h4:PP st N (bT (bj L cwd a to').2) F2 F3) (he2:-9223372036854775808≤aA (bj L cwd a to').2∧aA (bj L cwd a to').2≤9223372036854775807) :
  UtP pp st cwd um N F F3 56 nm inp [a,b] r (r.add nm a (aA (bj L cwd a to').2)):=by
 unfold UtP;intro q p hp hqN hqp hq hpp hO;have hqp':¬ pp=q:=fun e=>hqp e.symm
 have hT:=fun p hp h3 h4 h5=>lN hK hc um hpN nm inp r a b ha (by omega) h1 q p hp hqN hqp h3 h4 h5
 rw [hto] at hT
 have hW:=fun p hp hpp hO=>tk (pp:=pp) (st:=st) hK hc um hpN (p:=p) hp hpp hO a (by omega) to' (by omega) h3 h4
 have hX:=fun p hp hq=>gH (pp:=pp) nm inp r a (aA (bj L cwd a to').2) hnm ha hre he2 q p hp hq
 clear h1 h3 h4 he2 hto
 generalize r.add nm a (aA (bj L cwd a to').2)=r' at hX ⊢
 generalize aA (bj L cwd a to').2=E at hW hX
 obtain ⟨st',out,err⟩:=r
 obtain ⟨st2,out2,err2⟩:=r'
 unfold prC at hT hW ⊢
 unfold dL at hT hX ⊢
 refine aD (n:=30) (rs:=[]) Tryz.func56 rfl rfl (by decide) rfl rfl rfl ?_;rintro x rfl hrd hng
 rw [dK]
 (repeat (first|(refine ay rfl rfl ?_)|(refine aw rfl rfl ?_)|(refine ao nmd [] hng (by kernel_rfl) fun hf C S K hC1 hC hS hK=>?_;simp (disch:=first|omega|assumption) only [go_sem,Oid.ab hq,Oid.aa hq,Oid.ab hpp,Oid.aa hpp,hpN,hqN,hqp,hqp',hO];refine hK ?_;clear hK hS hC hC1 K S C hf)|((first|refine zn ?_|refine ze ?_|refine zk ?_);with_reducible (constructor;repeat constructor);try refine zl ?_)))
 refine bJ nmd [] [(3,18),(7,18),(10,18),(3,19)] mixed hng (by kernel_rfl) [0] fun hf C S K hC hS hK=>?_;simp (disch:=first|omega|assumption) only [go_sem,Oid.ab hq,Oid.aa hq,Oid.ab hpp,Oid.aa hpp,hpN,hqN,hqp,hqp',hO]
 refine hC _ (hT _ (aq rfl hp) (fun h=>hq (Oid.ae h)) (fun h=>hpp (Oid.ae h)) (hO.sub _ _)) (by simp only [List.mem_cons,forall_eq_or_imp];exact ⟨by simp (disch:=first|omega|assumption) only [go_sem,Oid.ab hq,Oid.aa hq,Oid.ab hpp,Oid.aa hpp,hpN,hqN,hqp,hqp',hO],by simp (disch:=first|omega|assumption) only [go_sem,Oid.ab hq,Oid.aa hq,Oid.ab hpp,Oid.aa hpp,hpN,hqN,hqp,hqp',hO],(by first|exact nbu _|exact nbA (by simp [hpN,hqN,hO.mem]) _)⟩) ?_
 simp (disch:=first|omega|assumption) only [go_sem,Oid.ab hq,Oid.aa hq,Oid.ab hpp,Oid.aa hpp,hpN,hqN,hqp,hqp',hO]
 refine hC _ (hW _ (aq rfl hp) (fun h=>hpp (Oid.ae h)) (hO.sub _ _)) (by simp only [List.mem_cons,forall_eq_or_imp];exact ⟨by simp (disch:=first|omega|assumption) only [go_sem,Oid.ab hq,Oid.aa hq,Oid.ab hpp,Oid.aa hpp,hpN,hqN,hqp,hqp',hO],(by first|exact nbu _|exact nbA (by simp [hpN,hqN,hO.mem]) _)⟩) ?_
 simp (disch:=first|omega|assumption) only [go_sem,Oid.ab hq,Oid.aa hq,Oid.ab hpp,Oid.aa hpp,hpN,hqN,hqp,hqp',hO]
 refine hC _ (hX _ (aq rfl hp) (fun h=>hq (Oid.ae h))) (by simp (disch:=first|omega|assumption) only [go_sem,Oid.ab hq,Oid.aa hq,Oid.ab hpp,Oid.aa hpp,hpN,hqN,hqp,hqp',hO]) ?_
 simp (disch:=first|omega|assumption) only [go_sem,Oid.ab hq,Oid.aa hq,Oid.ab hpp,Oid.aa hpp,hpN,hqN,hqp,hqp',hO]
 (first|refine hK (aE rfl) ?_|refine hK (by simp (disch:=first|omega|assumption) only [go_sem,List.reverse_cons,List.reverse_nil,ne_eq,not_false_eq_true,implies_true]) ?_);clear hK hS hC K S C hf
 exact bZ (bt (.tuple []) _ rfl ⟨rfl,rfl⟩ (jo hqp (by simp (disch:=first|omega|assumption) only [go_sem,Oid.ab hq,Oid.aa hq,Oid.ab hpp,Oid.aa hpp,hpN,hqN,hqp,hqp',hO]) (by show _=some _;simp (disch:=first|omega|assumption) only [go_sem,Oid.ab hq,Oid.aa hq,Oid.ab hpp,Oid.aa hpp,hpN,hqN,hqp,hqp',hO]) (by first|exact nbu _|exact nbA (by simp [hpN,hqN,hO.mem]) _)))
end
end Go.Proofs.YtfbnaalhioogoaaGreatDoor
namespace Go.Proofs.YtfbnaalhioogoaaGreatDoor
open Go Go.Ab
set_option maxRecDepth 20000
set_option maxHeartbeats 4000000
theorem yd (n:Nat) (hn:(n:Int)≤9223372036854775807):∀ p:Oid,aj Tryz.prog 311 [.int .i64 n] (Oid.under p) ⟨[],.str (Lib.decDigits n),[]⟩:=by
 induction n using Nat.strongRecOn with
 | ind n ih =>
  intro p
  have h10:(n:Int).tmod 10=((n % 10:Nat):Int):=dw n 10
  have h11:(n:Int).tdiv 10=((n / 10:Nat):Int):=nD n 10
  have hd:IntKind.u8.wrap (48+((n % 10:Nat):Int))=((UInt8.ofNat (48+n % 10)).toNat:Int):=by
   rw [w8 (by omega) (by omega),UInt8.toNat_ofNat'];omega
  have hz:(((n % 10:Nat):Int) < 0)=False:=eq_false (by omega)
  have hlen:=Lib.itoa_length_le ((n / 10:Nat):Int) (by omega) (by omega)
  rw [Lib.itoa_nonneg] at hlen
  refine aD (n:=25) (rs:=[.tmp 2]) Tryz.func311 rfl rfl (by decide) rfl rfl rfl ?_;rintro x rfl hrd hng
  (repeat (first|(refine ay rfl rfl ?_)|(refine aw rfl rfl ?_)|(refine ao nmd [] hng (by kernel_rfl) fun hf C S K hC1 hC hS hK=>?_;simp (disch:=first|omega|assumption) only [go_sem,h10,hz,decide_true,decide_false,ne_eq,not_true_eq_false,not_false_eq_true];(repeat ((first|refine hC1 _ () (by simp (disch:=first|omega|assumption) only [go_sem]) ?_);simp (disch:=first|omega|assumption) only [go_sem]));refine hK ?_;clear hK hS hC hC1 K S C hf)|((first|refine zn ?_|refine ze ?_|refine zk ?_);with_reducible (constructor;repeat constructor);try refine zl ?_)))
  refine ao nmd [] hng (by kernel_rfl) fun hf C S K hC1 hC hS hK=>?_;simp (disch:=first|omega|assumption) only [go_sem,hd,ka,vB]
  refine hK ?_;clear hK hS hC hC1 K S C hf
  (repeat (first|(refine ay rfl rfl ?_)|(refine aw rfl rfl ?_)|(refine ao nmd [] hng (by kernel_rfl) fun hf C S K hC1 hC hS hK=>?_;simp (disch:=first|omega|assumption) only [go_sem,h11];(repeat ((first|refine hC1 _ () (by simp (disch:=first|omega|assumption) only [go_sem]) ?_);simp (disch:=first|omega|assumption) only [go_sem]));refine hK ?_;clear hK hS hC hC1 K S C hf)|((first|refine zn ?_|refine ze ?_|refine zk ?_);with_reducible (constructor;repeat constructor);try refine zl ?_)))
  refine aP rfl rfl (fun hb=>?_) (fun hb=>?_)
  ·refine qw0 ?_
   exact aB (bA (congrArg AV.str (by rw [Lib.decDigits,dif_pos (by omega)];congr 2;rw [Nat.mod_eq_of_lt (by omega)])))
  ·(try ((first|refine zn ?_|refine ze ?_|refine zk ?_);with_reducible (constructor;repeat constructor));try refine zl ?_)
   refine qr .o h11 (cq (ih (n / 10) (by omega) (by omega) _) trivial) ?_
   refine qw0 ?_
   exact aB (bA (congrArg AV.str (by rw [Lib.decDigits.eq_def n,dif_neg (by omega)])))
theorem Bn (n:Nat) (h0:0 < n) (hn:(n:Int)≤9223372036854775808):∀ p:Oid,aj Tryz.prog 311 [.int .i64 (-(n:Int))] (Oid.under p) ⟨[],.str (Lib.decDigits n),[]⟩:=by
 induction n using Nat.strongRecOn with
 | ind n ih =>
  intro p
  have h10:(-(n:Int)).tmod 10 = -((n % 10:Nat):Int):=(Int.neg_tmod _ _).trans (congrArg Neg.neg (dw n 10))
  have h11:(-(n:Int)).tdiv 10 = -((n / 10:Nat):Int):=(Int.neg_tdiv _ _).trans (congrArg Neg.neg (nD n 10))
  have hd:IntKind.u8.wrap (48+((n % 10:Nat):Int))=((UInt8.ofNat (48+n % 10)).toNat:Int):=by
   rw [w8 (by omega) (by omega),UInt8.toNat_ofNat'];omega
  have hlen:=Lib.itoa_length_le ((n / 10:Nat):Int) (by omega) (by omega)
  rw [Lib.itoa_nonneg] at hlen
  have hq:(-((n / 10:Nat):Int)=0)=(n / 10=0):=propext (by omega)
  by_cases hr:n % 10=0
  case' pos =>
   have h10':(-(n:Int)).tmod 10=((n % 10:Nat):Int):=by rw [h10];omega
   have hz:(((n % 10:Nat):Int) < 0)=False:=eq_false (by omega)
   clear h10
   refine aD (n:=25) (rs:=[.tmp 2]) Tryz.func311 rfl rfl (by decide) rfl rfl rfl ?_;rintro x rfl hrd hng
   (repeat (first|(refine ay rfl rfl ?_)|(refine aw rfl rfl ?_)|(refine ao nmd [] hng (by kernel_rfl) fun hf C S K hC1 hC hS hK=>?_;simp (disch:=first|omega|assumption) only [go_sem,h10',hz,decide_true,decide_false,ne_eq,not_true_eq_false,not_false_eq_true];(repeat ((first|refine hC1 _ () (by simp (disch:=first|omega|assumption) only [go_sem]) ?_);simp (disch:=first|omega|assumption) only [go_sem]));refine hK ?_;clear hK hS hC hC1 K S C hf)|((first|refine zn ?_|refine ze ?_|refine zk ?_);with_reducible (constructor;repeat constructor);try refine zl ?_)))
  case' neg =>
   have hz:(-((n % 10:Nat):Int) < 0)=True:=eq_true (by omega)
   have hng':0 - -((n % 10:Nat):Int)=((n % 10:Nat):Int):=by omega
   refine aD (n:=25) (rs:=[.tmp 2]) Tryz.func311 rfl rfl (by decide) rfl rfl rfl ?_;rintro x rfl hrd hng
   (repeat (first|(refine ay rfl rfl ?_)|(refine aw rfl rfl ?_)|(refine ao nmd [] hng (by kernel_rfl) fun hf C S K hC1 hC hS hK=>?_;simp (disch:=first|omega|assumption) only [go_sem,h10,hz,hng',decide_true,decide_false,ne_eq,not_true_eq_false,not_false_eq_true];(repeat ((first|refine hC1 _ () (by simp (disch:=first|omega|assumption) only [go_sem]) ?_);simp (disch:=first|omega|assumption) only [go_sem]));refine hK ?_;clear hK hS hC hC1 K S C hf)|((first|refine zn ?_|refine ze ?_|refine zk ?_);with_reducible (constructor;repeat constructor);try refine zl ?_)))
  all_goals
   refine ao nmd [] hng (by kernel_rfl) fun hf C S K hC1 hC hS hK=>?_;simp (disch:=first|omega|assumption) only [go_sem,hd,ka,vB]
   refine hK ?_;clear hK hS hC hC1 K S C hf
   (repeat (first|(refine ay rfl rfl ?_)|(refine aw rfl rfl ?_)|(refine ao nmd [] hng (by kernel_rfl) fun hf C S K hC1 hC hS hK=>?_;simp (disch:=first|omega|assumption) only [go_sem,h11,hq];(repeat ((first|refine hC1 _ () (by simp (disch:=first|omega|assumption) only [go_sem]) ?_);simp (disch:=first|omega|assumption) only [go_sem]));refine hK ?_;clear hK hS hC hC1 K S C hf)|((first|refine zn ?_|refine ze ?_|refine zk ?_);with_reducible (constructor;repeat constructor);try refine zl ?_)))
   refine aP rfl rfl (fun hb=>?_) (fun hb=>?_)
   ·refine qw0 ?_
    exact aB (bA (congrArg AV.str (by rw [Lib.decDigits,dif_pos (by omega)];congr 2;rw [Nat.mod_eq_of_lt (by omega)])))
   ·(try ((first|refine zn ?_|refine ze ?_|refine zk ?_);with_reducible (constructor;repeat constructor));try refine zl ?_)
    refine qr .o h11 (cq (ih (n / 10) (by omega) (by omega) (by omega) _) trivial) ?_
    refine qw0 ?_
    exact aB (bA (congrArg AV.str (by rw [Lib.decDigits.eq_def n,dif_neg (by omega)])))
theorem uT (n:Int) (h0:-9223372036854775808≤n) (hn:n≤9223372036854775807) (p:Oid):aj Tryz.prog 265 [.int .i64 n] (Oid.under p) ⟨[],.str (Lib.itoa n),[]⟩:=by
 by_cases hz:n < 0
 ·have hT:=fun p=>Bn n.natAbs (by omega) (by omega) p
  have hl:=Lib.itoa_length_le n (by omega) (by omega)
  have hi:Lib.itoa n=45::Lib.decDigits n.natAbs:=by unfold Lib.itoa;rw [if_pos hz]
  rw [show -(n.natAbs:Int)=n by omega] at hT
  rw [hi] at hl ⊢
  simp only [List.length_cons] at hl
  refine aD (n:=10) (rs:=[.tmp 2]) Tryz.func265 rfl rfl (by decide) rfl rfl rfl ?_;rintro x rfl hrd hng
  (repeat (first|(refine ay rfl rfl ?_)|(refine aw rfl rfl ?_)|(refine ao nmd [] hng (by kernel_rfl) fun hf C S K hC1 hC hS hK=>?_;simp (disch:=first|omega|assumption) only [go_sem,hz,decide_true,decide_false,ne_eq,not_true_eq_false,not_false_eq_true];(repeat ((first|refine hC1 _ (hT _) (by simp (disch:=first|omega|assumption) only [go_sem]) ?_);simp (disch:=first|omega|assumption) only [go_sem]));refine hK ?_;clear hK hS hC hC1 K S C hf)|((first|refine zn ?_|refine ze ?_|refine zk ?_);with_reducible (constructor;repeat constructor);try refine zl ?_)))
  exact aB (bA rfl)
 ·obtain ⟨k,rfl⟩:=Int.eq_ofNat_of_zero_le (by omega:0≤n)
  have hz':((k:Int) < 0)=False:=eq_false (by omega)
  rw [Lib.itoa_nonneg]
  refine aD (n:=10) (rs:=[.tmp 2]) Tryz.func265 rfl rfl (by decide) rfl rfl rfl ?_;rintro x rfl hrd hng
  (repeat (first|(refine ay rfl rfl ?_)|(refine aw rfl rfl ?_)|(refine ao nmd [] hng (by kernel_rfl) fun hf C S K hC1 hC hS hK=>?_;simp (disch:=first|omega|assumption) only [go_sem,hz',decide_true,decide_false,ne_eq,not_true_eq_false,not_false_eq_true];(repeat ((first|refine hC1 _ (yd k hn _) (by simp (disch:=first|omega|assumption) only [go_sem]) ?_);simp (disch:=first|omega|assumption) only [go_sem]));refine hK ?_;clear hK hS hC hC1 K S C hf)|((first|refine zn ?_|refine ze ?_|refine zk ?_);with_reducible (constructor;repeat constructor);try refine zl ?_)))
  exact aB (bA rfl)
end Go.Proofs.YtfbnaalhioogoaaGreatDoor
namespace Go.Proofs.YtfbnaalhioogoaaGreatDoor
open Go Go.Ab
set_option maxRecDepth 20000
set_option maxHeartbeats 4000000
theorem Ff (s:Str) (hs:s.length≤140737488355328) (p:Oid):aj Tryz.prog 114 [.str s] (Oid.under p) ⟨[],.str (aO s),[]⟩:=by
 refine aD (n:=18) (rs:=[.tmp 2]) Tryz.func114 rfl rfl (by decide) rfl rfl rfl ?_;rintro x rfl hrd hng
 refine qw0 ?_
 refine bV [0,3] (fun k s'=>∃ c:Nat,s' = ⟨[(0,.str s),(3,.int .i64 ((k:Int) - 1))],Mem.of [],c,[]⟩∧k≤s.length∧ck s 47 s.length=ck s 47 k) _ ⟨_,rfl,Nat.le_refl _,rfl⟩ ?_
 rintro k s' ⟨c,rfl,hk,hl⟩
 refine qw0 ?_
 refine aP rfl rfl (fun hb=>?_) (fun hb=>?_)
 ·obtain ⟨k,rfl⟩:∃ k',k=k' + 1:=⟨k - 1,by omega⟩
  have e1:(((k+1:Nat):Int) - 1).toNat=k:=by omega
  have e2:(((k+1:Nat):Int) - 1)=(k:Int):=by omega
  simp only [e2]
  have hkl:k < s.length:=by omega
  refine qw0 ?_
  refine aP rfl rfl (fun hb=>?_) (fun hb=>?_)
  ·have h47:s.getD k 0=47:=UInt8.toNat_inj.1 (by show _=47;omega)
   rw [ck,if_pos h47] at hl
   refine qw0 ?_
   exact aB (bA (congrArg AV.str (by unfold aO;rw [hl];simp)))
  ·have h47:¬ s.getD k 0=47:=fun e=>hb (by rw [e];rfl)
   rw [ck,if_neg h47] at hl
   refine qw0 ?_
   exact ⟨k,_,by omega,fun _ _ h=>h,_,rfl,by omega,hl⟩
 ·obtain rfl:k=0:=by omega
  refine qw0 ?_
  exact aB (bA (congrArg AV.str (by unfold aO;rw [hl];simp [ck])))
theorem uU {cur:Str} (h:(47:UInt8) ∉ cur):aR cur=if cur=[] then [] else [cur]:=by
 unfold aR
 rw [jd h]
 cases cur<;>simp
theorem uV {cur:Str} (u:Str) (h:(47:UInt8) ∉ cur):aR (cur++(47::u))=(if cur=[] then [] else [cur])++aR u:=by
 unfold aR
 rw [kf u h]
 cases cur<;>simp
theorem tp {s:Str} {f i:Nat} (hf:f≤i) (hi:i≤s.length) (hn:(47:UInt8) ∉ (s.take i).drop f) (h:i=s.length∨s.getD i 0=47) :
  aR (s.drop f)=(if (s.take i).drop f=[] then [] else [(s.take i).drop f])++aR (s.drop (i+1)):=by
 have e:s.drop f=(s.take i).drop f++s.drop i:=by
  conv=>lhs;rw [← List.take_append_drop i s]
  rw [List.drop_append_of_le_length (by rw [List.length_take];omega)]
 rw [e]
 by_cases hl:i=s.length
 ·subst hl
  have hz:s.drop (s.length+1)=[]:=List.drop_eq_nil_of_le (by omega)
  have hz2:aR []=[]:=rfl
  rw [List.drop_length,List.append_nil,uU hn,hz,hz2,List.append_nil]
 ·have h47:=h.resolve_left hl
  have hd:s.drop i=47::s.drop (i+1):=by
   rw [List.drop_eq_getElem_cons (by omega)]
   rw [List.getD_eq_getElem?_getD,List.getElem?_eq_getElem (by omega),Option.getD_some] at h47
   rw [h47]
  rw [hd,uV _ hn]
theorem ow (s:Str) (hs:s.length≤4000000) (p:Oid):cf Tryz.prog 112 [.str s] (Oid.under p) []
  (fun v u=>∃ id,Oid.under p id∧v = .tuple [.sl id 1 (aR s).length,.bool (cL s)]∧u=[(id,some (.arr 1 ((aR s).map AV.str)))]) (fun _ _=>False):=by
 refine gB (n:=46) (rs:=[.tmp 2,.tmp 3]) Tryz.func112 rfl rfl (by decide) rfl rfl rfl ?_;rintro x rfl hrd hng
 refine qw0 ?_
 refine qK 4 1 rfl ?_
 simp (disch:=first|omega|assumption) only [go_sem]
 refine bV [0,4,5,6] (fun k s'=>∃ (i f d j c:Nat) (done:List Str),k=s.length+1 - i∧i≤s.length+1∧f≤i∧(i=s.length+1→f=s.length+1)∧d < c∧done.length≤i∧(47:UInt8) ∉ (s.take i).drop f∧aR s=done++aR (s.drop f) ∧
   s' = ⟨[(0,.str s),(4,.sl (.sub d j x.p) 1 done.length),(5,.int .i64 f),(6,.int .i64 i)],Mem.of [(.sub d j x.p,.arr 1 (done.map AV.str))],c,[]⟩) _ ⟨0,0,4,0,_,[],rfl,Nat.zero_le _,Nat.le_refl _,by omega,by omega,Nat.le_refl _,by simp,rfl,rfl⟩ ?_
 rintro k s' ⟨i,f,d,j,c,done,rfl,hi,hf,hfi,hdc,hdl,hno,hpc,rfl⟩
 refine qw0 ?_
 refine aP rfl rfl (fun hb=>?_) (fun hb=>?_)
 ·have hile:i≤s.length:=by omega
  (try ((first|refine zn ?_|refine ze ?_|refine zk ?_);with_reducible (constructor;repeat constructor));try refine zl ?_)
  refine cB [0,4,5,6,22] (fun s'=>∃ c':Nat,s' = ⟨[(0,.str s),(4,.sl (.sub d j x.p) 1 done.length),(5,.int .i64 f),(6,.int .i64 i),(22,.bool (decide (i=s.length∨s.getD i 0=47)))],Mem.of [(.sub d j x.p,.arr 1 (done.map AV.str))],c',[]⟩∧d < c') ?_ ?_
  ·refine ao nmd [(4,17)] hng (by kernel_rfl) fun hf C S K hC1 hC hS hK=>?_;simp (disch:=first|omega|assumption) only [go_sem]
   (repeat' (first|(refine bG (fun hv=>?_) (fun hv=>?_)<;>(try simp only [zb1,zb2,zb3,zb4,zb5] at hv)<;>simp (disch:=first|omega|assumption) only [go_sem,hv])|(refine hK ?_;clear hK hS hC hC1 K S C hf)))
   ·rw [show decide (i=s.length∨s.getD i 0=47)=decide (((s.getD i 0).toNat:Int)=47) from decide_eq_decide.2 ⟨fun h=>by
      rcases h with h|h
      ·exact absurd (by omega) hv
      ·rw [h];rfl,fun h=>.inr (UInt8.toNat_inj.1 (by show _=47;omega))⟩]
    exact aM ⟨_,rfl,by omega⟩
   ·have hil:i=s.length:=by omega
    subst hil
    rw [show decide (s.length=s.length∨s.getD s.length 0=47)=true from decide_eq_true (.inl rfl)]
    exact aM ⟨_,rfl,by omega⟩
  clear hdc c
  rintro s' ⟨c,rfl,hdc⟩
  refine aP rfl rfl (fun hb=>?_) (fun hb=>?_)
  ·have hst:=tp hf hile hno hb
   have hno2:(47:UInt8) ∉ (s.take (i+1)).drop (i+1):=by
    rw [List.drop_eq_nil_of_le (by rw [List.length_take];omega)];simp
   rw [hst,← List.append_assoc] at hpc
   refine qw0 ?_
   refine aP rfl rfl (fun hb=>?_) (fun hb=>?_)
   ·have hne:¬ (s.take i).drop f=[]:=fun e=>by
     have:=congrArg List.length e
     rw [List.length_drop,List.length_take,List.length_nil] at this;omega
    rw [if_neg hne] at hpc
    have e1:((i:Int)).toNat=i:=by omega
    have e2:((f:Int)).toNat=f:=by omega
    refine qw0 ?_
    exact ⟨_,_,by omega,fun _ _ h=>h,i+1,i+1,c+1,6,c+1+1+1+1,done++[(s.take i).drop f],rfl,by omega,by omega,by omega,by omega,by simp;omega,hno2,hpc,by rw [List.map_append,List.length_append];rfl⟩
   ·have hne:(s.take i).drop f=[]:=List.drop_eq_nil_of_le (by rw [List.length_take];omega)
    rw [if_pos hne,List.append_nil] at hpc
    refine qw0 ?_
    exact ⟨_,_,by omega,fun _ _ h=>h,i+1,i+1,d,j,_,done,rfl,by omega,by omega,by omega,by omega,by omega,hno2,hpc,rfl⟩
  ·have hil:i < s.length:=by have:¬ i=s.length:=fun e=>hb (.inl e);omega
   have h47:¬ s.getD i 0=47:=fun e=>hb (.inr e)
   refine qw0 ?_
   refine ⟨_,_,by omega,fun _ _ h=>h,i+1,f,d,j,_,done,rfl,by omega,by omega,by omega,by omega,by omega,?_,hpc,rfl⟩
   have hg:s[i]? = some (s.getD i 0):=by rw [List.getD_eq_getElem?_getD,List.getElem?_eq_getElem hil];rfl
   rw [List.take_add_one,hg,List.drop_append_of_le_length (by rw [List.length_take];omega)]
   simp only [Option.toList_some,List.mem_append,List.mem_singleton,not_or]
   exact ⟨hno,fun e=>h47 e.symm⟩
 ·obtain rfl:=hfi (by omega)
  have hp0:aR (s.drop (s.length+1))=[]:=by rw [List.drop_eq_nil_of_le (by omega)];rfl
  rw [hp0,List.append_nil] at hpc
  rw [hpc]
  refine qw0 ?_
  by_cases h0:s=[]
  ·subst h0
   refine qd (.d [] [(3,38)] [2,3]) trivial trivial ?_
   refine qw0 ?_
   refine aB (bp _ [(.sub d j x.p,some (.arr 1 (done.map AV.str)))] (by simp (disch:=first|omega|assumption) only [go_sem];rfl) ⟨_,Oid.ae (Oid.ax _),rfl,rfl⟩ fun i o h=>?_)
   simpa [Mem.of,Mem.aK,Mem.set,Mem.emp] using h
  ·have hl:0 < s.length:=List.length_pos_iff.2 h0
   have e1:((s.length:Int) - 1).toNat=s.length - 1:=by omega
   have e3:((s.length - 1:Nat):Int)=(s.length:Int) - 1:=by omega
   refine qd (.d [] [(3,38)] [2,3]) (ai h0 e1) trivial ?_
   refine qw0 ?_
   refine aB (bp _ [(.sub d j x.p,some (.arr 1 (done.map AV.str)))] (by simp (disch:=first|omega|assumption) only [go_sem];rfl) ⟨_,Oid.ae (Oid.ax _),by
    unfold cL
    rw [decide_eq_true hl,Bool.true_and]
    rw [show decide (((s.getD (s.length - 1) 0).toNat:Int)=47)=decide (s.getD (s.length - 1) 0=47) from decide_eq_decide.2 ⟨fun h=>UInt8.toNat_inj.1 (by show _=47;omega),fun h=>by rw [h];rfl⟩],rfl⟩ fun i o h=>?_)
   simpa [Mem.of,Mem.aK,Mem.set,Mem.emp] using h
end Go.Proofs.YtfbnaalhioogoaaGreatDoor
namespace Go.Proofs.YtfbnaalhioogoaaGreatDoor
open Go Go.Ab
set_option maxRecDepth 20000
set_option maxHeartbeats 4000000
theorem uW {m:Int} (h:0≤m∧m≤7):dF m 3=3↔¬ dF m 2=0∧¬ dF m 1=0:=by
 have:m=0∨m=1∨m=2∨m=3∨m=4∨m=5∨m=6∨m=7:=by omega
 rcases this with rfl|rfl|rfl|rfl|rfl|rfl|rfl|rfl<;>decide
theorem tq {E:List (Oid × ah)} {Bs:List Bk} (hE:∀ e ∈ E,∀ B ∈ Bs,e.1 ∉ B.1):∀ A:List (Oid × ah),∀ i o,Mem.blk A Bs i=some o→Mem.blk (A++E) Bs i=some o
 | [],i,o,h=>by
  rw [List.nil_append]
  have hin:∃ B ∈ Bs,i ∈ B.1:=by
   clear hE
   induction Bs with
   | nil=>cases h
   | cons B Bs ih =>
    obtain ⟨N,F⟩:=B
    rw [bB] at h
    split at h
    ·exact ⟨_,List.mem_cons_self,‹_›⟩
    ·obtain ⟨B,h1,h2⟩:=ih h;exact ⟨B,List.mem_cons_of_mem _ h1,h2⟩
  obtain ⟨B,h1,h2⟩:=hin
  induction E with
  | nil=>exact h
  | cons e E ih =>
   rw [Mem.gx,if_neg fun e':i=e.1=>hE e List.mem_cons_self B h1 (e' ▸ h2)]
   exact ih fun e he=>hE e (List.mem_cons_of_mem _ he)
 | a::A,i,o,h=>by
  rw [List.cons_append,Mem.gx]
  rw [Mem.gx] at h
  split at h
  ·rw [if_pos ‹_›];exact h
  ·rw [if_neg ‹_›];exact tq hE A i o h
theorem ye (L:PL) (fol:Bool) (w:Wk) (n:Str) (t:List Str):∃ rd r,br L fol w n t=((w.pl,false)::rd,r):=by
 unfold br
 repeat' split
 all_goals exact ⟨_,_,rfl⟩
section
variable {pp st:Oid} {N:List Oid} {F F1 F2:Oid→ah} {L:PL} {cwd:Str} (um:Int) (hpN:pp ∉ N) {p:Oid} (hp:p.mono=false) (hpp:¬ Oid.under p pp) (hO:aY p N)
include hpN hp hpp hO
theorem uX (pl:Str) (hA:RR' st N L [(pl,false)] F F1) :
  aj Tryz.prog 113 [.ptr pp 0,.str pl] (Oid.under p) ⟨(pp,prC st cwd um)::bk (N,F),.int .i64 (inE (aG L pl)),sb N F1⟩:=by
 obtain ⟨_,hA,rfl⟩:=hA
 rename_i F1
 have hA':∀ p,p.mono=false→aY p N→aj Tryz.prog 49 [.ptr st 0,.str pl] (Oid.under p) ⟨bk (N,F),(aG L pl).av,sb N F1⟩:=hA
 generalize aG L pl=B at hA' ⊢
 obtain ⟨ek,em,el⟩:=B
 simp only [Bits.av] at hA'
 unfold prC inE
 refine aD (n:=25) (rs:=[.tmp 4]) Tryz.func113 rfl rfl (by decide) rfl rfl rfl ?_;rintro x rfl hrd hng
 rw [aC]
 refine kr0 ?_
 refine kr1 hA' ?_
 refine kw0 ?_
 by_cases c1:ek=0
 ·rw [if_pos c1]
  refine aP rfl rfl (fun hb=>?_) (fun hb=>?_)
  case refine_2=>exact absurd c1 hb
  refine kw0 ?_
  exact kq
 rw [if_neg c1]
 refine aP rfl rfl (fun hb=>?_) (fun hb=>?_)
 case refine_1=>exact absurd hb c1
 refine kw0 ?_
 by_cases c2:ek=2
 case neg =>
  rw [if_pos c2]
  refine aP rfl rfl (fun hb=>?_) (fun hb=>?_)
  case refine_2=>exact absurd c2 hb
  refine kw0 ?_
  exact kq
 rw [if_neg (fun h=>h c2)]
 refine aP rfl rfl (fun hb=>?_) (fun hb=>?_)
 case refine_1=>exact absurd c2 hb
 refine kw0 ?_
 by_cases c3:dF em 1=0
 ·rw [if_pos c3]
  refine aP rfl rfl (fun hb=>?_) (fun hb=>?_)
  case refine_2=>exact absurd c3 hb
  refine kw0 ?_
  exact kq
 rw [if_neg c3]
 refine aP rfl rfl (fun hb=>?_) (fun hb=>?_)
 case refine_1=>exact absurd hb c3
 refine kw0 ?_
 exact kq
theorem dP (hm:∀ n,0≤(aG L n).m∧(aG L n).m≤7) (pl:Str) (hpl:pl.length≤140737488355328) (hA:RR' st N L [(aO pl,false)] F F1) :
  aj Tryz.prog 45 [.ptr pp 0,.str pl] (Oid.under p) ⟨(pp,prC st cwd um)::bk (N,F),.int .i64 (bR pl (aG L (aO pl))),sb N F1⟩:=by
 obtain ⟨_,hA,rfl⟩:=hA
 rename_i F1
 have hA':∀ p,p.mono=false→aY p N→aj Tryz.prog 49 [.ptr st 0,.str (aO pl)] (Oid.under p) ⟨bk (N,F),(aG L (aO pl)).av,sb N F1⟩:=hA
 have hab:=fun p=>Ff pl hpl p
 have hmm:=hm (aO pl)
 generalize aG L (aO pl)=B at hA' hmm ⊢
 generalize aO pl=A at hA' hab
 obtain ⟨ek,em,el⟩:=B
 simp only [Bits.av] at hA' hmm
 have h3:=uW hmm
 unfold prC bR
 refine aD (n:=31) (rs:=[.tmp 4]) Tryz.func45 rfl rfl (by decide) rfl rfl rfl ?_;rintro x rfl hrd hng
 rw [aC]
 refine kr0 ?_
 refine kd (.d [(3,5),(3,7),(5,7),(6,7)] [] [0,1,5]) trivial (cq (hab _) (cq hA' trivial)) ?_
 refine kw0 ?_
 by_cases c1:pl=[]
 ·rw [if_pos c1]
  refine aP rfl rfl (fun hb=>?_) (fun hb=>?_)
  case refine_2=>exact absurd c1 hb
  refine kw0 ?_
  exact kq
 rw [if_neg c1]
 refine aP rfl rfl (fun hb=>?_) (fun hb=>?_)
 case refine_1=>exact absurd hb c1
 refine kw0 ?_
 by_cases c2:ek=2
 case neg =>
  rw [if_pos c2]
  refine aP rfl rfl (fun hb=>?_) (fun hb=>?_)
  case refine_2=>exact absurd c2 hb
  refine kw0 ?_
  exact kq
 rw [if_neg (fun h=>h c2)]
 refine aP rfl rfl (fun hb=>?_) (fun hb=>?_)
 case refine_1=>exact absurd c2 hb
 refine kw0 ?_
 by_cases c3:dF em 2=0
 ·rw [if_pos (fun h=>(h3.1 h).1 c3)]
  refine kr (.d [] [(4,25)] []) c3 trivial ?_
  refine kw0 ?_
  exact kq
 by_cases c4:dF em 1=0
 ·rw [if_pos (fun h=>(h3.1 h).2 c4)]
  refine ao nmd [(4,25)] hng (by kernel_rfl) fun hf C S K hC1 hC hS hK=>?_;simp (disch:=first|omega|assumption) only [go_sem,Oid.ab hpp,Oid.aa hpp,hpN,hO,c3,c4,eq_self,decide_true,decide_false,ne_eq,not_true_eq_false,not_false_eq_true]
  refine hK ?_;clear hK hS hC hC1 K S C hf
  refine kw0 ?_
  exact kq
 ·rw [if_neg (fun h=>h (h3.2 ⟨c3,c4⟩))]
  refine ao nmd [(4,25)] hng (by kernel_rfl) fun hf C S K hC1 hC hS hK=>?_;simp (disch:=first|omega|assumption) only [go_sem,Oid.ab hpp,Oid.aa hpp,hpN,hO,c3,c4,eq_self,decide_true,decide_false,ne_eq,not_true_eq_false,not_false_eq_true]
  refine hK ?_;clear hK hS hC hC1 K S C hf
  refine kw0 ?_
  exact kq
end
end Go.Proofs.YtfbnaalhioogoaaGreatDoor
namespace Go.Proofs.YtfbnaalhioogoaaGreatDoor
open Go Go.Ab
set_option maxRecDepth 20000
set_option maxHeartbeats 8000000
def rdT (L:PL) (fol:Bool) (k:Nat) (rd:Rds):Rs Wk→Rds
 | .err _=>rd
 | .go w=>rd++(bS L fol k w).1
def rsT (L:PL) (fol:Bool) (k:Nat):Rs Wk→Rs Wk
 | .err e=>.err e
 | .go w=>(bS L fol k w).2
theorem cV {pp st:Oid} {N:List Oid} {F F':Oid→ah} {L:PL} (hK:KL L) (path cwd:Str) (um:Int) (fol:Bool) (hpN:pp ∉ N) (hc:cwd.length≤1000000) (hpath:path.length≤140737488355328)
  (hA:RR' st N L (findF L cwd path fol).1 F F') (p:Oid) (hp:p.mono=false) (hpp:¬ Oid.under p pp) (hO:aY p N) :
  aj Tryz.prog 44 [.ptr pp 0,.str path,.bool fol] (Oid.under p) ⟨(pp,prC st cwd um)::bk (N,F),fnV (findF L cwd path fol).2,sb N F'⟩:=by
 by_cases c1:path=[]
 ·have hF:findF L cwd path fol=([],.err 10):=by simp only [findF,if_pos c1]
  rw [hF] at hA ⊢
  obtain rfl:F=F':=hA
  unfold prC
  refine aD (n:=149) (rs:=[.tmp 6,.cell 7 56,.tmp 8]) Tryz.func44 rfl rfl (by decide) rfl rfl rfl ?_;rintro x rfl hrd hng
  rw [aC]
  refine kw c1 ?_
  exact kq
 by_cases c2:200 < path.length
 ·have hF:findF L cwd path fol=([],.err 2):=by simp only [findF,if_neg c1,if_pos c2]
  rw [hF] at hA ⊢
  obtain rfl:F=F':=hA
  have e2:(200:Int) < (path.length:Int):=by omega
  unfold prC
  refine aD (n:=149) (rs:=[.tmp 6,.cell 7 56,.tmp 8]) Tryz.func44 rfl rfl (by decide) rfl rfl rfl ?_;rintro x rfl hrd hng
  rw [aC]
  refine kw (ai c1 e2) ?_
  exact kq
 have hF:findF L cwd path fol=cO L (bS L fol (wkW (aL cwd path)) (aL cwd path)):=by simp only [findF,if_neg c1,if_neg c2]
 rw [hF] at hA ⊢
 have e2:¬ (200:Int) < (path.length:Int):=by omega
 obtain ⟨s1,s2⟩:=kh cwd path (by omega)
 have hpc:=fun p=>ow path (by omega) p
 have h0l:0 < path.length:=List.length_pos_iff.2 c1
 have hrun:∃ F1,RR' st N L (bS L fol (wkW (aL cwd path)) (aL cwd path)).1 F F1 ∧
   match (bS L fol (wkW (aL cwd path)) (aL cwd path)).2 with
   | .err e=>F1=F'
   | .go w=>RR' st N L [(w.pl,false)] F1 F':=by
  generalize bS L fol (wkW (aL cwd path)) (aL cwd path)=y at hA
  obtain ⟨rd,r⟩:=y
  cases r with
  | err e=>exact ⟨F',hA,rfl⟩
  | go w=>exact a7 hA
 obtain ⟨F1,hrq,hlast⟩:=hrun
 obtain ⟨res,hres⟩:∃ res,(bS L fol (wkW (aL cwd path)) (aL cwd path)).2=res:=⟨_,rfl⟩
 have hfin:(cO L (bS L fol (wkW (aL cwd path)) (aL cwd path))).2=(cO L ([],res)).2:=by
  rw [← hres]
  generalize bS L fol (wkW (aL cwd path)) (aL cwd path)=y
  obtain ⟨rd,r⟩:=y
  cases r<;>rfl
 rw [hres] at hlast
 rw [hfin]
 have hw0:(aL cwd path).pl.length+wkW (aL cwd path)≤cwd.length+2617:=by omega
 have hst:aL cwd path=⟨if path.getD 0 0=47 then [] else cwd,aR path,0,cL path⟩:=rfl
 have hplen:(aR path).length≤path.length+1:=by
  have h1:=iC 47 path
  have h2:=List.length_filter_le (fun t:Str=>!t.isEmpty) (bc 47 path)
  unfold aR;omega
 generalize hK':wkW (aL cwd path)=K at hres hrq s2 hfin
 have hKle:wkW (aL cwd path)≤K:=by omega
 clear hfin hF hA
 unfold prC
 refine aD (n:=149) (rs:=[.tmp 6,.cell 7 56,.tmp 8]) Tryz.func44 rfl rfl (by decide) rfl rfl rfl ?_;rintro x rfl hrd hng
 rw [aC]
 refine kw (ai c1 (ai e2 h0l)) ?_
 refine cB [0,1,2,7,9] (fun s'=>∃ c':Nat,s' = ⟨[(0,.ptr pp 0),(1,.str path),(2,.bool fol),(7,.ptr (.sub 0 1 x.p) 0),(9,.str (aL cwd path).pl)],Mem.blk ([(pp,.cells [.ptr st 0,.str cwd,.int .i64 um]),(.sub 0 1 x.p,.cells [.int .i64 0,.int .i64 0,.str []])]) [(N,F)],c',[]⟩∧4 < c') ?_ ?_
 ·rw [hst]
  refine aP rfl rfl (fun hb=>?_) (fun hb=>?_)
  ·rw [if_pos (UInt8.toNat_inj.1 (by show _=47;omega):path.getD 0 0=47)]
   refine kw0 ?_
   exact aM ⟨_,rfl,by omega⟩
  ·rw [if_neg (fun e:path.getD 0 0=47=>hb (by rw [e];rfl))]
   refine qw0 ?_
   exact aM ⟨_,rfl,by omega⟩
 rintro s' ⟨c,rfl,hc4⟩
 (try ((first|refine zn ?_|refine ze ?_|refine zk ?_);with_reducible (constructor;repeat constructor));try refine zl ?_)
 refine ao nmd [] hng (by kernel_rfl) fun hf C S K hC1 hC hS hK=>?_;simp (disch:=first|omega|assumption) only [go_sem,Oid.ab hpp,Oid.aa hpp,hpN,hO]
 refine hC _ _ _ (hpc _) (fun _ h=>by cases h) ?_ (fun _ _ h=>h.elim)
 rintro _ _ ⟨id,hid,rfl,rfl⟩
 have i1:¬ id=pp:=fun e=>hpp (Oid.ae (e ▸ hid))
 have i2:id ∉ N:=fun h=>hO id h (Oid.ae hid)
 have i3:¬ id = .sub 0 1 x.p:=fun e=>by
  subst e
  have:=(Oid.apart hid (Oid.ax _)).1;omega
 simp (disch:=first|omega|assumption) only [go_sem,Oid.ab hpp,Oid.aa hpp,hpN,hO,i1,i2,i3]
 refine hK ?_;clear hK hS hC hC1 K S C hf
 refine kw (ai i1 (ai i2 i3)) ?_
 refine kQ id 1 ((aR path).map AV.str) (ks (ai i1 (ai i2 i3))) ?_
 simp (disch:=first|omega|assumption) only [go_sem,Oid.ab hpp,Oid.aa hpp,hpN,hO,i1,i2,i3]
 have hl0:(aL cwd path).links≤8:=by rw [hst];exact Nat.zero_le _
 refine bV [0,2,7,9,10,11,12] (fun k s'=>∃ (w:Wk) (c:Nat) (G:Oid→ah),s' = ⟨[(0,.ptr pp 0),(2,.bool fol),(7,.ptr (.sub 0 1 x.p) 0),(9,.str w.pl),(10,.list 1 (w.todo.map AV.str)),(11,.bool w.dir),(12,.int .i64 w.links)],Mem.blk ([(pp,.cells [.ptr st 0,.str cwd,.int .i64 um]),(.sub 0 1 x.p,.cells [.int .i64 0,.int .i64 0,.str []])]) [(N,G)],c,[]⟩∧4 < c∧wkW w≤k∧w.links≤8∧w.pl.length+wkW w≤cwd.length+2617∧(bS L fol k w).2=res∧RR' st N L (bS L fol k w).1 G F1) _ ⟨aL cwd path,_,_,rfl,by omega,hKle,hl0,hw0,hres,hrq⟩ ?_
 clear hrq hres hw0 hKle hl0 hc4 hst hpc hplen i1 i2 i3 hid id c
 rintro k s' ⟨⟨pl,todo,l,dir⟩,c,G,rfl,hc4,hKle,hl0,hw0,hres,hrq⟩
 simp only at hl0 hw0
 have hkeep:∀ (E:List (Oid × ah)) (G:Oid→ah),(∀ e ∈ E,e.1 ∉ N)→∀ i o,Mem.blk ([(pp,.cells [.ptr st 0,.str cwd,.int .i64 um]),(.sub 0 1 x.p,.cells [.int .i64 0,.int .i64 0,.str []])]) [(N,G)] i=some o→Mem.blk (([(pp,.cells [.ptr st 0,.str cwd,.int .i64 um]),(.sub 0 1 x.p,.cells [.int .i64 0,.int .i64 0,.str []])])++E) [(N,G)] i=some o:=fun E G hE =>
  tq (fun e he B hB=>by rw [List.mem_singleton.1 hB];exact hE e he) _
 cases todo with
 | nil =>
  have hrn:bS L fol k ⟨pl,[],l,dir⟩=([],.go ⟨pl,[],l,dir⟩):=by cases k<;>rfl
  rw [hrn] at hres hrq
  obtain rfl:G=F1:=hrq
  subst hres
  simp only at hlast
  obtain ⟨_,hat,rfl⟩:=hlast
  rename_i F2
  have hat':∀ p,p.mono=false→aY p N→aj Tryz.prog 49 [.ptr st 0,.str pl] (Oid.under p) ⟨bk (N,G),(aG L pl).av,sb N F2⟩:=hat
  simp only [cO]
  generalize aG L pl=B at hat' ⊢
  obtain ⟨ek,em,el⟩:=B
  simp only [Bits.av] at hat' ⊢
  refine kw0 ?_
  refine kr1 hat' ?_
  by_cases c4:dir=true∧¬ ek=0∧¬ ek=2
  ·rw [if_pos c4]
   obtain ⟨rfl,c5,c6⟩:=c4
   refine ao nmd [(1,136),(6,141)] hng (by kernel_rfl) fun hf C S K hC1 hC hS hK=>?_;simp (disch:=first|omega|assumption) only [go_sem,Oid.ab hpp,Oid.aa hpp,hpN,hO,c5,c6,decide_true,decide_false,ne_eq,not_true_eq_false,not_false_eq_true]
   refine hK ?_;clear hK hS hC hC1 K S C hf
   refine kw0 ?_
   refine aB (bh (by simp (disch:=first|omega|assumption) only [go_sem,Oid.ab hpp,Oid.aa hpp,hpN,hO,fnV,rdB,aA,cO,rsT,Bits.no]) (by show _=some _;simp (disch:=first|omega|assumption) only [go_sem,Oid.ab hpp,Oid.aa hpp,hpN,hO]) (by exact nbA (by simp [hpN,hO.mem]) _))
  ·rw [if_neg c4]
   refine cB [0,2,7,9,19,145] (fun s'=>∃ c':Nat,s' = ⟨[(0,.ptr pp 0),(2,.bool fol),(7,.ptr (.sub 0 1 x.p) 0),(9,.str pl),(19,.ptr (.sub (c+1) 6 x.p) 0),(145,.bool false)],Mem.blk (([(pp,.cells [.ptr st 0,.str cwd,.int .i64 um]),(.sub 0 1 x.p,.cells [.int .i64 0,.int .i64 0,.str []])])++[(.sub (c+1) 6 x.p,.cells [.int .i64 ek,.int .i64 em,.str el])]) [(N,F2)],c',[]⟩) ?_ ?_
   ·cases dir with
    | false =>
     refine kr (.d [] [(1,136),(6,141)] []) trivial trivial ?_
     exact aM ⟨_,rfl⟩
    | true =>
     by_cases c5:ek=0
     ·refine ao nmd [(1,136),(6,141)] hng (by kernel_rfl) fun hf C S K hC1 hC hS hK=>?_;simp (disch:=first|omega|assumption) only [go_sem,Oid.ab hpp,Oid.aa hpp,hpN,hO,c5,eq_self,decide_true,decide_false,ne_eq,not_true_eq_false,not_false_eq_true]
      refine hK ?_;clear hK hS hC hC1 K S C hf
      exact aM ⟨_,by rw [c5];rfl⟩
     ·have c6:ek=2:=Decidable.of_not_not fun h=>c4 ⟨rfl,c5,h⟩
      have h20:¬ (2:Int)=0:=by decide
      refine kr (.d [] [(1,136),(6,141)] []) (ai c6 h20) trivial ?_
      exact aM ⟨_,by rw [c6];rfl⟩
   rintro s' ⟨c',rfl⟩
   simp only [List.cons_append,List.nil_append]
   (try ((first|refine zn ?_|refine ze ?_|refine zk ?_);with_reducible (constructor;repeat constructor));try refine zl ?_)
   refine aw rfl rfl ?_
   refine kd (.d [] [] [6,7,8]) trivial trivial ?_
   refine aB (bh (by simp (disch:=first|omega|assumption) only [go_sem,Oid.ab hpp,Oid.aa hpp,hpN,hO,fnV,rdB,aA,cO,rsT,Bits.no]) (by show _=some _;simp (disch:=first|omega|assumption) only [go_sem,Oid.ab hpp,Oid.aa hpp,hpN,hO]) (by exact nbA (by simp [hpN,hO.mem]) _))
 | cons n t =>
  have hwk:wkW ⟨pl,n::t,l,dir⟩=n.length+1+wtF t+(8 - l) * 302:=rfl
  have hwt:wtF (n::t)=n.length+1+wtF t:=rfl
  obtain ⟨k,rfl⟩:∃ k',k=k' + 1:=⟨k - 1,by omega⟩
  have htl:=rz t
  have hrn:bS L fol (k+1) ⟨pl,n::t,l,dir⟩=match br L fol ⟨pl,n::t,l,dir⟩ n t with
   | (rd,.err e)=>(rd,.err e)
   | (rd,.go w')=>(rd++(bS L fol k w').1,(bS L fol k w').2):=rfl
  obtain ⟨rd,rr,hS⟩:=ye L fol ⟨pl,n::t,l,dir⟩ n t
  have hgo:=fun w' (h:rr = .go w')=>And.intro (k8 hK.so hK.lk (hS.trans (by rw [h]))) (mw (hS.trans (by rw [h])) hl0)
  rw [hrn,hS] at hres hrq
  have hq:∃ G2,RR' st N L [(pl,false)] G G2∧RR' st N L (rdT L fol k rd rr) G2 F1∧rsT L fol k rr=res:=by
   cases rr with
   | err e=>obtain ⟨G2,k1,k2⟩:=hrq;exact ⟨G2,⟨G2,k1,rfl⟩,k2,hres⟩
   | go w'=>obtain ⟨G2,k1,k2⟩:=hrq;exact ⟨G2,⟨G2,k1,rfl⟩,k2,hres⟩
  obtain ⟨G2,hq1,hq2,hres2⟩:=hq
  clear hrq hres hrn
  have hin:=fun p hp hpp hO=>uX (pp:=pp) (st:=st) (N:=N) (F:=G) (F1:=G2) (L:=L) (cwd:=cwd) um hpN (p:=p) hp hpp hO pl hq1
  have hab:=fun p=>Ff pl (by omega) p
  unfold prC at hin
  refine kw0 ?_
  refine aP rfl rfl (fun hb=>?_) (fun hb=>?_)
  case refine_2=>exact absurd (by omega) hb
  refine kw0 ?_
  refine kr1 hin ?_
  refine kw0 ?_
  by_cases c0:inE (aG L pl)=0
  case neg =>
   have hS':br L fol ⟨pl,n::t,l,dir⟩ n t=([(pl,false)],.err (inE (aG L pl))):=by simp only [br,if_pos c0]
   rw [hS'] at hS
   simp only [Prod.mk.injEq,List.cons.injEq,true_and] at hS
   obtain ⟨rfl,rfl⟩:=hS
   subst hres2
   obtain rfl:G2=F1:=hq2
   obtain rfl:G2=F':=hlast
   simp only [rsT,cO]
   generalize inE (aG L pl)=e at c0 ⊢
   refine aP rfl rfl (fun hb=>?_) (fun hb=>?_)
   case refine_2=>exact absurd (Decidable.not_not.1 hb) c0
   refine kw0 ?_
   refine aB (bh (by simp (disch:=first|omega|assumption) only [go_sem,Oid.ab hpp,Oid.aa hpp,hpN,hO,fnV,rdB,aA,cO,rsT,Bits.no]) (by show _=some _;simp (disch:=first|omega|assumption) only [go_sem,Oid.ab hpp,Oid.aa hpp,hpN,hO]) (by exact nbA (by simp [hpN,hO.mem]) _))
  refine aP rfl rfl (fun hb=>?_) (fun hb=>?_)
  case refine_1=>exact absurd c0 hb
  refine kw0 ?_
  by_cases c1':32 < n.length
  ·have hS':br L fol ⟨pl,n::t,l,dir⟩ n t=([(pl,false)],.err 2):=by simp only [br,c0,not_true_eq_false,if_false,if_pos c1']
   rw [hS'] at hS
   simp only [Prod.mk.injEq,List.cons.injEq,true_and] at hS
   obtain ⟨rfl,rfl⟩:=hS
   subst hres2
   obtain rfl:G2=F1:=hq2
   obtain rfl:G2=F':=hlast
   simp only [rsT,cO]
   refine aP rfl rfl (fun hb=>?_) (fun hb=>?_)
   case refine_2=>exact absurd (by omega) hb
   refine kw0 ?_
   refine aB (bh (by simp (disch:=first|omega|assumption) only [go_sem,Oid.ab hpp,Oid.aa hpp,hpN,hO,fnV,rdB,aA,cO,rsT,Bits.no]) (by show _=some _;simp (disch:=first|omega|assumption) only [go_sem,Oid.ab hpp,Oid.aa hpp,hpN,hO]) (by exact nbA (by simp [hpN,hO.mem]) _))
  refine aP rfl rfl (fun hb=>?_) (fun hb=>?_)
  case refine_1=>exact absurd (by omega) c1'
  refine kw0 ?_
  by_cases c2':n=[46]
  ·have hS':br L fol ⟨pl,n::t,l,dir⟩ n t=([(pl,false)],.go ⟨pl,t,l,dir⟩):=by simp only [br,c0,not_true_eq_false,if_false,if_neg c1',if_pos c2']
   rw [hS'] at hS
   simp only [Prod.mk.injEq,List.cons.injEq,true_and] at hS
   obtain ⟨rfl,rfl⟩:=hS
   obtain ⟨⟨g1,g2⟩,g3⟩:=hgo _ rfl
   simp only at g1 g2 g3
   have hwk':wkW ⟨pl,t,l,dir⟩=wtF t+(8 - l) * 302:=rfl
   refine aP rfl rfl (fun hb=>?_) (fun hb=>?_)
   case refine_2=>exact absurd c2' hb
   refine kw0 ?_
   exact ⟨_,_,by omega,fun _ _ h=>h,⟨pl,t,l,dir⟩,_,_,rfl,by omega,by omega,g3,by simp only;omega,hres2,hq2⟩
  refine aP rfl rfl (fun hb=>?_) (fun hb=>?_)
  case refine_1=>exact absurd hb c2'
  refine kw0 ?_
  by_cases c3':n=[46,46]
  ·have hS':br L fol ⟨pl,n::t,l,dir⟩ n t=([(pl,false)],.go ⟨aO pl,t,l,dir⟩):=by simp only [br,c0,not_true_eq_false,if_false,if_neg c1',if_neg c2',if_pos c3']
   rw [hS'] at hS
   simp only [Prod.mk.injEq,List.cons.injEq,true_and] at hS
   obtain ⟨rfl,rfl⟩:=hS
   obtain ⟨⟨g1,g2⟩,g3⟩:=hgo _ rfl
   simp only at g1 g2 g3
   have hwk':wkW ⟨aO pl,t,l,dir⟩=wtF t+(8 - l) * 302:=rfl
   have hal:=iF pl
   refine aP rfl rfl (fun hb=>?_) (fun hb=>?_)
   case refine_2=>exact absurd c3' hb
   refine kw0 ?_
   refine kr1 (hab _) ?_
   refine kw0 ?_
   exact ⟨_,_,by omega,fun _ _ h=>h,⟨aO pl,t,l,dir⟩,_,_,rfl,by omega,by omega,g3,by simp only;omega,hres2,hq2⟩
  refine aP rfl rfl (fun hb=>?_) (fun hb=>?_)
  case refine_1=>exact absurd hb c3'
  have hS':br L fol ⟨pl,n::t,l,dir⟩ n t=([(pl,false),(pl++(47::n),false)],goF L fol ⟨pl,n::t,l,dir⟩ n t):=by simp only [br,c0,not_true_eq_false,if_false,if_neg c1',if_neg c2',if_neg c3',iK]
  rw [hS'] at hS
  simp only [Prod.mk.injEq,List.cons.injEq,true_and] at hS
  obtain ⟨rfl,hgf⟩:=hS
  have hq3:∃ G3,RR' st N L [(pl++(47::n),false)] G2 G3∧RR' st N L (rdT L fol k [] rr) G3 F1:=by
   cases rr with
   | err e=>obtain ⟨G3,k1,k2⟩:=hq2;exact ⟨G3,⟨G3,k1,rfl⟩,k2⟩
   | go w'=>obtain ⟨G3,k1,k2⟩:=hq2;exact ⟨G3,⟨G3,k1,rfl⟩,k2⟩
  obtain ⟨G3,⟨_,hat,rfl⟩,hq4⟩:=hq3
  rename_i G3
  have hat':∀ p,p.mono=false→aY p N→aj Tryz.prog 49 [.ptr st 0,.str (pl++(47::n))] (Oid.under p) ⟨bk (N,G2),(aG L (pl++(47::n))).av,sb N G3⟩:=hat
  have hdl:=hK.da (pl++(47::n))
  have hgo':goF L fol ⟨pl,n::t,l,dir⟩ n t=if (aG L (pl++(47::n))).k=3∧(¬ t=[]∨fol=true∨dir=true) then cZ ⟨pl,n::t,l,dir⟩ t (aG L (pl++(47::n))).l
   else if ¬ t=[]∧(aG L (pl++(47::n))).k=0 then .err 10 else .go ⟨pl++(47::n),t,l,dir⟩:=rfl
  rw [hgo'] at hgf
  clear hgo' hS' hat hq2 hin
  generalize aG L (pl++(47::n))=B at hat' hdl hgf
  obtain ⟨ek,em,el⟩:=B
  simp only [Bits.av] at hat' hdl hgf
  have hcat:pl++[47]++n=pl++(47::n):=by simp
  refine kw hcat ?_
  refine kr1 hat' ?_
  refine cB [0,2,7,9,10,11,12,15,16,87] (fun s'=>∃ c' ce:Nat,s' = ⟨[(0,.ptr pp 0),(2,.bool fol),(7,.ptr (.sub 0 1 x.p) 0),(9,.str pl),(10,.list 1 (t.map AV.str)),(11,.bool dir),(12,.int .i64 l),(15,.str (pl++(47::n))),(16,.ptr (.sub ce 6 x.p) 0),(87,.bool (decide (ek=3∧(¬ t=[]∨fol=true∨dir=true))))],Mem.blk (([(pp,.cells [.ptr st 0,.str cwd,.int .i64 um]),(.sub 0 1 x.p,.cells [.int .i64 0,.int .i64 0,.str []])])++[(.sub ce 6 x.p,.cells [.int .i64 ek,.int .i64 em,.str el])]) [(N,G3)],c',[]⟩∧4 < ce∧ce < c') ?_ ?_
  ·by_cases k3:ek=3
   ·cases t with
    | cons t0 tr =>
     rw [show decide (ek=3∧(¬ (t0::tr)=[]∨fol=true∨dir=true))=true from by simp [k3]]
     have e9:(0:Int) < ((tr.length+1:Nat):Int):=by omega
     refine ao nmd [(3,77),(7,81),(10,84)] hng (by kernel_rfl) fun hf C S K hC1 hC hS hK=>?_;simp (disch:=first|omega|assumption) only [go_sem,Oid.ab hpp,Oid.aa hpp,hpN,hO,k3,e9,List.length_map,List.map_cons,List.length_cons,decide_true,decide_false,ne_eq,not_true_eq_false,not_false_eq_true]
     refine hK ?_;clear hK hS hC hC1 K S C hf
     exact aM ⟨_,_,by rw [k3];rfl,by omega,by omega⟩
    | nil =>
     rw [show decide (ek=3∧(¬ ([]:List Str)=[]∨fol=true∨dir=true))=(fol || dir) from by cases fol<;>cases dir<;>simp [k3]]
     have e9:¬ (0:Int) < ((0:Nat):Int):=by omega
     cases fol with
     | true =>
      refine kr (.d [] [(3,77),(7,81),(10,84)] []) (ai k3 e9) trivial ?_
      exact aM ⟨_,_,by rw [k3];rfl,by omega,by omega⟩
     | false =>
      cases dir with
      | true =>
       refine kr (.d [] [(3,77),(7,81),(10,84)] []) (ai k3 e9) trivial ?_
       exact aM ⟨_,_,by rw [k3];rfl,by omega,by omega⟩
      | false =>
       refine kr (.d [] [(3,77),(7,81),(10,84)] []) (ai k3 e9) trivial ?_
       exact aM ⟨_,_,by rw [k3];rfl,by omega,by omega⟩
   ·rw [show decide (ek=3∧(¬ t=[]∨fol=true∨dir=true))=false from by simp [k3]]
    refine kr (.d [] [(3,77),(7,81),(10,84)] []) k3 trivial ?_
    exact aM ⟨_,_,rfl,by omega,by omega⟩
  clear hc4 c
  rintro s' ⟨c,ce,rfl,hce,hcc⟩
  simp only [List.cons_append,List.nil_append]
  by_cases k3:ek=3∧(¬ t=[]∨fol=true∨dir=true)
  ·rw [decide_eq_true k3]
   rw [if_pos k3] at hgf
   (try ((first|refine zn ?_|refine ze ?_|refine zk ?_);with_reducible (constructor;repeat constructor));try refine zl ?_)
   refine ay rfl rfl ?_
   refine kw0 ?_
   by_cases k5:8 < l+1
   ·have hlf:cZ ⟨pl,n::t,l,dir⟩ t el = .err 17:=by simp only [cZ,if_pos k5]
    rw [hlf] at hgf
    subst hgf
    subst hres2
    obtain rfl:G3=F1:=hq4
    obtain rfl:G3=F':=hlast
    refine aP rfl rfl (fun hb=>?_) (fun hb=>?_)
    case refine_2=>exact absurd (by omega) hb
    refine kw0 ?_
    refine aB (bh (by simp (disch:=first|omega|assumption) only [go_sem,Oid.ab hpp,Oid.aa hpp,hpN,hO,fnV,rdB,aA,cO,rsT,Bits.no]) (by show _=some _;simp (disch:=first|omega|assumption) only [go_sem,Oid.ab hpp,Oid.aa hpp,hpN,hO]) (by exact nbA (by simp [hpN,hO.mem]) _))
   refine aP rfl rfl (fun hb=>?_) (fun hb=>?_)
   case refine_1=>exact absurd (by omega) k5
   refine kw0 ?_
   by_cases k6:el=[]
   ·have hlf:cZ ⟨pl,n::t,l,dir⟩ t el = .err 10:=by simp only [cZ,if_neg k5,if_pos k6]
    rw [hlf] at hgf
    subst hgf
    subst hres2
    obtain rfl:G3=F1:=hq4
    obtain rfl:G3=F':=hlast
    refine aP rfl rfl (fun hb=>?_) (fun hb=>?_)
    case refine_2=>exact absurd k6 hb
    refine kw0 ?_
    refine aB (bh (by simp (disch:=first|omega|assumption) only [go_sem,Oid.ab hpp,Oid.aa hpp,hpN,hO,fnV,rdB,aA,cO,rsT,Bits.no]) (by show _=some _;simp (disch:=first|omega|assumption) only [go_sem,Oid.ab hpp,Oid.aa hpp,hpN,hO]) (by exact nbA (by simp [hpN,hO.mem]) _))
   refine aP rfl rfl (fun hb=>?_) (fun hb=>?_)
   case refine_1=>exact absurd hb k6
   have hlf:cZ ⟨pl,n::t,l,dir⟩ t el = .go ⟨if el.getD 0 0=47 then [] else pl,aR el++t,l+1,dir || (decide (t=[]) && cL el)⟩:=by simp only [cZ,if_neg k5,if_neg k6]
   rw [hlf] at hgf
   obtain ⟨⟨g1,g2⟩,g3⟩:=hgo _ hgf.symm
   subst hgf
   simp only at g1 g2 g3
   have hpc:=fun p=>ow el (by omega) p
   have hpl2:(aR el).length≤el.length+1:=by
    have h1:=iC 47 el
    have h2:=List.length_filter_le (fun t:Str=>!t.isEmpty) (bc 47 el)
    unfold aR;omega
   have hel:0 < el.length:=List.length_pos_iff.2 k6
   have hwk':wkW ⟨if el.getD 0 0=47 then [] else pl,aR el++t,l+1,dir || (decide (t=[]) && cL el)⟩=wtF (aR el++t)+(8 - (l+1)) * 302:=rfl
   generalize cL el=ee at hpc hwk' hres2 hq4 g1 g2 g3
   refine kw0 ?_
   refine ao nmd [] hng (by kernel_rfl) fun hf C S K hC1 hC hS hK=>?_;simp (disch:=first|omega|assumption) only [go_sem,Oid.ab hpp,Oid.aa hpp,hpN,hO]
   refine hC _ _ _ (hpc _) (fun _ h=>by cases h) ?_ (fun _ _ h=>h.elim)
   rintro _ _ ⟨id,hid,rfl,rfl⟩
   have i1:¬ id=pp:=fun e=>hpp (Oid.ae (e ▸ hid))
   have i2:id ∉ N:=fun h=>hO id h (Oid.ae hid)
   have i3:¬ id = .sub 0 1 x.p:=fun e=>by
    subst e
    have:=(Oid.apart hid (Oid.ax _)).1;omega
   have i4:¬ id = .sub ce 6 x.p:=fun e=>by
    subst e
    have:=(Oid.apart hid (Oid.ax _)).1;omega
   simp (disch:=first|omega|assumption) only [go_sem,Oid.ab hpp,Oid.aa hpp,hpN,hO,i1,i2,i3,i4]
   refine hK ?_;clear hK hS hC hC1 K S C hf
   (try ((first|refine zn ?_|refine ze ?_|refine zk ?_);with_reducible (constructor;repeat constructor));try refine zl ?_)
   refine cB [0,2,7,9,10,11,12,16,17] (fun s'=>∃ c':Nat,s' = ⟨[(0,.ptr pp 0),(2,.bool fol),(7,.ptr (.sub 0 1 x.p) 0),(9,.str pl),(10,.list 1 (t.map AV.str)),(11,.bool (dir || (decide (t=[]) && ee))),(12,.int .i64 ((l:Int)+1)),(16,.ptr (.sub ce 6 x.p) 0),(17,.sl id 1 (aR el).length)],Mem.blk (([(pp,.cells [.ptr st 0,.str cwd,.int .i64 um]),(.sub 0 1 x.p,.cells [.int .i64 0,.int .i64 0,.str []])])++[(.sub ce 6 x.p,.cells [.int .i64 ek,.int .i64 em,.str el]),(id,.arr 1 ((aR el).map AV.str))]) [(N,G3)],c',[]⟩∧c < c') ?_ ?_
   ·cases dir with
    | true =>
     refine ao nmd [(1,104),(3,106)] hng (by kernel_rfl) fun hf C S K hC1 hC hS hK=>?_;simp (disch:=first|omega|assumption) only [go_sem,Oid.ab hpp,Oid.aa hpp,hpN,hO,List.length_map,decide_true,decide_false,ne_eq,not_true_eq_false,not_false_eq_true]
     refine hK ?_;clear hK hS hC hC1 K S C hf
     exact aM ⟨_,rfl,by omega⟩
    | false =>
     cases ee with
     | false =>
      rw [Bool.and_false,Bool.or_false]
      refine ao nmd [(1,104),(3,106)] hng (by kernel_rfl) fun hf C S K hC1 hC hS hK=>?_;simp (disch:=first|omega|assumption) only [go_sem,Oid.ab hpp,Oid.aa hpp,hpN,hO,List.length_map,decide_true,decide_false,ne_eq,not_true_eq_false,not_false_eq_true]
      refine hK ?_;clear hK hS hC hC1 K S C hf
      exact aM ⟨_,rfl,by omega⟩
     | true =>
      rw [Bool.and_true,Bool.false_or]
      refine ao nmd [(1,104),(3,106)] hng (by kernel_rfl) fun hf C S K hC1 hC hS hK=>?_;simp (disch:=first|omega|assumption) only [go_sem,Oid.ab hpp,Oid.aa hpp,hpN,hO,List.length_map,decide_true,decide_false,ne_eq,not_true_eq_false,not_false_eq_true]
      refine hK ?_;clear hK hS hC hC1 K S C hf
      exact aM ⟨_,by rw [show decide (t=[])=decide ((t.length:Int)=0) from decide_eq_decide.2 ⟨fun h=>by rw [h];rfl,fun h=>List.eq_nil_of_length_eq_zero (by omega)⟩];rfl,by omega⟩
   rintro s' ⟨c5,rfl,hc5⟩
   simp only [List.cons_append,List.nil_append]
   refine kw (ai i1 (ai i2 (ai i3 (ai i4 hel)))) ?_
   refine cB [0,2,7,9,10,11,12,17] (fun s'=>∃ c':Nat,s' = ⟨[(0,.ptr pp 0),(2,.bool fol),(7,.ptr (.sub 0 1 x.p) 0),(9,.str (if el.getD 0 0=47 then [] else pl)),(10,.list 1 (t.map AV.str)),(11,.bool (dir || (decide (t=[]) && ee))),(12,.int .i64 ((l:Int)+1)),(17,.sl id 1 (aR el).length)],Mem.blk (([(pp,.cells [.ptr st 0,.str cwd,.int .i64 um]),(.sub 0 1 x.p,.cells [.int .i64 0,.int .i64 0,.str []])])++[(.sub ce 6 x.p,.cells [.int .i64 ek,.int .i64 em,.str el]),(id,.arr 1 ((aR el).map AV.str))]) [(N,G3)],c',[]⟩∧c < c') ?_ ?_
   ·refine aP rfl rfl (fun hb=>?_) (fun hb=>?_)
    ·rw [if_pos (UInt8.toNat_inj.1 (by show _=47;omega):el.getD 0 0=47)]
     refine kw0 ?_
     exact aM ⟨_,rfl,by omega⟩
    ·rw [if_neg (fun e:el.getD 0 0=47=>hb (by rw [e];rfl))]
     refine qw0 ?_
     exact aM ⟨_,rfl,by omega⟩
   clear hc5 c5
   rintro s' ⟨c5,rfl,hc5⟩
   simp only [List.cons_append,List.nil_append]
   have htl2:=rz t
   (try ((first|refine zn ?_|refine ze ?_|refine zk ?_);with_reducible (constructor;repeat constructor));try refine zl ?_)
   refine ao nmd [] hng (by kernel_rfl) fun hf C S K hC1 hC hS hK=>?_;simp (disch:=first|omega|assumption) only [go_sem,Oid.ab hpp,Oid.aa hpp,hpN,hO,i1,i2,i3,i4,List.length_map]
   refine hK ?_;clear hK hS hC hC1 K S C hf
   show T Tryz.prog x 149 _ _ _
   have i5:¬ Oid.sub ce 6 x.p=Oid.sub c5 2 x.p:=by rw [Oid.uf (by omega)];exact not_false
   have i6:¬ Oid.sub 0 1 x.p=Oid.sub c5 2 x.p:=by rw [Oid.uf (by omega)];exact not_false
   refine kQ (.sub c5 2 x.p) 1 ((aR el).map AV.str++t.map AV.str) (ks (ai i1 (ai i2 (ai i3 i4)))) ?_
   simp (disch:=first|omega|assumption) only [go_sem,Oid.ab hpp,Oid.aa hpp,hpN,hO,i1,i2,i3,i4,i5,i6,List.length_map,List.length_append]
   rw [← List.map_append]
   refine qw0 ?_
   exact ⟨_,_,by omega,hkeep [(.sub ce 6 x.p,_)] G3 (fun e he=>by rw [List.mem_singleton.1 he];exact hO.mem),⟨if el.getD 0 0=47 then [] else pl,aR el++t,l+1,dir || (decide (t=[]) && ee)⟩,_,_,rfl,by omega,by omega,g3,by simp only;omega,hres2,hq4⟩
  ·rw [decide_eq_false k3]
   rw [if_neg k3] at hgf
   (try ((first|refine zn ?_|refine ze ?_|refine zk ?_);with_reducible (constructor;repeat constructor));try refine zl ?_)
   refine aw rfl rfl ?_
   (try ((first|refine zn ?_|refine ze ?_|refine zk ?_);with_reducible (constructor;repeat constructor));try refine zl ?_)
   by_cases k4:¬ t=[]∧ek=0
   ·rw [if_pos k4] at hgf
    subst hgf
    subst hres2
    obtain rfl:G3=F1:=hq4
    obtain rfl:G3=F':=hlast
    have e9:(0:Int) < (t.length:Int):=by have:=List.length_pos_iff.2 k4.1;omega
    have k4':=k4.2
    refine ao nmd [(3,122)] hng (by kernel_rfl) fun hf C S K hC1 hC hS hK=>?_;simp (disch:=first|omega|assumption) only [go_sem,Oid.ab hpp,Oid.aa hpp,hpN,hO,e9,k4',List.length_map,eq_self,decide_true,decide_false,ne_eq,not_true_eq_false,not_false_eq_true]
    refine hK ?_;clear hK hS hC hC1 K S C hf
    refine kw0 ?_
    refine aB (bh (by simp (disch:=first|omega|assumption) only [go_sem,Oid.ab hpp,Oid.aa hpp,hpN,hO,fnV,rdB,aA,cO,rsT,Bits.no]) (by show _=some _;simp (disch:=first|omega|assumption) only [go_sem,Oid.ab hpp,Oid.aa hpp,hpN,hO]) (by exact nbA (by simp [hpN,hO.mem]) _))
   ·rw [if_neg k4] at hgf
    obtain ⟨⟨g1,g2⟩,g3⟩:=hgo _ hgf.symm
    subst hgf
    simp only at g1 g2 g3
    have hwk':wkW ⟨pl++(47::n),t,l,dir⟩=wtF t+(8 - l) * 302:=rfl
    refine cB [0,2,7,9,10,11,12,15,126] (fun s'=>∃ c':Nat,s' = ⟨[(0,.ptr pp 0),(2,.bool fol),(7,.ptr (.sub 0 1 x.p) 0),(9,.str pl),(10,.list 1 (t.map AV.str)),(11,.bool dir),(12,.int .i64 l),(15,.str (pl++(47::n))),(126,.bool false)],Mem.blk (([(pp,.cells [.ptr st 0,.str cwd,.int .i64 um]),(.sub 0 1 x.p,.cells [.int .i64 0,.int .i64 0,.str []])])++[(.sub ce 6 x.p,.cells [.int .i64 ek,.int .i64 em,.str el])]) [(N,G3)],c',[]⟩∧4 < c') ?_ ?_
    ·by_cases ht0:t=[]
     ·have e9:¬ (0:Int) < (t.length:Int):=by rw [ht0];decide
      refine ao nmd [(3,122)] hng (by kernel_rfl) fun hf C S K hC1 hC hS hK=>?_;simp (disch:=first|omega|assumption) only [go_sem,Oid.ab hpp,Oid.aa hpp,hpN,hO,e9,List.length_map,decide_true,decide_false,ne_eq,not_true_eq_false,not_false_eq_true]
      refine hK ?_;clear hK hS hC hC1 K S C hf
      exact aM ⟨_,rfl,by omega⟩
     ·have he0:¬ ek=0:=fun e=>k4 ⟨ht0,e⟩
      have e9:(0:Int) < (t.length:Int):=by have:=List.length_pos_iff.2 ht0;omega
      refine ao nmd [(3,122)] hng (by kernel_rfl) fun hf C S K hC1 hC hS hK=>?_;simp (disch:=first|omega|assumption) only [go_sem,Oid.ab hpp,Oid.aa hpp,hpN,hO,e9,he0,List.length_map,decide_true,decide_false,ne_eq,not_true_eq_false,not_false_eq_true]
      refine hK ?_;clear hK hS hC hC1 K S C hf
      exact aM ⟨_,rfl,by omega⟩
    rintro s' ⟨c',rfl,hc'⟩
    (try ((first|refine zn ?_|refine ze ?_|refine zk ?_);with_reducible (constructor;repeat constructor));try refine zl ?_)
    refine aw rfl rfl ?_
    refine kw0 ?_
    exact ⟨_,_,by omega,hkeep [(.sub ce 6 x.p,_)] G3 (fun e he=>by rw [List.mem_singleton.1 he];exact hO.mem),⟨pl++(47::n),t,l,dir⟩,_,_,rfl,by omega,by omega,g3,by simp only;omega,hres2,hq4⟩
end Go.Proofs.YtfbnaalhioogoaaGreatDoor
namespace Go.Proofs.YtfbnaalhioogoaaGreatDoor
open Go Go.Ab
set_option maxRecDepth 20000
set_option maxHeartbeats 8000000
theorem tt {L:PL} (hs:aX ltB L) (hl:ji L) (fol:Bool):∀ (k:Nat) (w:Wk),wkW w≤k→∀ e,(bS L fol k w).2 = .err e→¬ e=0
 | 0,⟨a,todo,l,d⟩,h,e,he=>by
  cases todo with
  | nil=>simp only [bS,if_true] at he;cases he
  | cons n t=>simp only [wkW,wtF] at h;omega
 | k+1,⟨a,todo,l,d⟩,h,e,he=>by
  cases todo with
  | nil=>simp only [bS] at he;cases he
  | cons n t =>
   have hw:wkW ⟨a,n::t,l,d⟩=n.length+1+wtF t+(8 - l) * 302:=rfl
   have hwt:wtF (n::t)=n.length+1+wtF t:=rfl
   simp only [bS] at he
   cases hst:br L fol ⟨a,n::t,l,d⟩ n t with
   | mk rd r =>
    rw [hst] at he
    cases r with
    | err e' =>
     simp only [Rs.err.injEq] at he
     subst he
     unfold br at hst
     split at hst
     ·rename_i h0;simp only [Prod.mk.injEq,Rs.err.injEq] at hst;rw [← hst.2];exact h0
     split at hst
     ·simp only [Prod.mk.injEq,Rs.err.injEq] at hst;rw [← hst.2];decide
     split at hst
     ·simp at hst
     split at hst
     ·simp at hst
     obtain ⟨-,hst⟩:=Prod.mk.inj hst
     unfold goF at hst
     split at hst
     ·unfold cZ at hst
      split at hst
      ·rw [← Rs.err.inj hst];decide
      split at hst
      ·rw [← Rs.err.inj hst];decide
      ·cases hst
     ·split at hst
      ·rw [← Rs.err.inj hst];decide
      ·cases hst
    | go w' =>
     obtain ⟨g1,g2⟩:=k8 hs hl hst
     simp only at g1 g2
     have hw':wkW w' = wtF w'.todo+(8 - w'.links) * 302:=rfl
     exact tt hs hl fol k w' (by omega) e he
theorem dz {L:PL} (hK:KL L) {cwd:Str} (path:Str) (fol:Bool):∀ e,(findF L cwd path fol).2 = .err e→¬ e=0:=fun e he=>by
 unfold findF at he
 split at he
 ·rw [← Rs.err.inj he];decide
 split at he
 ·rw [← Rs.err.inj he];decide
 have hr:=tt hK.so hK.lk fol (wkW (aL cwd path)) (aL cwd path) (Nat.le_refl _)
 generalize bS L fol (wkW (aL cwd path)) (aL cwd path)=y at he hr
 obtain ⟨rd,r⟩:=y
 cases r with
 | err e'=>simp only [cO,Rs.err.injEq] at he;subst he;exact hr _ rfl
 | go w =>
  simp only [cO] at he
  split at he
  ·rw [← Rs.err.inj he];decide
  ·cases he
theorem c8 (L:PL) (cwd path:Str) (fol:Bool):(∃ rd e,findF L cwd path fol=(rd,.err e)∧bQ L cwd path fol=(rd,.err e))∨(∃ rd pl ek em el,findF L cwd path fol=(rd,.go (pl,⟨ek,em,el⟩))∧ek=0∧bQ L cwd path fol=(rd,.err 10)) ∨
  (∃ rd pl ek em el,findF L cwd path fol=(rd,.go (pl,⟨ek,em,el⟩))∧¬ ek=0∧bQ L cwd path fol=(rd,.go (pl,⟨ek,em,el⟩))):=by
 unfold bQ
 generalize findF L cwd path fol=y
 obtain ⟨rd,r⟩:=y
 cases r with
 | err e=>exact .inl ⟨rd,e,rfl,rfl⟩
 | go a =>
  obtain ⟨pl,ek,em,el⟩:=a
  by_cases h:ek=0
  ·exact .inr (.inl ⟨rd,pl,ek,em,el,rfl,h,by simp only [aV,h,if_true,List.append_nil]⟩)
  ·exact .inr (.inr ⟨rd,pl,ek,em,el,rfl,h,by simp only [aV,if_neg h,List.append_nil]⟩)
theorem ko (L:PL) (cwd path:Str) (fol:Bool):(∃ rd e,findF L cwd path fol=(rd,.err e))∨(∃ rd pl ek em el,findF L cwd path fol=(rd,.go (pl,⟨ek,em,el⟩))):=by
 generalize findF L cwd path fol=y
 obtain ⟨rd,r⟩:=y
 cases r with
 | err e=>exact .inl ⟨rd,e,rfl⟩
 | go a=>obtain ⟨pl,ek,em,el⟩:=a;exact .inr ⟨rd,pl,ek,em,el,rfl⟩
theorem fB:¬ (2:Int)=0:=by decide
theorem HL:¬ (3:Int)=0:=by decide
section
variable {pp st:Oid} {N:List Oid} {F F1 F2:Oid→ah} {L:PL} (hK:KL L) (hm:∀ n,0≤(aG L n).m∧(aG L n).m≤7) {cwd:Str} (hc:cwd.length≤1000000) (um:Int) (hpN:pp ∉ N) {p:Oid} (hp:p.mono=false) (hpp:¬ Oid.under p pp) (hO:aY p N)
include hK hm hc hpN hp hpp hO
omit hm in
theorem ox (path:Str) (hpath:path.length≤140737488355328) (hA:RR' st N L (aI L cwd path).1 F F1) :
  aj Tryz.prog 165 [.ptr pp 0,.str path] (Oid.under p) ⟨(pp,prC st cwd um)::bk (N,F),rdV (aI L cwd path).2,sb N F1⟩:=by
 have hf:=fun F' h p hp hpp hO=>cV (pp:=pp) (st:=st) (N:=N) (F:=F) (F':=F') hK path cwd um true hpN hc hpath h p hp hpp hO
 have hne:=dz hK (cwd:=cwd) path true
 have hlen:=cm hK hc path true
 unfold aI at hA ⊢
 rcases c8 L cwd path true with ⟨rd,e,h1,h2⟩|⟨rd,pl,ek,em,el,h1,h0,h2⟩|⟨rd,pl,ek,em,el,h1,h0,h2⟩
 ·rw [h2] at hA ⊢
  rw [h1] at hf hne
  simp only [aV] at hA ⊢
  have e0:¬ e=0:=hne _ rfl
  have hf':=hf _ hA
  unfold prC at hf' ⊢
  simp only [fnV,rdB,Bits.no,aA] at hf'
  refine aD (n:=35) (rs:=[.tmp 4,.tmp 5]) Tryz.func165 rfl rfl (by decide) rfl rfl rfl ?_;rintro x rfl hrd hng
  rw [aC]
  refine kr0 ?_
  refine kr1 hf' ?_
  refine kw e0 ?_
  exact kq
 ·rw [h2] at hA ⊢
  rw [h1] at hf hne
  simp only [aV] at hA ⊢
  have hf':=hf _ hA
  unfold prC at hf' ⊢
  simp only [fnV,rdB,Bits.no,aA] at hf'
  refine aD (n:=35) (rs:=[.tmp 4,.tmp 5]) Tryz.func165 rfl rfl (by decide) rfl rfl rfl ?_;rintro x rfl hrd hng
  rw [aC]
  refine kr0 ?_
  refine kr1 hf' ?_
  refine kw h0 ?_
  exact kq
 ·rw [h2] at hA ⊢
  rw [h1] at hf hne hlen
  simp only [bK] at hA ⊢
  have hpl:=hlen _ rfl
  simp only at hpl
  obtain ⟨F0,hA1,hA2⟩:=a7 hA
  by_cases c1:ek=2
  ·rw [if_pos c1]
   obtain rfl:F0=F1:=hA2
   have hf':=hf _ hA1
   unfold prC at hf' ⊢
   simp only [fnV,rdB,Bits.no,aA] at hf'
   refine aD (n:=35) (rs:=[.tmp 4,.tmp 5]) Tryz.func165 rfl rfl (by decide) rfl rfl rfl ?_;rintro x rfl hrd hng
   rw [aC]
   refine kr0 ?_
   refine kr1 hf' ?_
   (repeat (first|(refine ay rfl rfl ?_)|(refine aw rfl rfl ?_)|(refine ao nmd [] hng (by kernel_rfl) fun hf C S K hC1 hC hS hK=>?_;simp (disch:=first|omega|assumption) only [go_sem,Oid.ab hpp,Oid.aa hpp,hpN,hO,h0,c1,fB,eq_self,decide_true,decide_false,ne_eq,not_true_eq_false,not_false_eq_true];refine hK ?_;clear hK hS hC hC1 K S C hf)|((first|refine zn ?_|refine ze ?_|refine zk ?_);with_reducible (constructor;repeat constructor);try refine zl ?_)))
   exact kq
  by_cases c2:dF em 4=0
  ·rw [if_neg c1,if_pos c2]
   obtain rfl:F0=F1:=hA2
   have hf':=hf _ hA1
   unfold prC at hf' ⊢
   simp only [fnV,rdB,Bits.no,aA] at hf'
   refine aD (n:=35) (rs:=[.tmp 4,.tmp 5]) Tryz.func165 rfl rfl (by decide) rfl rfl rfl ?_;rintro x rfl hrd hng
   rw [aC]
   refine kr0 ?_
   refine kr1 hf' ?_
   refine kw (ai h0 (ai c1 c2)) ?_
   exact kq
  ·rw [if_neg c1,if_neg c2]
   obtain rfl:F0=F1:=hA2
   have hf':=hf _ hA1
   unfold prC at hf' ⊢
   simp only [fnV,rdB,Bits.no,aA] at hf'
   refine aD (n:=35) (rs:=[.tmp 4,.tmp 5]) Tryz.func165 rfl rfl (by decide) rfl rfl rfl ?_;rintro x rfl hrd hng
   rw [aC]
   refine kr0 ?_
   refine kr1 hf' ?_
   refine kw (ai h0 (ai c1 c2)) ?_
   exact kq
omit hm in
theorem uY (path:Str) (hpath:path.length≤140737488355328) (hA:RR' st N L (dG L cwd path).1 F F1) :
  aj Tryz.prog 125 [.ptr pp 0,.str path] (Oid.under p) ⟨(pp,prC st cwd um)::bk (N,F),rdV (dG L cwd path).2,sb N F1⟩:=by
 have hf:=fun F' h p hp hpp hO=>cV (pp:=pp) (st:=st) (N:=N) (F:=F) (F':=F') hK path cwd um false hpN hc hpath h p hp hpp hO
 have hne:=dz hK (cwd:=cwd) path false
 have hlen:=cm hK hc path false
 unfold dG at hA ⊢
 rcases c8 L cwd path false with ⟨rd,e,h1,h2⟩|⟨rd,pl,ek,em,el,h1,h0,h2⟩|⟨rd,pl,ek,em,el,h1,h0,h2⟩
 ·rw [h2] at hA ⊢
  rw [h1] at hf hne
  simp only [aV] at hA ⊢
  have e0:¬ e=0:=hne _ rfl
  have hf':=hf _ hA
  unfold prC at hf' ⊢
  simp only [fnV,rdB,Bits.no,aA] at hf'
  refine aD (n:=30) (rs:=[.tmp 4,.tmp 5]) Tryz.func125 rfl rfl (by decide) rfl rfl rfl ?_;rintro x rfl hrd hng
  rw [aC]
  refine kr0 ?_
  refine kr1 hf' ?_
  refine kw e0 ?_
  exact kq
 ·rw [h2] at hA ⊢
  rw [h1] at hf hne
  simp only [aV] at hA ⊢
  have hf':=hf _ hA
  unfold prC at hf' ⊢
  simp only [fnV,rdB,Bits.no,aA] at hf'
  refine aD (n:=30) (rs:=[.tmp 4,.tmp 5]) Tryz.func125 rfl rfl (by decide) rfl rfl rfl ?_;rintro x rfl hrd hng
  rw [aC]
  refine kr0 ?_
  refine kr1 hf' ?_
  refine kw h0 ?_
  exact kq
 ·rw [h2] at hA ⊢
  rw [h1] at hf hne hlen
  simp only [bK] at hA ⊢
  have hpl:=hlen _ rfl
  simp only at hpl
  obtain ⟨F0,hA1,hA2⟩:=a7 hA
  by_cases c1:ek=3
  ·rw [if_neg (fun h=>h c1)]
   obtain rfl:F0=F1:=hA2
   have hf':=hf _ hA1
   unfold prC at hf' ⊢
   simp only [fnV,rdB,Bits.no,aA] at hf'
   refine aD (n:=30) (rs:=[.tmp 4,.tmp 5]) Tryz.func125 rfl rfl (by decide) rfl rfl rfl ?_;rintro x rfl hrd hng
   rw [aC]
   refine kr0 ?_
   refine kr1 hf' ?_
   (repeat (first|(refine ay rfl rfl ?_)|(refine aw rfl rfl ?_)|(refine ao nmd [] hng (by kernel_rfl) fun hf C S K hC1 hC hS hK=>?_;simp (disch:=first|omega|assumption) only [go_sem,Oid.ab hpp,Oid.aa hpp,hpN,hO,h0,c1,HL,eq_self,decide_true,decide_false,ne_eq,not_true_eq_false,not_false_eq_true];refine hK ?_;clear hK hS hC hC1 K S C hf)|((first|refine zn ?_|refine ze ?_|refine zk ?_);with_reducible (constructor;repeat constructor);try refine zl ?_)))
   exact kq
  ·rw [if_pos c1]
   obtain rfl:F0=F1:=hA2
   have hf':=hf _ hA1
   unfold prC at hf' ⊢
   simp only [fnV,rdB,Bits.no,aA] at hf'
   refine aD (n:=30) (rs:=[.tmp 4,.tmp 5]) Tryz.func125 rfl rfl (by decide) rfl rfl rfl ?_;rintro x rfl hrd hng
   rw [aC]
   refine kr0 ?_
   refine kr1 hf' ?_
   refine kw (ai h0 c1) ?_
   exact kq
omit hm in
theorem HM (path:Str) (hpath:path.length≤140737488355328) (hA:RR' st N L (iL L cwd path).1 F F1) :
  aj Tryz.prog 166 [.ptr pp 0,.str path] (Oid.under p) ⟨(pp,prC st cwd um)::bk (N,F),lsV (iL L cwd path).2,sb N F1⟩:=by
 have hf:=fun F' h p hp hpp hO=>cV (pp:=pp) (st:=st) (N:=N) (F:=F) (F':=F') hK path cwd um true hpN hc hpath h p hp hpp hO
 have hne:=dz hK (cwd:=cwd) path true
 have hlen:=cm hK hc path true
 unfold iL at hA ⊢
 rcases c8 L cwd path true with ⟨rd,e,h1,h2⟩|⟨rd,pl,ek,em,el,h1,h0,h2⟩|⟨rd,pl,ek,em,el,h1,h0,h2⟩
 ·rw [h2] at hA ⊢
  rw [h1] at hf hne
  simp only [aV] at hA ⊢
  have e0:¬ e=0:=hne _ rfl
  have hf':=hf _ hA
  unfold prC at hf' ⊢
  simp only [fnV,rdB,Bits.no,aA] at hf'
  refine aD (n:=39) (rs:=[.tmp 4,.tmp 5]) Tryz.func166 rfl rfl (by decide) rfl rfl rfl ?_;rintro x rfl hrd hng
  rw [aC]
  refine kr0 ?_
  refine kr1 hf' ?_
  refine kw e0 ?_
  refine fY 4 1 rfl ?_
  exact kq
 ·rw [h2] at hA ⊢
  rw [h1] at hf hne
  simp only [aV] at hA ⊢
  have hf':=hf _ hA
  unfold prC at hf' ⊢
  simp only [fnV,rdB,Bits.no,aA] at hf'
  refine aD (n:=39) (rs:=[.tmp 4,.tmp 5]) Tryz.func166 rfl rfl (by decide) rfl rfl rfl ?_;rintro x rfl hrd hng
  rw [aC]
  refine kr0 ?_
  refine kr1 hf' ?_
  refine kw h0 ?_
  refine fY 4 1 rfl ?_
  exact kq
 ·rw [h2] at hA ⊢
  rw [h1] at hf hne hlen
  simp only [bK] at hA ⊢
  have hpl:=hlen _ rfl
  simp only at hpl
  obtain ⟨F0,hA1,hA2⟩:=a7 hA
  by_cases c1:ek=2
  case neg =>
   rw [if_pos c1] at hA2 ⊢
   obtain rfl:F0=F1:=hA2
   have hf':=hf _ hA1
   unfold prC at hf' ⊢
   simp only [fnV,rdB,Bits.no,aA] at hf'
   refine aD (n:=39) (rs:=[.tmp 4,.tmp 5]) Tryz.func166 rfl rfl (by decide) rfl rfl rfl ?_;rintro x rfl hrd hng
   rw [aC]
   refine kr0 ?_
   refine kr1 hf' ?_
   refine kw (ai h0 c1) ?_
   refine fY 4 1 rfl ?_
   exact kq
  rw [if_neg (fun h=>h c1)] at hA2 ⊢
  by_cases c2:dF em 4=0
  ·rw [if_pos c2] at hA2 ⊢
   obtain rfl:F0=F1:=hA2
   have hf':=hf _ hA1
   unfold prC at hf' ⊢
   simp only [fnV,rdB,Bits.no,aA] at hf'
   refine aD (n:=39) (rs:=[.tmp 4,.tmp 5]) Tryz.func166 rfl rfl (by decide) rfl rfl rfl ?_;rintro x rfl hrd hng
   rw [aC]
   refine kr0 ?_
   refine kr1 hf' ?_
   (repeat (first|(refine ay rfl rfl ?_)|(refine aw rfl rfl ?_)|(refine ao nmd [] hng (by kernel_rfl) fun hf C S K hC1 hC hS hK=>?_;simp (disch:=first|omega|assumption) only [go_sem,Oid.ab hpp,Oid.aa hpp,hpN,hO,h0,c1,fB,c2,eq_self,decide_true,decide_false,ne_eq,not_true_eq_false,not_false_eq_true];refine hK ?_;clear hK hS hC hC1 K S C hf)|((first|refine zn ?_|refine ze ?_|refine zk ?_);with_reducible (constructor;repeat constructor);try refine zl ?_)))
   refine fY 4 1 rfl ?_
   exact kq
  ·rw [if_neg c2] at hA2 ⊢
   obtain ⟨_,hnm,rfl⟩:=hA2
   rename_i F1
   have hnm':∀ p,p.mono=false→aY p N→aj Tryz.prog 172 [.ptr st 0,.str pl] (Oid.under p) ⟨bk (N,F0),.list 1 ((aQ L pl).map AV.str),sb N F1⟩:=hnm
   generalize aQ L pl=NL at hnm' ⊢
   have hf':=hf _ hA1
   unfold prC at hf' ⊢
   simp only [fnV,rdB,Bits.no,aA] at hf'
   refine aD (n:=39) (rs:=[.tmp 4,.tmp 5]) Tryz.func166 rfl rfl (by decide) rfl rfl rfl ?_;rintro x rfl hrd hng
   rw [aC]
   refine kr0 ?_
   refine kr1 hf' ?_
   (repeat (first|(refine ay rfl rfl ?_)|(refine aw rfl rfl ?_)|(refine ao nmd [] hng (by kernel_rfl) fun hf C S K hC1 hC hS hK=>?_;simp (disch:=first|omega|assumption) only [go_sem,Oid.ab hpp,Oid.aa hpp,hpN,hO,h0,c1,fB,c2,eq_self,decide_true,decide_false,ne_eq,not_true_eq_false,not_false_eq_true];refine hK ?_;clear hK hS hC hC1 K S C hf)|((first|refine zn ?_|refine ze ?_|refine zk ?_);with_reducible (constructor;repeat constructor);try refine zl ?_)))
   refine kr1 hnm' ?_
   refine kw0 ?_
   exact kq
end
end Go.Proofs.YtfbnaalhioogoaaGreatDoor
namespace Go.Proofs.YtfbnaalhioogoaaGreatDoor
open Go Go.Ab
set_option maxRecDepth 20000
set_option maxHeartbeats 8000000
section
variable {pp st:Oid} {N:List Oid} {F F1 F2:Oid→ah} {L:PL} (hK:KL L) (hm:∀ n,0≤(aG L n).m∧(aG L n).m≤7) {cwd:Str} (hc:cwd.length≤1000000) (um:Int) (hpN:pp ∉ N) {p:Oid} (hp:p.mono=false) (hpp:¬ Oid.under p pp) (hO:aY p N)
include hK hm hc hpN hp hpp hO
theorem Bo (path:Str) (hpath:path.length≤140737488355328) (nk nm:Int) (nl:Str) (hA:RR' st N L (ew L cwd path ⟨nk,nm,nl⟩).1 F F1) (hP:PR st N (bT (ew L cwd path ⟨nk,nm,nl⟩).2) F1 F2) :
  aj Tryz.prog 170 [.ptr pp 0,.str path,.agg [.int .i64 nk,.int .i64 nm,.str nl]] (Oid.under p) ⟨(pp,prC st cwd um)::bk (N,F),.int .i64 (aA (ew L cwd path ⟨nk,nm,nl⟩).2),sb N F2⟩:=by
 have hf:=fun F' h p hp hpp hO=>cV (pp:=pp) (st:=st) (N:=N) (F:=F) (F':=F') hK path cwd um false hpN hc hpath h p hp hpp hO
 have hne:=dz hK (cwd:=cwd) path false
 have hlen:=cm hK hc path false
 unfold ew at hA hP ⊢
 rcases ko L cwd path false with ⟨rd,e,h1⟩|⟨rd,pl,ek,em,el,h1⟩
 ·rw [h1] at hA hP ⊢
  rw [h1] at hf hne
  simp only [aV] at hA hP ⊢
  obtain rfl:F1=F2:=hP
  have e0:¬ e=0:=hne _ rfl
  have hf':=hf _ hA
  unfold prC at hf' ⊢
  simp only [fnV,rdB,Bits.no,aA] at hf'
  refine aD (n:=37) (rs:=[.tmp 6]) Tryz.func170 rfl rfl (by decide) rfl rfl rfl ?_;rintro x rfl hrd hng
  rw [aC]
  refine kr0 ?_
  refine kr1 hf' ?_
  refine kw e0 ?_
  exact kq
 ·rw [h1] at hA hP ⊢
  rw [h1] at hf hlen
  simp only [bK] at hA hP ⊢
  have hpl:=hlen _ rfl
  simp only at hpl
  obtain ⟨F0,hA1,hA2⟩:=a7 hA
  by_cases c1:ek=0
  case neg =>
   rw [if_pos c1] at hA2 hP ⊢
   obtain rfl:F0=F1:=hA2
   obtain rfl:F0=F2:=hP
   have hf':=hf _ hA1
   unfold prC at hf' ⊢
   simp only [fnV,rdB,Bits.no,aA] at hf'
   refine aD (n:=37) (rs:=[.tmp 6]) Tryz.func170 rfl rfl (by decide) rfl rfl rfl ?_;rintro x rfl hrd hng
   rw [aC]
   refine kr0 ?_
   refine kr1 hf' ?_
   refine kw c1 ?_
   exact kq
  rw [if_neg (fun h=>h c1)] at hA2 hP ⊢
  simp only [cb] at hA2 hP ⊢
  subst c1
  have hrm:=fun p hp hpp hO=>dP (pp:=pp) (st:=st) (N:=N) (F:=F0) (F1:=F1) (L:=L) (cwd:=cwd) um hpN (p:=p) hp hpp hO hm pl hpl hA2
  unfold prC at hrm
  generalize bR pl (aG L (aO pl))=g at hrm hP ⊢
  by_cases g0:g=0
  case neg =>
   rw [if_pos g0] at hP ⊢
   obtain rfl:F1=F2:=hP
   have hf':=hf _ hA1
   unfold prC at hf' ⊢
   simp only [fnV,rdB,Bits.no,aA] at hf'
   refine aD (n:=37) (rs:=[.tmp 6]) Tryz.func170 rfl rfl (by decide) rfl rfl rfl ?_;rintro x rfl hrd hng
   rw [aC]
   refine kr0 ?_
   refine kr1 hf' ?_
   refine kw0 ?_
   refine kr1 hrm ?_
   refine kw g0 ?_
   exact kq
  rw [if_neg (fun h=>h g0)] at hP ⊢
  obtain ⟨_,hput,rfl⟩:=hP
  rename_i F2
  have hput':∀ p,p.mono=false→aY p N→aj Tryz.prog 46 [.ptr st 0,.str pl,.agg [.int .i64 nk,.int .i64 nm,.str nl]] (Oid.under p) ⟨bk (N,F1),.tuple [],sb N F2⟩:=hput
  have hf':=hf _ hA1
  unfold prC at hf' ⊢
  simp only [fnV,rdB,Bits.no,aA] at hf'
  refine aD (n:=37) (rs:=[.tmp 6]) Tryz.func170 rfl rfl (by decide) rfl rfl rfl ?_;rintro x rfl hrd hng
  rw [aC]
  refine kr0 ?_
  refine kr1 hf' ?_
  refine kw0 ?_
  refine kr1 hrm ?_
  refine kw g0 ?_
  refine kd (.d [] [] [5]) trivial (cq hput' trivial) ?_
  refine kw0 ?_
  exact kq
theorem Bp (path:Str) (hpath:path.length≤140737488355328) (hA:RR' st N L (dQ L cwd path).1 F F1) (hP:PR st N (bT (dQ L cwd path).2) F1 F2) :
  aj Tryz.prog 87 [.ptr pp 0,.str path] (Oid.under p) ⟨(pp,prC st cwd um)::bk (N,F),.int .i64 (aA (dQ L cwd path).2),sb N F2⟩:=by
 have hf:=fun F' h p hp hpp hO=>cV (pp:=pp) (st:=st) (N:=N) (F:=F) (F':=F') hK path cwd um false hpN hc hpath h p hp hpp hO
 have hne:=dz hK (cwd:=cwd) path false
 have hlen:=cm hK hc path false
 unfold dQ at hA hP ⊢
 rcases c8 L cwd path false with ⟨rd,e,h1,h2⟩|⟨rd,pl,ek,em,el,h1,h0,h2⟩|⟨rd,pl,ek,em,el,h1,h0,h2⟩
 ·rw [h2] at hA hP ⊢
  rw [h1] at hf hne
  simp only [aV] at hA hP ⊢
  obtain rfl:F1=F2:=hP
  have e0:¬ e=0:=hne _ rfl
  have hf':=hf _ hA
  unfold prC at hf' ⊢
  simp only [fnV,rdB,Bits.no,aA] at hf'
  refine aD (n:=41) (rs:=[.tmp 4]) Tryz.func87 rfl rfl (by decide) rfl rfl rfl ?_;rintro x rfl hrd hng
  rw [aC]
  refine kr0 ?_
  refine kr1 hf' ?_
  refine kw e0 ?_
  exact kq
 ·rw [h2] at hA hP ⊢
  rw [h1] at hf hne
  simp only [aV] at hA hP ⊢
  obtain rfl:F1=F2:=hP
  have hf':=hf _ hA
  unfold prC at hf' ⊢
  simp only [fnV,rdB,Bits.no,aA] at hf'
  refine aD (n:=41) (rs:=[.tmp 4]) Tryz.func87 rfl rfl (by decide) rfl rfl rfl ?_;rintro x rfl hrd hng
  rw [aC]
  refine kr0 ?_
  refine kr1 hf' ?_
  refine kw h0 ?_
  exact kq
 ·rw [h2] at hA hP ⊢
  rw [h1] at hf hne hlen
  simp only [bK] at hA hP ⊢
  have hpl:=hlen _ rfl
  simp only at hpl
  obtain ⟨F0,hA1,hA2⟩:=a7 hA
  by_cases c1:ek=2
  ·rw [if_pos c1] at hA2 hP ⊢
   obtain rfl:F0=F1:=hA2
   obtain rfl:F0=F2:=hP
   have hf':=hf _ hA1
   unfold prC at hf' ⊢
   simp only [fnV,rdB,Bits.no,aA] at hf'
   refine aD (n:=41) (rs:=[.tmp 4]) Tryz.func87 rfl rfl (by decide) rfl rfl rfl ?_;rintro x rfl hrd hng
   rw [aC]
   refine kr0 ?_
   refine kr1 hf' ?_
   (repeat (first|(refine ay rfl rfl ?_)|(refine aw rfl rfl ?_)|(refine ao nmd [] hng (by kernel_rfl) fun hf C S K hC1 hC hS hK=>?_;simp (disch:=first|omega|assumption) only [go_sem,Oid.ab hpp,Oid.aa hpp,hpN,hO,h0,c1,fB,eq_self,decide_true,decide_false,ne_eq,not_true_eq_false,not_false_eq_true];refine hK ?_;clear hK hS hC hC1 K S C hf)|((first|refine zn ?_|refine ze ?_|refine zk ?_);with_reducible (constructor;repeat constructor);try refine zl ?_)))
   exact kq
  rw [if_neg c1] at hA2 hP ⊢
  simp only [cb] at hA2 hP ⊢
  have hrm:=fun p hp hpp hO=>dP (pp:=pp) (st:=st) (N:=N) (F:=F0) (F1:=F1) (L:=L) (cwd:=cwd) um hpN (p:=p) hp hpp hO hm pl hpl hA2
  unfold prC at hrm
  generalize bR pl (aG L (aO pl))=g at hrm hP ⊢
  by_cases g0:g=0
  case neg =>
   rw [if_pos g0] at hP ⊢
   obtain rfl:F1=F2:=hP
   have hf':=hf _ hA1
   unfold prC at hf' ⊢
   simp only [fnV,rdB,Bits.no,aA] at hf'
   refine aD (n:=41) (rs:=[.tmp 4]) Tryz.func87 rfl rfl (by decide) rfl rfl rfl ?_;rintro x rfl hrd hng
   rw [aC]
   refine kr0 ?_
   refine kr1 hf' ?_
   refine kw (ai h0 c1) ?_
   refine kr1 hrm ?_
   refine kw (ai g0 (ai h0 c1)) ?_
   exact kq
  rw [if_neg (fun h=>h g0)] at hP ⊢
  obtain ⟨_,hput,rfl⟩:=hP
  rename_i F2
  have hput':∀ p,p.mono=false→aY p N→aj Tryz.prog 46 [.ptr st 0,.str pl,.agg [.int .i64 0,.int .i64 0,.str []]] (Oid.under p) ⟨bk (N,F1),.tuple [],sb N F2⟩:=hput
  have hf':=hf _ hA1
  unfold prC at hf' ⊢
  simp only [fnV,rdB,Bits.no,aA] at hf'
  refine aD (n:=41) (rs:=[.tmp 4]) Tryz.func87 rfl rfl (by decide) rfl rfl rfl ?_;rintro x rfl hrd hng
  rw [aC]
  refine kr0 ?_
  refine kr1 hf' ?_
  refine kw (ai h0 c1) ?_
  refine kr1 hrm ?_
  refine kw (ai g0 (ai h0 c1)) ?_
  refine kr1 hput' ?_
  refine kw0 ?_
  exact kq
theorem En (path:Str) (hpath:path.length≤140737488355328) (hA:RR' st N L (fF L cwd path).1 F F1) (hP:PR st N (bT (fF L cwd path).2) F1 F2) :
  aj Tryz.prog 89 [.ptr pp 0,.str path] (Oid.under p) ⟨(pp,prC st cwd um)::bk (N,F),.int .i64 (aA (fF L cwd path).2),sb N F2⟩:=by
 have hf:=fun F' h p hp hpp hO=>cV (pp:=pp) (st:=st) (N:=N) (F:=F) (F':=F') hK path cwd um false hpN hc hpath h p hp hpp hO
 have hne:=dz hK (cwd:=cwd) path false
 have hlen:=cm hK hc path false
 unfold fF at hA hP ⊢
 rcases c8 L cwd path false with ⟨rd,e,h1,h2⟩|⟨rd,pl,ek,em,el,h1,h0,h2⟩|⟨rd,pl,ek,em,el,h1,h0,h2⟩
 ·rw [h2] at hA hP ⊢
  rw [h1] at hf hne
  simp only [aV] at hA hP ⊢
  obtain rfl:F1=F2:=hP
  have e0:¬ e=0:=hne _ rfl
  have hf':=hf _ hA
  unfold prC at hf' ⊢
  simp only [fnV,rdB,Bits.no,aA] at hf'
  refine aD (n:=60) (rs:=[.tmp 4]) Tryz.func89 rfl rfl (by decide) rfl rfl rfl ?_;rintro x rfl hrd hng
  rw [aC]
  refine kr0 ?_
  refine kr1 hf' ?_
  refine kw e0 ?_
  exact kq
 ·rw [h2] at hA hP ⊢
  rw [h1] at hf hne
  simp only [aV] at hA hP ⊢
  obtain rfl:F1=F2:=hP
  have hf':=hf _ hA
  unfold prC at hf' ⊢
  simp only [fnV,rdB,Bits.no,aA] at hf'
  refine aD (n:=60) (rs:=[.tmp 4]) Tryz.func89 rfl rfl (by decide) rfl rfl rfl ?_;rintro x rfl hrd hng
  rw [aC]
  refine kr0 ?_
  refine kr1 hf' ?_
  refine kw h0 ?_
  exact kq
 ·rw [h2] at hA hP ⊢
  rw [h1] at hf hne hlen
  simp only [bK] at hA hP ⊢
  have hpl:=hlen _ rfl
  simp only at hpl
  obtain ⟨F0,hA1,hA2⟩:=a7 hA
  by_cases c1:ek=2
  case neg =>
   rw [if_pos c1] at hA2 hP ⊢
   obtain rfl:F0=F1:=hA2
   obtain rfl:F0=F2:=hP
   have hf':=hf _ hA1
   unfold prC at hf' ⊢
   simp only [fnV,rdB,Bits.no,aA] at hf'
   refine aD (n:=60) (rs:=[.tmp 4]) Tryz.func89 rfl rfl (by decide) rfl rfl rfl ?_;rintro x rfl hrd hng
   rw [aC]
   refine kr0 ?_
   refine kr1 hf' ?_
   refine kw (ai h0 c1) ?_
   exact kq
  rw [if_neg (fun h=>h c1)] at hA2 hP ⊢
  by_cases c2:pl=cwd
  ·rw [if_pos (.inl c2)] at hA2 hP ⊢
   obtain rfl:F0=F1:=hA2
   obtain rfl:F0=F2:=hP
   have hf':=hf _ hA1
   unfold prC at hf' ⊢
   simp only [fnV,rdB,Bits.no,aA] at hf'
   refine aD (n:=60) (rs:=[.tmp 4]) Tryz.func89 rfl rfl (by decide) rfl rfl rfl ?_;rintro x rfl hrd hng
   rw [aC]
   refine kr0 ?_
   refine kr1 hf' ?_
   (repeat (first|(refine ay rfl rfl ?_)|(refine aw rfl rfl ?_)|(refine ao nmd [] hng (by kernel_rfl) fun hf C S K hC1 hC hS hK=>?_;simp (disch:=first|omega|assumption) only [go_sem,Oid.ab hpp,Oid.aa hpp,hpN,hO,h0,c1,c2,fB,eq_self,decide_true,decide_false,ne_eq,not_true_eq_false,not_false_eq_true];refine hK ?_;clear hK hS hC hC1 K S C hf)|((first|refine zn ?_|refine ze ?_|refine zk ?_);with_reducible (constructor;repeat constructor);try refine zl ?_)))
   refine ao nmd [(6,35)] hng (by kernel_rfl) fun hf C S K hC1 hC hS hK=>?_;simp (disch:=first|omega|assumption) only [go_sem,Oid.ab hpp,Oid.aa hpp,hpN,hO,h0,c1,c2,fB,eq_self,decide_true,decide_false,ne_eq,not_true_eq_false,not_false_eq_true]
   refine hK ?_;clear hK hS hC hC1 K S C hf
   (repeat (first|(refine ay rfl rfl ?_)|(refine aw rfl rfl ?_)|(refine ao nmd [] hng (by kernel_rfl) fun hf C S K hC1 hC hS hK=>?_;simp (disch:=first|omega|assumption) only [go_sem,Oid.ab hpp,Oid.aa hpp,hpN,hO,h0,c1,c2,fB,eq_self,decide_true,decide_false,ne_eq,not_true_eq_false,not_false_eq_true];refine hK ?_;clear hK hS hC hC1 K S C hf)|((first|refine zn ?_|refine ze ?_|refine zk ?_);with_reducible (constructor;repeat constructor);try refine zl ?_)))
   exact kq
  by_cases c3:pl=[]
  ·rw [if_pos (.inr c3)] at hA2 hP ⊢
   obtain rfl:F0=F1:=hA2
   subst c3
   obtain rfl:F0=F2:=hP
   have hf':=hf _ hA1
   unfold prC at hf' ⊢
   simp only [fnV,rdB,Bits.no,aA] at hf'
   refine aD (n:=60) (rs:=[.tmp 4]) Tryz.func89 rfl rfl (by decide) rfl rfl rfl ?_;rintro x rfl hrd hng
   rw [aC]
   refine kr0 ?_
   refine kr1 hf' ?_
   (repeat (first|(refine ay rfl rfl ?_)|(refine aw rfl rfl ?_)|(refine ao nmd [] hng (by kernel_rfl) fun hf C S K hC1 hC hS hK=>?_;simp (disch:=first|omega|assumption) only [go_sem,Oid.ab hpp,Oid.aa hpp,hpN,hO,h0,c1,c2,fB,eq_self,decide_true,decide_false,ne_eq,not_true_eq_false,not_false_eq_true];refine hK ?_;clear hK hS hC hC1 K S C hf)|((first|refine zn ?_|refine ze ?_|refine zk ?_);with_reducible (constructor;repeat constructor);try refine zl ?_)))
   refine ao nmd [(6,35)] hng (by kernel_rfl) fun hf C S K hC1 hC hS hK=>?_;simp (disch:=first|omega|assumption) only [go_sem,Oid.ab hpp,Oid.aa hpp,hpN,hO,h0,c1,c2,fB,eq_self,decide_true,decide_false,ne_eq,not_true_eq_false,not_false_eq_true]
   refine hK ?_;clear hK hS hC hC1 K S C hf
   (repeat (first|(refine ay rfl rfl ?_)|(refine aw rfl rfl ?_)|(refine ao nmd [] hng (by kernel_rfl) fun hf C S K hC1 hC hS hK=>?_;simp (disch:=first|omega|assumption) only [go_sem,Oid.ab hpp,Oid.aa hpp,hpN,hO,h0,c1,c2,fB,eq_self,decide_true,decide_false,ne_eq,not_true_eq_false,not_false_eq_true];refine hK ?_;clear hK hS hC hC1 K S C hf)|((first|refine zn ?_|refine ze ?_|refine zk ?_);with_reducible (constructor;repeat constructor);try refine zl ?_)))
   exact kq
  rw [if_neg (fun h=>h.elim c2 c3)] at hA2 hP ⊢
  obtain ⟨F0n,hAn,hA3⟩:∃ F0n,RR' st N L [(pl,true)] F0 F0n∧RR' st N L (if aQ L pl=[] then [(aO pl,false)] else []) F0n F1:=by
   by_cases c4:aQ L pl=[]
   ·rw [c4] at hA2
    obtain ⟨G,k1,k2⟩:=hA2
    refine ⟨G,⟨G,k1,rfl⟩,?_⟩
    rw [if_pos c4]
    exact k2
   ·simp only [aV,if_pos c4] at hA2
    rw [if_neg c4]
    exact ⟨F1,hA2,rfl⟩
  obtain ⟨_,hnm,rfl⟩:=hAn
  rename_i F0n
  have hnm':∀ p,p.mono=false→aY p N→aj Tryz.prog 172 [.ptr st 0,.str pl] (Oid.under p) ⟨bk (N,F0),.list 1 ((aQ L pl).map AV.str),sb N F0n⟩:=hnm
  generalize aQ L pl=NL at hA2 hA3 hP hnm' ⊢
  cases NL with
  | cons n0 nr =>
   simp only [aV,reduceCtorEq,not_false_eq_true,if_true,if_false] at hA3 hP ⊢
   obtain rfl:F0n=F1:=hA3
   obtain rfl:F0n=F2:=hP
   have e9:(0:Int) < ((nr.length+1:Nat):Int):=by omega
   have hf':=hf _ hA1
   unfold prC at hf' ⊢
   simp only [fnV,rdB,Bits.no,aA] at hf'
   refine aD (n:=60) (rs:=[.tmp 4]) Tryz.func89 rfl rfl (by decide) rfl rfl rfl ?_;rintro x rfl hrd hng
   rw [aC]
   refine kr0 ?_
   refine kr1 hf' ?_
   (repeat (first|(refine ay rfl rfl ?_)|(refine aw rfl rfl ?_)|(refine ao nmd [] hng (by kernel_rfl) fun hf C S K hC1 hC hS hK=>?_;simp (disch:=first|omega|assumption) only [go_sem,Oid.ab hpp,Oid.aa hpp,hpN,hO,h0,c1,c2,c3,fB,eq_self,decide_true,decide_false,ne_eq,not_true_eq_false,not_false_eq_true];refine hK ?_;clear hK hS hC hC1 K S C hf)|((first|refine zn ?_|refine ze ?_|refine zk ?_);with_reducible (constructor;repeat constructor);try refine zl ?_)))
   refine ao nmd [(6,35)] hng (by kernel_rfl) fun hf C S K hC1 hC hS hK=>?_;simp (disch:=first|omega|assumption) only [go_sem,Oid.ab hpp,Oid.aa hpp,hpN,hO,h0,c1,c2,c3,fB,eq_self,decide_true,decide_false,ne_eq,not_true_eq_false,not_false_eq_true]
   refine hK ?_;clear hK hS hC hC1 K S C hf
   (repeat (first|(refine ay rfl rfl ?_)|(refine aw rfl rfl ?_)|(refine ao nmd [] hng (by kernel_rfl) fun hf C S K hC1 hC hS hK=>?_;simp (disch:=first|omega|assumption) only [go_sem,Oid.ab hpp,Oid.aa hpp,hpN,hO,h0,c1,c2,c3,fB,eq_self,decide_true,decide_false,ne_eq,not_true_eq_false,not_false_eq_true];refine hK ?_;clear hK hS hC hC1 K S C hf)|((first|refine zn ?_|refine ze ?_|refine zk ?_);with_reducible (constructor;repeat constructor);try refine zl ?_)))
   refine ao nmd [] hng (by kernel_rfl) fun hf C S K hC1 hC hS hK=>?_;simp (disch:=first|omega|assumption) only [go_sem,Oid.ab hpp,Oid.aa hpp,hpN,hO]
   refine hC1 _ (hnm' _ (aq rfl hp) (hO.sub _ _)) (by first|exact nbu _|exact nbA (by simp [hpN,hO.mem]) _) ?_
   simp (disch:=first|omega|assumption) only [go_sem,Oid.ab hpp,Oid.aa hpp,hpN,hO,List.length_map,List.map_cons,List.length_cons,e9]
   refine hK ?_;clear hK hS hC hC1 K S C hf
   refine kw e9 ?_
   exact kq
  | nil =>
   simp only [aV,not_true_eq_false,if_true,if_false] at hA3 hP ⊢
   simp only [cb] at hP ⊢
   have hrm:=fun p hp hpp hO=>dP (pp:=pp) (st:=st) (N:=N) (F:=F0n) (F1:=F1) (L:=L) (cwd:=cwd) um hpN (p:=p) hp hpp hO hm pl hpl hA3
   unfold prC at hrm
   generalize bR pl (aG L (aO pl))=g at hrm hP ⊢
   by_cases g0:g=0
   case neg =>
    rw [if_pos g0] at hP ⊢
    obtain rfl:F1=F2:=hP
    have hf':=hf _ hA1
    unfold prC at hf' ⊢
    simp only [fnV,rdB,Bits.no,aA] at hf'
    refine aD (n:=60) (rs:=[.tmp 4]) Tryz.func89 rfl rfl (by decide) rfl rfl rfl ?_;rintro x rfl hrd hng
    rw [aC]
    refine kr0 ?_
    refine kr1 hf' ?_
    (repeat (first|(refine ay rfl rfl ?_)|(refine aw rfl rfl ?_)|(refine ao nmd [] hng (by kernel_rfl) fun hf C S K hC1 hC hS hK=>?_;simp (disch:=first|omega|assumption) only [go_sem,Oid.ab hpp,Oid.aa hpp,hpN,hO,h0,c1,c2,c3,fB,eq_self,decide_true,decide_false,ne_eq,not_true_eq_false,not_false_eq_true];refine hK ?_;clear hK hS hC hC1 K S C hf)|((first|refine zn ?_|refine ze ?_|refine zk ?_);with_reducible (constructor;repeat constructor);try refine zl ?_)))
    refine ao nmd [(6,35)] hng (by kernel_rfl) fun hf C S K hC1 hC hS hK=>?_;simp (disch:=first|omega|assumption) only [go_sem,Oid.ab hpp,Oid.aa hpp,hpN,hO,h0,c1,c2,c3,fB,eq_self,decide_true,decide_false,ne_eq,not_true_eq_false,not_false_eq_true]
    refine hK ?_;clear hK hS hC hC1 K S C hf
    (repeat (first|(refine ay rfl rfl ?_)|(refine aw rfl rfl ?_)|(refine ao nmd [] hng (by kernel_rfl) fun hf C S K hC1 hC hS hK=>?_;simp (disch:=first|omega|assumption) only [go_sem,Oid.ab hpp,Oid.aa hpp,hpN,hO,h0,c1,c2,c3,fB,eq_self,decide_true,decide_false,ne_eq,not_true_eq_false,not_false_eq_true];refine hK ?_;clear hK hS hC hC1 K S C hf)|((first|refine zn ?_|refine ze ?_|refine zk ?_);with_reducible (constructor;repeat constructor);try refine zl ?_)))
    refine ao nmd [] hng (by kernel_rfl) fun hf C S K hC1 hC hS hK=>?_;simp (disch:=first|omega|assumption) only [go_sem,Oid.ab hpp,Oid.aa hpp,hpN,hO,List.map_nil,List.length_nil]
    refine hC1 _ (hnm' _ (aq rfl hp) (hO.sub _ _)) (by first|exact nbu _|exact nbA (by simp [hpN,hO.mem]) _) ?_
    simp (disch:=first|omega|assumption) only [go_sem,Oid.ab hpp,Oid.aa hpp,hpN,hO,List.map_nil,List.length_nil]
    refine hK ?_;clear hK hS hC hC1 K S C hf
    refine kw0 ?_
    refine kr1 hrm ?_
    (repeat (first|(refine ay rfl rfl ?_)|(refine aw rfl rfl ?_)|(refine ao nmd [] hng (by kernel_rfl) fun hf C S K hC1 hC hS hK=>?_;simp (disch:=first|omega|assumption) only [go_sem,Oid.ab hpp,Oid.aa hpp,hpN,hO,g0,h0,c1,c2,c3,fB,eq_self,decide_true,decide_false,ne_eq,not_true_eq_false,not_false_eq_true];refine hK ?_;clear hK hS hC hC1 K S C hf)|((first|refine zn ?_|refine ze ?_|refine zk ?_);with_reducible (constructor;repeat constructor);try refine zl ?_)))
    exact kq
   rw [if_neg (fun h=>h g0)] at hP ⊢
   obtain ⟨_,hput,rfl⟩:=hP
   rename_i F2
   have hput':∀ p,p.mono=false→aY p N→aj Tryz.prog 46 [.ptr st 0,.str pl,.agg [.int .i64 0,.int .i64 0,.str []]] (Oid.under p) ⟨bk (N,F1),.tuple [],sb N F2⟩:=hput
   have hf':=hf _ hA1
   unfold prC at hf' ⊢
   simp only [fnV,rdB,Bits.no,aA] at hf'
   refine aD (n:=60) (rs:=[.tmp 4]) Tryz.func89 rfl rfl (by decide) rfl rfl rfl ?_;rintro x rfl hrd hng
   rw [aC]
   refine kr0 ?_
   refine kr1 hf' ?_
   (repeat (first|(refine ay rfl rfl ?_)|(refine aw rfl rfl ?_)|(refine ao nmd [] hng (by kernel_rfl) fun hf C S K hC1 hC hS hK=>?_;simp (disch:=first|omega|assumption) only [go_sem,Oid.ab hpp,Oid.aa hpp,hpN,hO,h0,c1,c2,c3,fB,eq_self,decide_true,decide_false,ne_eq,not_true_eq_false,not_false_eq_true];refine hK ?_;clear hK hS hC hC1 K S C hf)|((first|refine zn ?_|refine ze ?_|refine zk ?_);with_reducible (constructor;repeat constructor);try refine zl ?_)))
   refine ao nmd [(6,35)] hng (by kernel_rfl) fun hf C S K hC1 hC hS hK=>?_;simp (disch:=first|omega|assumption) only [go_sem,Oid.ab hpp,Oid.aa hpp,hpN,hO,h0,c1,c2,c3,fB,eq_self,decide_true,decide_false,ne_eq,not_true_eq_false,not_false_eq_true]
   refine hK ?_;clear hK hS hC hC1 K S C hf
   (repeat (first|(refine ay rfl rfl ?_)|(refine aw rfl rfl ?_)|(refine ao nmd [] hng (by kernel_rfl) fun hf C S K hC1 hC hS hK=>?_;simp (disch:=first|omega|assumption) only [go_sem,Oid.ab hpp,Oid.aa hpp,hpN,hO,h0,c1,c2,c3,fB,eq_self,decide_true,decide_false,ne_eq,not_true_eq_false,not_false_eq_true];refine hK ?_;clear hK hS hC hC1 K S C hf)|((first|refine zn ?_|refine ze ?_|refine zk ?_);with_reducible (constructor;repeat constructor);try refine zl ?_)))
   refine ao nmd [] hng (by kernel_rfl) fun hf C S K hC1 hC hS hK=>?_;simp (disch:=first|omega|assumption) only [go_sem,Oid.ab hpp,Oid.aa hpp,hpN,hO,List.map_nil,List.length_nil]
   refine hC1 _ (hnm' _ (aq rfl hp) (hO.sub _ _)) (by first|exact nbu _|exact nbA (by simp [hpN,hO.mem]) _) ?_
   simp (disch:=first|omega|assumption) only [go_sem,Oid.ab hpp,Oid.aa hpp,hpN,hO,List.map_nil,List.length_nil]
   refine hK ?_;clear hK hS hC hC1 K S C hf
   refine kw0 ?_
   refine kr1 hrm ?_
   (repeat (first|(refine ay rfl rfl ?_)|(refine aw rfl rfl ?_)|(refine ao nmd [] hng (by kernel_rfl) fun hf C S K hC1 hC hS hK=>?_;simp (disch:=first|omega|assumption) only [go_sem,Oid.ab hpp,Oid.aa hpp,hpN,hO,g0,eq_self,h0,c1,c2,c3,fB,eq_self,decide_true,decide_false,ne_eq,not_true_eq_false,not_false_eq_true];refine hK ?_;clear hK hS hC hC1 K S C hf)|((first|refine zn ?_|refine ze ?_|refine zk ?_);with_reducible (constructor;repeat constructor);try refine zl ?_)))
   refine kr1 hput' ?_
   refine kw0 ?_
   exact kq
omit hm in
theorem Eo (path:Str) (hpath:path.length≤140737488355328) (mode:Int) (hA:RR' st N L (fG L cwd path mode).1 F F1) (hP:PR st N (bT (fG L cwd path mode).2) F1 F2) :
  aj Tryz.prog 93 [.ptr pp 0,.str path,.int .i64 mode] (Oid.under p) ⟨(pp,prC st cwd um)::bk (N,F),.int .i64 (aA (fG L cwd path mode).2),sb N F2⟩:=by
 have hf:=fun F' h p hp hpp hO=>cV (pp:=pp) (st:=st) (N:=N) (F:=F) (F':=F') hK path cwd um true hpN hc hpath h p hp hpp hO
 have hne:=dz hK (cwd:=cwd) path true
 have hlen:=cm hK hc path true
 unfold fG at hA hP ⊢
 rcases c8 L cwd path true with ⟨rd,e,h1,h2⟩|⟨rd,pl,ek,em,el,h1,h0,h2⟩|⟨rd,pl,ek,em,el,h1,h0,h2⟩
 ·rw [h2] at hA hP ⊢
  rw [h1] at hf hne
  simp only [aV] at hA hP ⊢
  obtain rfl:F1=F2:=hP
  have e0:¬ e=0:=hne _ rfl
  have hf':=hf _ hA
  unfold prC at hf' ⊢
  simp only [fnV,rdB,Bits.no,aA] at hf'
  refine aD (n:=44) (rs:=[.tmp 6]) Tryz.func93 rfl rfl (by decide) rfl rfl rfl ?_;rintro x rfl hrd hng
  rw [aC]
  refine kr0 ?_
  refine kr1 hf' ?_
  refine kw e0 ?_
  exact kq
 ·rw [h2] at hA hP ⊢
  rw [h1] at hf hne
  simp only [aV] at hA hP ⊢
  obtain rfl:F1=F2:=hP
  have hf':=hf _ hA
  unfold prC at hf' ⊢
  simp only [fnV,rdB,Bits.no,aA] at hf'
  refine aD (n:=44) (rs:=[.tmp 6]) Tryz.func93 rfl rfl (by decide) rfl rfl rfl ?_;rintro x rfl hrd hng
  rw [aC]
  refine kr0 ?_
  refine kr1 hf' ?_
  refine kw h0 ?_
  exact kq
 ·rw [h2] at hA hP ⊢
  rw [h1] at hf hne hlen
  simp only [bK] at hA hP ⊢
  have hpl:=hlen _ rfl
  simp only at hpl
  obtain ⟨F0,hA1,hA2⟩:=a7 hA
  obtain rfl:F0=F1:=hA2
  by_cases c1:mode < 0
  ·have c1':¬ (0≤mode∧mode≤7):=by omega
   rw [if_pos c1'] at hP ⊢
   obtain rfl:F0=F2:=hP
   have hf':=hf _ hA1
   unfold prC at hf' ⊢
   simp only [fnV,rdB,Bits.no,aA] at hf'
   refine aD (n:=44) (rs:=[.tmp 6]) Tryz.func93 rfl rfl (by decide) rfl rfl rfl ?_;rintro x rfl hrd hng
   rw [aC]
   refine kr0 ?_
   refine kr1 hf' ?_
   refine kw (ai h0 c1) ?_
   refine kr (.d [] [(2,28)] []) (ai h0 c1) trivial ?_
   refine kw (ai h0 c1) ?_
   exact kq
  by_cases c2:7 < mode
  ·have c1':¬ (0≤mode∧mode≤7):=by omega
   rw [if_pos c1'] at hP ⊢
   obtain rfl:F0=F2:=hP
   have hf':=hf _ hA1
   unfold prC at hf' ⊢
   simp only [fnV,rdB,Bits.no,aA] at hf'
   refine aD (n:=44) (rs:=[.tmp 6]) Tryz.func93 rfl rfl (by decide) rfl rfl rfl ?_;rintro x rfl hrd hng
   rw [aC]
   refine kr0 ?_
   refine kr1 hf' ?_
   refine kw (ai h0 (ai c1 c2)) ?_
   refine kr (.d [] [(2,28)] []) (ai h0 (ai c1 c2)) trivial ?_
   refine kw (ai h0 (ai c1 c2)) ?_
   exact kq
  have c1':¬ ¬ (0≤mode∧mode≤7):=by omega
  rw [if_neg c1'] at hP ⊢
  by_cases c3:pl=[]
  ·rw [if_pos c3] at hP ⊢
   subst c3
   obtain rfl:F0=F2:=hP
   have hf':=hf _ hA1
   unfold prC at hf' ⊢
   simp only [fnV,rdB,Bits.no,aA] at hf'
   refine aD (n:=44) (rs:=[.tmp 6]) Tryz.func93 rfl rfl (by decide) rfl rfl rfl ?_;rintro x rfl hrd hng
   rw [aC]
   refine kr0 ?_
   refine kr1 hf' ?_
   refine kw (ai h0 (ai c1 c2)) ?_
   refine kr (.d [] [(2,28)] []) (ai h0 (ai c1 c2)) trivial ?_
   refine kw (ai h0 (ai c1 c2)) ?_
   exact kq
  rw [if_neg c3] at hP ⊢
  obtain ⟨_,hput,rfl⟩:=hP
  rename_i F2
  have hput':∀ p,p.mono=false→aY p N→aj Tryz.prog 46 [.ptr st 0,.str pl,.agg [.int .i64 ek,.int .i64 mode,.str el]] (Oid.under p) ⟨bk (N,F0),.tuple [],sb N F2⟩:=hput
  have hf':=hf _ hA1
  unfold prC at hf' ⊢
  simp only [fnV,rdB,Bits.no,aA] at hf'
  refine aD (n:=44) (rs:=[.tmp 6]) Tryz.func93 rfl rfl (by decide) rfl rfl rfl ?_;rintro x rfl hrd hng
  rw [aC]
  refine kr0 ?_
  refine kr1 hf' ?_
  refine kw (ai h0 (ai c1 (ai c2 c3))) ?_
  refine kr (.d [] [(2,28)] []) (ai h0 (ai c1 (ai c2 c3))) trivial ?_
  refine kw (ai h0 (ai c1 (ai c2 c3))) ?_
  refine kd (.d [] [] [0,7]) trivial (cq hput' trivial) ?_
  refine kw0 ?_
  exact kq
omit hm in
theorem Ep (path:Str) (hpath:path.length≤140737488355328) (hA:RR' st N L (cH L cwd path).1 F F1) :
  aj Tryz.prog 95 [.ptr pp 0,.str path] (Oid.under p) ⟨(pp,prC st cwd um)::bk (N,F),.int .i64 (aA (cH L cwd path).2),(pp,some (prC st (cdN cwd (cH L cwd path).2) um))::sb N F1⟩:=by
 have hf:=fun F' h p hp hpp hO=>cV (pp:=pp) (st:=st) (N:=N) (F:=F) (F':=F') hK path cwd um true hpN hc hpath h p hp hpp hO
 have hne:=dz hK (cwd:=cwd) path true
 have hlen:=cm hK hc path true
 unfold cH at hA ⊢
 rcases c8 L cwd path true with ⟨rd,e,h1,h2⟩|⟨rd,pl,ek,em,el,h1,h0,h2⟩|⟨rd,pl,ek,em,el,h1,h0,h2⟩
 ·rw [h2] at hA ⊢
  rw [h1] at hf hne
  simp only [aV] at hA ⊢
  have e0:¬ e=0:=hne _ rfl
  have hf':=hf _ hA
  unfold prC at hf' ⊢
  simp only [fnV,rdB,Bits.no,aA] at hf'
  refine aD (n:=36) (rs:=[.tmp 4]) Tryz.func95 rfl rfl (by decide) rfl rfl rfl ?_;rintro x rfl hrd hng
  rw [aC]
  refine kr0 ?_
  refine kr1 hf' ?_
  refine kw e0 ?_
  refine aB (jf (by simp (disch:=first|omega|assumption) only [go_sem,Oid.ab hpp,Oid.aa hpp,hpN,hO,aA,cdN]) (by show _=some _;(try simp only [cdN]);simp (disch:=first|omega|assumption) only [go_sem,Oid.ab hpp,Oid.aa hpp,hpN,hO]) (by first|exact nbu _|exact nbA (by simp [hpN,hO.mem]) _))
 ·rw [h2] at hA ⊢
  rw [h1] at hf hne
  simp only [aV] at hA ⊢
  have hf':=hf _ hA
  unfold prC at hf' ⊢
  simp only [fnV,rdB,Bits.no,aA] at hf'
  refine aD (n:=36) (rs:=[.tmp 4]) Tryz.func95 rfl rfl (by decide) rfl rfl rfl ?_;rintro x rfl hrd hng
  rw [aC]
  refine kr0 ?_
  refine kr1 hf' ?_
  refine kw h0 ?_
  refine aB (jf (by simp (disch:=first|omega|assumption) only [go_sem,Oid.ab hpp,Oid.aa hpp,hpN,hO,aA,cdN]) (by show _=some _;(try simp only [cdN]);simp (disch:=first|omega|assumption) only [go_sem,Oid.ab hpp,Oid.aa hpp,hpN,hO]) (by first|exact nbu _|exact nbA (by simp [hpN,hO.mem]) _))
 ·rw [h2] at hA ⊢
  rw [h1] at hf hne hlen
  simp only [bK] at hA ⊢
  have hpl:=hlen _ rfl
  simp only at hpl
  obtain ⟨F0,hA1,hA2⟩:=a7 hA
  obtain rfl:F0=F1:=hA2
  by_cases c1:ek=2
  case neg =>
   rw [if_pos c1]
   have hf':=hf _ hA1
   unfold prC at hf' ⊢
   simp only [fnV,rdB,Bits.no,aA] at hf'
   refine aD (n:=36) (rs:=[.tmp 4]) Tryz.func95 rfl rfl (by decide) rfl rfl rfl ?_;rintro x rfl hrd hng
   rw [aC]
   refine kr0 ?_
   refine kr1 hf' ?_
   refine kw (ai h0 c1) ?_
   refine aB (jf (by simp (disch:=first|omega|assumption) only [go_sem,Oid.ab hpp,Oid.aa hpp,hpN,hO,aA,cdN]) (by show _=some _;(try simp only [cdN]);simp (disch:=first|omega|assumption) only [go_sem,Oid.ab hpp,Oid.aa hpp,hpN,hO]) (by first|exact nbu _|exact nbA (by simp [hpN,hO.mem]) _))
  rw [if_neg (fun h=>h c1)]
  by_cases c2:dF em 1=0
  ·rw [if_pos c2]
   have hf':=hf _ hA1
   unfold prC at hf' ⊢
   simp only [fnV,rdB,Bits.no,aA] at hf'
   refine aD (n:=36) (rs:=[.tmp 4]) Tryz.func95 rfl rfl (by decide) rfl rfl rfl ?_;rintro x rfl hrd hng
   rw [aC]
   refine kr0 ?_
   refine kr1 hf' ?_
   (repeat (first|(refine ay rfl rfl ?_)|(refine aw rfl rfl ?_)|(refine ao nmd [] hng (by kernel_rfl) fun hf C S K hC1 hC hS hK=>?_;simp (disch:=first|omega|assumption) only [go_sem,Oid.ab hpp,Oid.aa hpp,hpN,hO,h0,c1,c2,fB,eq_self,decide_true,decide_false,ne_eq,not_true_eq_false,not_false_eq_true];refine hK ?_;clear hK hS hC hC1 K S C hf)|((first|refine zn ?_|refine ze ?_|refine zk ?_);with_reducible (constructor;repeat constructor);try refine zl ?_)))
   refine aB (jf (by simp (disch:=first|omega|assumption) only [go_sem,Oid.ab hpp,Oid.aa hpp,hpN,hO,aA,cdN]) (by show _=some _;(try simp only [cdN]);simp (disch:=first|omega|assumption) only [go_sem,Oid.ab hpp,Oid.aa hpp,hpN,hO]) (by first|exact nbu _|exact nbA (by simp [hpN,hO.mem]) _))
  ·rw [if_neg c2]
   have hf':=hf _ hA1
   unfold prC at hf' ⊢
   simp only [fnV,rdB,Bits.no,aA] at hf'
   refine aD (n:=36) (rs:=[.tmp 4]) Tryz.func95 rfl rfl (by decide) rfl rfl rfl ?_;rintro x rfl hrd hng
   rw [aC]
   refine kr0 ?_
   refine kr1 hf' ?_
   (repeat (first|(refine ay rfl rfl ?_)|(refine aw rfl rfl ?_)|(refine ao nmd [] hng (by kernel_rfl) fun hf C S K hC1 hC hS hK=>?_;simp (disch:=first|omega|assumption) only [go_sem,Oid.ab hpp,Oid.aa hpp,hpN,hO,h0,c1,c2,fB,eq_self,decide_true,decide_false,ne_eq,not_true_eq_false,not_false_eq_true];refine hK ?_;clear hK hS hC hC1 K S C hf)|((first|refine zn ?_|refine ze ?_|refine zk ?_);with_reducible (constructor;repeat constructor);try refine zl ?_)))
   refine aB (jf (by simp (disch:=first|omega|assumption) only [go_sem,Oid.ab hpp,Oid.aa hpp,hpN,hO,aA,cdN]) (by show _=some _;(try simp only [cdN]);simp (disch:=first|omega|assumption) only [go_sem,Oid.ab hpp,Oid.aa hpp,hpN,hO]) (by first|exact nbu _|exact nbA (by simp [hpN,hO.mem]) _))
end
end Go.Proofs.YtfbnaalhioogoaaGreatDoor
namespace Go.Proofs.YtfbnaalhioogoaaGreatDoor
open Go Go.Ab
set_option maxRecDepth 20000
set_option maxHeartbeats 8000000
theorem qb {L:PL} {cwd path:Str} {fol:Bool} {rd:Rds} {a:Str × Bits} (h:findF L cwd path fol=(rd,.go a)):¬ path=[]:=fun e=>by
 subst e;simp [findF] at h
theorem qc {L:PL} (hK:KL L) {cwd path:Str} {fol:Bool} {rd:Rds} {a:Str × Bits} (h:findF L cwd path fol=(rd,.go a)):a.2.l.length≤4000000:=by
 have h5:=(im hK.so hK.lk cwd path fol).2.2 a (by rw [h])
 rw [h5.2];exact hK.da _
theorem oy {path:Str} (h:¬ path=[]):cL path=true↔((path.getD (path.length - 1) 0).toNat:Int)=47:=by
 have hl:0 < path.length:=List.length_pos_iff.2 h
 unfold cL
 rw [decide_eq_true hl,Bool.true_and,decide_eq_true_eq]
 exact ⟨fun h=>by rw [h];rfl,fun h=>UInt8.toNat_inj.1 (by show _=47;omega)⟩
section
variable {pp st:Oid} {N:List Oid} {F F1 F2:Oid→ah} {L:PL} (hK:KL L) (hm:∀ n,0≤(aG L n).m∧(aG L n).m≤7) {cwd:Str} (hc:cwd.length≤1000000) (um:Int) (hpN:pp ∉ N) {p:Oid} (hp:p.mono=false) (hpp:¬ Oid.under p pp) (hO:aY p N)
include hK hm hc hpN hp hpp hO
theorem rC (path:Str) (hpath:path.length≤140737488355328) (data:Str) (hdata:data.length≤4000000000) (more:Bool) (hA:RR' st N L (bw L cwd um path data more).1 F F1) (hP:PR st N (bT (bw L cwd um path data more).2) F1 F2) :
  aj Tryz.prog 13 [.ptr pp 0,.str path,.str data,.bool more] (Oid.under p) ⟨(pp,prC st cwd um)::bk (N,F),.int .i64 (aA (bw L cwd um path data more).2),sb N F2⟩:=by
 have hf:=fun F' h p hp hpp hO=>cV (pp:=pp) (st:=st) (N:=N) (F:=F) (F':=F') hK path cwd um true hpN hc hpath h p hp hpp hO
 have hne:=dz hK (cwd:=cwd) path true
 have hlen:=cm hK hc path true
 unfold bw at hA hP ⊢
 rcases ko L cwd path true with ⟨rd,e,h1⟩|⟨rd,pl,ek,em,el,h1⟩
 ·rw [h1] at hA hP ⊢
  rw [h1] at hf hne
  simp only [aV] at hA hP ⊢
  obtain rfl:F1=F2:=hP
  have e0:¬ e=0:=hne _ rfl
  have hf':=hf _ hA
  unfold prC at hf' ⊢
  simp only [fnV,rdB,Bits.no,aA] at hf'
  refine aD (n:=78) (rs:=[.tmp 8]) Tryz.func13 rfl rfl (by decide) rfl rfl rfl ?_;rintro x rfl hrd hng
  rw [aC]
  refine kr0 ?_
  refine kr1 hf' ?_
  refine kw e0 ?_
  exact kq
 ·have hpne:=qb h1
  have hpl0:0 < path.length:=List.length_pos_iff.2 hpne
  have hel:=qc hK h1
  have hen:=oy hpne
  have e1:((path.length:Int) - 1).toNat=path.length - 1:=by omega
  have e3:((path.length - 1:Nat):Int)=(path.length:Int) - 1:=by omega
  rw [h1] at hA hP ⊢
  rw [h1] at hf hlen
  simp only [bK] at hA hP ⊢
  have hpl:=hlen _ rfl
  simp only at hpl hel
  obtain ⟨F0,hA1,hA2⟩:=a7 hA
  by_cases c1:ek=2
  ·rw [if_pos c1] at hA2 hP ⊢
   obtain rfl:F0=F1:=hA2
   obtain rfl:F0=F2:=hP
   have hf':=hf _ hA1
   unfold prC at hf' ⊢
   simp only [fnV,rdB,Bits.no,aA] at hf'
   refine aD (n:=78) (rs:=[.tmp 8]) Tryz.func13 rfl rfl (by decide) rfl rfl rfl ?_;rintro x rfl hrd hng
   rw [aC]
   refine kr0 ?_
   refine kr1 hf' ?_
   (repeat (first|(refine ay rfl rfl ?_)|(refine aw rfl rfl ?_)|(refine ao nmd [] hng (by kernel_rfl) fun hf C S K hC1 hC hS hK=>?_;simp (disch:=first|omega|assumption) only [go_sem,Oid.ab hpp,Oid.aa hpp,hpN,hO,c1,fB,eq_self,decide_true,decide_false,ne_eq,not_true_eq_false,not_false_eq_true];refine hK ?_;clear hK hS hC hC1 K S C hf)|((first|refine zn ?_|refine ze ?_|refine zk ?_);with_reducible (constructor;repeat constructor);try refine zl ?_)))
   exact kq
  rw [if_neg c1] at hA2 hP ⊢
  by_cases c2:ek=0
  ·rw [if_pos c2] at hA2 hP ⊢
   subst c2
   by_cases c3:cL path=true
   ·rw [if_pos c3] at hA2 hP ⊢
    have h47:=hen.1 c3
    obtain rfl:F0=F1:=hA2
    obtain rfl:F0=F2:=hP
    have hf':=hf _ hA1
    unfold prC at hf' ⊢
    simp only [fnV,rdB,Bits.no,aA] at hf'
    refine aD (n:=78) (rs:=[.tmp 8]) Tryz.func13 rfl rfl (by decide) rfl rfl rfl ?_;rintro x rfl hrd hng
    rw [aC]
    refine kr0 ?_
    refine kr1 hf' ?_
    refine kw (ai c1 (ai e1 h47)) ?_
    refine kr (.d [] [(3,32)] []) (ai c1 (ai e1 h47)) trivial ?_
    refine kw (ai c1 (ai e1 h47)) ?_
    exact kq
   rw [if_neg c3] at hA2 hP ⊢
   have h47:¬ ((path.getD (path.length - 1) 0).toNat:Int)=47:=fun h=>c3 (hen.2 h)
   have hr1:(aV (cb L pl ()) fun _=>(([],db pl ⟨1,bM 6 um,[]⟩ more data):Rds × Rs Pts)).1=[(aO pl,false)]:=by
    by_cases h:bR pl (aG L (aO pl))=0
    ·rw [eX h];rfl
    ·rw [eY h]
   have hr2:(aV (cb L pl ()) fun _=>(([],db pl ⟨1,bM 6 um,[]⟩ more data):Rds × Rs Pts)).2=if ¬ bR pl (aG L (aO pl))=0 then .err (bR pl (aG L (aO pl))) else db pl ⟨1,bM 6 um,[]⟩ more data:=by
    by_cases h:bR pl (aG L (aO pl))=0
    ·rw [eX h,if_neg (fun h'=>h' h)]
    ·rw [eY h,if_pos h]
   rw [hr1] at hA2
   rw [hr2] at hP ⊢
   clear hr1 hr2
   have hrm:=fun p hp hpp hO=>dP (pp:=pp) (st:=st) (N:=N) (F:=F0) (F1:=F1) (L:=L) (cwd:=cwd) um hpN (p:=p) hp hpp hO hm pl hpl hA2
   unfold prC at hrm
   generalize bR pl (aG L (aO pl))=g at hrm hP ⊢
   by_cases g0:g=0
   case neg =>
    rw [if_pos g0] at hP ⊢
    obtain rfl:F1=F2:=hP
    have hf':=hf _ hA1
    unfold prC at hf' ⊢
    simp only [fnV,rdB,Bits.no,aA] at hf'
    refine aD (n:=78) (rs:=[.tmp 8]) Tryz.func13 rfl rfl (by decide) rfl rfl rfl ?_;rintro x rfl hrd hng
    rw [aC]
    refine kr0 ?_
    refine kr1 hf' ?_
    refine kw (ai c1 (ai e1 h47)) ?_
    refine kr (.d [] [(3,32)] []) (ai c1 (ai e1 h47)) trivial ?_
    refine kw (ai c1 (ai e1 h47)) ?_
    refine kr1 hrm ?_
    refine kw (ai g0 (ai c1 (ai e1 h47))) ?_
    exact kq
   rw [if_neg (fun h=>h g0)] at hP ⊢
   unfold db at hP ⊢
   cases more with
   | true =>
    simp only [mq,if_true,List.nil_append] at hP ⊢
    have hDl:data.length≤4004000000:=by (try simp only [List.length_append]);omega
    by_cases c5:100000 < data.length
    ·rw [if_pos c5] at hP ⊢
     obtain rfl:F1=F2:=hP
     have e5:(100000:Int) < (data.length:Int):=by (try simp only [List.length_append] at c5);omega
     have hf':=hf _ hA1
     unfold prC at hf' ⊢
     simp only [fnV,rdB,Bits.no,aA] at hf'
     refine aD (n:=78) (rs:=[.tmp 8]) Tryz.func13 rfl rfl (by decide) rfl rfl rfl ?_;rintro x rfl hrd hng
     rw [aC]
     refine kr0 ?_
     refine kr1 hf' ?_
     (repeat (first|(refine ay rfl rfl ?_)|(refine aw rfl rfl ?_)|(refine ao nmd [] hng (by kernel_rfl) fun hf C S K hC1 hC hS hK=>?_;simp (disch:=first|omega|assumption) only [go_sem,Oid.ab hpp,Oid.aa hpp,hpN,hO,c1,e1,h47,eq_self,List.nil_append,e5,decide_true,decide_false,ne_eq,not_true_eq_false,not_false_eq_true];refine hK ?_;clear hK hS hC hC1 K S C hf)|((first|refine zn ?_|refine ze ?_|refine zk ?_);with_reducible (constructor;repeat constructor);try refine zl ?_)))
     refine ao nmd [(3,32)] hng (by kernel_rfl) fun hf C S K hC1 hC hS hK=>?_;simp (disch:=first|omega|assumption) only [go_sem,Oid.ab hpp,Oid.aa hpp,hpN,hO,c1,e1,h47,eq_self,List.nil_append,e5,decide_true,decide_false,ne_eq,not_true_eq_false,not_false_eq_true]
     refine hK ?_;clear hK hS hC hC1 K S C hf
     (repeat (first|(refine ay rfl rfl ?_)|(refine aw rfl rfl ?_)|(refine ao nmd [] hng (by kernel_rfl) fun hf C S K hC1 hC hS hK=>?_;simp (disch:=first|omega|assumption) only [go_sem,Oid.ab hpp,Oid.aa hpp,hpN,hO,c1,e1,h47,eq_self,List.nil_append,e5,decide_true,decide_false,ne_eq,not_true_eq_false,not_false_eq_true];refine hK ?_;clear hK hS hC hC1 K S C hf)|((first|refine zn ?_|refine ze ?_|refine zk ?_);with_reducible (constructor;repeat constructor);try refine zl ?_)))
     refine kr1 hrm ?_
     (repeat (first|(refine ay rfl rfl ?_)|(refine aw rfl rfl ?_)|(refine ao nmd [] hng (by kernel_rfl) fun hf C S K hC1 hC hS hK=>?_;simp (disch:=first|omega|assumption) only [go_sem,Oid.ab hpp,Oid.aa hpp,hpN,hO,g0,eq_self,c1,e1,h47,eq_self,List.nil_append,e5,decide_true,decide_false,ne_eq,not_true_eq_false,not_false_eq_true];refine hK ?_;clear hK hS hC hC1 K S C hf)|((first|refine zn ?_|refine ze ?_|refine zk ?_);with_reducible (constructor;repeat constructor);try refine zl ?_)))
     exact kq
    ·rw [if_neg c5] at hP ⊢
     have e5:¬ (100000:Int) < (data.length:Int):=by (try simp only [List.length_append] at c5);omega
     obtain ⟨_,hput,rfl⟩:=hP
     rename_i F2
     have hput':∀ p,p.mono=false→aY p N→aj Tryz.prog 46 [.ptr st 0,.str pl,.agg [.int .i64 1,.int .i64 (bM 6 um),.str data]] (Oid.under p) ⟨bk (N,F1),.tuple [],sb N F2⟩:=hput
     have hf':=hf _ hA1
     unfold prC at hf' ⊢
     simp only [fnV,rdB,Bits.no,aA] at hf'
     refine aD (n:=78) (rs:=[.tmp 8]) Tryz.func13 rfl rfl (by decide) rfl rfl rfl ?_;rintro x rfl hrd hng
     rw [aC]
     refine kr0 ?_
     refine kr1 hf' ?_
     (repeat (first|(refine ay rfl rfl ?_)|(refine aw rfl rfl ?_)|(refine ao nmd [] hng (by kernel_rfl) fun hf C S K hC1 hC hS hK=>?_;simp (disch:=first|omega|assumption) only [go_sem,Oid.ab hpp,Oid.aa hpp,hpN,hO,c1,e1,h47,eq_self,List.nil_append,e5,decide_true,decide_false,ne_eq,not_true_eq_false,not_false_eq_true];refine hK ?_;clear hK hS hC hC1 K S C hf)|((first|refine zn ?_|refine ze ?_|refine zk ?_);with_reducible (constructor;repeat constructor);try refine zl ?_)))
     refine ao nmd [(3,32)] hng (by kernel_rfl) fun hf C S K hC1 hC hS hK=>?_;simp (disch:=first|omega|assumption) only [go_sem,Oid.ab hpp,Oid.aa hpp,hpN,hO,c1,e1,h47,eq_self,List.nil_append,e5,decide_true,decide_false,ne_eq,not_true_eq_false,not_false_eq_true]
     refine hK ?_;clear hK hS hC hC1 K S C hf
     (repeat (first|(refine ay rfl rfl ?_)|(refine aw rfl rfl ?_)|(refine ao nmd [] hng (by kernel_rfl) fun hf C S K hC1 hC hS hK=>?_;simp (disch:=first|omega|assumption) only [go_sem,Oid.ab hpp,Oid.aa hpp,hpN,hO,c1,e1,h47,eq_self,List.nil_append,e5,decide_true,decide_false,ne_eq,not_true_eq_false,not_false_eq_true];refine hK ?_;clear hK hS hC hC1 K S C hf)|((first|refine zn ?_|refine ze ?_|refine zk ?_);with_reducible (constructor;repeat constructor);try refine zl ?_)))
     refine kr1 hrm ?_
     (repeat (first|(refine ay rfl rfl ?_)|(refine aw rfl rfl ?_)|(refine ao nmd [] hng (by kernel_rfl) fun hf C S K hC1 hC hS hK=>?_;simp (disch:=first|omega|assumption) only [go_sem,Oid.ab hpp,Oid.aa hpp,hpN,hO,g0,eq_self,c1,e1,h47,eq_self,List.nil_append,e5,decide_true,decide_false,ne_eq,not_true_eq_false,not_false_eq_true];refine hK ?_;clear hK hS hC hC1 K S C hf)|((first|refine zn ?_|refine ze ?_|refine zk ?_);with_reducible (constructor;repeat constructor);try refine zl ?_)))
     refine bJ nmd [] [] mixed hng (by kernel_rfl) [0,9] fun hf C S K hC hS hK=>?_;simp (disch:=first|omega|assumption) only [go_sem,Oid.ab hpp,Oid.aa hpp,hpN,hO,List.nil_append]
     refine hC _ (hput' _ (aq rfl hp) (hO.sub _ _)) (by first|exact nbu _|exact nbA (by simp [hpN,hO.mem]) _) ?_
     simp (disch:=first|omega|assumption) only [go_sem,Oid.ab hpp,Oid.aa hpp,hpN,hO,List.nil_append]
     (first|refine hK (aE rfl) ?_|refine hK (by simp (disch:=first|omega|assumption) only [go_sem,List.reverse_cons,List.reverse_nil,ne_eq,not_false_eq_true,implies_true]) ?_);clear hK hS hC K S C hf
     refine kw0 ?_
     exact kq
   | false =>
    simp only [mq,Bool.false_eq_true,if_false] at hP ⊢
    have hDl:data.length≤4004000000:=by (try simp only [List.length_append]);omega
    by_cases c5:100000 < data.length
    ·rw [if_pos c5] at hP ⊢
     obtain rfl:F1=F2:=hP
     have e5:(100000:Int) < (data.length:Int):=by (try simp only [List.length_append] at c5);omega
     have hf':=hf _ hA1
     unfold prC at hf' ⊢
     simp only [fnV,rdB,Bits.no,aA] at hf'
     refine aD (n:=78) (rs:=[.tmp 8]) Tryz.func13 rfl rfl (by decide) rfl rfl rfl ?_;rintro x rfl hrd hng
     rw [aC]
     refine kr0 ?_
     refine kr1 hf' ?_
     (repeat (first|(refine ay rfl rfl ?_)|(refine aw rfl rfl ?_)|(refine ao nmd [] hng (by kernel_rfl) fun hf C S K hC1 hC hS hK=>?_;simp (disch:=first|omega|assumption) only [go_sem,Oid.ab hpp,Oid.aa hpp,hpN,hO,c1,e1,h47,eq_self,List.nil_append,e5,decide_true,decide_false,ne_eq,not_true_eq_false,not_false_eq_true];refine hK ?_;clear hK hS hC hC1 K S C hf)|((first|refine zn ?_|refine ze ?_|refine zk ?_);with_reducible (constructor;repeat constructor);try refine zl ?_)))
     refine ao nmd [(3,32)] hng (by kernel_rfl) fun hf C S K hC1 hC hS hK=>?_;simp (disch:=first|omega|assumption) only [go_sem,Oid.ab hpp,Oid.aa hpp,hpN,hO,c1,e1,h47,eq_self,List.nil_append,e5,decide_true,decide_false,ne_eq,not_true_eq_false,not_false_eq_true]
     refine hK ?_;clear hK hS hC hC1 K S C hf
     (repeat (first|(refine ay rfl rfl ?_)|(refine aw rfl rfl ?_)|(refine ao nmd [] hng (by kernel_rfl) fun hf C S K hC1 hC hS hK=>?_;simp (disch:=first|omega|assumption) only [go_sem,Oid.ab hpp,Oid.aa hpp,hpN,hO,c1,e1,h47,eq_self,List.nil_append,e5,decide_true,decide_false,ne_eq,not_true_eq_false,not_false_eq_true];refine hK ?_;clear hK hS hC hC1 K S C hf)|((first|refine zn ?_|refine ze ?_|refine zk ?_);with_reducible (constructor;repeat constructor);try refine zl ?_)))
     refine kr1 hrm ?_
     (repeat (first|(refine ay rfl rfl ?_)|(refine aw rfl rfl ?_)|(refine ao nmd [] hng (by kernel_rfl) fun hf C S K hC1 hC hS hK=>?_;simp (disch:=first|omega|assumption) only [go_sem,Oid.ab hpp,Oid.aa hpp,hpN,hO,g0,eq_self,c1,e1,h47,eq_self,List.nil_append,e5,decide_true,decide_false,ne_eq,not_true_eq_false,not_false_eq_true];refine hK ?_;clear hK hS hC hC1 K S C hf)|((first|refine zn ?_|refine ze ?_|refine zk ?_);with_reducible (constructor;repeat constructor);try refine zl ?_)))
     exact kq
    ·rw [if_neg c5] at hP ⊢
     have e5:¬ (100000:Int) < (data.length:Int):=by (try simp only [List.length_append] at c5);omega
     obtain ⟨_,hput,rfl⟩:=hP
     rename_i F2
     have hput':∀ p,p.mono=false→aY p N→aj Tryz.prog 46 [.ptr st 0,.str pl,.agg [.int .i64 1,.int .i64 (bM 6 um),.str data]] (Oid.under p) ⟨bk (N,F1),.tuple [],sb N F2⟩:=hput
     have hf':=hf _ hA1
     unfold prC at hf' ⊢
     simp only [fnV,rdB,Bits.no,aA] at hf'
     refine aD (n:=78) (rs:=[.tmp 8]) Tryz.func13 rfl rfl (by decide) rfl rfl rfl ?_;rintro x rfl hrd hng
     rw [aC]
     refine kr0 ?_
     refine kr1 hf' ?_
     (repeat (first|(refine ay rfl rfl ?_)|(refine aw rfl rfl ?_)|(refine ao nmd [] hng (by kernel_rfl) fun hf C S K hC1 hC hS hK=>?_;simp (disch:=first|omega|assumption) only [go_sem,Oid.ab hpp,Oid.aa hpp,hpN,hO,c1,e1,h47,eq_self,List.nil_append,e5,decide_true,decide_false,ne_eq,not_true_eq_false,not_false_eq_true];refine hK ?_;clear hK hS hC hC1 K S C hf)|((first|refine zn ?_|refine ze ?_|refine zk ?_);with_reducible (constructor;repeat constructor);try refine zl ?_)))
     refine ao nmd [(3,32)] hng (by kernel_rfl) fun hf C S K hC1 hC hS hK=>?_;simp (disch:=first|omega|assumption) only [go_sem,Oid.ab hpp,Oid.aa hpp,hpN,hO,c1,e1,h47,eq_self,List.nil_append,e5,decide_true,decide_false,ne_eq,not_true_eq_false,not_false_eq_true]
     refine hK ?_;clear hK hS hC hC1 K S C hf
     (repeat (first|(refine ay rfl rfl ?_)|(refine aw rfl rfl ?_)|(refine ao nmd [] hng (by kernel_rfl) fun hf C S K hC1 hC hS hK=>?_;simp (disch:=first|omega|assumption) only [go_sem,Oid.ab hpp,Oid.aa hpp,hpN,hO,c1,e1,h47,eq_self,List.nil_append,e5,decide_true,decide_false,ne_eq,not_true_eq_false,not_false_eq_true];refine hK ?_;clear hK hS hC hC1 K S C hf)|((first|refine zn ?_|refine ze ?_|refine zk ?_);with_reducible (constructor;repeat constructor);try refine zl ?_)))
     refine kr1 hrm ?_
     (repeat (first|(refine ay rfl rfl ?_)|(refine aw rfl rfl ?_)|(refine ao nmd [] hng (by kernel_rfl) fun hf C S K hC1 hC hS hK=>?_;simp (disch:=first|omega|assumption) only [go_sem,Oid.ab hpp,Oid.aa hpp,hpN,hO,g0,eq_self,c1,e1,h47,eq_self,List.nil_append,e5,decide_true,decide_false,ne_eq,not_true_eq_false,not_false_eq_true];refine hK ?_;clear hK hS hC hC1 K S C hf)|((first|refine zn ?_|refine ze ?_|refine zk ?_);with_reducible (constructor;repeat constructor);try refine zl ?_)))
     refine bJ nmd [] [] mixed hng (by kernel_rfl) [0,9] fun hf C S K hC hS hK=>?_;simp (disch:=first|omega|assumption) only [go_sem,Oid.ab hpp,Oid.aa hpp,hpN,hO,List.nil_append]
     refine hC _ (hput' _ (aq rfl hp) (hO.sub _ _)) (by first|exact nbu _|exact nbA (by simp [hpN,hO.mem]) _) ?_
     simp (disch:=first|omega|assumption) only [go_sem,Oid.ab hpp,Oid.aa hpp,hpN,hO,List.nil_append]
     (first|refine hK (aE rfl) ?_|refine hK (by simp (disch:=first|omega|assumption) only [go_sem,List.reverse_cons,List.reverse_nil,ne_eq,not_false_eq_true,implies_true]) ?_);clear hK hS hC K S C hf
     refine kw0 ?_
     exact kq
  rw [if_neg c2] at hA2 hP ⊢
  by_cases c4:dF em 2=0
  ·rw [if_pos c4] at hA2 hP ⊢
   obtain rfl:F0=F1:=hA2
   obtain rfl:F0=F2:=hP
   have hf':=hf _ hA1
   unfold prC at hf' ⊢
   simp only [fnV,rdB,Bits.no,aA] at hf'
   refine aD (n:=78) (rs:=[.tmp 8]) Tryz.func13 rfl rfl (by decide) rfl rfl rfl ?_;rintro x rfl hrd hng
   rw [aC]
   refine kr0 ?_
   refine kr1 hf' ?_
   (repeat (first|(refine ay rfl rfl ?_)|(refine aw rfl rfl ?_)|(refine ao nmd [] hng (by kernel_rfl) fun hf C S K hC1 hC hS hK=>?_;simp (disch:=first|omega|assumption) only [go_sem,Oid.ab hpp,Oid.aa hpp,hpN,hO,c1,c2,c4,eq_self,decide_true,decide_false,ne_eq,not_true_eq_false,not_false_eq_true];refine hK ?_;clear hK hS hC hC1 K S C hf)|((first|refine zn ?_|refine ze ?_|refine zk ?_);with_reducible (constructor;repeat constructor);try refine zl ?_)))
   refine ao nmd [(3,32)] hng (by kernel_rfl) fun hf C S K hC1 hC hS hK=>?_;simp (disch:=first|omega|assumption) only [go_sem,Oid.ab hpp,Oid.aa hpp,hpN,hO,c1,c2,c4,eq_self,decide_true,decide_false,ne_eq,not_true_eq_false,not_false_eq_true]
   refine hK ?_;clear hK hS hC hC1 K S C hf
   (repeat (first|(refine ay rfl rfl ?_)|(refine aw rfl rfl ?_)|(refine ao nmd [] hng (by kernel_rfl) fun hf C S K hC1 hC hS hK=>?_;simp (disch:=first|omega|assumption) only [go_sem,Oid.ab hpp,Oid.aa hpp,hpN,hO,c1,c2,c4,eq_self,decide_true,decide_false,ne_eq,not_true_eq_false,not_false_eq_true];refine hK ?_;clear hK hS hC hC1 K S C hf)|((first|refine zn ?_|refine ze ?_|refine zk ?_);with_reducible (constructor;repeat constructor);try refine zl ?_)))
   exact kq
  rw [if_neg c4] at hA2 hP ⊢
  obtain rfl:F0=F1:=hA2
  unfold db at hP ⊢
  cases more with
  | true =>
   simp only [mq,if_true] at hP ⊢
   have hDl:(el++data).length≤4004000000:=by (try simp only [List.length_append]);omega
   by_cases c5:100000 < (el++data).length
   ·rw [if_pos c5] at hP ⊢
    obtain rfl:F0=F2:=hP
    have e5:(100000:Int) < (((el.length+data.length:Nat)):Int):=by (try simp only [List.length_append] at c5);omega
    have hf':=hf _ hA1
    unfold prC at hf' ⊢
    simp only [fnV,rdB,Bits.no,aA] at hf'
    refine aD (n:=78) (rs:=[.tmp 8]) Tryz.func13 rfl rfl (by decide) rfl rfl rfl ?_;rintro x rfl hrd hng
    rw [aC]
    refine kr0 ?_
    refine kr1 hf' ?_
    (repeat (first|(refine ay rfl rfl ?_)|(refine aw rfl rfl ?_)|(refine ao nmd [] hng (by kernel_rfl) fun hf C S K hC1 hC hS hK=>?_;simp (disch:=first|omega|assumption) only [go_sem,Oid.ab hpp,Oid.aa hpp,hpN,hO,c1,c2,c4,eq_self,e5,decide_true,decide_false,ne_eq,not_true_eq_false,not_false_eq_true];refine hK ?_;clear hK hS hC hC1 K S C hf)|((first|refine zn ?_|refine ze ?_|refine zk ?_);with_reducible (constructor;repeat constructor);try refine zl ?_)))
    refine ao nmd [(3,32)] hng (by kernel_rfl) fun hf C S K hC1 hC hS hK=>?_;simp (disch:=first|omega|assumption) only [go_sem,Oid.ab hpp,Oid.aa hpp,hpN,hO,c1,c2,c4,eq_self,e5,decide_true,decide_false,ne_eq,not_true_eq_false,not_false_eq_true]
    refine hK ?_;clear hK hS hC hC1 K S C hf
    (repeat (first|(refine ay rfl rfl ?_)|(refine aw rfl rfl ?_)|(refine ao nmd [] hng (by kernel_rfl) fun hf C S K hC1 hC hS hK=>?_;simp (disch:=first|omega|assumption) only [go_sem,Oid.ab hpp,Oid.aa hpp,hpN,hO,c1,c2,c4,eq_self,e5,decide_true,decide_false,ne_eq,not_true_eq_false,not_false_eq_true];refine hK ?_;clear hK hS hC hC1 K S C hf)|((first|refine zn ?_|refine ze ?_|refine zk ?_);with_reducible (constructor;repeat constructor);try refine zl ?_)))
    exact kq
   ·rw [if_neg c5] at hP ⊢
    have e5:¬ (100000:Int) < (((el.length+data.length:Nat)):Int):=by (try simp only [List.length_append] at c5);omega
    obtain ⟨_,hput,rfl⟩:=hP
    rename_i F2
    have hput':∀ p,p.mono=false→aY p N→aj Tryz.prog 46 [.ptr st 0,.str pl,.agg [.int .i64 ek,.int .i64 em,.str (el++data)]] (Oid.under p) ⟨bk (N,F0),.tuple [],sb N F2⟩:=hput
    have hf':=hf _ hA1
    unfold prC at hf' ⊢
    simp only [fnV,rdB,Bits.no,aA] at hf'
    refine aD (n:=78) (rs:=[.tmp 8]) Tryz.func13 rfl rfl (by decide) rfl rfl rfl ?_;rintro x rfl hrd hng
    rw [aC]
    refine kr0 ?_
    refine kr1 hf' ?_
    (repeat (first|(refine ay rfl rfl ?_)|(refine aw rfl rfl ?_)|(refine ao nmd [] hng (by kernel_rfl) fun hf C S K hC1 hC hS hK=>?_;simp (disch:=first|omega|assumption) only [go_sem,Oid.ab hpp,Oid.aa hpp,hpN,hO,c1,c2,c4,eq_self,e5,decide_true,decide_false,ne_eq,not_true_eq_false,not_false_eq_true];refine hK ?_;clear hK hS hC hC1 K S C hf)|((first|refine zn ?_|refine ze ?_|refine zk ?_);with_reducible (constructor;repeat constructor);try refine zl ?_)))
    refine ao nmd [(3,32)] hng (by kernel_rfl) fun hf C S K hC1 hC hS hK=>?_;simp (disch:=first|omega|assumption) only [go_sem,Oid.ab hpp,Oid.aa hpp,hpN,hO,c1,c2,c4,eq_self,e5,decide_true,decide_false,ne_eq,not_true_eq_false,not_false_eq_true]
    refine hK ?_;clear hK hS hC hC1 K S C hf
    (repeat (first|(refine ay rfl rfl ?_)|(refine aw rfl rfl ?_)|(refine ao nmd [] hng (by kernel_rfl) fun hf C S K hC1 hC hS hK=>?_;simp (disch:=first|omega|assumption) only [go_sem,Oid.ab hpp,Oid.aa hpp,hpN,hO,c1,c2,c4,eq_self,e5,decide_true,decide_false,ne_eq,not_true_eq_false,not_false_eq_true];refine hK ?_;clear hK hS hC hC1 K S C hf)|((first|refine zn ?_|refine ze ?_|refine zk ?_);with_reducible (constructor;repeat constructor);try refine zl ?_)))
    refine kd (.d [] [] [0,9]) trivial (cq hput' trivial) ?_
    refine kw0 ?_
    exact kq
  | false =>
   simp only [mq,Bool.false_eq_true,if_false] at hP ⊢
   have hDl:data.length≤4004000000:=by (try simp only [List.length_append]);omega
   by_cases c5:100000 < data.length
   ·rw [if_pos c5] at hP ⊢
    obtain rfl:F0=F2:=hP
    have e5:(100000:Int) < (data.length:Int):=by (try simp only [List.length_append] at c5);omega
    have hf':=hf _ hA1
    unfold prC at hf' ⊢
    simp only [fnV,rdB,Bits.no,aA] at hf'
    refine aD (n:=78) (rs:=[.tmp 8]) Tryz.func13 rfl rfl (by decide) rfl rfl rfl ?_;rintro x rfl hrd hng
    rw [aC]
    refine kr0 ?_
    refine kr1 hf' ?_
    (repeat (first|(refine ay rfl rfl ?_)|(refine aw rfl rfl ?_)|(refine ao nmd [] hng (by kernel_rfl) fun hf C S K hC1 hC hS hK=>?_;simp (disch:=first|omega|assumption) only [go_sem,Oid.ab hpp,Oid.aa hpp,hpN,hO,c1,c2,c4,eq_self,e5,decide_true,decide_false,ne_eq,not_true_eq_false,not_false_eq_true];refine hK ?_;clear hK hS hC hC1 K S C hf)|((first|refine zn ?_|refine ze ?_|refine zk ?_);with_reducible (constructor;repeat constructor);try refine zl ?_)))
    refine ao nmd [(3,32)] hng (by kernel_rfl) fun hf C S K hC1 hC hS hK=>?_;simp (disch:=first|omega|assumption) only [go_sem,Oid.ab hpp,Oid.aa hpp,hpN,hO,c1,c2,c4,eq_self,e5,decide_true,decide_false,ne_eq,not_true_eq_false,not_false_eq_true]
    refine hK ?_;clear hK hS hC hC1 K S C hf
    (repeat (first|(refine ay rfl rfl ?_)|(refine aw rfl rfl ?_)|(refine ao nmd [] hng (by kernel_rfl) fun hf C S K hC1 hC hS hK=>?_;simp (disch:=first|omega|assumption) only [go_sem,Oid.ab hpp,Oid.aa hpp,hpN,hO,c1,c2,c4,eq_self,e5,decide_true,decide_false,ne_eq,not_true_eq_false,not_false_eq_true];refine hK ?_;clear hK hS hC hC1 K S C hf)|((first|refine zn ?_|refine ze ?_|refine zk ?_);with_reducible (constructor;repeat constructor);try refine zl ?_)))
    exact kq
   ·rw [if_neg c5] at hP ⊢
    have e5:¬ (100000:Int) < (data.length:Int):=by (try simp only [List.length_append] at c5);omega
    obtain ⟨_,hput,rfl⟩:=hP
    rename_i F2
    have hput':∀ p,p.mono=false→aY p N→aj Tryz.prog 46 [.ptr st 0,.str pl,.agg [.int .i64 ek,.int .i64 em,.str data]] (Oid.under p) ⟨bk (N,F0),.tuple [],sb N F2⟩:=hput
    have hf':=hf _ hA1
    unfold prC at hf' ⊢
    simp only [fnV,rdB,Bits.no,aA] at hf'
    refine aD (n:=78) (rs:=[.tmp 8]) Tryz.func13 rfl rfl (by decide) rfl rfl rfl ?_;rintro x rfl hrd hng
    rw [aC]
    refine kr0 ?_
    refine kr1 hf' ?_
    (repeat (first|(refine ay rfl rfl ?_)|(refine aw rfl rfl ?_)|(refine ao nmd [] hng (by kernel_rfl) fun hf C S K hC1 hC hS hK=>?_;simp (disch:=first|omega|assumption) only [go_sem,Oid.ab hpp,Oid.aa hpp,hpN,hO,c1,c2,c4,eq_self,e5,decide_true,decide_false,ne_eq,not_true_eq_false,not_false_eq_true];refine hK ?_;clear hK hS hC hC1 K S C hf)|((first|refine zn ?_|refine ze ?_|refine zk ?_);with_reducible (constructor;repeat constructor);try refine zl ?_)))
    refine ao nmd [(3,32)] hng (by kernel_rfl) fun hf C S K hC1 hC hS hK=>?_;simp (disch:=first|omega|assumption) only [go_sem,Oid.ab hpp,Oid.aa hpp,hpN,hO,c1,c2,c4,eq_self,e5,decide_true,decide_false,ne_eq,not_true_eq_false,not_false_eq_true]
    refine hK ?_;clear hK hS hC hC1 K S C hf
    (repeat (first|(refine ay rfl rfl ?_)|(refine aw rfl rfl ?_)|(refine ao nmd [] hng (by kernel_rfl) fun hf C S K hC1 hC hS hK=>?_;simp (disch:=first|omega|assumption) only [go_sem,Oid.ab hpp,Oid.aa hpp,hpN,hO,c1,c2,c4,eq_self,e5,decide_true,decide_false,ne_eq,not_true_eq_false,not_false_eq_true];refine hK ?_;clear hK hS hC hC1 K S C hf)|((first|refine zn ?_|refine ze ?_|refine zk ?_);with_reducible (constructor;repeat constructor);try refine zl ?_)))
    refine kd (.d [] [] [0,9]) trivial (cq hput' trivial) ?_
    refine kw0 ?_
    exact kq
theorem wb (path:Str) (hpath:path.length≤140737488355328) (hA:RR' st N L (eJ L cwd um path).1 F F1) (hP:PR st N (bT (eJ L cwd um path).2) F1 F2) :
  aj Tryz.prog 83 [.ptr pp 0,.str path] (Oid.under p) ⟨(pp,prC st cwd um)::bk (N,F),.int .i64 (aA (eJ L cwd um path).2),sb N F2⟩:=by
 have hm1:=fun p hp hpp hO=>Bo (pp:=pp) (st:=st) (N:=N) (F:=F) (F1:=F1) (F2:=F2) hK hm hc um hpN (p:=p) hp hpp hO path hpath 2 (bM 7 um) [] hA hP
 unfold eJ at hA hP ⊢
 generalize aA (ew L cwd path ⟨2,bM 7 um,[]⟩).2=E at hm1 ⊢
 unfold prC at hm1 ⊢
 refine aD (n:=14) (rs:=[.tmp 4]) Tryz.func83 rfl rfl (by decide) rfl rfl rfl ?_;rintro x rfl hrd hng
 rw [aC]
 refine kr0 ?_
 refine kr1 hm1 ?_
 refine kw0 ?_
 exact kq
theorem lO (path:Str) (hpath:path.length≤140737488355328) (target:Str) (ht:target.length≤140737488355328) (hA:RR' st N L (aW L cwd target path).1 F F1) (hP:PR st N (bT (aW L cwd target path).2) F1 F2) :
  aj Tryz.prog 85 [.ptr pp 0,.str target,.str path] (Oid.under p) ⟨(pp,prC st cwd um)::bk (N,F),.int .i64 (aA (aW L cwd target path).2),sb N F2⟩:=by
 unfold aW at hA hP ⊢
 by_cases c1:target=[]
 ·rw [if_pos (.inl c1)] at hA hP ⊢
  obtain rfl:F=F1:=hA
  obtain rfl:F=F2:=hP
  subst c1
  unfold prC
  refine aD (n:=29) (rs:=[.tmp 6]) Tryz.func85 rfl rfl (by decide) rfl rfl rfl ?_;rintro x rfl hrd hng
  rw [aC]
  refine kr0 ?_
  refine kr (.d [] [(2,9)] []) trivial trivial ?_
  refine kw0 ?_
  exact kq
 by_cases c2:200 < target.length
 ·rw [if_pos (.inr c2)] at hA hP ⊢
  obtain rfl:F=F1:=hA
  obtain rfl:F=F2:=hP
  have e2:(200:Int) < (target.length:Int):=by omega
  unfold prC
  refine aD (n:=29) (rs:=[.tmp 6]) Tryz.func85 rfl rfl (by decide) rfl rfl rfl ?_;rintro x rfl hrd hng
  rw [aC]
  refine kr0 ?_
  refine kr (.d [] [(2,9)] []) (ai c1 e2) trivial ?_
  refine kw (ai c1 e2) ?_
  exact kq
 have e2:¬ (200:Int) < (target.length:Int):=by omega
 rw [if_neg (fun h=>h.elim c1 c2)] at hA hP ⊢
 have hmk:(cL path=false)→∀ p,p.mono=false→¬ Oid.under p pp→aY p N→aj Tryz.prog 170 [.ptr pp 0,.str path,.agg [.int .i64 3,.int .i64 7,.str target]] (Oid.under p) ⟨(pp,.cells [.ptr st 0,.str cwd,.int .i64 um])::bk (N,F),.int .i64 (aA (ew L cwd path ⟨3,7,target⟩).2),sb N F2⟩:=fun hE p hp hpp hO=>by
  rw [if_neg (by rw [hE];decide)] at hA hP
  exact Bo (pp:=pp) (st:=st) (N:=N) (F:=F) (F1:=F1) (F2:=F2) hK hm hc um hpN (p:=p) hp hpp hO path hpath 3 7 target hA hP
 by_cases c3:path=[]
 ·subst c3
  rw [if_neg (by decide)] at hA hP ⊢
  have hm1:=hmk rfl
  generalize aA (ew L cwd [] ⟨3,7,target⟩).2=E at hm1 ⊢
  unfold prC
  refine aD (n:=29) (rs:=[.tmp 6]) Tryz.func85 rfl rfl (by decide) rfl rfl rfl ?_;rintro x rfl hrd hng
  rw [aC]
  refine kr0 ?_
  refine kr (.d [] [(2,9)] []) (ai c1 e2) trivial ?_
  refine kw (ai c1 e2) ?_
  refine kr (.d [] [(2,16)] []) trivial trivial ?_
  refine kw0 ?_
  refine kr1 hm1 ?_
  refine kw0 ?_
  exact kq
 have hpl0:0 < path.length:=List.length_pos_iff.2 c3
 have hen:=oy c3
 have e1:((path.length:Int) - 1).toNat=path.length - 1:=by omega
 have e3:((path.length - 1:Nat):Int)=(path.length:Int) - 1:=by omega
 by_cases c4:cL path=true
 ·rw [if_pos c4] at hA hP ⊢
  obtain rfl:F=F1:=hA
  obtain rfl:F=F2:=hP
  have h47:=hen.1 c4
  unfold prC
  refine aD (n:=29) (rs:=[.tmp 6]) Tryz.func85 rfl rfl (by decide) rfl rfl rfl ?_;rintro x rfl hrd hng
  rw [aC]
  refine kr0 ?_
  refine kr (.d [] [(2,9)] []) (ai c1 e2) trivial ?_
  refine kw (ai c1 e2) ?_
  refine kr (.d [] [(2,16)] []) (ai c3 (ai e1 h47)) trivial ?_
  refine kw0 ?_
  exact kq
 ·rw [if_neg c4] at hA hP ⊢
  have hm1:=hmk (by simpa using c4)
  have h47:¬ ((path.getD (path.length - 1) 0).toNat:Int)=47:=fun h=>c4 (hen.2 h)
  generalize aA (ew L cwd path ⟨3,7,target⟩).2=E at hm1 ⊢
  unfold prC
  refine aD (n:=29) (rs:=[.tmp 6]) Tryz.func85 rfl rfl (by decide) rfl rfl rfl ?_;rintro x rfl hrd hng
  rw [aC]
  refine kr0 ?_
  refine kr (.d [] [(2,9)] []) (ai c1 e2) trivial ?_
  refine kw (ai c1 e2) ?_
  refine kr (.d [] [(2,16)] []) (ai c3 (ai e1 h47)) trivial ?_
  refine kw0 ?_
  refine kr1 hm1 ?_
  refine kw0 ?_
  exact kq
omit hK hm hc hp hpp hO in
theorem IT:aj Tryz.prog 168 [.ptr pp 0] (Oid.under p) ⟨(pp,prC st cwd um)::bk (N,F),.str (A6 cwd),sb N F⟩:=by
 unfold prC
 refine aD (n:=12) (rs:=[.tmp 2]) Tryz.func168 rfl rfl (by decide) rfl rfl rfl ?_;rintro x rfl hrd hng
 rw [aC]
 refine qr .o hpN trivial ?_
 refine qw hpN ?_
 unfold A6
 by_cases c:cwd=[]
 ·rw [if_pos c]
  refine aP rfl rfl (fun hb=>?_) (fun hb=>?_)
  case refine_2=>exact absurd c hb
  refine qw hpN ?_
  refine aB (bh (qs hpN) (by show _=some _;simp (disch:=first|omega|assumption) only [go_sem,hpN]) (by first|exact nbu _|exact nbA (by simp [hpN]) _))
 ·rw [if_neg c]
  refine aP rfl rfl (fun hb=>?_) (fun hb=>?_)
  case refine_1=>exact absurd hb c
  refine qw hpN ?_
  refine aB (bh (qs hpN) (by show _=some _;simp (disch:=first|omega|assumption) only [go_sem,hpN]) (by first|exact nbu _|exact nbA (by simp [hpN]) _))
end
end Go.Proofs.YtfbnaalhioogoaaGreatDoor
namespace Go.Proofs.YtfbnaalhioogoaaGreatDoor
open Go Go.Ab
set_option maxRecDepth 20000
set_option maxHeartbeats 8000000
section
variable {pp st:Oid} {N:List Oid} {F F1 F2:Oid→ah} {L:PL} (hK:KL L) (hm:∀ n,0≤(aG L n).m∧(aG L n).m≤7) {cwd:Str} (hc:cwd.length≤1000000) (um:Int) (hpN:pp ∉ N) {p:Oid} (hp:p.mono=false) (hpp:¬ Oid.under p pp) (hO:aY p N)
include hK hm hc hpN hp hpp hO
theorem tu (path:Str) (hpath:path.length≤140737488355328) (to':Str) (hto':to'.length≤140737488355328) (hA:RR' st N L (bj L cwd path to').1 F F1) (hP:PR st N (bT (bj L cwd path to').2) F1 F2) :
  aj Tryz.prog 91 [.ptr pp 0,.str path,.str to'] (Oid.under p) ⟨(pp,prC st cwd um)::bk (N,F),.int .i64 (aA (bj L cwd path to').2),sb N F2⟩:=by
 have hf:=fun F' h p hp hpp hO=>cV (pp:=pp) (st:=st) (N:=N) (F:=F) (F':=F') hK path cwd um false hpN hc hpath h p hp hpp hO
 have hne:=dz hK (cwd:=cwd) path false
 have hlen:=cm hK hc path false
 unfold bj at hA hP ⊢
 rcases c8 L cwd path false with ⟨rd,e,h1,h2⟩|⟨rd,pl,ek,em,el,h1,h0,h2⟩|⟨rd,pl,ek,em,el,h1,h0,h2⟩
 ·rw [h2] at hA hP ⊢
  rw [h1] at hf hne
  simp only [aV] at hA hP ⊢
  obtain rfl:F1=F2:=hP
  have e0:¬ e=0:=hne _ rfl
  have hf':=hf _ hA
  unfold prC at hf' ⊢
  simp only [fnV,rdB,Bits.no,aA] at hf'
  refine aD (n:=89) (rs:=[.tmp 6]) Tryz.func91 rfl rfl (by decide) rfl rfl rfl ?_;rintro x rfl hrd hng
  rw [aC]
  refine kr0 ?_
  refine kr1 hf' ?_
  refine kw e0 ?_
  exact kq
 ·rw [h2] at hA hP ⊢
  rw [h1] at hf hne
  simp only [aV] at hA hP ⊢
  obtain rfl:F1=F2:=hP
  have hf':=hf _ hA
  unfold prC at hf' ⊢
  simp only [fnV,rdB,Bits.no,aA] at hf'
  refine aD (n:=89) (rs:=[.tmp 6]) Tryz.func91 rfl rfl (by decide) rfl rfl rfl ?_;rintro x rfl hrd hng
  rw [aC]
  refine kr0 ?_
  refine kr1 hf' ?_
  refine kw h0 ?_
  exact kq
 ·rw [h2] at hA hP ⊢
  rw [h1] at hf hne hlen
  simp only [bK] at hA hP ⊢
  have hpl:=hlen _ rfl
  simp only at hpl
  obtain ⟨F0,hA1,hA2⟩:=a7 hA
  by_cases c1:ek=2
  ·rw [if_pos c1] at hA2 hP ⊢
   obtain rfl:F0=F1:=hA2
   obtain rfl:F0=F2:=hP
   have hf':=hf _ hA1
   unfold prC at hf' ⊢
   simp only [fnV,rdB,Bits.no,aA] at hf'
   refine aD (n:=89) (rs:=[.tmp 6]) Tryz.func91 rfl rfl (by decide) rfl rfl rfl ?_;rintro x rfl hrd hng
   rw [aC]
   refine kr0 ?_
   refine kr1 hf' ?_
   (repeat (first|(refine ay rfl rfl ?_)|(refine aw rfl rfl ?_)|(refine ao nmd [] hng (by kernel_rfl) fun hf C S K hC1 hC hS hK=>?_;simp (disch:=first|omega|assumption) only [go_sem,Oid.ab hpp,Oid.aa hpp,hpN,hO,h0,c1,fB,eq_self,decide_true,decide_false,ne_eq,not_true_eq_false,not_false_eq_true];refine hK ?_;clear hK hS hC hC1 K S C hf)|((first|refine zn ?_|refine ze ?_|refine zk ?_);with_reducible (constructor;repeat constructor);try refine zl ?_)))
   exact kq
  rw [if_neg c1] at hA2 hP ⊢
  have hf2:=fun F' h p hp hpp hO=>cV (pp:=pp) (st:=st) (N:=N) (F:=F0) (F':=F') hK to' cwd um false hpN hc hto' h p hp hpp hO
  have hne2:=dz hK (cwd:=cwd) to' false
  have hlen2:=cm hK hc to' false
  rcases ko L cwd to' false with ⟨rd2,e2,h1b⟩|⟨rd2,pl2,ek2,em2,el2,h1b⟩
  ·rw [h1b] at hA2 hP ⊢
   rw [h1b] at hf2 hne2
   simp only [aV] at hA2 hP ⊢
   obtain rfl:F1=F2:=hP
   have e20:¬ e2=0:=hne2 _ rfl
   have hf2':=hf2 _ hA2
   unfold prC at hf2'
   simp only [fnV,rdB,Bits.no,aA] at hf2'
   have hf':=hf _ hA1
   unfold prC at hf' ⊢
   simp only [fnV,rdB,Bits.no,aA] at hf'
   refine aD (n:=89) (rs:=[.tmp 6]) Tryz.func91 rfl rfl (by decide) rfl rfl rfl ?_;rintro x rfl hrd hng
   rw [aC]
   refine kr0 ?_
   refine kr1 hf' ?_
   refine kw (ai h0 c1) ?_
   refine kr1 hf2' ?_
   refine kw e20 ?_
   exact kq
  ·have hpne:=qb h1b
   have hpl0:0 < to'.length:=List.length_pos_iff.2 hpne
   have hen:=oy hpne
   have e1:((to'.length:Int) - 1).toNat=to'.length - 1:=by omega
   have e3:((to'.length - 1:Nat):Int)=(to'.length:Int) - 1:=by omega
   rw [h1b] at hA2 hP ⊢
   rw [h1b] at hf2 hlen2
   simp only [bK] at hA2 hP ⊢
   have hpl2:=hlen2 _ rfl
   simp only at hpl2
   obtain ⟨F4,hA3,hA4⟩:=a7 hA2
   by_cases c2:ek2=2
   ·rw [if_pos c2] at hA4 hP ⊢
    obtain rfl:F4=F1:=hA4
    obtain rfl:F4=F2:=hP
    have hf2':=hf2 _ hA3
    unfold prC at hf2'
    simp only [fnV,rdB,Bits.no,aA] at hf2'
    have hf':=hf _ hA1
    unfold prC at hf' ⊢
    simp only [fnV,rdB,Bits.no,aA] at hf'
    refine aD (n:=89) (rs:=[.tmp 6]) Tryz.func91 rfl rfl (by decide) rfl rfl rfl ?_;rintro x rfl hrd hng
    rw [aC]
    refine kr0 ?_
    refine kr1 hf' ?_
    refine kw (ai h0 c1) ?_
    refine kr1 hf2' ?_
    (repeat (first|(refine ay rfl rfl ?_)|(refine aw rfl rfl ?_)|(refine ao nmd [] hng (by kernel_rfl) fun hf C S K hC1 hC hS hK=>?_;simp (disch:=first|omega|assumption) only [go_sem,Oid.ab hpp,Oid.aa hpp,hpN,hO,c2,fB,eq_self,decide_true,decide_false,ne_eq,not_true_eq_false,not_false_eq_true];refine hK ?_;clear hK hS hC hC1 K S C hf)|((first|refine zn ?_|refine ze ?_|refine zk ?_);with_reducible (constructor;repeat constructor);try refine zl ?_)))
    exact kq
   rw [if_neg c2] at hA4 hP ⊢
   by_cases c3:ek2=0
   case neg =>
    rw [if_neg (fun h=>c3 h.1)] at hA4 hP ⊢
    by_cases g0:bR pl (aG L (aO pl))=0
    case neg =>
     rw [eY g0] at hA4 hP ⊢
     obtain rfl:F1=F2:=hP
     have hrm:=fun p hp hpp hO=>dP (pp:=pp) (st:=st) (N:=N) (F:=F4) (F1:=F1) (L:=L) (cwd:=cwd) um hpN (p:=p) hp hpp hO hm pl hpl hA4
     unfold prC at hrm
     generalize bR pl (aG L (aO pl))=g at hrm g0 ⊢
     have hf2':=hf2 _ hA3
     unfold prC at hf2'
     simp only [fnV,rdB,Bits.no,aA] at hf2'
     have hf':=hf _ hA1
     unfold prC at hf' ⊢
     simp only [fnV,rdB,Bits.no,aA] at hf'
     refine aD (n:=89) (rs:=[.tmp 6]) Tryz.func91 rfl rfl (by decide) rfl rfl rfl ?_;rintro x rfl hrd hng
     rw [aC]
     refine kr0 ?_
     refine kr1 hf' ?_
     refine kw (ai h0 c1) ?_
     refine kr1 hf2' ?_
     refine kw (ai c2 c3) ?_
     refine kr (.d [] [(3,52)] []) c3 trivial ?_
     refine kw c3 ?_
     refine kr1 hrm ?_
     refine kw g0 ?_
     exact kq
    rw [eX g0] at hA4 hP ⊢
    obtain ⟨F3,hA5,hA6⟩:=a7 hA4
    have hrm:=fun p hp hpp hO=>dP (pp:=pp) (st:=st) (N:=N) (F:=F4) (F1:=F3) (L:=L) (cwd:=cwd) um hpN (p:=p) hp hpp hO hm pl hpl hA5
    rw [g0] at hrm
    simp only [cb] at hA6 hP ⊢
    have hrm2:=fun p hp hpp hO=>dP (pp:=pp) (st:=st) (N:=N) (F:=F3) (F1:=F1) (L:=L) (cwd:=cwd) um hpN (p:=p) hp hpp hO hm pl2 hpl2 hA6
    unfold prC at hrm hrm2
    generalize bR pl2 (aG L (aO pl2))=g2 at hrm2 hP ⊢
    by_cases g20:g2=0
    case neg =>
     rw [if_pos g20] at hP ⊢
     obtain rfl:F1=F2:=hP
     have hf2':=hf2 _ hA3
     unfold prC at hf2'
     simp only [fnV,rdB,Bits.no,aA] at hf2'
     have hf':=hf _ hA1
     unfold prC at hf' ⊢
     simp only [fnV,rdB,Bits.no,aA] at hf'
     refine aD (n:=89) (rs:=[.tmp 6]) Tryz.func91 rfl rfl (by decide) rfl rfl rfl ?_;rintro x rfl hrd hng
     rw [aC]
     refine kr0 ?_
     refine kr1 hf' ?_
     refine kw (ai h0 c1) ?_
     refine kr1 hf2' ?_
     refine kw (ai c2 c3) ?_
     refine kr (.d [] [(3,52)] []) c3 trivial ?_
     refine kw c3 ?_
     refine kr1 hrm ?_
     refine kw0 ?_
     refine kr1 hrm2 ?_
     refine kw g20 ?_
     exact kq
    rw [if_neg (fun h=>h g20)] at hP ⊢
    subst g20
    by_cases hab:pl=pl2
    ·rw [if_pos hab] at hP ⊢
     obtain rfl:F1=F2:=hP
     have hf2':=hf2 _ hA3
     unfold prC at hf2'
     simp only [fnV,rdB,Bits.no,aA] at hf2'
     have hf':=hf _ hA1
     unfold prC at hf' ⊢
     simp only [fnV,rdB,Bits.no,aA] at hf'
     refine aD (n:=89) (rs:=[.tmp 6]) Tryz.func91 rfl rfl (by decide) rfl rfl rfl ?_;rintro x rfl hrd hng
     rw [aC]
     refine kr0 ?_
     refine kr1 hf' ?_
     refine kw (ai h0 c1) ?_
     refine kr1 hf2' ?_
     refine kw (ai c2 c3) ?_
     refine kr (.d [] [(3,52)] []) c3 trivial ?_
     refine kw c3 ?_
     refine kr1 hrm ?_
     refine kw0 ?_
     refine kr1 hrm2 ?_
     refine kw hab ?_
     exact kq
    rw [if_neg hab] at hP ⊢
    obtain ⟨F5,hput1,F6,hput2,rfl⟩:=hP
    have hput1':∀ p,p.mono=false→aY p N→aj Tryz.prog 46 [.ptr st 0,.str pl,.agg [.int .i64 0,.int .i64 0,.str []]] (Oid.under p) ⟨bk (N,F1),.tuple [],sb N F5⟩:=hput1
    have hput2':∀ p,p.mono=false→aY p N→aj Tryz.prog 46 [.ptr st 0,.str pl2,.agg [.int .i64 ek,.int .i64 em,.str el]] (Oid.under p) ⟨bk (N,F5),.tuple [],sb N F6⟩:=hput2
    have hf2':=hf2 _ hA3
    unfold prC at hf2'
    simp only [fnV,rdB,Bits.no,aA] at hf2'
    have hf':=hf _ hA1
    unfold prC at hf' ⊢
    simp only [fnV,rdB,Bits.no,aA] at hf'
    refine aD (n:=89) (rs:=[.tmp 6]) Tryz.func91 rfl rfl (by decide) rfl rfl rfl ?_;rintro x rfl hrd hng
    rw [aC]
    refine kr0 ?_
    refine kr1 hf' ?_
    refine kw (ai h0 c1) ?_
    refine kr1 hf2' ?_
    refine kw (ai c2 c3) ?_
    refine kr (.d [] [(3,52)] []) c3 trivial ?_
    refine kw c3 ?_
    refine kr1 hrm ?_
    refine kw0 ?_
    refine kr1 hrm2 ?_
    refine kw hab ?_
    refine kr1 hput1' ?_
    refine kd (.d [] [] [0]) trivial (cq hput2' trivial) ?_
    refine kw0 ?_
    exact kq
   subst c3
   by_cases c4:cL to' = true
   ·rw [if_pos ⟨rfl,c4⟩] at hA4 hP ⊢
    have h47:=hen.1 c4
    obtain rfl:F4=F1:=hA4
    obtain rfl:F4=F2:=hP
    have hf2':=hf2 _ hA3
    unfold prC at hf2'
    simp only [fnV,rdB,Bits.no,aA] at hf2'
    have hf':=hf _ hA1
    unfold prC at hf' ⊢
    simp only [fnV,rdB,Bits.no,aA] at hf'
    refine aD (n:=89) (rs:=[.tmp 6]) Tryz.func91 rfl rfl (by decide) rfl rfl rfl ?_;rintro x rfl hrd hng
    rw [aC]
    refine kr0 ?_
    refine kr1 hf' ?_
    refine kw (ai h0 c1) ?_
    refine kr1 hf2' ?_
    refine kw c2 ?_
    refine kr (.d [] [(3,52)] []) (ai e1 h47) trivial ?_
    refine kw (ai e1 h47) ?_
    exact kq
   rw [if_neg (fun h=>c4 h.2)] at hA4 hP ⊢
   have h47:¬ ((to'.getD (to'.length - 1) 0).toNat:Int)=47:=fun h=>c4 (hen.2 h)
   by_cases g0:bR pl (aG L (aO pl))=0
   case neg =>
    rw [eY g0] at hA4 hP ⊢
    obtain rfl:F1=F2:=hP
    have hrm:=fun p hp hpp hO=>dP (pp:=pp) (st:=st) (N:=N) (F:=F4) (F1:=F1) (L:=L) (cwd:=cwd) um hpN (p:=p) hp hpp hO hm pl hpl hA4
    unfold prC at hrm
    generalize bR pl (aG L (aO pl))=g at hrm g0 ⊢
    have hf2':=hf2 _ hA3
    unfold prC at hf2'
    simp only [fnV,rdB,Bits.no,aA] at hf2'
    have hf':=hf _ hA1
    unfold prC at hf' ⊢
    simp only [fnV,rdB,Bits.no,aA] at hf'
    refine aD (n:=89) (rs:=[.tmp 6]) Tryz.func91 rfl rfl (by decide) rfl rfl rfl ?_;rintro x rfl hrd hng
    rw [aC]
    refine kr0 ?_
    refine kr1 hf' ?_
    refine kw (ai h0 c1) ?_
    refine kr1 hf2' ?_
    refine kw (ai c2 (ai e1 h47)) ?_
    refine kr (.d [] [(3,52)] []) (ai e1 h47) trivial ?_
    refine kw (ai e1 h47) ?_
    refine kr1 hrm ?_
    refine kw g0 ?_
    exact kq
   rw [eX g0] at hA4 hP ⊢
   obtain ⟨F3,hA5,hA6⟩:=a7 hA4
   have hrm:=fun p hp hpp hO=>dP (pp:=pp) (st:=st) (N:=N) (F:=F4) (F1:=F3) (L:=L) (cwd:=cwd) um hpN (p:=p) hp hpp hO hm pl hpl hA5
   rw [g0] at hrm
   simp only [cb] at hA6 hP ⊢
   have hrm2:=fun p hp hpp hO=>dP (pp:=pp) (st:=st) (N:=N) (F:=F3) (F1:=F1) (L:=L) (cwd:=cwd) um hpN (p:=p) hp hpp hO hm pl2 hpl2 hA6
   unfold prC at hrm hrm2
   generalize bR pl2 (aG L (aO pl2))=g2 at hrm2 hP ⊢
   by_cases g20:g2=0
   case neg =>
    rw [if_pos g20] at hP ⊢
    obtain rfl:F1=F2:=hP
    have hf2':=hf2 _ hA3
    unfold prC at hf2'
    simp only [fnV,rdB,Bits.no,aA] at hf2'
    have hf':=hf _ hA1
    unfold prC at hf' ⊢
    simp only [fnV,rdB,Bits.no,aA] at hf'
    refine aD (n:=89) (rs:=[.tmp 6]) Tryz.func91 rfl rfl (by decide) rfl rfl rfl ?_;rintro x rfl hrd hng
    rw [aC]
    refine kr0 ?_
    refine kr1 hf' ?_
    refine kw (ai h0 c1) ?_
    refine kr1 hf2' ?_
    refine kw (ai c2 (ai e1 h47)) ?_
    refine kr (.d [] [(3,52)] []) (ai e1 h47) trivial ?_
    refine kw (ai e1 h47) ?_
    refine kr1 hrm ?_
    refine kw0 ?_
    refine kr1 hrm2 ?_
    refine kw g20 ?_
    exact kq
   rw [if_neg (fun h=>h g20)] at hP ⊢
   subst g20
   by_cases hab:pl=pl2
   ·rw [if_pos hab] at hP ⊢
    obtain rfl:F1=F2:=hP
    have hf2':=hf2 _ hA3
    unfold prC at hf2'
    simp only [fnV,rdB,Bits.no,aA] at hf2'
    have hf':=hf _ hA1
    unfold prC at hf' ⊢
    simp only [fnV,rdB,Bits.no,aA] at hf'
    refine aD (n:=89) (rs:=[.tmp 6]) Tryz.func91 rfl rfl (by decide) rfl rfl rfl ?_;rintro x rfl hrd hng
    rw [aC]
    refine kr0 ?_
    refine kr1 hf' ?_
    refine kw (ai h0 c1) ?_
    refine kr1 hf2' ?_
    refine kw (ai c2 (ai e1 h47)) ?_
    refine kr (.d [] [(3,52)] []) (ai e1 h47) trivial ?_
    refine kw (ai e1 h47) ?_
    refine kr1 hrm ?_
    refine kw0 ?_
    refine kr1 hrm2 ?_
    refine kw hab ?_
    exact kq
   rw [if_neg hab] at hP ⊢
   obtain ⟨F5,hput1,F6,hput2,rfl⟩:=hP
   have hput1':∀ p,p.mono=false→aY p N→aj Tryz.prog 46 [.ptr st 0,.str pl,.agg [.int .i64 0,.int .i64 0,.str []]] (Oid.under p) ⟨bk (N,F1),.tuple [],sb N F5⟩:=hput1
   have hput2':∀ p,p.mono=false→aY p N→aj Tryz.prog 46 [.ptr st 0,.str pl2,.agg [.int .i64 ek,.int .i64 em,.str el]] (Oid.under p) ⟨bk (N,F5),.tuple [],sb N F6⟩:=hput2
   have hf2':=hf2 _ hA3
   unfold prC at hf2'
   simp only [fnV,rdB,Bits.no,aA] at hf2'
   have hf':=hf _ hA1
   unfold prC at hf' ⊢
   simp only [fnV,rdB,Bits.no,aA] at hf'
   refine aD (n:=89) (rs:=[.tmp 6]) Tryz.func91 rfl rfl (by decide) rfl rfl rfl ?_;rintro x rfl hrd hng
   rw [aC]
   refine kr0 ?_
   refine kr1 hf' ?_
   refine kw (ai h0 c1) ?_
   refine kr1 hf2' ?_
   refine kw (ai c2 (ai e1 h47)) ?_
   refine kr (.d [] [(3,52)] []) (ai e1 h47) trivial ?_
   refine kw (ai e1 h47) ?_
   refine kr1 hrm ?_
   refine kw0 ?_
   refine kr1 hrm2 ?_
   refine kw hab ?_
   refine kr1 hput1' ?_
   refine kd (.d [] [] [0]) trivial (cq hput2' trivial) ?_
   refine kw0 ?_
   exact kq
end
end Go.Proofs.YtfbnaalhioogoaaGreatDoor
namespace Go.Proofs.YtfbnaalhioogoaaGreatDoor
open Go Go.Ab
set_option maxRecDepth 20000
set_option maxHeartbeats 4000000
theorem Bq (nm path:Str) (e:Int) (hnm:nm.length≤4000000000) (hpl:path.length≤4000000000) (he:-9223372036854775808≤e∧e≤9223372036854775807) (p:Oid) :
  aj Tryz.prog 196 [.str nm,.str path,.int .i64 e] (Oid.under p) ⟨[],.str (jm nm path e),[]⟩:=by
 have hI:=fun p=>uT e he.1 he.2 p
 have hil:=Lib.itoa_length_le e he.1 he.2
 unfold jm
 refine aD (n:=16) (rs:=[.tmp 6]) Tryz.func196 rfl rfl (by decide) rfl rfl rfl ?_;rintro x rfl hrd hng
 refine qw0 ?_
 refine qr1 (hI _) ?_
 refine qw0 ?_
 exact aB (bu qs0)
theorem gg (r:Res) (nm path:Str) (e:Int) (hnm:nm.length≤4000000000) (hpl:path.length≤4000000000) (hre:r.err.length≤1000000000000) (he:-9223372036854775808≤e∧e≤9223372036854775807) (p:Oid) :
  aj Tryz.prog 124 [r.av,.str nm,.str path,.int .i64 e] (Oid.under p) ⟨[],(r.add nm path e).av,[]⟩:=by
 have hT:=fun p=>Bq nm path e hnm hpl he p
 have htl:(jm nm path e).length≤9000000000:=by
  have:=Lib.itoa_length_le e he.1 he.2
  unfold jm
  simp only [List.length_append,List.length_cons,List.length_nil];omega
 obtain ⟨st,out,err⟩:=r
 simp only at hre
 by_cases h0:e=0
 ·subst h0
  rw [wa]
  unfold Res.av
  refine aD (n:=21) (rs:=[.cell 8 45]) Tryz.func124 rfl rfl (by decide) rfl rfl rfl ?_;rintro x rfl hrd hng
  (repeat (first|(refine ay rfl rfl ?_)|(refine aw rfl rfl ?_)|(refine ao nmd [] hng (by kernel_rfl) fun hf C S K hC1 hC hS hK=>?_;simp (disch:=first|omega|assumption) only [go_sem];refine hK ?_;clear hK hS hC hC1 K S C hf)|((first|refine zn ?_|refine ze ?_|refine zk ?_);with_reducible (constructor;repeat constructor);try refine zl ?_)))
  exact aB (bu (by simp (disch:=first|omega|assumption) only [go_sem]))
 ·rw [Fb _ _ _ h0]
  generalize jm nm path e=TT at hT htl
  unfold Res.av
  refine aD (n:=21) (rs:=[.cell 8 45]) Tryz.func124 rfl rfl (by decide) rfl rfl rfl ?_;rintro x rfl hrd hng
  (try ((first|refine zn ?_|refine ze ?_|refine zk ?_);with_reducible (constructor;repeat constructor));try refine zl ?_)
  refine ao nmd [] hng (by kernel_rfl) fun hf C S K hC1 hC hS hK=>?_;simp (disch:=first|omega|assumption) only [go_sem]
  refine hK ?_;clear hK hS hC hC1 K S C hf
  (try ((first|refine zn ?_|refine ze ?_|refine zk ?_);with_reducible (constructor;repeat constructor));try refine zl ?_)
  refine ao nmd [] hng (by kernel_rfl) fun hf C S K hC1 hC hS hK=>?_;simp (disch:=first|omega|assumption) only [go_sem,h0,decide_true,decide_false,ne_eq,not_true_eq_false,not_false_eq_true]
  refine hK ?_;clear hK hS hC hC1 K S C hf
  (repeat (first|(refine ay rfl rfl ?_)|(refine aw rfl rfl ?_)|(refine ao nmd [] hng (by kernel_rfl) fun hf C S K hC1 hC hS hK=>?_;simp (disch:=first|omega|assumption) only [go_sem];refine hK ?_;clear hK hS hC hC1 K S C hf)|((first|refine zn ?_|refine ze ?_|refine zk ?_);with_reducible (constructor;repeat constructor);try refine zl ?_)))
  refine bJ nmd [] [(1,5)] mixed hng (by kernel_rfl) [4,8] fun hf C S K hC hS hK=>?_;simp (disch:=first|omega|assumption) only [go_sem]
  refine hC _ (hT _) (fun _ h=>by cases h) ?_
  simp (disch:=first|omega|assumption) only [go_sem]
  (first|refine hK (aE rfl) ?_|refine hK (by simp (disch:=first|omega|assumption) only [go_sem,List.reverse_cons,List.reverse_nil,ne_eq,not_false_eq_true,implies_true]) ?_);clear hK hS hC K S C hf
  (repeat (first|(refine ay rfl rfl ?_)|(refine aw rfl rfl ?_)|(refine ao nmd [] hng (by kernel_rfl) fun hf C S K hC1 hC hS hK=>?_;simp (disch:=first|omega|assumption) only [go_sem];refine hK ?_;clear hK hS hC hC1 K S C hf)|((first|refine zn ?_|refine ze ?_|refine zk ?_);with_reducible (constructor;repeat constructor);try refine zl ?_)))
  exact aB (bu (by simp (disch:=first|omega|assumption) only [go_sem]))
theorem uZ {s:Str} (h0:¬ s=[]):Lib.trimSuffix s [47]++[47]=if ((s.getD (s.length - 1) 0).toNat:Int)=47 then s else s++[47]:=by
 have hpos:=List.length_pos_iff.2 h0
 have hs:s.take (s.length - 1)++[s.getD (s.length - 1) 0]=s:=by
  have h1:=List.take_append_drop (s.length - 1) s
  rw [ux (show s.length - 1 < s.length by omega),List.drop_of_length_le (by omega)] at h1
  exact h1
 have hiff:([47]:List UInt8).isSuffixOf s=true↔s.getD (s.length - 1) 0=47:=by
  rw [List.isSuffixOf_iff_suffix]
  constructor
  ·rintro ⟨u,hu⟩
   have h1:u++[47]=s.take (s.length - 1)++[s.getD (s.length - 1) 0]:=hu.trans hs.symm
   have h2:=List.append_inj_right' h1 rfl
   exact (List.cons.inj h2).1.symm
  ·intro h
   exact ⟨s.take (s.length - 1),by rw [← h];exact hs⟩
 unfold Lib.trimSuffix Lib.hasSuffix
 by_cases h:s.getD (s.length - 1) 0=47
 ·rw [if_pos (hiff.2 h),if_pos (by rw [h];rfl)]
  rw [h] at hs
  exact hs
 ·rw [if_neg (fun hh=>h (hiff.1 hh)),if_neg (fun hh=>h (UInt8.toNat_inj.1 (by have:(47:UInt8).toNat=47:=rfl;omega)))]
section
variable {pp st:Oid} {N:List Oid} {F F1 F2 F3 F4:Oid→ah} {L:PL} (hK:KL L) {cwd:Str} (hc:cwd.length≤1000000) (um:Int) (hpN:pp ∉ N)
include hK hc hpN
theorem kp (fr to':Str) (hfr:fr.length≤4000000000) (hto:to'.length≤4000000000) (hA:RR' st N L (findF L cwd to' true).1 F F1) (p:Oid) (hp:p.mono=false) (hpp:¬ Oid.under p pp) (hO:aY p N) :
  aj Tryz.prog 192 [.ptr pp 0,.str fr,.str to'] (Oid.under p) ⟨(pp,prC st cwd um)::bk (N,F),.str (gy (findF L cwd to' true).2 fr to'),sb N F1⟩:=by
 have hF:=fun p hp hpp hO=>cV (pp:=pp) (st:=st) hK to' cwd um true hpN hc (by omega) hA p hp hpp hO
 have hB:=fun p=>Bm fr hfr p
 have hbl:=lM fr
 have hne:aA (findF L cwd to' true).2=0→¬ to' = []:=fun h e=>by
  subst e
  rw [show findF L cwd [] true=([],.err 10) from by simp only [findF,if_pos]] at h
  cases h
 unfold gy
 unfold fnV at hF
 clear hA
 generalize aA (findF L cwd to' true).2=E at hF hne ⊢
 generalize rdB (findF L cwd to' true).2=B at hF ⊢
 obtain ⟨pl,ek,em,el⟩:=B
 simp only at hF ⊢
 unfold prC at hF ⊢
 refine aD (n:=37) (rs:=[.tmp 6]) Tryz.func192 rfl rfl (by decide) rfl rfl rfl ?_;rintro x rfl hrd hng
 rw [aC]
 (try ((first|refine zn ?_|refine ze ?_|refine zk ?_);with_reducible (constructor;repeat constructor));try refine zl ?_)
 refine ao nmd [] hng (by kernel_rfl) fun hf C S K hC1 hC hS hK=>?_;simp (disch:=first|omega|assumption) only [go_sem,Oid.ab hpp,Oid.aa hpp,hpN,hO]
 refine hK ?_;clear hK hS hC hC1 K S C hf
 (try ((first|refine zn ?_|refine ze ?_|refine zk ?_);with_reducible (constructor;repeat constructor));try refine zl ?_)
 refine ao nmd [] hng (by kernel_rfl) fun hf C S K hC1 hC hS hK=>?_;simp (disch:=first|omega|assumption) only [go_sem,Oid.ab hpp,Oid.aa hpp,hpN,hO]
 refine hC1 _ (hF _ (aq rfl hp) (fun h=>hpp (Oid.ae h)) (hO.sub _ _)) (by simp only [List.mem_cons,forall_eq_or_imp];exact ⟨by simp (disch:=first|omega|assumption) only [go_sem,Oid.ab hpp,Oid.aa hpp,hpN,hO],(by first|exact nbu _|exact nbA (by simp [hpN,hO.mem]) _)⟩) ?_
 simp (disch:=first|omega|assumption) only [go_sem,Oid.ab hpp,Oid.aa hpp,hpN,hO]
 refine hK ?_;clear hK hS hC hC1 K S C hf
 (try ((first|refine zn ?_|refine ze ?_|refine zk ?_);with_reducible (constructor;repeat constructor));try refine zl ?_)
 by_cases hE:E=0
 case neg =>
  rw [if_neg (fun h=>hE h.1)]
  refine ao nmd [(2,19)] hng (by kernel_rfl) fun hf C S K hC1 hC hS hK=>?_;simp (disch:=first|omega|assumption) only [go_sem,Oid.ab hpp,Oid.aa hpp,hpN,hO,hE,decide_true,decide_false,ne_eq,not_true_eq_false,not_false_eq_true]
  refine hK ?_;clear hK hS hC hC1 K S C hf
  (repeat (first|(refine ay rfl rfl ?_)|(refine aw rfl rfl ?_)|(refine ao nmd [] hng (by kernel_rfl) fun hf C S K hC1 hC hS hK=>?_;simp (disch:=first|omega|assumption) only [go_sem,Oid.ab hpp,Oid.aa hpp,hpN,hO];refine hK ?_;clear hK hS hC hC1 K S C hf)|((first|refine zn ?_|refine ze ?_|refine zk ?_);with_reducible (constructor;repeat constructor);try refine zl ?_)))
  exact aB (bh (by simp (disch:=first|omega|assumption) only [go_sem]) (by show _=some _;simp (disch:=first|omega|assumption) only [go_sem,Oid.ab hpp,Oid.aa hpp,hpN,hO]) (by first|exact nbu _|exact nbA (by simp [hpN,hO.mem]) _))
 subst hE
 by_cases hk:ek=2
 case neg =>
  rw [if_neg (fun h=>hk h.2)]
  refine ao nmd [(2,19)] hng (by kernel_rfl) fun hf C S K hC1 hC hS hK=>?_;simp (disch:=first|omega|assumption) only [go_sem,Oid.ab hpp,Oid.aa hpp,hpN,hO,hk,eq_self,decide_true,decide_false,ne_eq,not_true_eq_false,not_false_eq_true]
  refine hK ?_;clear hK hS hC hC1 K S C hf
  (repeat (first|(refine ay rfl rfl ?_)|(refine aw rfl rfl ?_)|(refine ao nmd [] hng (by kernel_rfl) fun hf C S K hC1 hC hS hK=>?_;simp (disch:=first|omega|assumption) only [go_sem,Oid.ab hpp,Oid.aa hpp,hpN,hO];refine hK ?_;clear hK hS hC hC1 K S C hf)|((first|refine zn ?_|refine ze ?_|refine zk ?_);with_reducible (constructor;repeat constructor);try refine zl ?_)))
  exact aB (bh (by simp (disch:=first|omega|assumption) only [go_sem]) (by show _=some _;simp (disch:=first|omega|assumption) only [go_sem,Oid.ab hpp,Oid.aa hpp,hpN,hO]) (by first|exact nbu _|exact nbA (by simp [hpN,hO.mem]) _))
 subst hk
 have hn0:=hne rfl
 rw [if_pos ⟨rfl,rfl⟩,uZ hn0]
 have hpos:=List.length_pos_iff.2 hn0
 have hin:((to'.length:Int) - 1).toNat=to'.length - 1:=by omega
 refine ao nmd [(2,19)] hng (by kernel_rfl) fun hf C S K hC1 hC hS hK=>?_;simp (disch:=first|omega|assumption) only [go_sem,Oid.ab hpp,Oid.aa hpp,hpN,hO,eq_self,decide_true,decide_false,ne_eq,not_true_eq_false,not_false_eq_true]
 refine hK ?_;clear hK hS hC hC1 K S C hf
 (try ((first|refine zn ?_|refine ze ?_|refine zk ?_);with_reducible (constructor;repeat constructor));try refine zl ?_)
 refine aw rfl rfl ?_
 (try ((first|refine zn ?_|refine ze ?_|refine zk ?_);with_reducible (constructor;repeat constructor));try refine zl ?_)
 by_cases h47:((to'.getD (to'.length - 1) 0).toNat:Int)=47
 ·rw [if_pos h47]
  refine ao nmd [] hng (by kernel_rfl) fun hf C S K hC1 hC hS hK=>?_;simp (disch:=first|omega|assumption) only [go_sem,Oid.ab hpp,Oid.aa hpp,hpN,hO,hin,h47,eq_self,decide_true,decide_false,ne_eq,not_true_eq_false,not_false_eq_true]
  refine hK ?_;clear hK hS hC hC1 K S C hf
  (repeat (first|(refine ay rfl rfl ?_)|(refine aw rfl rfl ?_)|(refine ao nmd [] hng (by kernel_rfl) fun hf C S K hC1 hC hS hK=>?_;simp (disch:=first|omega|assumption) only [go_sem,Oid.ab hpp,Oid.aa hpp,hpN,hO];refine hK ?_;clear hK hS hC hC1 K S C hf)|((first|refine zn ?_|refine ze ?_|refine zk ?_);with_reducible (constructor;repeat constructor);try refine zl ?_)))
  refine ao nmd [] hng (by kernel_rfl) fun hf C S K hC1 hC hS hK=>?_;simp (disch:=first|omega|assumption) only [go_sem,Oid.ab hpp,Oid.aa hpp,hpN,hO]
  refine hC1 _ (hB _) (fun _ h=>by cases h) ?_
  simp (disch:=first|omega|assumption) only [go_sem,Oid.ab hpp,Oid.aa hpp,hpN,hO]
  refine hK ?_;clear hK hS hC hC1 K S C hf
  (repeat (first|(refine ay rfl rfl ?_)|(refine aw rfl rfl ?_)|(refine ao nmd [] hng (by kernel_rfl) fun hf C S K hC1 hC hS hK=>?_;simp (disch:=first|omega|assumption) only [go_sem,Oid.ab hpp,Oid.aa hpp,hpN,hO];refine hK ?_;clear hK hS hC hC1 K S C hf)|((first|refine zn ?_|refine ze ?_|refine zk ?_);with_reducible (constructor;repeat constructor);try refine zl ?_)))
  exact aB (bh (by simp (disch:=first|omega|assumption) only [go_sem]) (by show _=some _;simp (disch:=first|omega|assumption) only [go_sem,Oid.ab hpp,Oid.aa hpp,hpN,hO]) (by first|exact nbu _|exact nbA (by simp [hpN,hO.mem]) _))
 ·rw [if_neg h47]
  refine ao nmd [] hng (by kernel_rfl) fun hf C S K hC1 hC hS hK=>?_;simp (disch:=first|omega|assumption) only [go_sem,Oid.ab hpp,Oid.aa hpp,hpN,hO,hin,h47,eq_self,decide_true,decide_false,ne_eq,not_true_eq_false,not_false_eq_true]
  refine hK ?_;clear hK hS hC hC1 K S C hf
  (repeat (first|(refine ay rfl rfl ?_)|(refine aw rfl rfl ?_)|(refine ao nmd [] hng (by kernel_rfl) fun hf C S K hC1 hC hS hK=>?_;simp (disch:=first|omega|assumption) only [go_sem,Oid.ab hpp,Oid.aa hpp,hpN,hO];refine hK ?_;clear hK hS hC hC1 K S C hf)|((first|refine zn ?_|refine ze ?_|refine zk ?_);with_reducible (constructor;repeat constructor);try refine zl ?_)))
  refine ao nmd [] hng (by kernel_rfl) fun hf C S K hC1 hC hS hK=>?_;simp (disch:=first|omega|assumption) only [go_sem,Oid.ab hpp,Oid.aa hpp,hpN,hO]
  refine hC1 _ (hB _) (fun _ h=>by cases h) ?_
  simp (disch:=first|omega|assumption) only [go_sem,Oid.ab hpp,Oid.aa hpp,hpN,hO]
  refine hK ?_;clear hK hS hC hC1 K S C hf
  (repeat (first|(refine ay rfl rfl ?_)|(refine aw rfl rfl ?_)|(refine ao nmd [] hng (by kernel_rfl) fun hf C S K hC1 hC hS hK=>?_;simp (disch:=first|omega|assumption) only [go_sem,Oid.ab hpp,Oid.aa hpp,hpN,hO];refine hK ?_;clear hK hS hC hC1 K S C hf)|((first|refine zn ?_|refine ze ?_|refine zk ?_);with_reducible (constructor;repeat constructor);try refine zl ?_)))
  exact aB (bh (by simp (disch:=first|omega|assumption) only [go_sem]) (by show _=some _;simp (disch:=first|omega|assumption) only [go_sem,Oid.ab hpp,Oid.aa hpp,hpN,hO]) (by first|exact nbu _|exact nbA (by simp [hpN,hO.mem]) _))
end
end Go.Proofs.YtfbnaalhioogoaaGreatDoor
namespace Go.Proofs.YtfbnaalhioogoaaGreatDoor
open Go Go.Ab
set_option maxRecDepth 20000
set_option maxHeartbeats 4000000
def UtR (pp st:Oid) (cwd:Str) (um:Int) (N:List Oid) (F F':Oid→ah) (fu:Nat) (xs:List AV) (r':Res):Prop :=
 ∀ p,p.mono=false→¬ Oid.under p pp→aY p N→aj Tryz.prog fu (.ptr pp 0::xs) (Oid.under p) ⟨(pp,prC st cwd um)::bk (N,F),r'.av,sb N F'⟩
section
variable {pp st:Oid} {N:List Oid} {F F1 F2 F3 F4:Oid→ah} {L:PL} (hK:KL L) {cwd:Str} (hc:cwd.length≤1000000) (um:Int) (hpN:pp ∉ N)
include hK hc hpN
theorem Er (a b:Str) (ha:a.length≤4000000000) (hb:b.length≤4000000000) (h1:RR' st N L (findF L cwd b true).1 F F1) (h2:RR' st N L (aI L cwd a).1 F1 F2) (he:¬ aA (aI L cwd a).2=0) (he2:-9223372036854775808≤aA (aI L cwd a).2∧aA (aI L cwd a).2≤9223372036854775807) :
  UtR pp st cwd um N F F2 117 [.str [99,112],.list 1 [.str a,.str b]] ((⟨0,[],[]⟩:Res).add [99,112] a (aA (aI L cwd a).2)):=by
 unfold UtR
 intro p hp hpp hO
 have hT:=fun p hp hpp hO=>kp (pp:=pp) (st:=st) hK hc um hpN a b ha hb h1 p hp hpp hO
 have hR:=fun p hp hpp hO=>ox (pp:=pp) (st:=st) hK hc um hpN (p:=p) hp hpp hO a (by omega) h2
 have hX:=fun p=>gg ⟨0,[],[]⟩ [99,112] a (aA (aI L cwd a).2) (by decide) ha (by decide) he2 p
 generalize gy (findF L cwd b true).2 a b=to' at hT
 unfold rdV at hR
 clear h1 h2 he2
 generalize (⟨0,[],[]⟩:Res).add [99,112] a (aA (aI L cwd a).2)=r' at hX ⊢
 generalize aA (aI L cwd a).2=E at hR hX he
 generalize rdS (aI L cwd a).2=S1 at hR
 obtain ⟨st2,out2,err2⟩:=r'
 unfold prC at hT hR ⊢
 unfold Res.av at hX ⊢
 have e1:¬ ([99,112]:Str)=[108,110]:=by decide
 have e2:¬ ([99,112]:Str)=[109,118]:=by decide
 refine aD (n:=89) (rs:=[.cell 6 45]) Tryz.func117 rfl rfl (by decide) rfl rfl rfl ?_;rintro x rfl hrd hng
 rw [aC]
 (repeat (first|(refine ay rfl rfl ?_)|(refine aw rfl rfl ?_)|(refine ao nmd [] hng (by kernel_rfl) fun hf C S K hC1 hC hS hK=>?_;simp (disch:=first|omega|assumption) only [go_sem,Oid.ab hpp,Oid.aa hpp,hpN,hO,e1,decide_false];refine hK ?_;clear hK hS hC hC1 K S C hf)|((first|refine zn ?_|refine ze ?_|refine zk ?_);with_reducible (constructor;repeat constructor);try refine zl ?_)))
 refine bJ nmd [] [] mixed hng (by kernel_rfl) [0,1,2,6,7] fun hf C S K hC hS hK=>?_;simp (disch:=first|omega|assumption) only [go_sem,Oid.ab hpp,Oid.aa hpp,hpN,hO]
 refine hC _ (hT _ (aq rfl hp) (fun h=>hpp (Oid.ae h)) (hO.sub _ _)) (by simp only [List.mem_cons,forall_eq_or_imp];exact ⟨by simp (disch:=first|omega|assumption) only [go_sem,Oid.ab hpp,Oid.aa hpp,hpN,hO],(by first|exact nbu _|exact nbA (by simp [hpN,hO.mem]) _)⟩) ?_
 simp (disch:=first|omega|assumption) only [go_sem,Oid.ab hpp,Oid.aa hpp,hpN,hO]
 (first|refine hK (aE rfl) ?_|refine hK (by simp (disch:=first|omega|assumption) only [go_sem,List.reverse_cons,List.reverse_nil,ne_eq,not_false_eq_true,implies_true]) ?_);clear hK hS hC K S C hf
 (repeat (first|(refine ay rfl rfl ?_)|(refine aw rfl rfl ?_)|(refine ao nmd [] hng (by kernel_rfl) fun hf C S K hC1 hC hS hK=>?_;simp (disch:=first|omega|assumption) only [go_sem,e2,decide_false];refine hK ?_;clear hK hS hC hC1 K S C hf)|((first|refine zn ?_|refine ze ?_|refine zk ?_);with_reducible (constructor;repeat constructor);try refine zl ?_)))
 refine ao nmd [] hng (by kernel_rfl) fun hf C S K hC1 hC hS hK=>?_;simp (disch:=first|omega|assumption) only [go_sem,Oid.ab hpp,Oid.aa hpp,hpN,hO]
 refine hC1 _ (hR _ (aq rfl hp) (fun h=>hpp (Oid.ae h)) (hO.sub _ _)) (by simp only [List.mem_cons,forall_eq_or_imp];exact ⟨by simp (disch:=first|omega|assumption) only [go_sem,Oid.ab hpp,Oid.aa hpp,hpN,hO],(by first|exact nbu _|exact nbA (by simp [hpN,hO.mem]) _)⟩) ?_
 simp (disch:=first|omega|assumption) only [go_sem,Oid.ab hpp,Oid.aa hpp,hpN,hO]
 refine hK ?_;clear hK hS hC hC1 K S C hf
 (try ((first|refine zn ?_|refine ze ?_|refine zk ?_);with_reducible (constructor;repeat constructor));try refine zl ?_)
 refine ao nmd [] hng (by kernel_rfl) fun hf C S K hC1 hC hS hK=>?_;simp (disch:=first|omega|assumption) only [go_sem,he,decide_true,decide_false,ne_eq,not_true_eq_false,not_false_eq_true]
 refine hK ?_;clear hK hS hC hC1 K S C hf
 (repeat (first|(refine ay rfl rfl ?_)|(refine aw rfl rfl ?_)|(refine ao nmd [] hng (by kernel_rfl) fun hf C S K hC1 hC hS hK=>?_;simp (disch:=first|omega|assumption) only [go_sem];refine hK ?_;clear hK hS hC hC1 K S C hf)|((first|refine zn ?_|refine ze ?_|refine zk ?_);with_reducible (constructor;repeat constructor);try refine zl ?_)))
 refine ao nmd [] hng (by kernel_rfl) fun hf C S K hC1 hC hS hK=>?_;simp (disch:=first|omega|assumption) only [go_sem,Oid.ab hpp,Oid.aa hpp,hpN,hO]
 refine hC1 _ (hX _) (fun _ h=>by cases h) ?_
 simp (disch:=first|omega|assumption) only [go_sem,Oid.ab hpp,Oid.aa hpp,hpN,hO]
 refine hK ?_;clear hK hS hC hC1 K S C hf
 (repeat (first|(refine ay rfl rfl ?_)|(refine aw rfl rfl ?_)|(refine ao nmd [] hng (by kernel_rfl) fun hf C S K hC1 hC hS hK=>?_;simp (disch:=first|omega|assumption) only [go_sem];refine hK ?_;clear hK hS hC hC1 K S C hf)|((first|refine zn ?_|refine ze ?_|refine zk ?_);with_reducible (constructor;repeat constructor);try refine zl ?_)))
 exact aB (bh (by simp (disch:=first|omega|assumption) only [go_sem,Oid.ab hpp,Oid.aa hpp,hpN,hO]) (by show _=some _;simp (disch:=first|omega|assumption) only [go_sem,Oid.ab hpp,Oid.aa hpp,hpN,hO]) (by first|exact nbu _|exact nbA (by simp [hpN,hO.mem]) _))
variable (hm:∀ n,0≤(aG L n).m∧(aG L n).m≤7)
include hm
theorem HN (a b s:Str) (ha:a.length≤4000000000) (hb:b.length≤4000000000) (hs:s.length≤4000000000) (h1:RR' st N L (findF L cwd b true).1 F F1) (h2:RR' st N L (aI L cwd a).1 F1 F2) (hr0:aA (aI L cwd a).2=0) (hrs:rdS (aI L cwd a).2=s) (to':Str) (hto:gy (findF L cwd b true).2 a b=to') (htl:to'.length≤4000000000)
  (h3:RR' st N L (bw L cwd um to' s false).1 F2 F3) (h4:PR st N (bT (bw L cwd um to' s false).2) F3 F4) (he2:-9223372036854775808≤aA (bw L cwd um to' s false).2∧aA (bw L cwd um to' s false).2≤9223372036854775807) :
  UtR pp st cwd um N F F4 117 [.str [99,112],.list 1 [.str a,.str b]] ((⟨0,[],[]⟩:Res).add [99,112] to' (aA (bw L cwd um to' s false).2)):=by
 unfold UtR
 intro p hp hpp hO
 have hT:=fun p hp hpp hO=>kp (pp:=pp) (st:=st) hK hc um hpN a b ha hb h1 p hp hpp hO
 rw [hto] at hT
 have hR:=fun p hp hpp hO=>ox (pp:=pp) (st:=st) hK hc um hpN (p:=p) hp hpp hO a (by omega) h2
 have hW:=fun p hp hpp hO=>rC (pp:=pp) (st:=st) hK hm hc um hpN (p:=p) hp hpp hO to' (by omega) s (by omega) false h3 h4
 have hX:=fun p=>gg ⟨0,[],[]⟩ [99,112] to' (aA (bw L cwd um to' s false).2) (by decide) htl (by decide) he2 p
 unfold rdV at hR
 rw [hr0,hrs] at hR
 clear h1 h2 h3 h4 he2 hr0 hrs hto
 generalize (⟨0,[],[]⟩:Res).add [99,112] to' (aA (bw L cwd um to' s false).2)=r' at hX ⊢
 generalize aA (bw L cwd um to' s false).2=E at hW hX
 obtain ⟨st2,out2,err2⟩:=r'
 unfold prC at hT hR hW ⊢
 unfold Res.av at hX ⊢
 have e1:¬ ([99,112]:Str)=[108,110]:=by decide
 have e2:¬ ([99,112]:Str)=[109,118]:=by decide
 refine aD (n:=89) (rs:=[.cell 6 45]) Tryz.func117 rfl rfl (by decide) rfl rfl rfl ?_;rintro x rfl hrd hng
 rw [aC]
 (repeat (first|(refine ay rfl rfl ?_)|(refine aw rfl rfl ?_)|(refine ao nmd [] hng (by kernel_rfl) fun hf C S K hC1 hC hS hK=>?_;simp (disch:=first|omega|assumption) only [go_sem,Oid.ab hpp,Oid.aa hpp,hpN,hO,e1,decide_false];refine hK ?_;clear hK hS hC hC1 K S C hf)|((first|refine zn ?_|refine ze ?_|refine zk ?_);with_reducible (constructor;repeat constructor);try refine zl ?_)))
 refine bJ nmd [] [] mixed hng (by kernel_rfl) [0,1,2,6,7] fun hf C S K hC hS hK=>?_;simp (disch:=first|omega|assumption) only [go_sem,Oid.ab hpp,Oid.aa hpp,hpN,hO]
 refine hC _ (hT _ (aq rfl hp) (fun h=>hpp (Oid.ae h)) (hO.sub _ _)) (by simp only [List.mem_cons,forall_eq_or_imp];exact ⟨by simp (disch:=first|omega|assumption) only [go_sem,Oid.ab hpp,Oid.aa hpp,hpN,hO],(by first|exact nbu _|exact nbA (by simp [hpN,hO.mem]) _)⟩) ?_
 simp (disch:=first|omega|assumption) only [go_sem,Oid.ab hpp,Oid.aa hpp,hpN,hO]
 (first|refine hK (aE rfl) ?_|refine hK (by simp (disch:=first|omega|assumption) only [go_sem,List.reverse_cons,List.reverse_nil,ne_eq,not_false_eq_true,implies_true]) ?_);clear hK hS hC K S C hf
 (repeat (first|(refine ay rfl rfl ?_)|(refine aw rfl rfl ?_)|(refine ao nmd [] hng (by kernel_rfl) fun hf C S K hC1 hC hS hK=>?_;simp (disch:=first|omega|assumption) only [go_sem,e2,decide_false];refine hK ?_;clear hK hS hC hC1 K S C hf)|((first|refine zn ?_|refine ze ?_|refine zk ?_);with_reducible (constructor;repeat constructor);try refine zl ?_)))
 refine ao nmd [] hng (by kernel_rfl) fun hf C S K hC1 hC hS hK=>?_;simp (disch:=first|omega|assumption) only [go_sem,Oid.ab hpp,Oid.aa hpp,hpN,hO]
 refine hC1 _ (hR _ (aq rfl hp) (fun h=>hpp (Oid.ae h)) (hO.sub _ _)) (by simp only [List.mem_cons,forall_eq_or_imp];exact ⟨by simp (disch:=first|omega|assumption) only [go_sem,Oid.ab hpp,Oid.aa hpp,hpN,hO],(by first|exact nbu _|exact nbA (by simp [hpN,hO.mem]) _)⟩) ?_
 simp (disch:=first|omega|assumption) only [go_sem,Oid.ab hpp,Oid.aa hpp,hpN,hO]
 refine hK ?_;clear hK hS hC hC1 K S C hf
 (repeat (first|(refine ay rfl rfl ?_)|(refine aw rfl rfl ?_)|(refine ao nmd [] hng (by kernel_rfl) fun hf C S K hC1 hC hS hK=>?_;simp (disch:=first|omega|assumption) only [go_sem];refine hK ?_;clear hK hS hC hC1 K S C hf)|((first|refine zn ?_|refine ze ?_|refine zk ?_);with_reducible (constructor;repeat constructor);try refine zl ?_)))
 refine ao nmd [] hng (by kernel_rfl) fun hf C S K hC1 hC hS hK=>?_;simp (disch:=first|omega|assumption) only [go_sem,Oid.ab hpp,Oid.aa hpp,hpN,hO]
 refine hC1 _ (hW _ (aq rfl hp) (fun h=>hpp (Oid.ae h)) (hO.sub _ _)) (by simp only [List.mem_cons,forall_eq_or_imp];exact ⟨by simp (disch:=first|omega|assumption) only [go_sem,Oid.ab hpp,Oid.aa hpp,hpN,hO],(by first|exact nbu _|exact nbA (by simp [hpN,hO.mem]) _)⟩) ?_
 simp (disch:=first|omega|assumption) only [go_sem,Oid.ab hpp,Oid.aa hpp,hpN,hO]
 refine hC1 _ (hX _) (fun _ h=>by cases h) ?_
 simp (disch:=first|omega|assumption) only [go_sem,Oid.ab hpp,Oid.aa hpp,hpN,hO]
 refine hK ?_;clear hK hS hC hC1 K S C hf
 (repeat (first|(refine ay rfl rfl ?_)|(refine aw rfl rfl ?_)|(refine ao nmd [] hng (by kernel_rfl) fun hf C S K hC1 hC hS hK=>?_;simp (disch:=first|omega|assumption) only [go_sem];refine hK ?_;clear hK hS hC hC1 K S C hf)|((first|refine zn ?_|refine ze ?_|refine zk ?_);with_reducible (constructor;repeat constructor);try refine zl ?_)))
 exact aB (bh (by simp (disch:=first|omega|assumption) only [go_sem,Oid.ab hpp,Oid.aa hpp,hpN,hO]) (by show _=some _;simp (disch:=first|omega|assumption) only [go_sem,Oid.ab hpp,Oid.aa hpp,hpN,hO]) (by first|exact nbu _|exact nbA (by simp [hpN,hO.mem]) _))
theorem Es (a b:Str) (ha:a.length≤4000000000) (hb:b.length≤4000000000) (h1:RR' st N L (findF L cwd b true).1 F F1) (to':Str) (hto:gy (findF L cwd b true).2 a b=to') (htl:to'.length≤4000000000)
  (h3:RR' st N L (bj L cwd a to').1 F1 F2) (h4:PR st N (bT (bj L cwd a to').2) F2 F3) (he2:-9223372036854775808≤aA (bj L cwd a to').2∧aA (bj L cwd a to').2≤9223372036854775807) :
  UtR pp st cwd um N F F3 117 [.str [109,118],.list 1 [.str a,.str b]] ((⟨0,[],[]⟩:Res).add [109,118] a (aA (bj L cwd a to').2)):=by
 unfold UtR
 intro p hp hpp hO
 have hT:=fun p hp hpp hO=>kp (pp:=pp) (st:=st) hK hc um hpN a b ha hb h1 p hp hpp hO
 rw [hto] at hT
 have hW:=fun p hp hpp hO=>tu (pp:=pp) (st:=st) hK hm hc um hpN (p:=p) hp hpp hO a (by omega) to' (by omega) h3 h4
 have hX:=fun p=>gg ⟨0,[],[]⟩ [109,118] a (aA (bj L cwd a to').2) (by decide) ha (by decide) he2 p
 clear h1 h3 h4 he2 hto
 generalize (⟨0,[],[]⟩:Res).add [109,118] a (aA (bj L cwd a to').2)=r' at hX ⊢
 generalize aA (bj L cwd a to').2=E at hW hX
 obtain ⟨st2,out2,err2⟩:=r'
 unfold prC at hT hW ⊢
 unfold Res.av at hX ⊢
 have e1:¬ ([109,118]:Str)=[108,110]:=by decide
 refine aD (n:=89) (rs:=[.cell 6 45]) Tryz.func117 rfl rfl (by decide) rfl rfl rfl ?_;rintro x rfl hrd hng
 rw [aC]
 (repeat (first|(refine ay rfl rfl ?_)|(refine aw rfl rfl ?_)|(refine ao nmd [] hng (by kernel_rfl) fun hf C S K hC1 hC hS hK=>?_;simp (disch:=first|omega|assumption) only [go_sem,Oid.ab hpp,Oid.aa hpp,hpN,hO,e1,decide_false];refine hK ?_;clear hK hS hC hC1 K S C hf)|((first|refine zn ?_|refine ze ?_|refine zk ?_);with_reducible (constructor;repeat constructor);try refine zl ?_)))
 refine bJ nmd [] [] mixed hng (by kernel_rfl) [0,1,2,6,7] fun hf C S K hC hS hK=>?_;simp (disch:=first|omega|assumption) only [go_sem,Oid.ab hpp,Oid.aa hpp,hpN,hO]
 refine hC _ (hT _ (aq rfl hp) (fun h=>hpp (Oid.ae h)) (hO.sub _ _)) (by simp only [List.mem_cons,forall_eq_or_imp];exact ⟨by simp (disch:=first|omega|assumption) only [go_sem,Oid.ab hpp,Oid.aa hpp,hpN,hO],(by first|exact nbu _|exact nbA (by simp [hpN,hO.mem]) _)⟩) ?_
 simp (disch:=first|omega|assumption) only [go_sem,Oid.ab hpp,Oid.aa hpp,hpN,hO]
 (first|refine hK (aE rfl) ?_|refine hK (by simp (disch:=first|omega|assumption) only [go_sem,List.reverse_cons,List.reverse_nil,ne_eq,not_false_eq_true,implies_true]) ?_);clear hK hS hC K S C hf
 (repeat (first|(refine ay rfl rfl ?_)|(refine aw rfl rfl ?_)|(refine ao nmd [] hng (by kernel_rfl) fun hf C S K hC1 hC hS hK=>?_;simp (disch:=first|omega|assumption) only [go_sem];refine hK ?_;clear hK hS hC hC1 K S C hf)|((first|refine zn ?_|refine ze ?_|refine zk ?_);with_reducible (constructor;repeat constructor);try refine zl ?_)))
 refine bJ nmd [] [(4,10)] mixed hng (by kernel_rfl) [6] fun hf C S K hC hS hK=>?_;simp (disch:=first|omega|assumption) only [go_sem,Oid.ab hpp,Oid.aa hpp,hpN,hO]
 refine hC _ (hW _ (aq rfl hp) (fun h=>hpp (Oid.ae h)) (hO.sub _ _)) (by simp only [List.mem_cons,forall_eq_or_imp];exact ⟨by simp (disch:=first|omega|assumption) only [go_sem,Oid.ab hpp,Oid.aa hpp,hpN,hO],(by first|exact nbu _|exact nbA (by simp [hpN,hO.mem]) _)⟩) ?_
 simp (disch:=first|omega|assumption) only [go_sem,Oid.ab hpp,Oid.aa hpp,hpN,hO]
 refine hC _ (hX _) (fun _ h=>by cases h) ?_
 simp (disch:=first|omega|assumption) only [go_sem,Oid.ab hpp,Oid.aa hpp,hpN,hO]
 (first|refine hK (aE rfl) ?_|refine hK (by simp (disch:=first|omega|assumption) only [go_sem,List.reverse_cons,List.reverse_nil,ne_eq,not_false_eq_true,implies_true]) ?_);clear hK hS hC K S C hf
 (repeat (first|(refine ay rfl rfl ?_)|(refine aw rfl rfl ?_)|(refine ao nmd [] hng (by kernel_rfl) fun hf C S K hC1 hC hS hK=>?_;simp (disch:=first|omega|assumption) only [go_sem];refine hK ?_;clear hK hS hC hC1 K S C hf)|((first|refine zn ?_|refine ze ?_|refine zk ?_);with_reducible (constructor;repeat constructor);try refine zl ?_)))
 exact aB (bh (by simp (disch:=first|omega|assumption) only [go_sem,Oid.ab hpp,Oid.aa hpp,hpN,hO]) (by show _=some _;simp (disch:=first|omega|assumption) only [go_sem,Oid.ab hpp,Oid.aa hpp,hpN,hO]) (by first|exact nbu _|exact nbA (by simp [hpN,hO.mem]) _))
theorem Et (a b:Str) (ha:a.length≤4000000000) (hb:b.length≤4000000000) (h3:RR' st N L (aW L cwd a b).1 F F1) (h4:PR st N (bT (aW L cwd a b).2) F1 F2) (he2:-9223372036854775808≤aA (aW L cwd a b).2∧aA (aW L cwd a b).2≤9223372036854775807) :
  UtR pp st cwd um N F F2 117 [.str [108,110],.list 1 [.str [45,115],.str a,.str b]] ((⟨0,[],[]⟩:Res).add [108,110] b (aA (aW L cwd a b).2)):=by
 unfold UtR
 intro p hp hpp hO
 have hW:=fun p hp hpp hO=>lO (pp:=pp) (st:=st) hK hm hc um hpN (p:=p) hp hpp hO b (by omega) a (by omega) h3 h4
 have hX:=fun p=>gg ⟨0,[],[]⟩ [108,110] b (aA (aW L cwd a b).2) (by decide) hb (by decide) he2 p
 clear h3 h4 he2
 generalize (⟨0,[],[]⟩:Res).add [108,110] b (aA (aW L cwd a b).2)=r' at hX ⊢
 generalize aA (aW L cwd a b).2=E at hW hX
 obtain ⟨st2,out2,err2⟩:=r'
 unfold prC at hW ⊢
 unfold Res.av at hX ⊢
 refine aD (n:=89) (rs:=[.cell 6 45]) Tryz.func117 rfl rfl (by decide) rfl rfl rfl ?_;rintro x rfl hrd hng
 rw [aC]
 (repeat (first|(refine ay rfl rfl ?_)|(refine aw rfl rfl ?_)|(refine ao nmd [] hng (by kernel_rfl) fun hf C S K hC1 hC hS hK=>?_;simp (disch:=first|omega|assumption) only [go_sem,Oid.ab hpp,Oid.aa hpp,hpN,hO,eq_self,decide_true,decide_false,ne_eq,not_true_eq_false,not_false_eq_true];refine hK ?_;clear hK hS hC hC1 K S C hf)|((first|refine zn ?_|refine ze ?_|refine zk ?_);with_reducible (constructor;repeat constructor);try refine zl ?_)))
 have f3:((3:Nat):Int)=3:=rfl
 refine ao nmd [(3,15)] hng (by kernel_rfl) fun hf C S K hC1 hC hS hK=>?_;simp (disch:=first|omega|assumption) only [go_sem,Oid.ab hpp,Oid.aa hpp,hpN,hO,f3,eq_self,decide_true,decide_false,ne_eq,not_true_eq_false,not_false_eq_true]
 refine hK ?_;clear hK hS hC hC1 K S C hf
 (repeat (first|(refine ay rfl rfl ?_)|(refine aw rfl rfl ?_)|(refine ao nmd [] hng (by kernel_rfl) fun hf C S K hC1 hC hS hK=>?_;simp (disch:=first|omega|assumption) only [go_sem];refine hK ?_;clear hK hS hC hC1 K S C hf)|((first|refine zn ?_|refine ze ?_|refine zk ?_);with_reducible (constructor;repeat constructor);try refine zl ?_)))
 refine bJ nmd [] [(4,12)] mixed hng (by kernel_rfl) [6] fun hf C S K hC hS hK=>?_;simp (disch:=first|omega|assumption) only [go_sem,Oid.ab hpp,Oid.aa hpp,hpN,hO]
 refine hC _ (hW _ (aq rfl hp) (fun h=>hpp (Oid.ae h)) (hO.sub _ _)) (by simp only [List.mem_cons,forall_eq_or_imp];exact ⟨by simp (disch:=first|omega|assumption) only [go_sem,Oid.ab hpp,Oid.aa hpp,hpN,hO],(by first|exact nbu _|exact nbA (by simp [hpN,hO.mem]) _)⟩) ?_
 simp (disch:=first|omega|assumption) only [go_sem,Oid.ab hpp,Oid.aa hpp,hpN,hO]
 refine hC _ (hX _) (fun _ h=>by cases h) ?_
 simp (disch:=first|omega|assumption) only [go_sem,Oid.ab hpp,Oid.aa hpp,hpN,hO]
 (first|refine hK (aE rfl) ?_|refine hK (by simp (disch:=first|omega|assumption) only [go_sem,List.reverse_cons,List.reverse_nil,ne_eq,not_false_eq_true,implies_true]) ?_);clear hK hS hC K S C hf
 (repeat (first|(refine ay rfl rfl ?_)|(refine aw rfl rfl ?_)|(refine ao nmd [] hng (by kernel_rfl) fun hf C S K hC1 hC hS hK=>?_;simp (disch:=first|omega|assumption) only [go_sem];refine hK ?_;clear hK hS hC hC1 K S C hf)|((first|refine zn ?_|refine ze ?_|refine zk ?_);with_reducible (constructor;repeat constructor);try refine zl ?_)))
 exact aB (bh (by simp (disch:=first|omega|assumption) only [go_sem,Oid.ab hpp,Oid.aa hpp,hpN,hO]) (by show _=some _;simp (disch:=first|omega|assumption) only [go_sem,Oid.ab hpp,Oid.aa hpp,hpN,hO]) (by first|exact nbu _|exact nbA (by simp [hpN,hO.mem]) _))
end
end Go.Proofs.YtfbnaalhioogoaaGreatDoor
namespace Go.Proofs.YtfbnaalhioogoaaGreatDoor
open Go Go.Ab
set_option maxRecDepth 20000
set_option maxHeartbeats 4000000
def oz (L:PL) (cwd nm inp:Str):List Str→Res→Res
 | [],r=>r
 | a::l,r=>if a=[45] then oz L cwd nm inp l ⟨r.st,r.out++inp,r.err⟩ else oz L cwd nm inp l ⟨(r.add nm a (aA (aI L cwd a).2)).st,(r.add nm a (aA (aI L cwd a).2)).out++rdS (aI L cwd a).2,(r.add nm a (aA (aI L cwd a).2)).err⟩
def tw (st:Oid) (N:List Oid) (L:PL) (cwd:Str):List Str→(Oid→ah)→(Oid→ah)→Prop
 | [],F,F'=>F=F'
 | a::l,F,F'=>if a=[45] then tw st N L cwd l F F' else ∃ F1,RP st N L (aI L cwd a).1 F F1∧tw st N L cwd l F1 F'
theorem mN (r:Res) (nm p:Str) (e:Int) (he:-9223372036854775808≤e∧e≤9223372036854775807):(r.add nm p e).err.length≤r.err.length+nm.length+p.length+40∧(r.add nm p e).out=r.out:=by
 unfold Res.add jm
 have:=Lib.itoa_length_le e he.1 he.2
 split
 ·exact ⟨by omega,rfl⟩
 ·refine ⟨?_,rfl⟩
  simp only [List.length_append,List.length_cons,List.length_nil];omega
section
variable {pp st:Oid} {N:List Oid} {F F':Oid→ah} {L:PL} (hK:KL L) {cwd:Str} (hc:cwd.length≤1000000) (um:Int) (hpN:pp ∉ N)
include hK hc hpN
theorem HO (nm inp:Str) (r:Res) (hnm:nm.length≤1000000) (hinp:inp.length≤1000000000) (hre:r.err.length≤1000000000) (hro:r.out.length≤1000000000) (args:List Str) (h0:¬ args=[]) (hl:args.length≤1000) (ha:∀ a ∈ args,a.length≤1000000) (hS:tw st N L cwd args F F')
  (hE:∀ a ∈ args,(-9223372036854775808≤aA (aI L cwd a).2∧aA (aI L cwd a).2≤9223372036854775807)∧(rdS (aI L cwd a).2).length≤1000000000) :
  UtP pp st cwd um N F F' 54 nm inp args r (oz L cwd nm inp args r):=by
 unfold UtP
 intro q p hp hqN hqp hq hpp hO
 have hqp':¬ pp=q:=fun e=>hqp e.symm
 have hl0:¬ (args.length:Int)=0:=by
  have:=List.length_pos_iff.2 h0;omega
 generalize hr':oz L cwd nm inp args r=r'
 refine aD (n:=64) (rs:=[]) Tryz.func54 rfl rfl (by decide) rfl rfl rfl ?_;rintro x rfl hrd hng
 rw [dK]
 (try ((first|refine zn ?_|refine ze ?_|refine zk ?_);with_reducible (constructor;repeat constructor));try refine zl ?_)
 refine ao nmd [] hng (by kernel_rfl) fun hf C S K hC1 hC hS hK=>?_;simp (disch:=first|omega|assumption) only [go_sem,hl0,List.length_map,decide_true,decide_false,ne_eq,not_false_eq_true]
 refine hK ?_;clear hK hS hC hC1 K S C hf
 (repeat (first|(refine ay rfl rfl ?_)|(refine aw rfl rfl ?_)|(refine ao nmd [] hng (by kernel_rfl) fun hf C S K hC1 hC hS hK=>?_;simp (disch:=first|omega|assumption) only [go_sem];refine hK ?_;clear hK hS hC hC1 K S C hf)|((first|refine zn ?_|refine ze ?_|refine zk ?_);with_reducible (constructor;repeat constructor);try refine zl ?_)))
 refine bV [0,19,20,21] (fun k s'=>∃ (i c:Nat) (G:Oid→ah) (r1:Res),s' = ⟨[(0,.ptr q 0),(19,.list 1 (args.map .str)),(20,.int .i64 args.length),(21,.int .i64 i)],Mem.blk [(q,dL pp nm inp r1),(pp,prC st cwd um)] [(N,G)],c,[]⟩∧k=args.length - i∧i≤args.length∧tw st N L cwd (args.drop i) G F'∧oz L cwd nm inp (args.drop i) r1=r'∧r1.err.length≤1000000000+i * 3000000∧r1.out.length≤1000000000+i * 1000000000) _ ⟨0,_,F,r,rfl,rfl,Nat.zero_le _,hS,hr',by omega,by omega⟩ ?_
 clear hS hr' hre hro
 rintro k s' ⟨i,c,G,r1,rfl,rfl,hi,hS,hr',hre,hro⟩
 (repeat (first|(refine ay rfl rfl ?_)|(refine aw rfl rfl ?_)|(refine ao nmd [] hng (by kernel_rfl) fun hf C S K hC1 hC hS hK=>?_;simp (disch:=first|omega|assumption) only [go_sem];refine hK ?_;clear hK hS hC hC1 K S C hf)|((first|refine zn ?_|refine ze ?_|refine zk ?_);with_reducible (constructor;repeat constructor);try refine zl ?_)))
 refine aP rfl rfl (fun hb=>?_) (fun hb=>?_)
 ·have hlt:i < args.length:=by omega
  have hd:args.drop i=args.getD i default::args.drop (i+1):=by rw [bY hlt];exact List.drop_eq_getElem_cons hlt
  have hgm:args.getD i default ∈ args:=by rw [bY hlt];exact List.getElem_mem hlt
  have hal:=ha _ hgm
  obtain ⟨hEr,hEs⟩:=hE _ hgm
  rw [hd] at hS hr'
  generalize hg:args.getD i default=a at hS hr' hal hEr hEs
  by_cases hm:a=[45]
  ·unfold tw at hS
   unfold oz at hr'
   rw [if_pos hm] at hS hr'
   obtain ⟨st1,out1,err1⟩:=r1
   unfold dL prC
   simp only at hr' hre hro ⊢
   (try ((first|refine zn ?_|refine ze ?_|refine zk ?_);with_reducible (constructor;repeat constructor));try refine zl ?_)
   refine ao nmd [] hng (by kernel_rfl) fun hf C S K hC1 hC hS hK=>?_;simp (disch:=first|omega|assumption) only [go_sem,hg,hlt,List.length_map]
   refine hK ?_;clear hK hS hC hC1 K S C hf
   (try ((first|refine zn ?_|refine ze ?_|refine zk ?_);with_reducible (constructor;repeat constructor));try refine zl ?_)
   refine ao nmd [] hng (by kernel_rfl) fun hf C S K hC1 hC hS hK=>?_;simp (disch:=first|omega|assumption) only [go_sem,hm,eq_self,decide_true]
   refine hK ?_;clear hK hS hC hC1 K S C hf
   (repeat (first|(refine ay rfl rfl ?_)|(refine aw rfl rfl ?_)|(refine ao nmd [] hng (by kernel_rfl) fun hf C S K hC1 hC hS hK=>?_;simp (disch:=first|omega|assumption) only [go_sem];refine hK ?_;clear hK hS hC hC1 K S C hf)|((first|refine zn ?_|refine ze ?_|refine zk ?_);with_reducible (constructor;repeat constructor);try refine zl ?_)))
   refine bJ nmd [] [] mixed hng (by kernel_rfl) [0,19,20,21] fun hf C S K hC hS hK=>?_;simp (disch:=first|omega|assumption) only [go_sem,Oid.ab hq,Oid.aa hq,Oid.ab hpp,Oid.aa hpp,hpN,hqN,hqp,hqp',hO]
   (first|refine hK (aE rfl) ?_|refine hK (by simp (disch:=first|omega|assumption) only [go_sem,List.reverse_cons,List.reverse_nil,ne_eq,not_false_eq_true,implies_true]) ?_);clear hK hS hC K S C hf
   (repeat (first|(refine ay rfl rfl ?_)|(refine aw rfl rfl ?_)|(refine ao nmd [] hng (by kernel_rfl) fun hf C S K hC1 hC hS hK=>?_;simp (disch:=first|omega|assumption) only [go_sem];refine hK ?_;clear hK hS hC hC1 K S C hf)|((first|refine zn ?_|refine ze ?_|refine zk ?_);with_reducible (constructor;repeat constructor);try refine zl ?_)))
   have q1:err1.length≤1000000000+(i+1) * 3000000:=Nat.le_trans hre (Nat.add_le_add_left (Nat.mul_le_mul_right _ (Nat.le_succ i)) _)
   have q2:(out1++inp).length≤1000000000+(i+1) * 1000000000:=by
    rw [List.length_append,Nat.succ_mul,← Nat.add_assoc]
    exact Nat.add_le_add hro hinp
   exact ⟨_,_,by omega,fun _ _ h=>h,i+1,_,G,⟨st1,out1++inp,err1⟩,rfl,rfl,by omega,hS,hr',q1,q2⟩
  ·unfold tw at hS
   unfold oz at hr'
   rw [if_neg hm] at hS hr'
   obtain ⟨G1,hA,hS⟩:=hS
   have hR:=fun p hp hpp hO=>ki (pp:=pp) (st:=st) hK hc um hpN (p:=p) hp hpp hO a (by omega) hA
   have hX:=fun p hp hq=>gH (pp:=pp) nm inp r1 a (aA (aI L cwd a).2) (by omega) (by omega) (by omega) hEr q p hp hq
   obtain ⟨b1,b2⟩:=mN r1 nm a _ hEr
   unfold rdV at hR
   clear hA hEr
   generalize r1.add nm a (aA (aI L cwd a).2)=r2 at hX hr' b1 b2
   generalize aA (aI L cwd a).2=E at hR hX
   generalize rdS (aI L cwd a).2=S1 at hR hEs hr'
   obtain ⟨st1,out1,err1⟩:=r1
   obtain ⟨st2,out2,err2⟩:=r2
   unfold prC at hR ⊢
   unfold dL at hX ⊢
   simp only at hr' hre hro b1 b2 ⊢
   rw [← b2] at hro
   (try ((first|refine zn ?_|refine ze ?_|refine zk ?_);with_reducible (constructor;repeat constructor));try refine zl ?_)
   refine ao nmd [] hng (by kernel_rfl) fun hf C S K hC1 hC hS hK=>?_;simp (disch:=first|omega|assumption) only [go_sem,hg,hlt,List.length_map]
   refine hK ?_;clear hK hS hC hC1 K S C hf
   (try ((first|refine zn ?_|refine ze ?_|refine zk ?_);with_reducible (constructor;repeat constructor));try refine zl ?_)
   refine ao nmd [] hng (by kernel_rfl) fun hf C S K hC1 hC hS hK=>?_;simp (disch:=first|omega|assumption) only [go_sem,hm,decide_false]
   refine hK ?_;clear hK hS hC hC1 K S C hf
   (repeat (first|(refine ay rfl rfl ?_)|(refine aw rfl rfl ?_)|(refine ao nmd [] hng (by kernel_rfl) fun hf C S K hC1 hC hS hK=>?_;simp (disch:=first|omega|assumption) only [go_sem];refine hK ?_;clear hK hS hC hC1 K S C hf)|((first|refine zn ?_|refine ze ?_|refine zk ?_);with_reducible (constructor;repeat constructor);try refine zl ?_)))
   refine ao nmd [] hng (by kernel_rfl) fun hf C S K hC1 hC hS hK=>?_;simp (disch:=first|omega|assumption) only [go_sem,Oid.ab hq,Oid.aa hq,Oid.ab hpp,Oid.aa hpp,hpN,hqN,hqp,hqp',hO]
   refine hC1 _ (hR _ (aq rfl hp) (fun h=>hpp (Oid.ae h)) (hO.sub _ _)) (by simp only [List.mem_cons,forall_eq_or_imp];exact ⟨by simp (disch:=first|omega|assumption) only [go_sem,Oid.ab hq,Oid.aa hq,Oid.ab hpp,Oid.aa hpp,hpN,hqN,hqp,hqp',hO],(by first|exact nbu _|exact nbA (by simp [hpN,hqN,hO.mem]) _)⟩) ?_
   simp (disch:=first|omega|assumption) only [go_sem,Oid.ab hq,Oid.aa hq,Oid.ab hpp,Oid.aa hpp,hpN,hqN,hqp,hqp',hO]
   refine hK ?_;clear hK hS hC hC1 K S C hf
   (try ((first|refine zn ?_|refine ze ?_|refine zk ?_);with_reducible (constructor;repeat constructor));try refine zl ?_)
   refine ao nmd [] hng (by kernel_rfl) fun hf C S K hC1 hC hS hK=>?_;simp (disch:=first|omega|assumption) only [go_sem,Oid.ab hq,Oid.aa hq,Oid.ab hpp,Oid.aa hpp,hpN,hqN,hqp,hqp',hO]
   refine hC1 _ (hX _ (aq rfl hp) (fun h=>hq (Oid.ae h))) (by simp (disch:=first|omega|assumption) only [go_sem,Oid.ab hq,Oid.aa hq,Oid.ab hpp,Oid.aa hpp,hpN,hqN,hqp,hqp',hO]) ?_
   simp (disch:=first|omega|assumption) only [go_sem,Oid.ab hq,Oid.aa hq,Oid.ab hpp,Oid.aa hpp,hpN,hqN,hqp,hqp',hO]
   refine hK ?_;clear hK hS hC hC1 K S C hf
   (repeat (first|(refine ay rfl rfl ?_)|(refine aw rfl rfl ?_)|(refine ao nmd [] hng (by kernel_rfl) fun hf C S K hC1 hC hS hK=>?_;simp (disch:=first|omega|assumption) only [go_sem,Oid.ab hq,Oid.aa hq,Oid.ab hpp,Oid.aa hpp,hpN,hqN,hqp,hqp',hO];refine hK ?_;clear hK hS hC hC1 K S C hf)|((first|refine zn ?_|refine ze ?_|refine zk ?_);with_reducible (constructor;repeat constructor);try refine zl ?_)))
   exact ⟨_,_,by omega,fun _ _ h=>h,i+1,_,G1,⟨st2,out2++S1,err2⟩,rfl,rfl,by omega,hS,hr',by show err2.length≤_;omega,by show (out2++S1).length≤_;rw [List.length_append];omega⟩
 ·have hin:i=args.length:=by omega
  subst hin
  rw [List.drop_length] at hS hr'
  unfold tw at hS
  unfold oz at hr'
  subst hS hr'
  unfold dL prC
  (repeat (first|(refine ay rfl rfl ?_)|(refine aw rfl rfl ?_)|(refine ao nmd [] hng (by kernel_rfl) fun hf C S K hC1 hC hS hK=>?_;simp (disch:=first|omega|assumption) only [go_sem];refine hK ?_;clear hK hS hC hC1 K S C hf)|((first|refine zn ?_|refine ze ?_|refine zk ?_);with_reducible (constructor;repeat constructor);try refine zl ?_)))
  exact bZ (bt (.tuple []) _ rfl ⟨rfl,rfl⟩ (jo hqp (by simp (disch:=first|omega|assumption) only [go_sem,Oid.ab hq,Oid.aa hq,Oid.ab hpp,Oid.aa hpp,hpN,hqN,hqp,hqp',hO]) (by show _=some _;simp (disch:=first|omega|assumption) only [go_sem,Oid.ab hq,Oid.aa hq,Oid.ab hpp,Oid.aa hpp,hpN,hqN,hqp,hqp',hO]) (by first|exact nbu _|exact nbA (by simp [hpN,hqN,hO.mem]) _)))
end
inductive qe (pp st:Oid) (cwd:Str) (um:Int) (N:List Oid) (fu:Nat) (nm:Str):List Str→(Oid→ah)→(Oid→ah)→Res→Res→Prop
 | nil (F:Oid→ah) (r:Res):qe pp st cwd um N fu nm [] F F r r
 | cons (a:Str) (l:List Str) (e:Int) (F F1 F':Oid→ah) (r r':Res) (ha:a.length≤1000000) (he:-9223372036854775808≤e∧e≤9223372036854775807)
   (hd:∀ p,p.mono=false→¬ Oid.under p pp→aY p N→aj Tryz.prog fu [.ptr pp 0,.str a] (Oid.under p) ⟨(pp,prC st cwd um)::bk (N,F),.int .i64 e,sb N F1⟩)
   (t:qe pp st cwd um N fu nm l F1 F' (r.add nm a e) r'):qe pp st cwd um N fu nm (a::l) F F' r r'
theorem Eu {pp st:Oid} {N:List Oid} {F F':Oid→ah} {cwd:Str} (um:Int) (hpN:pp ∉ N) (fu:Nat) (nm inp:Str) (r r':Res) (hnm:nm.length≤1000000) (hre:r.err.length≤1000000000) (args:List Str) (h0:¬ args=[]) (hl:args.length≤1000) (hS:qe pp st cwd um N fu nm args F F' r r')
  (q p:Oid) (hp:p.mono=false) (hqN:q ∉ N) (hqp:¬ q=pp) (hq:¬ Oid.under p q) (hpp:¬ Oid.under p pp) (hO:aY p N) :
  aj Tryz.prog 133 [.ptr q 0,.list 1 (args.map AV.str),.fn (.func fu) [.ptr pp 0] []] (Oid.under p) ⟨(q,dL pp nm inp r)::(pp,prC st cwd um)::bk (N,F),.tuple [],(q,some (dL pp nm inp r'))::sb N F'⟩:=by
 have hqp':¬ pp=q:=fun e=>hqp e.symm
 have hl0:¬ (args.length:Int)=0:=by
  have:=List.length_pos_iff.2 h0;omega
 refine aD (n:=26) (rs:=[]) Tryz.func133 rfl rfl (by decide) rfl rfl rfl ?_;rintro x rfl hrd hng
 rw [dK]
 (try ((first|refine zn ?_|refine ze ?_|refine zk ?_);with_reducible (constructor;repeat constructor));try refine zl ?_)
 refine ao nmd [] hng (by kernel_rfl) fun hf C S K hC1 hC hS hK=>?_;simp (disch:=first|omega|assumption) only [go_sem,hl0,List.length_map,decide_true,decide_false,ne_eq,not_false_eq_true]
 refine hK ?_;clear hK hS hC hC1 K S C hf
 (repeat (first|(refine ay rfl rfl ?_)|(refine aw rfl rfl ?_)|(refine ao nmd [] hng (by kernel_rfl) fun hf C S K hC1 hC hS hK=>?_;simp (disch:=first|omega|assumption) only [go_sem];refine hK ?_;clear hK hS hC hC1 K S C hf)|((first|refine zn ?_|refine ze ?_|refine zk ?_);with_reducible (constructor;repeat constructor);try refine zl ?_)))
 refine bV [0,2,13,14,15] (fun k s'=>∃ (i c:Nat) (G:Oid→ah) (r1:Res),s' = ⟨[(0,.ptr q 0),(2,.fn (.func fu) [.ptr pp 0] []),(13,.list 1 (args.map .str)),(14,.int .i64 args.length),(15,.int .i64 i)],Mem.blk [(q,dL pp nm inp r1),(pp,prC st cwd um)] [(N,G)],c,[]⟩∧k=args.length - i∧i≤args.length∧qe pp st cwd um N fu nm (args.drop i) G F' r1 r'∧r1.err.length≤1000000000+i * 3000000) _ ⟨0,_,F,r,rfl,rfl,Nat.zero_le _,hS,by omega⟩ ?_
 clear hS hre
 rintro k s' ⟨i,c,G,r1,rfl,rfl,hi,hS,hre⟩
 (repeat (first|(refine ay rfl rfl ?_)|(refine aw rfl rfl ?_)|(refine ao nmd [] hng (by kernel_rfl) fun hf C S K hC1 hC hS hK=>?_;simp (disch:=first|omega|assumption) only [go_sem];refine hK ?_;clear hK hS hC hC1 K S C hf)|((first|refine zn ?_|refine ze ?_|refine zk ?_);with_reducible (constructor;repeat constructor);try refine zl ?_)))
 refine aP rfl rfl (fun hb=>?_) (fun hb=>?_)
 ·have hlt:i < args.length:=by omega
  have hd:args.drop i=args.getD i default::args.drop (i+1):=by rw [bY hlt];exact List.drop_eq_getElem_cons hlt
  rw [hd] at hS
  generalize hg:args.getD i default=a at hS
  cases hS with
  | cons _ _ e _ G1 _ _ _ hal hEr hR hS =>
  have hX:=fun p hp hq=>gH (pp:=pp) nm inp r1 a e (by omega) (by omega) (by omega) hEr q p hp hq
  obtain ⟨b1,b2⟩:=mN r1 nm a _ hEr
  clear hEr b2
  generalize r1.add nm a e=r2 at hX hS b1
  have q1:r2.err.length≤1000000000+(i+1) * 3000000:=by omega
  obtain ⟨st1,out1,err1⟩:=r1
  obtain ⟨st2,out2,err2⟩:=r2
  unfold prC at hR ⊢
  unfold dL at hX ⊢
  simp only at hre b1 ⊢
  (try ((first|refine zn ?_|refine ze ?_|refine zk ?_);with_reducible (constructor;repeat constructor));try refine zl ?_)
  refine ao nmd [] hng (by kernel_rfl) fun hf C S K hC1 hC hS hK=>?_;simp (disch:=first|omega|assumption) only [go_sem,hg,hlt,List.length_map]
  refine hK ?_;clear hK hS hC hC1 K S C hf
  (try ((first|refine zn ?_|refine ze ?_|refine zk ?_);with_reducible (constructor;repeat constructor));try refine zl ?_)
  refine ao nmd [] hng (by kernel_rfl) fun hf C S K hC1 hC hS hK=>?_;simp (disch:=first|omega|assumption) only [go_sem,Oid.ab hq,Oid.aa hq,Oid.ab hpp,Oid.aa hpp,hpN,hqN,hqp,hqp',hO]
  refine hC1 _ (hR _ (aq rfl hp) (fun h=>hpp (Oid.ae h)) (hO.sub _ _)) (by simp only [List.mem_cons,forall_eq_or_imp];exact ⟨by simp (disch:=first|omega|assumption) only [go_sem,Oid.ab hq,Oid.aa hq,Oid.ab hpp,Oid.aa hpp,hpN,hqN,hqp,hqp',hO],(by first|exact nbu _|exact nbA (by simp [hpN,hqN,hO.mem]) _)⟩) ?_
  simp (disch:=first|omega|assumption) only [go_sem,Oid.ab hq,Oid.aa hq,Oid.ab hpp,Oid.aa hpp,hpN,hqN,hqp,hqp',hO]
  refine hC1 _ (hX _ (aq rfl hp) (fun h=>hq (Oid.ae h))) (by simp (disch:=first|omega|assumption) only [go_sem,Oid.ab hq,Oid.aa hq,Oid.ab hpp,Oid.aa hpp,hpN,hqN,hqp,hqp',hO]) ?_
  simp (disch:=first|omega|assumption) only [go_sem,Oid.ab hq,Oid.aa hq,Oid.ab hpp,Oid.aa hpp,hpN,hqN,hqp,hqp',hO]
  refine hK ?_;clear hK hS hC hC1 K S C hf
  (repeat (first|(refine ay rfl rfl ?_)|(refine aw rfl rfl ?_)|(refine ao nmd [] hng (by kernel_rfl) fun hf C S K hC1 hC hS hK=>?_;simp (disch:=first|omega|assumption) only [go_sem,Oid.ab hq,Oid.aa hq,Oid.ab hpp,Oid.aa hpp,hpN,hqN,hqp,hqp',hO];refine hK ?_;clear hK hS hC hC1 K S C hf)|((first|refine zn ?_|refine ze ?_|refine zk ?_);with_reducible (constructor;repeat constructor);try refine zl ?_)))
  exact ⟨_,_,by omega,fun _ _ h=>h,i+1,_,G1,⟨st2,out2,err2⟩,rfl,rfl,by omega,hS,q1⟩
 ·have hin:i=args.length:=by omega
  subst hin
  rw [List.drop_length] at hS
  cases hS
  unfold dL prC
  (repeat (first|(refine ay rfl rfl ?_)|(refine aw rfl rfl ?_)|(refine ao nmd [] hng (by kernel_rfl) fun hf C S K hC1 hC hS hK=>?_;simp (disch:=first|omega|assumption) only [go_sem];refine hK ?_;clear hK hS hC hC1 K S C hf)|((first|refine zn ?_|refine ze ?_|refine zk ?_);with_reducible (constructor;repeat constructor);try refine zl ?_)))
  exact bZ (bt (.tuple []) _ rfl ⟨rfl,rfl⟩ (jo hqp (by simp (disch:=first|omega|assumption) only [go_sem,Oid.ab hq,Oid.aa hq,Oid.ab hpp,Oid.aa hpp,hpN,hqN,hqp,hqp',hO]) (by show _=some _;simp (disch:=first|omega|assumption) only [go_sem,Oid.ab hq,Oid.aa hq,Oid.ab hpp,Oid.aa hpp,hpN,hqN,hqp,hqp',hO]) (by first|exact nbu _|exact nbA (by simp [hpN,hqN,hO.mem]) _)))
theorem yf {pp st:Oid} {N:List Oid} {F F':Oid→ah} {cwd:Str} (um:Int) (hpN:pp ∉ N) (nm inp:Str) (r r':Res) (hnm:nm.length≤1000000) (hre:r.err.length≤1000000000) (args:List Str) (h0:¬ args=[]) (hl:args.length≤1000) (hS:qe pp st cwd um N 82 nm args F F' r r') :
  UtP pp st cwd um N F F' 59 nm inp args r r':=by
 unfold UtP
 intro q p hp hqN hqp hq hpp hO
 have hqp':¬ pp=q:=fun e=>hqp e.symm
 have hE:=fun p hp h3 h4 h5=>Eu um hpN 82 nm inp r r' hnm hre args h0 hl hS q p hp hqN hqp h3 h4 h5
 clear hS
 obtain ⟨st1,out1,err1⟩:=r
 obtain ⟨st2,out2,err2⟩:=r'
 unfold prC at hE ⊢
 unfold dL at hE ⊢
 refine aD (n:=12) (rs:=[]) Tryz.func59 rfl rfl (by decide) rfl rfl rfl ?_;rintro x rfl hrd hng
 rw [dK]
 (try ((first|refine zn ?_|refine ze ?_|refine zk ?_);with_reducible (constructor;repeat constructor));try refine zl ?_)
 refine ao nmd [] hng (by kernel_rfl) fun hf C S K hC1 hC hS hK=>?_;simp (disch:=first|omega|assumption) only [go_sem,Oid.ab hq,Oid.aa hq,Oid.ab hpp,Oid.aa hpp,hpN,hqN,hqp,hqp',hO]
 refine hC1 _ (hE _ (aq rfl hp) (fun h=>hq (Oid.ae h)) (fun h=>hpp (Oid.ae h)) (hO.sub _ _)) (by simp only [List.mem_cons,forall_eq_or_imp];exact ⟨by simp (disch:=first|omega|assumption) only [go_sem,Oid.ab hq,Oid.aa hq,Oid.ab hpp,Oid.aa hpp,hpN,hqN,hqp,hqp',hO],by simp (disch:=first|omega|assumption) only [go_sem,Oid.ab hq,Oid.aa hq,Oid.ab hpp,Oid.aa hpp,hpN,hqN,hqp,hqp',hO],(by first|exact nbu _|exact nbA (by simp [hpN,hqN,hO.mem]) _)⟩) ?_
 simp (disch:=first|omega|assumption) only [go_sem,Oid.ab hq,Oid.aa hq,Oid.ab hpp,Oid.aa hpp,hpN,hqN,hqp,hqp',hO]
 refine hK ?_;clear hK hS hC hC1 K S C hf
 exact bZ (bt (.tuple []) _ rfl ⟨rfl,rfl⟩ (jo hqp (by simp (disch:=first|omega|assumption) only [go_sem,Oid.ab hq,Oid.aa hq,Oid.ab hpp,Oid.aa hpp,hpN,hqN,hqp,hqp',hO]) (by show _=some _;simp (disch:=first|omega|assumption) only [go_sem,Oid.ab hq,Oid.aa hq,Oid.ab hpp,Oid.aa hpp,hpN,hqN,hqp,hqp',hO]) (by first|exact nbu _|exact nbA (by simp [hpN,hqN,hO.mem]) _)))
end Go.Proofs.YtfbnaalhioogoaaGreatDoor
