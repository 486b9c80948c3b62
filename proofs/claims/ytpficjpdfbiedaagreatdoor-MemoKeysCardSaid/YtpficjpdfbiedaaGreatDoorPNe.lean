/- A part of the proof: the texts E4, E5, E6, E7, E8, E9, MX, E10, E11, E12, E13, E14, R1, R2, R3, R4, R5, MY, one behind the other. -/
import Derived.Test.YtpficjpdfbiedaaGreatDoorPNd
import Derived.Laws.IdiomStrings
set_option linter.unusedVariables false
set_option linter.unusedSimpArgs false
set_option linter.unusedSectionVars false
namespace Go.Proofs.YtpficjpdfbiedaaGreatDoor
open Go Go.Ab
set_option maxRecDepth 20000
set_option maxHeartbeats 4000000
theorem nbE {A:List (Oid × af)} {N:List Oid} {F:Oid→af} (hA:∀ e ∈ A,e.1 ∉ N) (Bs:List Bk):∀ x,x ∈ bk (N,F)→Mem.blk A ((N,F)::Bs) x.1=some x.2:=by
 induction A with
 | nil=>intro x hx;obtain ⟨h1,h2⟩:=eE.1 hx;rw [gI,if_pos h1,h2]
 | cons a A ih =>
  intro x hx
  rw [Mem.kC,if_neg fun e:x.1=a.1=>hA a List.mem_cons_self (e ▸ (eE.1 hx).1)]
  exact ih (fun e he=>hA e (List.mem_cons_of_mem _ he)) x hx
theorem sn (t u:Nat) (a b:AV) (fr:List (Nat × AV)):gb [t,u] [a,b] fr=(u,b)::(t,a)::fr:=rfl
theorem oJ {A:List (Oid × af)} {N:List Oid} {F:Oid→af} {i:Oid} (h:Mem.blk A [(N,F)] i=none):(∀ e ∈ A,¬ e.1=i)∧i ∉ N:=by
 induction A with
 | nil =>
  refine ⟨fun e he=>(by cases he),fun hi=>?_⟩
  rw [gI,if_pos hi] at h;cases h
 | cons a A ih =>
  rw [Mem.kC] at h
  split at h
  ·cases h
  ·rename_i hne
   obtain ⟨h1,h2⟩:=ih h
   refine ⟨fun e he=>?_,h2⟩
   rcases List.mem_cons.1 he with rfl|he
   ·exact fun e=>hne e.symm
   ·exact h1 e he
def jt (f:Nat→Bool):Nat→Int
 | 0=>-1
 | n+1=>if f n=true then (n:Int) else jt f n
def vc (L:PL) (key:Str) (m:Mm):Bool:=decide (m.key=key) && fc L m.rd
def vd (L:PL) (l:List Mm) (key:Str):Int:=jt (fun i=>vc L key (l.getD i default)) l.length
theorem oK (l:List Mm) (p:Oid):ak Tryz.prog 59 [.list 6 (l.map Mm.av)] (Oid.under p) ⟨[],.fn (.func 102) [] [.ptr (.sub 0 0 p) 0],[(.sub 0 0 p,some (.cells [.list 6 (l.map Mm.av)]))]⟩:=by
 refine aK (n:=4) (rs:=[.tmp 2]) Tryz.func59 rfl rfl (by decide) rfl rfl rfl ?_;rintro x rfl hrd hng
 refine qw0 ?_
 refine ar (a7 rfl ?_ ?_)
 ·simp (disch:=first|omega|assumption) only [go_sem]
  intro o h;exact h
 ·simp (disch:=first|omega|assumption) only [go_sem]
theorem ve {st:Oid} {s:St} {N:List Oid} {G:Oid→af} (h:wV st s N G) (hs:SOK s) (l:List Mm) (key:Str) (hl:l.length≤4000000000) (hr:∀ m ∈ l,m.rd.length≤4000000000∧∀ h ∈ m.rd,h.1.1.length≤140737488355000) (p:Oid) (hp:p.mono=false) (hO:iE p N) :
  ak Tryz.prog 20 [.list 6 (l.map Mm.av),.str key,.ptr st 0] (Oid.under p) ⟨bk (N,G),.int .i64 (vd s.L l key),[]⟩:=by
 have hag:=fun (m:Mm) (hm:m ∈ l) p hp ho=>pZ h hs m.rd (hr m hm).1 (hr m hm).2 p hp ho
 have hB:=fun p=>oK l p
 refine aK (n:=24) (rs:=[.cell 6 3]) Tryz.func20 rfl rfl (by decide) rfl rfl rfl ?_;rintro x rfl hrd hng
 rw [yV]
 refine qw0 ?_
 refine qr .o hO (cq (hB _) trivial) ?_
 have hk0:Oid.sub 0 0 x.p ∉ N:=hO.mem
 have hk1:Oid.sub 0 1 x.p ∉ N:=hO.mem
 have hk2:Oid.sub 0 2 x.p ∉ N:=hO.mem
 have hk3:Oid.sub 0 0 (.sub 1 1 x.p) ∉ N:=hO.z8
 have hNm:∀ (A:List (Oid × af)),(∀ e ∈ A,e.1 ∉ N)→∀ q ∈ ([(N,G)].map bk).flatten,Mem.blk A [(N,G)] q.1=some q.2:=fun A hA q hq=>by
  exact nbE (F:=G) hA [] q (by simpa using hq)
 generalize hf:(fun i=>vc s.L key (l.getD i default))=f
 have hfm:vd s.L l key=jt f l.length:=by rw [← hf];rfl
 refine iG (need:=[(Oid.sub 0 0 (.sub 1 1 x.p),.cells [.list 6 (l.map Mm.av)])]) hrd hng (by decide) rfl rfl (u7 (.sub 0 0 (.sub 1 1 x.p)) l hl _ (ay rfl hp) (fun hu=>by have:=(Oid.apart hu (Oid.aj (Oid.ah _))).1;omega)) ?_
  (fun jump pre L=>∃ (k:Nat) (r:Int),k≤l.length∧pre=ew l k∧L=[(Oid.sub 0 0 x.p,af.cells [.str key]),(Oid.sub 0 1 x.p,af.cells [.ptr st 0]),(Oid.sub 0 2 x.p,af.cells [.int .i64 r])]++([(N,G)].map bk).flatten∧(jump=none∧r=0∧jt f l.length=jt f (l.length - k)∨jump=some .ret∧jt f l.length=r))
  ([(Oid.sub 0 0 x.p,af.cells [.str key]),(Oid.sub 0 1 x.p,af.cells [.ptr st 0]),(Oid.sub 0 2 x.p,af.cells [.int .i64 0])]++([(N,G)].map bk).flatten) ⟨0,0,Nat.zero_le _,rfl,rfl,.inl ⟨rfl,rfl,rfl⟩⟩ ?_ ?_
  (fun pre xs L1 p' s=>F s.fr 7 = .int .i64 ((l.length - 1 - pre.length:Nat):Int)∧F s.fr 8 = .ptr (.sub 1 0 p') 0∧F s.fr 4 = .ptr (.sub 0 0 x.p) 0∧F s.fr 5 = .ptr (.sub 0 1 x.p) 0∧F s.fr 6 = .ptr (.sub 0 2 x.p) 0∧(∀ q,q ∈ (Oid.sub 1 0 p',af.cells (l.getD (l.length - 1 - pre.length) default).av.cells)::L1→s.mem q.1=some q.2)∧s.ds=[]∧1 < s.c∧Oid.sub 1 0 p' ∉ N) ?_ ?_ ?_ ?_
 ·intro q hq
  rw [List.mem_singleton.1 hq];simp (disch:=first|omega|assumption) only [go_sem,hO]
 ·intro q hq
  rcases List.mem_append.1 hq with hq|hq
  ·simp only [List.mem_cons,List.not_mem_nil,or_false] at hq
   rcases hq with rfl|rfl|rfl<;>simp (disch:=first|omega|assumption) only [go_sem,hO]
  ·exact hNm _ (fun e he=>by
    simp only [List.mem_cons,List.not_mem_nil,or_false] at he
    rcases he with rfl|rfl|rfl|rfl<;>assumption) q hq
 ·intro q hq q' hq' e
  rw [List.mem_singleton.1 hq'] at e
  rcases List.mem_append.1 hq with hq|hq
  ·simp only [List.mem_cons,List.not_mem_nil,or_false] at hq
   rcases hq with rfl|rfl|rfl<;>(have:=congrArg Oid.depth e;simp only [Oid.depth] at this;omega)
  ·have hq2:q ∈ bk (N,G):=by simpa using hq
   have e':q.1=Oid.sub 0 0 (.sub 1 1 x.p):=e
   exact hk3 (e' ▸ (eE.1 hq2).1)
 ·rintro y l0 pre xs L1 ⟨k,r,hk,rfl,rfl,hj⟩ _ ⟨hlen,rfl⟩ hyr hyg hpm
  refine lL (iA fun hf=>?_)
  replace hng:=hyg
  have hyN:Oid.sub 1 0 y.p ∉ N:=(oJ (F:=G) (hf (.sub 1 0 y.p) ⟨1,0,by omega,Oid.ah _⟩)).2
  clear hf
  generalize l.getD (l.length - 1 - (ew l k).length) default=g
  generalize ((l.length - 1 - (ew l k).length:Nat):Int)=i
  show T Tryz.prog y 24 _ ⟨_,Mem.blk ([(Oid.sub 0 0 x.p,af.cells [.str key]),(Oid.sub 0 1 x.p,af.cells [.ptr st 0]),(Oid.sub 0 2 x.p,af.cells [.int .i64 r])]) [(N,G)],0,[]⟩ _
  obtain ⟨gk,gr,gw,gs,go,ge⟩:=g
  simp only [Mm.av]
  (repeat (first|(refine aA rfl rfl ?_)|(refine aB rfl rfl ?_)|(refine az nmd [] hng (by kernel_rfl) fun hf C S K hC1 hC hS hK=>?_;simp (disch:=first|omega|assumption) only [go_sem,sn,AV.cells,hyN];refine hK ?_;clear hK hS hC hC1 K S C hf)|((first|refine zn ?_|refine ze ?_|refine zk ?_);with_reducible (constructor;repeat constructor);try refine zl ?_)))
  refine dS ⟨rfl,rfl,rfl,rfl,rfl,rfl,fun q hq=>?_,rfl,by show 1 < 0+1+1;omega,hyN⟩
  rcases List.mem_cons.1 hq with rfl|hq
  ·simp (disch:=first|omega|assumption) only [go_sem,AV.cells]
  rcases List.mem_append.1 hq with hq|hq
  ·simp only [List.mem_cons,List.not_mem_nil,or_false] at hq
   rcases hq with rfl|rfl|rfl<;>simp (disch:=first|omega|assumption) only [go_sem]
  ·exact hNm _ (fun e he=>by
    simp only [List.mem_cons,List.not_mem_nil,or_false] at he
    rcases he with rfl|rfl|rfl|rfl<;>assumption) q hq
 ·rintro y l0 pre xs L1 ⟨fr,m,c,ds⟩ ⟨k,r,hk,rfl,rfl,hj⟩ _ ⟨hlen,rfl⟩ hyr hyg hpm ⟨h7,h8,h4,h5,h6,hm,rfl,hc,hyN⟩
  rcases hj with ⟨-,rfl,hj⟩|⟨hj,_⟩
  rotate_left
  ·cases hj
  have hbl:(ew l k).length=k:=by simp [ew]
  have hbs:=kG l k
  rw [hbl] at hlen h7 hm ⊢
  simp only at h7 h8 h4 h5 h6 hm hc
  have hfi:f (l.length - 1 - k)=vc s.L key (l.getD (l.length - 1 - k) default):=by rw [← hf]
  have hbf:jt f (l.length - k)=if f (l.length - 1 - k)=true then ((l.length - 1 - k:Nat):Int) else jt f (l.length - (k+1)):=by
   have e1:l.length - k=(l.length - 1 - k)+1:=by omega
   have e2:l.length - (k+1)=l.length - 1 - k:=by omega
   rw [e1,e2];rfl
  rw [← hbs]
  have hgm:l.getD (l.length - 1 - k) default ∈ l:=by
   rw [ik (show l.length - 1 - k < l.length by omega)];exact List.getElem_mem _
  have hag1:=hag _ hgm
  generalize hg:l.getD (l.length - 1 - k) default=g at hm hfi hag1
  obtain ⟨gk,gr,gw,gs,go,ge⟩:=g
  simp only [Mm.av,AV.cells] at hm
  refine lL (xL [(4,.ptr (.sub 0 0 x.p) 0),(5,.ptr (.sub 0 1 x.p) 0),(6,.ptr (.sub 0 2 x.p) 0),(7,.int .i64 ((l.length - 1 - k:Nat):Int)),(8,.ptr (.sub 1 0 y.p) 0)] rfl (by simp [h4,h5,h6,h7,h8]) (fh _ hm (iA fun hf2=>?_)))
  replace hng:=hyg
  have hON:lb y.p c N:=fun i hi hy=>(oJ (A:=(Oid.sub 1 0 y.p,af.cells [.str gk,.list 3 (gr.map tchAV),.list 3 (gw.map tchAV),.int .i64 gs,.str go,.str ge])::[(Oid.sub 0 0 x.p,af.cells [.str key]),(Oid.sub 0 1 x.p,af.cells [.ptr st 0]),(Oid.sub 0 2 x.p,af.cells [.int .i64 0])]) (F:=G) (hf2 i hy)).2 hi
  clear hf2
  show T Tryz.prog y 24 _ ⟨_,Mem.blk ((Oid.sub 1 0 y.p,af.cells [.str gk,.list 3 (gr.map tchAV),.list 3 (gw.map tchAV),.int .i64 gs,.str go,.str ge])::[(Oid.sub 0 0 x.p,af.cells [.str key]),(Oid.sub 0 1 x.p,af.cells [.ptr st 0]),(Oid.sub 0 2 x.p,af.cells [.int .i64 0])]) [(N,G)],c,[]⟩ _
  by_cases hkey:gk=key
  ·have hfb:f (l.length - 1 - k)=fc s.L gr:=by rw [hfi];simp [vc,hkey]
   rw [hfb] at hbf
   (try ((first|refine zn ?_|refine ze ?_|refine zk ?_);with_reducible (constructor;repeat constructor));try refine zl ?_)
   refine az nmd [(4,17)] hng (by kernel_rfl) fun hf C S K hC1 hC hS hK=>?_;simp (disch:=first|omega|assumption) only [go_sem,hkey,hk0,hk1,hk2,hyN]
   refine hC1 _ (hag1 _ (ay rfl hpm) (hON.sub (by omega) _)) (nbE (fun e he=>by
    simp only [List.mem_cons,List.not_mem_nil,or_false] at he
    rcases he with rfl|rfl|rfl|rfl<;>assumption) []) ?_
   simp (disch:=first|omega|assumption) only [go_sem,hkey,hk0,hk1,hk2,hyN]
   refine hK ?_;clear hK hS hC hC1 K S C hf
   generalize fc s.L gr=b at hbf ⊢
   cases b with
   | true =>
    rw [if_pos rfl] at hbf
    refine qw (ai hk0 (ai hk1 (ai hk2 hyN))) ?_
    refine ar ⟨_,⟨k+1,_,by omega,rfl,rfl,.inr ⟨rfl,hj.trans hbf⟩⟩,fun q hq=>by
     rcases List.mem_append.1 hq with hq|hq
     ·simp only [List.mem_cons,List.not_mem_nil,or_false] at hq
      rcases hq with rfl|rfl|rfl<;>simp (disch:=first|omega|assumption) only [go_sem,hk0,hk1,hk2,hyN]
     ·exact hNm _ (fun e he=>by
       simp only [List.mem_cons,List.not_mem_nil,or_false] at he
       rcases he with rfl|rfl|rfl|rfl<;>assumption) q hq,fun q hq=>.inl (by
     rcases List.mem_append.1 hq with hq|hq
     ·simp only [List.mem_cons,List.not_mem_nil,or_false] at hq
      rcases hq with rfl|rfl|rfl
      ·exact ⟨_,List.mem_append_left _ List.mem_cons_self,rfl⟩
      ·exact ⟨_,List.mem_append_left _ (List.mem_cons_of_mem _ List.mem_cons_self),rfl⟩
      ·exact ⟨_,List.mem_append_left _ (List.mem_cons_of_mem _ (List.mem_cons_of_mem _ List.mem_cons_self)),rfl⟩
     ·exact ⟨q,List.mem_append_right _ hq,rfl⟩)⟩
   | false =>
    rw [if_neg (by decide)] at hbf
    refine qw0 ?_
    refine dS ⟨_,⟨k+1,0,by omega,rfl,rfl,.inl ⟨rfl,rfl,hj.trans hbf⟩⟩,fun q hq=>by
    rcases List.mem_append.1 hq with hq|hq
    ·simp only [List.mem_cons,List.not_mem_nil,or_false] at hq
     rcases hq with rfl|rfl|rfl<;>simp (disch:=first|omega|assumption) only [go_sem,hk0,hk1,hk2,hyN]
    ·exact hNm _ (fun e he=>by
      simp only [List.mem_cons,List.not_mem_nil,or_false] at he
      rcases he with rfl|rfl|rfl|rfl<;>assumption) q hq,fun q hq=>.inl (by
    rcases List.mem_append.1 hq with hq|hq
    ·simp only [List.mem_cons,List.not_mem_nil,or_false] at hq
     rcases hq with rfl|rfl|rfl<;>exact ⟨_,List.mem_append_left _ (by simp),rfl⟩
    ·exact ⟨q,List.mem_append_right _ hq,rfl⟩)⟩
  ·have hfb:f (l.length - 1 - k)=false:=by rw [hfi];simp [vc,hkey]
   rw [hfb,if_neg (by decide)] at hbf
   refine qr (.d [] [(4,17)] []) (ai hkey (ai hk0 (ai hk1 (ai hk2 hyN)))) trivial ?_
   refine qw0 ?_
   refine dS ⟨_,⟨k+1,0,by omega,rfl,rfl,.inl ⟨rfl,rfl,hj.trans hbf⟩⟩,fun q hq=>by
    rcases List.mem_append.1 hq with hq|hq
    ·simp only [List.mem_cons,List.not_mem_nil,or_false] at hq
     rcases hq with rfl|rfl|rfl<;>simp (disch:=first|omega|assumption) only [go_sem,hk0,hk1,hk2,hyN]
    ·exact hNm _ (fun e he=>by
      simp only [List.mem_cons,List.not_mem_nil,or_false] at he
      rcases he with rfl|rfl|rfl|rfl<;>assumption) q hq,fun q hq=>.inl (by
    rcases List.mem_append.1 hq with hq|hq
    ·simp only [List.mem_cons,List.not_mem_nil,or_false] at hq
     rcases hq with rfl|rfl|rfl<;>exact ⟨_,List.mem_append_left _ (by simp),rfl⟩
    ·exact ⟨q,List.mem_append_right _ hq,rfl⟩)⟩
 ·rintro pre L' m' ⟨k0,hk0',rfl,hall⟩ ⟨k,r,hk,hpre,rfl,hj⟩ hL' hd hold hnm
  rcases hj with ⟨-,rfl,hj⟩|⟨hj,_⟩
  rotate_left
  ·cases hj
  have hkk:k0=k:=by have:=congrArg List.length hpre;simpa [ew] using this
  rw [← hkk,hall rfl,Nat.sub_self] at hj
  refine fh ((Oid.sub (0+1+1) 0 x.p,af.dfr)::([(Oid.sub 0 0 x.p,af.cells [.str key]),(Oid.sub 0 1 x.p,af.cells [.ptr st 0]),(Oid.sub 0 2 x.p,af.cells [.int .i64 0])]++([(N,G)].map bk).flatten)) (fun q hq=>(List.mem_cons.1 hq).elim (fun e=>by rw [e];exact hd) (hL' q)) ?_
  show T Tryz.prog x 24 _ ⟨_,Mem.blk ((Oid.sub (0+1+1) 0 x.p,af.dfr)::[(Oid.sub 0 0 x.p,af.cells [.str key]),(Oid.sub 0 1 x.p,af.cells [.ptr st 0]),(Oid.sub 0 2 x.p,af.cells [.int .i64 0])]) [(N,G)],_,_⟩ _
  refine qw hO ?_
  refine ar ⟨by simp (disch:=first|omega|assumption) only [go_sem,hO],.int .i64 (-1),[],by simp (disch:=first|omega|assumption) only [go_sem,hO],⟨(congrArg (AV.int .i64) (hfm.trans hj)).symm,rfl⟩,fun i o hi=>by
   obtain ⟨q,hq,rfl,rfl⟩:=Mem.cF (show Mem.of (bk (N,G)) i=some o from hi)
   have hqN:=(eE.1 hq).1
   have hne:¬ q.1=Oid.sub (0+1+1) 0 x.p:=fun e=>hO.mem (e ▸ hqN)
   simp only [Mem.set,if_neg hne]
   exact nbE (fun e he=>by
    simp only [List.mem_cons,List.not_mem_nil,or_false] at he
    rcases he with rfl|rfl|rfl|rfl
    ·exact hO.mem
    all_goals assumption) [] q hq⟩
 ·rintro pre L' m' cd ⟨k0,hk0',rfl,hall⟩ ⟨k,r,hk,hpre,rfl,hj⟩ hL' hd hold hnm
  rcases hj with ⟨hj,_⟩|⟨hcd,hj⟩
  ·cases hj
  obtain rfl:=Option.some.inj hcd
  refine fh ((Oid.sub (0+1+1) 0 x.p,af.dfr)::([(Oid.sub 0 0 x.p,af.cells [.str key]),(Oid.sub 0 1 x.p,af.cells [.ptr st 0]),(Oid.sub 0 2 x.p,af.cells [.int .i64 r])]++([(N,G)].map bk).flatten)) (fun q hq=>(List.mem_cons.1 hq).elim (fun e=>by rw [e];exact hd) (hL' q)) ?_
  show T Tryz.prog x 24 _ ⟨_,Mem.blk ((Oid.sub (0+1+1) 0 x.p,af.dfr)::[(Oid.sub 0 0 x.p,af.cells [.str key]),(Oid.sub 0 1 x.p,af.cells [.ptr st 0]),(Oid.sub 0 2 x.p,af.cells [.int .i64 r])]) [(N,G)],_,_⟩ _
  refine ar ⟨by simp (disch:=first|omega|assumption) only [go_sem,hO],.int .i64 r,[],by simp (disch:=first|omega|assumption) only [go_sem,hO],⟨(congrArg (AV.int .i64) (hfm.trans hj)).symm,rfl⟩,fun i o hi=>by
   obtain ⟨q,hq,rfl,rfl⟩:=Mem.cF (show Mem.of (bk (N,G)) i=some o from hi)
   have hqN:=(eE.1 hq).1
   have hne:¬ q.1=Oid.sub (0+1+1) 0 x.p:=fun e=>hO.mem (e ▸ hqN)
   simp only [Mem.set,if_neg hne]
   exact nbE (fun e he=>by
    simp only [List.mem_cons,List.not_mem_nil,or_false] at he
    rcases he with rfl|rfl|rfl|rfl
    ·exact hO.mem
    all_goals assumption) [] q hq⟩
end Go.Proofs.YtpficjpdfbiedaaGreatDoor
namespace Go.Proofs.YtpficjpdfbiedaaGreatDoor
open Go Go.Ab
set_option maxRecDepth 20000
set_option maxHeartbeats 4000000
def okF (b:Str):Prop:=b=[48]∨b=[49]
instance (b:Str):Decidable (okF b):=by unfold okF;infer_instance
theorem dI (a b c:Str) (l:List Str):eD (a::b::c::l)=if okF b then (eD l).map (((a,decide (b=[49])),c)::·) else none:=rfl
theorem ja (x y z:Str):∀ (a:List Str) (ts:List Tch),eD a=some ts→eD (a++[x,y,z])=if okF y then some (ts++[((x,decide (y=[49])),z)]) else none
 | [],ts,h=>by
  obtain rfl:=Option.some.inj h
  rw [List.nil_append,dI]
  split<;>rfl
 | [_],_,h=>by cases h
 | [_,_],_,h=>by cases h
 | a::b::c::l,ts,h=>by
  rw [dI] at h
  rw [List.cons_append,List.cons_append,List.cons_append,dI]
  split at h
  ·rename_i hb
   rw [Option.map_eq_some_iff] at h
   obtain ⟨u,hu,rfl⟩:=h
   rw [if_pos hb,ja x y z l u hu]
   split<;>rfl
  ·cases h
theorem kJ (x y z:Str) (r:List Str) (hy:¬ okF y):∀ (k:Nat) (a:List Str),a.length=3 * k→eD (a++x::y::z::r)=none
 | 0,a,h=>by
  obtain rfl:=List.eq_nil_of_length_eq_zero (by omega:a.length=0)
  rw [List.nil_append,dI,if_neg hy]
 | k+1,a,h=>by
  match a,h with
  | a::b::c::l,h =>
   rw [List.cons_append,List.cons_append,List.cons_append,dI,kJ x y z r hy k l (by simp only [List.length_cons] at h;omega)]
   split<;>rfl
theorem iI:∀ (l:List Str) (ts:List Tch),eD l=some ts→l.length=3 * ts.length
 | [],ts,h=>by obtain rfl:=Option.some.inj h;rfl
 | [_],_,h=>by cases h
 | [_,_],_,h=>by cases h
 | a::b::c::l,ts,h=>by
  rw [dI] at h
  split at h
  ·rw [Option.map_eq_some_iff] at h
   obtain ⟨u,hu,rfl⟩:=h
   have:=iI l u hu
   simp only [List.length_cons];omega
  ·cases h
def zO (l:List Tch) (v:AV) (L:List (Oid × af)) (sp:Oid→Prop):Prop :=
 (l=[]∧v = .nilSl∧L=[])∨(¬ l=[]∧∃ id,v = .sl id 3 l.length∧L=[(id,.arr 3 (l.map tchAV))]∧sp id)
theorem wY {ts:List Tch} {v:AV} {L1:List (Oid × af)} {p:Oid} (hr:zO ts v L1 (fun id=>¬ id = .sub 0 0 p∧¬ id = .sub 0 1 p)):∀ q ∈ [(Oid.sub 0 0 p,af.cells [v]),(Oid.sub 0 1 p,af.cells [.bool false])]++L1,Mem.of ([(Oid.sub 0 0 p,af.cells [v]),(Oid.sub 0 1 p,af.cells [.bool false])]++L1) q.1=some q.2:=by
 rcases hr with ⟨_,_,rfl⟩|⟨_,id,_,rfl,h0,h1⟩
 ·simp only [bc,bp,Mem.al,Mem.aL,Mem.aN,Mem.aU,bI,bV,List.cons_append,List.nil_append,List.append_nil,↓reduceIte,eq_self,and_true,true_and,and_self,and_false,false_and,reduceCtorEq,Oid.sub.injEq,Nat.reduceEqDiff]
 ·simp only [bc,bp,Mem.al,Mem.aL,Mem.aN,Mem.aU,bI,bV,List.cons_append,List.nil_append,List.append_nil,↓reduceIte,eq_self,and_true,true_and,and_self,and_false,false_and,reduceCtorEq,Oid.sub.injEq,Nat.reduceEqDiff,h0,h1]
theorem vf {l:List Str} {k:Nat} (h:3 * k+3≤l.length):l.take (3 * (k+1))=l.take (3 * k)++[l.getD (3 * k) default,l.getD (3 * k+1) default,l.getD (3 * k+2) default]:=by
 have e:3 * (k+1)=3 * k+1+1+1:=by omega
 rw [e,List.take_add_one,List.take_add_one,List.take_add_one]
 simp only [List.getD_eq_getElem?_getD,List.getElem?_eq_getElem (show 3 * k < l.length by omega),List.getElem?_eq_getElem (show 3 * k+1 < l.length by omega),List.getElem?_eq_getElem (show 3 * k+1+1 < l.length by omega),Option.toList,Option.getD_some,List.append_assoc,List.cons_append,List.nil_append]
theorem vg {l:List Str} {k:Nat} (h:3 * k+3≤l.length):l=l.take (3 * k)++l.getD (3 * k) default::l.getD (3 * k+1) default::l.getD (3 * k+2) default::l.drop (3 * k+3):=by
 have h1:=List.take_append_drop (3 * (k+1)) l
 rw [vf h] at h1
 conv=>lhs;rw [← h1]
 simp [show 3 * (k+1)=3 * k+3 by omega]
def lS (o:Option (List Tch)):AV:=match o with
 | some l=>.tuple [.list 3 (l.map tchAV),.bool true]
 | none=>.tuple [.nilSl,.bool false]
theorem vh (l:List Str) (p:Oid):ak Tryz.prog 76 [.list 1 (l.map AV.str),.int .i64 3] (Oid.under p) ⟨[],.fn (.func 118) [] [.ptr (.sub 0 0 p) 0,.ptr (.sub 0 1 p) 0],[(.sub 0 0 p,some (.cells [.list 1 (l.map AV.str)])),(.sub 0 1 p,some (.cells [.int .i64 3]))]⟩:=by
 refine aK (n:=9) (rs:=[.tmp 4]) Tryz.func76 rfl rfl (by decide) rfl rfl rfl ?_;rintro x rfl hrd hng
 refine qw0 ?_
 refine ar (a7 rfl ?_ ?_)
 ·simp (disch:=first|omega|assumption) only [go_sem]
  exact ⟨fun o h=>h,fun o h=>h⟩
 ·simp (disch:=first|omega|assumption) only [go_sem]
theorem oL (s:Str) (hl:s.length≤4000000000) (p:Oid) (hp:p.mono=false):ak Tryz.prog 30 [.str s] (Oid.under p) ⟨[],lS (dv s),[]⟩:=by
 have hD:=fun p hp=>lI s hl p hp
 unfold dv
 cases hd:dD s with
 | none =>
  rw [hd] at hD
  refine aK (n:=48) (rs:=[.cell 2 27,.cell 3 4]) Tryz.func30 rfl rfl (by decide) rfl rfl rfl ?_;rintro x rfl hrd hng
  refine qr0 ?_
  simp only [kZ] at hD
  refine qw0 ?_
  refine qr1 (hD _) ?_
  have h20:¬ (20:Int)=0:=by decide
  refine qr (.d [] [(2,14)] []) h20 trivial ?_
  refine qw0 ?_
  exact ar (aq (by simp (disch:=first|omega|assumption) only [go_sem];rfl))
 | some l =>
  rw [hd] at hD
  have hml:=ki hd
  have hll:l.length≤s.length:=by
   have:=congrArg List.length (iB hd)
   have h2:∀ q:List Str,q.length≤(aC q).length:=fun q=>by
    induction q with
    | nil=>exact Nat.zero_le _
    | cons a q ih =>
     have:=bs a
     rw [aC,List.length_append,List.length_cons];omega
   have:=h2 l
   omega
  have e3:((l.length:Int)).tmod 3=((l.length % 3:Nat):Int):=cT _ 3
  show ak _ _ _ _ ⟨[],lS (eD l),[]⟩
  simp only [kZ] at hD
  by_cases h3:l.length % 3=0
  case neg =>
   have hnn:eD l=none:=by
    cases ht:eD l with
    | none=>rfl
    | some ts=>have:=iI l ts ht;omega
   rw [hnn]
   have h3':¬ ((l.length % 3:Nat):Int)=0:=by omega
   refine aK (n:=48) (rs:=[.cell 2 27,.cell 3 4]) Tryz.func30 rfl rfl (by decide) rfl rfl rfl ?_;rintro x rfl hrd hng
   refine qw0 ?_
   refine qr1 (hD _) ?_
   refine qr (.d [] [(2,14)] []) (ai e3 h3') trivial ?_
   refine qw0 ?_
   exact ar (aq (by simp (disch:=first|omega|assumption) only [go_sem];rfl))
  obtain ⟨n,hn⟩:∃ n,l.length=3 * n:=⟨l.length / 3,by omega⟩
  have hCh:=fun p=>vh l p
  have h3':((l.length % 3:Nat):Int)=0:=by omega
  refine aK (n:=48) (rs:=[.cell 2 27,.cell 3 4]) Tryz.func30 rfl rfl (by decide) rfl rfl rfl ?_;rintro x rfl hrd hng
  refine qw0 ?_
  refine qr1 (hD _) ?_
  refine qr (.d [] [(2,14)] []) (ai e3 h3') trivial ?_
  refine qw0 ?_
  refine qr1 (hCh _) ?_
  refine iG (need:=[(Oid.sub 0 0 (.sub 3 1 x.p),.cells [.list 1 (l.map AV.str)]),(Oid.sub 0 1 (.sub 3 1 x.p),.cells [.int .i64 3])]) hrd hng (by decide) rfl rfl (sd (.sub 0 0 (.sub 3 1 x.p)) (.sub 0 1 (.sub 3 1 x.p)) l n hn (by omega) _ (ay rfl hp) (by simp) (fun hu=>by have:=(Oid.apart hu (Oid.aj (Oid.ah _))).1;omega) (fun hu=>by have:=(Oid.apart hu (Oid.aj (Oid.ah _))).1;omega)) ?_
   (fun jump pre L=>∃ k,k≤n∧pre=iZ l k∧((jump=none∧∃ ts v L1,eD (l.take (3 * k))=some ts∧zO ts v L1 (fun id=>¬ id = .sub 0 0 x.p∧¬ id = .sub 0 1 x.p)∧L=[(Oid.sub 0 0 x.p,af.cells [v]),(Oid.sub 0 1 x.p,af.cells [.bool false])]++L1)∨(jump=some .ret∧eD l=none∧L=[(Oid.sub 0 0 x.p,af.cells [.nilSl]),(Oid.sub 0 1 x.p,af.cells [.bool false])])))
   [(Oid.sub 0 0 x.p,af.cells [.nilSl]),(Oid.sub 0 1 x.p,af.cells [.bool false])] ⟨0,Nat.zero_le _,rfl,.inl ⟨rfl,[],.nilSl,[],rfl,.inl ⟨rfl,rfl,rfl⟩,rfl⟩⟩ ?_ ?_
   (fun pre xs L1 p' s=>F s.fr 6 = .list 1 (chk l pre.length)∧F s.fr 2 = .ptr (.sub 0 0 x.p) 0∧F s.fr 3 = .ptr (.sub 0 1 x.p) 0∧(∀ q,q ∈ L1→s.mem q.1=some q.2)∧s.ds=[]∧0 < s.c) ?_ ?_ ?_ ?_
  ·intro q hq
   simp only [List.mem_cons,List.not_mem_nil,or_false] at hq
   rcases hq with rfl|rfl<;>simp (disch:=first|omega|assumption) only [go_sem]
  ·intro q hq
   simp only [List.mem_cons,List.not_mem_nil,or_false] at hq
   rcases hq with rfl|rfl<;>simp (disch:=first|omega|assumption) only [go_sem]
  ·intro q hq q' hq' e
   simp only [List.mem_cons,List.not_mem_nil,or_false] at hq hq'
   rcases hq with rfl|rfl<;>rcases hq' with rfl|rfl<;>(have:=congrArg Oid.depth e;simp only [Oid.depth] at this;omega)
  ·rintro y l0 pre xs L1 ⟨k,hk,rfl,hj⟩ _ ⟨hlen,rfl⟩ hyr hyg hpm
   refine lL ?_
   replace hng:=hyg
   generalize chk l (iZ l k).length=CH
   rcases hj with ⟨-,ts,v,L2,ht,hr,rfl⟩|⟨hj,_⟩
   rotate_left
   ·cases hj
   have hcon:=wY hr
   generalize ([(Oid.sub 0 0 x.p,af.cells [v]),(Oid.sub 0 1 x.p,af.cells [.bool false])]++L2)=LL at hcon
   refine az nmd [] hng (by kernel_rfl) fun hf C S K hC1 hC hS hK=>?_;simp (disch:=first|omega|assumption) only [go_sem,lK]
   refine hK ?_;clear hK hS hC hC1 K S C hf
   exact dS ⟨rfl,rfl,rfl,rfl,hcon,rfl,by show 0 < 0+1;omega⟩
  ·rintro y l0 pre xs L1 ⟨fr,m,c,ds⟩ ⟨k,hk,rfl,hj⟩ _ ⟨hlen,rfl⟩ hyr hyg hpm ⟨h6,h2,h3,hm,rfl,hc⟩
   rcases hj with ⟨-,ts,v,L2,ht,hr,rfl⟩|⟨hj,_⟩
   rotate_left
   ·cases hj
   have hbl:(iZ l k).length=k:=by simp [iZ]
   have hbs:=lR l k
   rw [hbl] at hlen h6 ⊢
   rw [← hbs]
   simp only at h6 h2 h3 hm hc
   have ht3:=vf (l:=l) (k:=k) (by omega)
   have hs3:=vg (l:=l) (k:=k) (by omega)
   unfold chk at h6
   generalize l.getD (3 * k) default=a at h6 ht3 hs3
   generalize l.getD (3 * k+1) default=b at h6 ht3 hs3
   generalize l.getD (3 * k+2) default=d at h6 ht3 hs3
   refine lL (xL [(2,.ptr (.sub 0 0 x.p) 0),(3,.ptr (.sub 0 1 x.p) 0),(6,.list 1 [.str a,.str b,.str d])] rfl (by simp [h6,h2,h3]) (fh _ hm (iA fun hf2=>?_)))
   replace hng:=hyg
   by_cases hok:okF b
   case neg =>
    have n0:¬ b=[48]:=fun e=>hok (.inl e)
    have n1:¬ b=[49]:=fun e=>hok (.inr e)
    have hbad:eD l=none:=by rw [hs3];exact kJ a b d _ hok k _ (by rw [List.length_take];omega)
    generalize L2=rest
    (repeat (first|(refine aA rfl rfl ?_)|(refine aB rfl rfl ?_)|(refine az nmd [] hng (by kernel_rfl) fun hf C S K hC1 hC hS hK=>?_;simp (disch:=first|omega|assumption) only [go_sem];refine hK ?_;clear hK hS hC hC1 K S C hf)|((first|refine zv ?_|refine zw ?_|refine zu ?_);with_reducible (constructor;repeat constructor);try refine zl ?_)))
    refine dc ?_
    (repeat (first|(refine aA rfl rfl ?_)|(refine aB rfl rfl ?_)|(refine az nmd [] hng (by kernel_rfl) fun hf C S K hC1 hC hS hK=>?_;simp (disch:=first|omega|assumption) only [go_sem];refine hK ?_;clear hK hS hC hC1 K S C hf)|((first|refine zv ?_|refine zw ?_|refine zu ?_);with_reducible (constructor;repeat constructor);try refine zl ?_)))
    refine qr (.d [] [(4,27)] []) (ai n0 n1) trivial ?_
    refine qw0 ?_
    refine ar ⟨_,⟨k+1,by omega,rfl,.inr ⟨rfl,hbad,rfl⟩⟩,fun q hq=>?_,fun q hq=>?_⟩
    ·simp only [List.mem_cons,List.not_mem_nil,or_false] at hq
     rcases hq with rfl|rfl<;>simp (disch:=first|omega|assumption) only [go_sem]
    ·simp only [List.mem_cons,List.not_mem_nil,or_false] at hq
     rcases hq with rfl|rfl
     ·exact .inl ⟨_,List.mem_cons_self,rfl⟩
     ·exact .inl ⟨_,List.mem_cons_of_mem _ List.mem_cons_self,rfl⟩
   have hsn:=ja a b d _ ts ht
   rw [if_pos hok,← ht3] at hsn
   have htl:ts.length=k:=by have:=iI _ _ ht;rw [List.length_take] at this;omega
   have e01:¬ ([48]:Str)=[49]:=by decide
   have e10:¬ ([49]:Str)=[48]:=by decide
   rcases hok with rfl|rfl
   ·rcases hr with ⟨rfl,rfl,rfl⟩|⟨hl0,id,rfl,rfl,hid0,hid1⟩
    ·(repeat (first|(refine aA rfl rfl ?_)|(refine aB rfl rfl ?_)|(refine az nmd [] hng (by kernel_rfl) fun hf C S K hC1 hC hS hK=>?_;simp (disch:=first|omega|assumption) only [go_sem];refine hK ?_;clear hK hS hC hC1 K S C hf)|((first|refine zv ?_|refine zw ?_|refine zu ?_);with_reducible (constructor;repeat constructor);try refine zl ?_)))
     refine dc ?_
     (repeat (first|(refine aA rfl rfl ?_)|(refine aB rfl rfl ?_)|(refine az nmd [] hng (by kernel_rfl) fun hf C S K hC1 hC hS hK=>?_;simp (disch:=first|omega|assumption) only [go_sem];refine hK ?_;clear hK hS hC hC1 K S C hf)|((first|refine zv ?_|refine zw ?_|refine zu ?_);with_reducible (constructor;repeat constructor);try refine zl ?_)))
     refine qr (.d [] [(4,27)] []) (ai e01 e10) trivial ?_
     refine qw (ai e01 e10) ?_
     refine qd (.d [(0,12)] [] [2]) (ai e01 e10) trivial ?_
     refine dS ⟨_,⟨k+1,by omega,rfl,.inl ⟨rfl,_,.sl (.sub (c+1) 13 y.p) 3 1,[(.sub (c+1) 13 y.p,.arr 3 _)],hsn,.inr ⟨by simp,_,rfl,rfl,by simp,by simp⟩,rfl⟩⟩,fun q hq=>?_,fun q hq=>?_⟩
     ·simp only [List.mem_cons,List.not_mem_nil,or_false,List.cons_append,List.nil_append] at hq
      rcases hq with rfl|rfl|rfl
      ·simp (disch:=first|omega|assumption) only [go_sem]
      ·simp (disch:=first|omega|assumption) only [go_sem]
      ·simp (disch:=first|omega|assumption) only [go_sem]
       rfl
     ·simp only [List.mem_cons,List.not_mem_nil,or_false,List.cons_append,List.nil_append] at hq
      rcases hq with rfl|rfl|rfl
      ·exact .inl ⟨_,List.mem_cons_self,rfl⟩
      ·exact .inl ⟨_,List.mem_cons_of_mem _ List.mem_cons_self,rfl⟩
      ·exact .inr (Oid.aj (Oid.ah _))
    ·have hi1:¬ Oid.sub (c+1) 13 y.p=id:=fun e=>by
      have:=hf2 (.sub (c+1) 13 y.p) ⟨c+1,13,by omega,Oid.ah _⟩
      rw [e] at this
      simp only [List.cons_append,List.nil_append,Mem.al,if_neg hid0,if_neg hid1] at this
      simp at this
     have hi2:¬ id=Oid.sub (c+1) 13 y.p:=fun e=>hi1 e.symm
     (repeat (first|(refine aA rfl rfl ?_)|(refine aB rfl rfl ?_)|(refine az nmd [] hng (by kernel_rfl) fun hf C S K hC1 hC hS hK=>?_;simp (disch:=first|omega|assumption) only [go_sem];refine hK ?_;clear hK hS hC hC1 K S C hf)|((first|refine zv ?_|refine zw ?_|refine zu ?_);with_reducible (constructor;repeat constructor);try refine zl ?_)))
     refine dc ?_
     (repeat (first|(refine aA rfl rfl ?_)|(refine aB rfl rfl ?_)|(refine az nmd [] hng (by kernel_rfl) fun hf C S K hC1 hC hS hK=>?_;simp (disch:=first|omega|assumption) only [go_sem];refine hK ?_;clear hK hS hC hC1 K S C hf)|((first|refine zv ?_|refine zw ?_|refine zu ?_);with_reducible (constructor;repeat constructor);try refine zl ?_)))
     refine qr (.d [] [(4,27)] []) (ai e01 e10) trivial ?_
     refine qw (ai e01 (ai e10 (ai hid0 (ai hid1 (ai hi1 hi2))))) ?_
     have hs0:¬ Oid.sub 0 0 x.p=id:=fun e=>hid0 e.symm
     refine bA nmd [] [(0,12)] mixed hng (by kernel_rfl) [2] fun hf C S K hC hS hK=>?_;simp (disch:=first|omega|assumption) only [go_sem,e01,e10,hid0,hid1,hi1,hi2,List.length_map]
     refine hK (by simp (disch:=first|omega|assumption) only [go_sem,List.reverse_cons,List.reverse_nil,ne_eq,not_false_eq_true,implies_true,hid0,hid1,hi1,hi2,hs0]) ?_;clear hK hS hC K S C hf
     (try ((first|refine zn ?_|refine ze ?_|refine zk ?_);with_reducible (constructor;repeat constructor));try refine zl ?_)
     refine dS ⟨_,⟨k+1,by omega,rfl,.inl ⟨rfl,_,.sl (.sub (c+1) 13 y.p) 3 (ts.length+1),[(.sub (c+1) 13 y.p,.arr 3 _)],hsn,.inr ⟨by simp,_,by simp,rfl,by simp,by simp⟩,rfl⟩⟩,fun q hq=>?_,fun q hq=>?_⟩
     ·simp only [List.mem_cons,List.not_mem_nil,or_false,List.cons_append,List.nil_append] at hq
      rcases hq with rfl|rfl|rfl
      ·simp (disch:=first|omega|assumption) only [go_sem,hid0,hid1,hi1,hi2]
      ·simp (disch:=first|omega|assumption) only [go_sem,hid0,hid1,hi1,hi2]
      ·simp (disch:=first|omega|assumption) only [go_sem,hid0,hid1,hi1,hi2,List.map_append]
       rfl
     ·simp only [List.mem_cons,List.not_mem_nil,or_false,List.cons_append,List.nil_append] at hq
      rcases hq with rfl|rfl|rfl
      ·exact .inl ⟨_,List.mem_cons_self,rfl⟩
      ·exact .inl ⟨_,List.mem_cons_of_mem _ List.mem_cons_self,rfl⟩
      ·exact .inr (Oid.aj (Oid.ah _))
   ·rcases hr with ⟨rfl,rfl,rfl⟩|⟨hl0,id,rfl,rfl,hid0,hid1⟩
    ·(repeat (first|(refine aA rfl rfl ?_)|(refine aB rfl rfl ?_)|(refine az nmd [] hng (by kernel_rfl) fun hf C S K hC1 hC hS hK=>?_;simp (disch:=first|omega|assumption) only [go_sem];refine hK ?_;clear hK hS hC hC1 K S C hf)|((first|refine zv ?_|refine zw ?_|refine zu ?_);with_reducible (constructor;repeat constructor);try refine zl ?_)))
     refine dc ?_
     (repeat (first|(refine aA rfl rfl ?_)|(refine aB rfl rfl ?_)|(refine az nmd [] hng (by kernel_rfl) fun hf C S K hC1 hC hS hK=>?_;simp (disch:=first|omega|assumption) only [go_sem];refine hK ?_;clear hK hS hC hC1 K S C hf)|((first|refine zv ?_|refine zw ?_|refine zu ?_);with_reducible (constructor;repeat constructor);try refine zl ?_)))
     refine qr (.d [] [(4,27)] []) (ai e01 e10) trivial ?_
     refine qw (ai e01 e10) ?_
     refine qd (.d [(0,12)] [] [2]) (ai e01 e10) trivial ?_
     refine dS ⟨_,⟨k+1,by omega,rfl,.inl ⟨rfl,_,.sl (.sub (c+1) 13 y.p) 3 1,[(.sub (c+1) 13 y.p,.arr 3 _)],hsn,.inr ⟨by simp,_,rfl,rfl,by simp,by simp⟩,rfl⟩⟩,fun q hq=>?_,fun q hq=>?_⟩
     ·simp only [List.mem_cons,List.not_mem_nil,or_false,List.cons_append,List.nil_append] at hq
      rcases hq with rfl|rfl|rfl
      ·simp (disch:=first|omega|assumption) only [go_sem]
      ·simp (disch:=first|omega|assumption) only [go_sem]
      ·simp (disch:=first|omega|assumption) only [go_sem]
       rfl
     ·simp only [List.mem_cons,List.not_mem_nil,or_false,List.cons_append,List.nil_append] at hq
      rcases hq with rfl|rfl|rfl
      ·exact .inl ⟨_,List.mem_cons_self,rfl⟩
      ·exact .inl ⟨_,List.mem_cons_of_mem _ List.mem_cons_self,rfl⟩
      ·exact .inr (Oid.aj (Oid.ah _))
    ·have hi1:¬ Oid.sub (c+1) 13 y.p=id:=fun e=>by
      have:=hf2 (.sub (c+1) 13 y.p) ⟨c+1,13,by omega,Oid.ah _⟩
      rw [e] at this
      simp only [List.cons_append,List.nil_append,Mem.al,if_neg hid0,if_neg hid1] at this
      simp at this
     have hi2:¬ id=Oid.sub (c+1) 13 y.p:=fun e=>hi1 e.symm
     (repeat (first|(refine aA rfl rfl ?_)|(refine aB rfl rfl ?_)|(refine az nmd [] hng (by kernel_rfl) fun hf C S K hC1 hC hS hK=>?_;simp (disch:=first|omega|assumption) only [go_sem];refine hK ?_;clear hK hS hC hC1 K S C hf)|((first|refine zv ?_|refine zw ?_|refine zu ?_);with_reducible (constructor;repeat constructor);try refine zl ?_)))
     refine dc ?_
     (repeat (first|(refine aA rfl rfl ?_)|(refine aB rfl rfl ?_)|(refine az nmd [] hng (by kernel_rfl) fun hf C S K hC1 hC hS hK=>?_;simp (disch:=first|omega|assumption) only [go_sem];refine hK ?_;clear hK hS hC hC1 K S C hf)|((first|refine zv ?_|refine zw ?_|refine zu ?_);with_reducible (constructor;repeat constructor);try refine zl ?_)))
     refine qr (.d [] [(4,27)] []) (ai e01 e10) trivial ?_
     refine qw (ai e01 (ai e10 (ai hid0 (ai hid1 (ai hi1 hi2))))) ?_
     have hs0:¬ Oid.sub 0 0 x.p=id:=fun e=>hid0 e.symm
     refine bA nmd [] [(0,12)] mixed hng (by kernel_rfl) [2] fun hf C S K hC hS hK=>?_;simp (disch:=first|omega|assumption) only [go_sem,e01,e10,hid0,hid1,hi1,hi2,List.length_map]
     refine hK (by simp (disch:=first|omega|assumption) only [go_sem,List.reverse_cons,List.reverse_nil,ne_eq,not_false_eq_true,implies_true,hid0,hid1,hi1,hi2,hs0]) ?_;clear hK hS hC K S C hf
     (try ((first|refine zn ?_|refine ze ?_|refine zk ?_);with_reducible (constructor;repeat constructor));try refine zl ?_)
     refine dS ⟨_,⟨k+1,by omega,rfl,.inl ⟨rfl,_,.sl (.sub (c+1) 13 y.p) 3 (ts.length+1),[(.sub (c+1) 13 y.p,.arr 3 _)],hsn,.inr ⟨by simp,_,by simp,rfl,by simp,by simp⟩,rfl⟩⟩,fun q hq=>?_,fun q hq=>?_⟩
     ·simp only [List.mem_cons,List.not_mem_nil,or_false,List.cons_append,List.nil_append] at hq
      rcases hq with rfl|rfl|rfl
      ·simp (disch:=first|omega|assumption) only [go_sem,hid0,hid1,hi1,hi2]
      ·simp (disch:=first|omega|assumption) only [go_sem,hid0,hid1,hi1,hi2]
      ·simp (disch:=first|omega|assumption) only [go_sem,hid0,hid1,hi1,hi2,List.map_append]
       rfl
     ·simp only [List.mem_cons,List.not_mem_nil,or_false,List.cons_append,List.nil_append] at hq
      rcases hq with rfl|rfl|rfl
      ·exact .inl ⟨_,List.mem_cons_self,rfl⟩
      ·exact .inl ⟨_,List.mem_cons_of_mem _ List.mem_cons_self,rfl⟩
      ·exact .inr (Oid.aj (Oid.ah _))
  ·rintro pre L' m' ⟨k0,hk0',rfl,hall⟩ ⟨k,hk,hpre,hj⟩ hL' hd hold hnm
   rcases hj with ⟨-,ts,v,L2,ht,hr,rfl⟩|⟨hj,_⟩
   rotate_left
   ·cases hj
   have hkk:k0=k:=by have:=congrArg List.length hpre;simpa [iZ] using this
   rw [← hkk,hall rfl,← hn,List.take_length] at ht
   rw [ht]
   have hmm:∀ q ∈ (Oid.sub (0+1+1+1+1) 0 x.p,af.dfr)::([(Oid.sub 0 0 x.p,af.cells [v]),(Oid.sub 0 1 x.p,af.cells [.bool false])]++L2),m' q.1=some q.2:=fun q hq=>(List.mem_cons.1 hq).elim (fun e=>by rw [e];exact hd) (hL' q)
   refine fh _ hmm ?_
   rcases hr with ⟨rfl,rfl,rfl⟩|⟨hl0,id,rfl,rfl,hid0,hid1⟩
   ·refine wI (.sub 0 0 x.p) [.nilSl] [.list 3 []] qs0 (.cons (.wK 3) .nil) ?_
    refine qw0 ?_
    refine ar ⟨by simp (disch:=first|omega|assumption) only [go_sem],.tuple [.list 3 [],.bool true],[],by simp (disch:=first|omega|assumption) only [go_sem],⟨rfl,rfl⟩,fun i o h=>by cases h⟩
   ·have hidc:¬ id=Oid.sub (0+1+1+1+1) 0 x.p:=fun e=>by
     have h1:=hL' (id,.arr 3 (ts.map tchAV)) (by simp)
     simp only at h1
     rw [e,hd] at h1;cases h1
    have hs0:¬ Oid.sub 0 0 x.p=id:=fun e=>hid0 e.symm
    have hs1:¬ Oid.sub 0 1 x.p=id:=fun e=>hid1 e.symm
    refine rP id (.sub 0 0 x.p) 3 (ts.map tchAV) [.sl id 3 ts.length] [.list 3 (ts.map tchAV)] (qs (ai hid0 (ai hid1 hidc))) (qs (ai hid0 (ai hid1 hidc))) hs0 (.gN (by simp) .nil) ?_
    simp (disch:=first|omega|assumption) only [go_sem,hid0,hid1,hidc,hs0,hs1]
    refine qw (ai hid0 (ai hid1 (ai hidc (ai hs0 hs1)))) ?_
    refine ar ⟨by simp (disch:=first|omega|assumption) only [go_sem,hid0,hid1,hidc,hs0,hs1],.tuple [.list 3 (ts.map tchAV),.bool true],[],by simp (disch:=first|omega|assumption) only [go_sem,hid0,hid1,hidc,hs0,hs1],⟨rfl,rfl⟩,fun i o h=>by cases h⟩
  ·rintro pre L' m' cd ⟨k0,hk0',rfl,hall⟩ ⟨k,hk,hpre,hj⟩ hL' hd hold hnm
   rcases hj with ⟨hj,_⟩|⟨hcd,hnn,rfl⟩
   ·cases hj
   obtain rfl:=Option.some.inj hcd
   rw [hnn]
   refine fh ((Oid.sub (0+1+1+1+1) 0 x.p,af.dfr)::[(Oid.sub 0 0 x.p,af.cells [.nilSl]),(Oid.sub 0 1 x.p,af.cells [.bool false])]) (fun q hq=>(List.mem_cons.1 hq).elim (fun e=>by rw [e];exact hd) (hL' q)) ?_
   refine ar ⟨by simp (disch:=first|omega|assumption) only [go_sem],.tuple [.nilSl,.bool false],[],by simp (disch:=first|omega|assumption) only [go_sem],⟨rfl,rfl⟩,fun i o h=>by cases h⟩
end Go.Proofs.YtpficjpdfbiedaaGreatDoor
namespace Go.Proofs.YtpficjpdfbiedaaGreatDoor
open Go Go.Ab
set_option maxRecDepth 20000
set_option maxHeartbeats 4000000
def wZ:AV:=.agg [.str [],.nilSl,.nilSl,.int .i64 0,.str [],.str []]
def w5 (o:Option Mm):AV:=match o with
 | some m=>.tuple [m.av,.int .i64 0]
 | none=>.tuple [wZ,.int .i64 20]
theorem xv:∀ {l:List Str},l.length=6→∃ k r w n o e,l=[k,r,w,n,o,e]
 | [k,r,w,n,o,e],_=>⟨k,r,w,n,o,e,rfl⟩
theorem gJ (s:Str) (hl:s.length≤4000000000) (p:Oid) (hp:p.mono=false):ak Tryz.prog 13 [.str s] (Oid.under p) ⟨[],w5 (dZ s),[]⟩:=by
 have hD:=fun p hp=>lI s hl p hp
 have h20:¬ (20:Int)=0:=by decide
 cases hd:dD s with
 | none =>
  have hdm:dZ s=none:=by unfold dZ;rw [hd]
  rw [hdm]
  rw [hd] at hD
  simp only [kZ] at hD
  refine aK (n:=70) (rs:=[.cell 2 31,.tmp 3]) Tryz.func13 rfl rfl (by decide) rfl rfl rfl ?_;rintro x rfl hrd hng
  refine qw0 ?_
  refine qr1 (hD _) ?_
  refine qr (.d [] [(2,18)] []) h20 trivial ?_
  refine qw0 ?_
  exact ar (aq (by simp (disch:=first|omega|assumption) only [go_sem];rfl))
 | some l =>
  rw [hd] at hD
  simp only [kZ] at hD
  have hml:=ki hd
  by_cases h6:l.length=6
  case neg =>
   have h6':¬ (l.length:Int)=6:=by omega
   have hnn:dZ s=none:=by
    unfold dZ
    rw [hd]
    split
    ·rename_i k r w n o e he;rw [Option.some.inj he] at h6;exact absurd rfl h6
    ·rfl
   rw [hnn]
   refine aK (n:=70) (rs:=[.cell 2 31,.tmp 3]) Tryz.func13 rfl rfl (by decide) rfl rfl rfl ?_;rintro x rfl hrd hng
   refine qw0 ?_
   refine qr1 (hD _) ?_
   refine qr (.d [] [(2,18)] []) h6' trivial ?_
   refine qw0 ?_
   exact ar (aq (by simp (disch:=first|omega|assumption) only [go_sem];rfl))
  obtain ⟨k,r,w,n,o,e,rfl⟩:=xv h6
  have hR1:=fun p hp=>oL r (Nat.le_trans (hml r (by simp)) hl) p hp
  have hR2:=fun p hp=>oL w (Nat.le_trans (hml w (by simp)) hl) p hp
  have hN:=fun p hp=>fU n (by have:=hml n (by simp);omega) p hp
  have hdm:dZ s=mk6 k (dv r) (dv w) n o e:=by unfold dZ;rw [hd]
  rw [hdm]
  simp only [List.map_cons,List.map_nil] at hD
  clear hml hd h6 hdm
  unfold mk6
  generalize cv n=g at hN ⊢
  generalize aX n=z at hN ⊢
  generalize dv r=rr at hR1 ⊢
  generalize dv w=ww at hR2 ⊢
  cases rr<;>cases ww<;>cases g
  all_goals
   simp only [lS] at hR1 hR2
   refine aK (n:=70) (rs:=[.cell 2 31,.tmp 3]) Tryz.func13 rfl rfl (by decide) rfl rfl rfl ?_;rintro x rfl hrd hng
   refine qw0 ?_
   refine qr1 (hD _) ?_
   refine qr (.d [] [(2,18)] []) trivial trivial ?_
   refine qw0 ?_
   refine qr1 (hR1 _) ?_
   refine qr1 (hR2 _) ?_
   refine qr1 (hN _) ?_
   refine qr (.d [] [(2,47),(6,51)] []) trivial trivial ?_
   refine qw0 ?_
   first
   | exact ar (aq (by simp (disch:=first|omega|assumption) only [go_sem];rfl))
   | (refine bA nmd [] [] mixed hng (by kernel_rfl) [2,3] fun hf C S K hC hS hK=>?_;simp (disch:=first|omega|assumption) only [go_sem]
      (first|refine hK (aE rfl) ?_|refine hK (by simp (disch:=first|omega|assumption) only [go_sem,List.reverse_cons,List.reverse_nil,ne_eq,not_false_eq_true,implies_true]) ?_);clear hK hS hC K S C hf
      refine qw0 ?_
      exact ar (aq (by simp (disch:=first|omega|assumption) only [go_sem];rfl)))
end Go.Proofs.YtpficjpdfbiedaaGreatDoor
namespace Go.Proofs.YtpficjpdfbiedaaGreatDoor
open Go Go.Ab
set_option maxRecDepth 20000
set_option maxHeartbeats 4000000
def dE:List Tch→Nat
 | []=>0
 | t::l=>t.1.1.length+t.2.length+1+dE l
theorem ju (a b:List Tch):dE (a++b)=dE a+dE b:=by
 induction a with
 | nil=>simp [dE]
 | cons t a ih=>simp only [List.cons_append,dE,ih];omega
theorem lT {l:List Tch} {i:Nat} (h:i < l.length):dE (l.take (i+1))=dE (l.take i)+((l.getD i default).1.1.length+(l.getD i default).2.length+1):=by
 rw [List.take_add_one,List.getElem?_eq_getElem h,List.getD_eq_getElem?_getD,List.getElem?_eq_getElem h,ju]
 simp [dE]
theorem qQ (l:List Tch) (i:Nat):dE (l.take i)≤dE l:=by
 conv=>rhs;rw [← List.take_append_drop i l,ju]
 omega
theorem kK:∀ (l:List Tch),l.length≤dE l∧∀ t ∈ l,t.1.1.length≤dE l∧t.2.length≤dE l
 | []=>⟨Nat.le_refl _,fun t h=>by cases h⟩
 | t::l=>by
  obtain ⟨h1,h2⟩:=kK l
  refine ⟨by simp only [List.length_cons,dE];omega,fun u hu=>?_⟩
  simp only [dE]
  rcases List.mem_cons.1 hu with rfl|hu
  ·omega
  ·have:=h2 u hu;omega
def kL (m:Mm):Nat:=m.key.length+m.out.length+m.err.length+dE m.rd+dE m.wr
theorem vi {m:Mm} (h:kL m≤500):Mm.small m 500:=by
 unfold kL at h
 obtain ⟨a1,a2⟩:=kK m.rd
 obtain ⟨b1,b2⟩:=kK m.wr
 exact ⟨by omega,by omega,by omega,fun t ht=>by have:=a2 t ht;omega,fun t ht=>by have:=b2 t ht;omega,by omega,by omega⟩
theorem sq (m:Mm) (hk:m.key.length≤140737488355328) (ho:m.out.length≤140737488355328) (he:m.err.length≤140737488355328) (hr:m.rd.length≤140737488355328) (hw:m.wr.length≤140737488355328) (hrt:∀ t ∈ m.rd,t.1.1.length≤140737488355328∧t.2.length≤140737488355328) (hwt:∀ t ∈ m.wr,t.1.1.length≤140737488355328∧t.2.length≤140737488355328) (p:Oid) :
  ak Tryz.prog 12 [m.av] (Oid.under p) ⟨[],.bool (decide (kL m≤500)),[]⟩:=by
 unfold kL
 obtain ⟨mk,mr,mw,ms,mo,me⟩:=m
 simp only [Mm.av] at hk ho he hr hw hrt hwt ⊢
 refine aK (n:=79) (rs:=[.tmp 2]) Tryz.func12 rfl rfl (by decide) rfl rfl rfl ?_;rintro x rfl hrd hng
 refine qw0 ?_
 refine aT [1,3,4] (fun q s'=>∃ (c i:Nat) (n:Int),s' = ⟨[(1,.ptr (.sub 0 0 x.p) 0),(3,.int .i64 n),(4,.int .i64 i)],Mem.of [(.sub 0 0 x.p,.cells [.str mk,.list 3 (mr.map tchAV),.list 3 (mw.map tchAV),.int .i64 ms,.str mo,.str me])],c,[]⟩∧q=mr.length - i∧i≤mr.length∧n=((mk.length+mo.length+me.length+dE (mr.take i):Nat):Int)∧n≤1000000000000000) _ ⟨_,0,_,rfl,rfl,Nat.zero_le _,by simp only [List.take_zero,dE];omega,by omega⟩ ?_
 rintro q s' ⟨c,i,n,rfl,rfl,hi,hn,hn4⟩
 have hlm:(mr.map tchAV).length=mr.length:=List.length_map ..
 by_cases hc:i < mr.length∧n≤500
 ·obtain ⟨hlt,h500⟩:=hc
  have hlt':(i:Int) < (mr.length:Int):=by omega
  (try ((first|refine zn ?_|refine ze ?_|refine zk ?_);with_reducible (constructor;repeat constructor));try refine zl ?_)
  refine qr (.d [] [(5,24)] []) (ai hlt' hlm) trivial ?_
  (try ((first|refine zn ?_|refine ze ?_|refine zk ?_);with_reducible (constructor;repeat constructor));try refine zl ?_)
  refine aY rfl rfl (fun hb=>?_) (fun hb=>?_)
  ·have ht:=lT hlt
   have hgm:mr.getD i default ∈ mr:=by rw [ik hlt];exact List.getElem_mem _
   have hgl:=hrt _ hgm
   generalize hg:mr.getD i default=g at ht hgl
   obtain ⟨⟨gp,gf⟩,gv⟩:=g
   simp only at ht hgl
   (try ((first|refine zn ?_|refine ze ?_|refine zk ?_);with_reducible (constructor;repeat constructor));try refine zl ?_)
   refine bA nmd [] [] mixed hng (by kernel_rfl) [1,3,4] fun hf C S K hC hS hK=>?_;simp (disch:=first|omega|assumption) only [go_sem,hg,tchAV,AV.cells,List.length_map]
   (first|refine hK (aE rfl) ?_|refine hK (by simp (disch:=first|omega|assumption) only [go_sem,List.reverse_cons,List.reverse_nil,ne_eq,not_false_eq_true,implies_true]) ?_);clear hK hS hC K S C hf
   refine qw0 ?_
   exact ⟨_,_,by omega,fun _ _ h=>h,_,i+1,_,rfl,rfl,by omega,by omega,by omega⟩
  ·exact absurd h500 (by omega)
 have hsm:=qQ mr i
 have hx:n≤500→i=mr.length:=by omega
 by_cases hlt:i < mr.length
 case' pos =>
  have hlt':(i:Int) < (mr.length:Int):=by omega
  (try ((first|refine zn ?_|refine ze ?_|refine zk ?_);with_reducible (constructor;repeat constructor));try refine zl ?_)
  refine qr (.d [] [(5,24)] []) (ai hlt' hlm) trivial ?_
  (try ((first|refine zn ?_|refine ze ?_|refine zk ?_);with_reducible (constructor;repeat constructor));try refine zl ?_)
  refine aY rfl rfl (fun hb=>absurd hb (by omega)) (fun hb=>?_)
 case' neg =>
  have hlt':¬ (i:Int) < (mr.length:Int):=by omega
  (try ((first|refine zn ?_|refine ze ?_|refine zk ?_);with_reducible (constructor;repeat constructor));try refine zl ?_)
  refine qr (.d [] [(5,24)] []) (ai hlt' hlm) trivial ?_
  (try ((first|refine zn ?_|refine ze ?_|refine zk ?_);with_reducible (constructor;repeat constructor));try refine zl ?_)
 all_goals
  clear hlm hlt hlt' hc
  generalize hA:mk.length+mo.length+me.length+dE mr=A
  have hxA:n≤A∧(n≤500→n=A):=by
   refine ⟨by omega,fun h=>?_⟩
   obtain rfl:=hx h
   rw [List.take_length] at hn
   omega
  clear hx hsm hn
  refine qw0 ?_
  refine aT [1,3,5] (fun q s'=>∃ (c i:Nat) (v:Int),s' = ⟨[(1,.ptr (.sub 0 0 x.p) 0),(3,.int .i64 v),(5,.int .i64 i)],Mem.of [(.sub 0 0 x.p,.cells [.str mk,.list 3 (mr.map tchAV),.list 3 (mw.map tchAV),.int .i64 ms,.str mo,.str me])],c,[]⟩∧q=mw.length - i∧i≤mw.length∧v=n+((dE (mw.take i):Nat):Int)∧v≤2000000000000000) _ ⟨_,0,_,rfl,rfl,Nat.zero_le _,by simp only [List.take_zero,dE];omega,by omega⟩ ?_
  rintro q s' ⟨c,i,v,rfl,rfl,hi,hv,hv4⟩
  have hlm:(mw.map tchAV).length=mw.length:=List.length_map ..
  by_cases hc:i < mw.length∧v≤500
  ·obtain ⟨hlt,h500⟩:=hc
   have hlt':(i:Int) < (mw.length:Int):=by omega
   (try ((first|refine zn ?_|refine ze ?_|refine zk ?_);with_reducible (constructor;repeat constructor));try refine zl ?_)
   refine qr (.d [] [(5,53)] []) (ai hlt' hlm) trivial ?_
   (try ((first|refine zn ?_|refine ze ?_|refine zk ?_);with_reducible (constructor;repeat constructor));try refine zl ?_)
   refine aY rfl rfl (fun hb=>?_) (fun hb=>?_)
   ·have ht:=lT hlt
    have hgm:mw.getD i default ∈ mw:=by rw [ik hlt];exact List.getElem_mem _
    have hgl:=hwt _ hgm
    generalize hg:mw.getD i default=g at ht hgl
    obtain ⟨⟨gp,gf⟩,gv⟩:=g
    simp only at ht hgl
    (try ((first|refine zn ?_|refine ze ?_|refine zk ?_);with_reducible (constructor;repeat constructor));try refine zl ?_)
    refine bA nmd [] [] mixed hng (by kernel_rfl) [1,3,5] fun hf C S K hC hS hK=>?_;simp (disch:=first|omega|assumption) only [go_sem,hg,tchAV,AV.cells,List.length_map]
    (first|refine hK (aE rfl) ?_|refine hK (by simp (disch:=first|omega|assumption) only [go_sem,List.reverse_cons,List.reverse_nil,ne_eq,not_false_eq_true,implies_true]) ?_);clear hK hS hC K S C hf
    refine qw0 ?_
    exact ⟨_,_,by omega,fun _ _ h=>h,_,i+1,_,rfl,rfl,by omega,by omega,by omega⟩
   ·exact absurd h500 (by omega)
  have hsm:=qQ mw i
  have hx:v≤500→i=mw.length:=by omega
  have hz:decide (v≤500)=decide (A+dE mw≤500):=by
   refine decide_eq_decide.2 ⟨fun h=>?_,fun h=>by omega⟩
   obtain rfl:=hx h
   rw [List.take_length] at hv
   have:=hxA.2 (by omega)
   omega
  by_cases hlt:i < mw.length
  case' pos =>
   have hlt':(i:Int) < (mw.length:Int):=by omega
   (try ((first|refine zn ?_|refine ze ?_|refine zk ?_);with_reducible (constructor;repeat constructor));try refine zl ?_)
   refine qr (.d [] [(5,53)] []) (ai hlt' hlm) trivial ?_
   (try ((first|refine zn ?_|refine ze ?_|refine zk ?_);with_reducible (constructor;repeat constructor));try refine zl ?_)
   refine aY rfl rfl (fun hb=>absurd hb (by omega)) (fun hb=>?_)
  case' neg =>
   have hlt':¬ (i:Int) < (mw.length:Int):=by omega
   (try ((first|refine zn ?_|refine ze ?_|refine zk ?_);with_reducible (constructor;repeat constructor));try refine zl ?_)
   refine qr (.d [] [(5,53)] []) (ai hlt' hlm) trivial ?_
   (try ((first|refine zn ?_|refine ze ?_|refine zk ?_);with_reducible (constructor;repeat constructor));try refine zl ?_)
  all_goals
   rw [← hz]
   refine qw0 ?_
   exact ar (a6 rfl)
def cj:List Str→Nat
 | []=>0
 | t::l=>t.length+1+cj l
theorem iJ (a b:List Str):cj (a++b)=cj a+cj b:=by
 induction a with
 | nil=>simp [cj]
 | cons t a ih=>simp only [List.cons_append,cj,ih];omega
theorem p0 {l:List Str} {i:Nat} (h:i < l.length):cj (l.take (i+1))=cj (l.take i)+((l.getD i default).length+1):=by
 rw [List.take_add_one,List.getElem?_eq_getElem h,List.getD_eq_getElem?_getD,List.getElem?_eq_getElem h,iJ]
 simp [cj]
theorem vj (l:List Str) (i:Nat):cj (l.take i)≤cj l:=by
 conv=>rhs;rw [← List.take_append_drop i l,iJ]
 omega
theorem lU:∀ (l:List Str),l.length≤cj l∧∀ t ∈ l,t.length≤cj l
 | []=>⟨Nat.le_refl _,fun t h=>by cases h⟩
 | t::l=>by
  obtain ⟨h1,h2⟩:=lU l
  refine ⟨by simp only [List.length_cons,cj];omega,fun u hu=>?_⟩
  simp only [cj]
  rcases List.mem_cons.1 hu with rfl|hu
  ·omega
  ·have:=h2 u hu;omega
theorem vk (l:List Str) (hr:l.length≤140737488355328) (hrt:∀ t ∈ l,t.length≤140737488355328) (p:Oid) :
  ak Tryz.prog 8 [.list 1 (l.map .str)] (Oid.under p) ⟨[],.bool (decide (cj l≤300)),[]⟩:=by
 refine aK (n:=25) (rs:=[.tmp 2]) Tryz.func8 rfl rfl (by decide) rfl rfl rfl ?_;rintro x rfl hrd hng
 refine qw0 ?_
 refine aT [0,3,4] (fun q s'=>∃ (c i n:Nat),s' = ⟨[(0,.list 1 (l.map .str)),(3,.int .i64 n),(4,.int .i64 i)],Mem.of [],c,[]⟩∧q=l.length - i∧i≤l.length∧n=cj (l.take i)∧n≤1000000000000000) _ ⟨_,0,0,rfl,rfl,Nat.zero_le _,by simp only [List.take_zero,cj],by omega⟩ ?_
 rintro q s' ⟨c,i,n,rfl,rfl,hi,hn,hn4⟩
 have hlm:(l.map AV.str).length=l.length:=List.length_map ..
 by_cases hc:i < l.length∧n≤300
 ·obtain ⟨hlt,h500⟩:=hc
  have hlt':(i:Int) < (l.length:Int):=by omega
  (try ((first|refine zn ?_|refine ze ?_|refine zk ?_);with_reducible (constructor;repeat constructor));try refine zl ?_)
  refine qr (.d [] [(4,9)] []) (ai hlt' hlm) trivial ?_
  (try ((first|refine zn ?_|refine ze ?_|refine zk ?_);with_reducible (constructor;repeat constructor));try refine zl ?_)
  refine aY rfl rfl (fun hb=>?_) (fun hb=>?_)
  ·have ht:=p0 hlt
   have hgm:l.getD i default ∈ l:=by rw [ik hlt];exact List.getElem_mem _
   have hgl:=hrt _ hgm
   generalize hg:l.getD i default=g at ht hgl
   (try ((first|refine zn ?_|refine ze ?_|refine zk ?_);with_reducible (constructor;repeat constructor));try refine zl ?_)
   refine az nmd [] hng (by kernel_rfl) fun hf C S K hC1 hC hS hK=>?_;simp (disch:=first|omega|assumption) only [go_sem,hg,List.length_map]
   refine hK ?_;clear hK hS hC hC1 K S C hf
   refine qw0 ?_
   exact ⟨_,_,by omega,fun _ _ h=>h,_,i+1,n+g.length+1,rfl,rfl,by omega,by omega,by omega⟩
  ·exact absurd h500 (by omega)
 have hsm:=vj l i
 have hx:n≤300→i=l.length:=by omega
 have hz:decide ((n:Int)≤300)=decide (cj l≤300):=by
  refine decide_eq_decide.2 ⟨fun h=>?_,fun h=>by omega⟩
  obtain rfl:=hx (by omega)
  rw [List.take_length] at hn
  omega
 by_cases hlt:i < l.length
 case' pos =>
  have hlt':(i:Int) < (l.length:Int):=by omega
  (try ((first|refine zn ?_|refine ze ?_|refine zk ?_);with_reducible (constructor;repeat constructor));try refine zl ?_)
  refine qr (.d [] [(4,9)] []) (ai hlt' hlm) trivial ?_
  (try ((first|refine zn ?_|refine ze ?_|refine zk ?_);with_reducible (constructor;repeat constructor));try refine zl ?_)
  refine aY rfl rfl (fun hb=>absurd hb (by omega)) (fun hb=>?_)
 case' neg =>
  have hlt':¬ (i:Int) < (l.length:Int):=by omega
  (try ((first|refine zn ?_|refine ze ?_|refine zk ?_);with_reducible (constructor;repeat constructor));try refine zl ?_)
  refine qr (.d [] [(4,9)] []) (ai hlt' hlm) trivial ?_
  (try ((first|refine zn ?_|refine ze ?_|refine zk ?_);with_reducible (constructor;repeat constructor));try refine zl ?_)
 all_goals
  rw [← hz]
  refine qw0 ?_
  exact ar (a6 rfl)
theorem oM (m:Mm) (hr:m.rd.length≤4000000000) (hw:m.wr.length≤4000000000) (p:Oid) (hp:p.mono=false) :
  ak Tryz.prog 17 [m.av,m.av] (Oid.under p) ⟨[],.bool true,[]⟩:=by
 obtain ⟨mk,mr,mw,ms,mo,me⟩:=m
 simp only [Mm.av] at hr hw ⊢
 refine aK (n:=31) (rs:=[.tmp 4]) Tryz.func17 rfl rfl (by decide) rfl rfl rfl ?_;rintro x rfl hrd hng
 have h1:=fun p=>kH mr (by omega) p
 have h2:=fun p=>kH mw (by omega) p
 refine qw0 ?_
 refine qr (.d [] [(5,10),(12,17),(19,24)] []) trivial (cq (h1 _) (cq (h2 _) trivial)) ?_
 refine qw0 ?_
 exact ar (aq qs0)
end Go.Proofs.YtpficjpdfbiedaaGreatDoor
namespace Go.Proofs.YtpficjpdfbiedaaGreatDoor
open Go Go.Ab
set_option maxRecDepth 20000
set_option maxHeartbeats 4000000
def mK:Mm:=⟨[107],[],[],0,[],[]⟩
def mJ:Mm:=⟨[106],[],[],0,[],[]⟩
theorem qR:e7 mK=[49,58,107,44,48,58,44,48,58,44,49,58,48,44,48,58,44,48,58,44]:=by kernel_rfl
theorem y3:dZ [120]=none:=by kernel_rfl
theorem w6:vd [] [mK,mJ] [107]=0:=by kernel_rfl
theorem p5 (k:Str):eC (.agg [.str k,.nilSl,.nilSl,.int .i64 0,.str [],.str []]) (Mm.av ⟨k,[],[],0,[],[]⟩) :=
 eC.agg (.cons (.refl _) (.cons (eC.nil 3) (.cons (eC.nil 3) (.cons (.refl _) (.cons (.refl _) (.cons (.refl _) .nil))))))
theorem qS (k:Str):rv (.agg [.str k,.nilSl,.nilSl,.int .i64 0,.str [],.str []]) (Mm.av ⟨k,[],[],0,[],[]⟩) :=
 rv.agg (.cons (.refl _) (.cons (eC.nil 3) (.cons (eC.nil 3) (.cons (.refl _) (.cons (.refl _) (.cons (.refl _) .nil))))))
theorem kM (p:Oid) (hp:p.mono=false):ak Tryz.prog 9 [] (Oid.under p) ⟨[],.bool true,[]⟩:=by
 have hD:=fun p hp=>gJ [120] (by decide) p hp
 rw [y3] at hD
 simp only [w5,wZ] at hD
 have hE:=fun p hp=>(kE mK (by decide) (by decide) (by decide) (by decide) (by decide) (by rw [qR];decide) p hp).nT (.cons (p5 _) .nil)
 rw [qR] at hE
 have hK:=fun p hp=>(u5 [] [] [] 0 [] (by decide) (by decide) (by decide) (by decide) (by decide) (by decide) (by decide) p hp).nT (.cons (eC.nil 1) (.cons (eC.nil 1) (.cons (.refl _) (.cons (.refl _) (.cons (.refl _) .nil)))))
 have hL:(jB (aC [aC [],aC [],[],Lib.itoa 0,[]])).length=64:=uR _
 generalize jB (aC [aC [],aC [],[],Lib.itoa 0,[]])=ky at hK hL
 refine aK (n:=33) (rs:=[.tmp 0]) Tryz.func9 rfl rfl (by decide) rfl rfl rfl ?_;rintro x rfl hrd hng
 (repeat (first|(refine aA rfl rfl ?_)|(refine aB rfl rfl ?_)|(refine az nmd [] hng (by kernel_rfl) fun hf C S K hC1 hC hS hK=>?_;simp (disch:=first|omega|assumption) only [go_sem];(repeat ((first|refine hC1 _ (yN _) (by simp (disch:=first|omega|assumption) only [go_sem]) ?_);simp (disch:=first|omega|assumption) only [go_sem]));refine hK ?_;clear hK hS hC hC1 K S C hf)|((first|refine zn ?_|refine ze ?_|refine zk ?_);with_reducible (constructor;repeat constructor);try refine zl ?_)))
 have hab:¬ Oid.sub 1 0 (.sub 1 0 x.p)=Oid.sub 1 2 (.sub 1 0 x.p):=by simp
 rw [yW,sk _ _ hab]
 have hS:=vb hab
 have hOA:lb x.p 2 [Oid.sub 1 2 (.sub 1 0 x.p),Oid.sub 1 0 (.sub 1 0 x.p)]:=fun j hj ⟨c',i',hc',hu⟩=>by
  simp only [List.mem_cons,List.not_mem_nil,or_false] at hj
  rcases hj with rfl|rfl
  all_goals have:=(Oid.apart hu (Oid.aj (Oid.ah _))).1;omega
 have hO:∀ c i,2≤c→iE (.sub c i x.p) [Oid.sub 1 2 (.sub 1 0 x.p),Oid.sub 1 0 (.sub 1 0 x.p)]:=fun c i h=>hOA.sub h i
 clear hOA
 have hx:Oid.sub 2 4 x.p ∉ [Oid.sub 1 2 (.sub 1 0 x.p),Oid.sub 1 0 (.sub 1 0 x.p)]:=by simp
 generalize two (Oid.sub 1 2 (.sub 1 0 x.p)) (.cells [.map (Oid.sub 1 0 (.sub 1 0 x.p)),.nilPtr]) (.map [.ss] false [] 0)=F at hS ⊢
 generalize [Oid.sub 1 2 (.sub 1 0 x.p),Oid.sub 1 0 (.sub 1 0 x.p)]=N at hS hO hx ⊢
 generalize Oid.sub 1 2 (.sub 1 0 x.p)=st at hS ⊢
 have hF:=fun p hp ho=>(ve hS wX [mK,mJ] [107] (by decide) (fun m hm=>by
  simp only [List.mem_cons,List.not_mem_nil,or_false] at hm
  rcases hm with rfl|rfl<;>exact ⟨by decide,fun h hh=>by cases hh⟩) p hp ho).nT (.cons (eC.list (.cons (qS _) (.cons (qS _) .nil))) (.cons (.refl _) (.cons (.refl _) .nil)))
 rw [w6] at hF
 refine qr1 (hD _) ?_
 refine az nmd [(2,11),(7,16),(11,20),(19,28)] hng (by kernel_rfl) fun hf C S K hC1 hC hS hK'=>?_;refine qt hL ?_
 refine hC1 _ (hE _ (ay rfl hp)) (fun _ h=>by cases h) ?_;refine qt hL ?_
 refine hC1 _ (hF _ (ay rfl hp) (hO _ _ (by omega))) (by show ∀ q,q ∈ bk _→_;rw [yU hx,uV];trivial) ?_;refine qt hL ?_
 refine hC1 _ (hK _ (ay rfl hp)) (fun _ h=>by cases h) ?_;refine qt hL ?_
 refine hK' ?_;clear hK' hS hC hC1 K S C hf
 refine qw0 ?_
 exact ar (aq (by simp (disch:=first|omega|assumption) only [go_sem];rfl))
end Go.Proofs.YtpficjpdfbiedaaGreatDoor
namespace Go.Proofs.YtpficjpdfbiedaaGreatDoor
open Go Go.Ab
set_option maxRecDepth 20000
set_option maxHeartbeats 4000000
def Ac (a:Int):Int:=IntKind.i64.wrap (BitVec.ofInt IntKind.i64.bits a &&& BitVec.ofInt IntKind.i64.bits 255).toNat
theorem vl (a:Int):cl .and .i64 a 255=some (.int .i64 (Ac a)):=rfl
attribute [go_sem high] vl
theorem fL:∀ {l:List Str},(l.length≤(aC l).length)∧∀ s ∈ l,s.length≤(aC l).length
 | []=>⟨Nat.le_refl _,fun s h=>by cases h⟩
 | a::l=>by
  obtain ⟨h1,h2⟩:=fL (l:=l)
  have hc:=bs a
  refine ⟨by simp only [List.length_cons,aC,List.length_append];omega,fun s hs=>?_⟩
  simp only [aC,List.length_append]
  rcases List.mem_cons.1 hs with rfl|hs
  ·omega
  ·have:=h2 s hs;omega
structure y4 (m:Mm) (c:Nat):Prop where
 rd:m.rd.length≤c
 wr:m.wr.length≤c
 lr:(aR m.rd).length≤c
 lw:(aR m.wr).length≤c
theorem y5 (m:Mm):y4 m (e7 m).length:=by
 have h:=(fL (l:=[m.key,aR m.rd,aR m.wr,Lib.itoa m.st,m.out,m.err])).2
 have h1:=h (aR m.rd) (by simp)
 have h2:=h (aR m.wr) (by simp)
 have r1:=(fL (l:=spT m.rd)).1
 have r2:=(fL (l:=spT m.wr)).1
 rw [e6] at r1 r2
 have e1:(aR m.rd).length=(aC (spT m.rd)).length:=rfl
 have e2:(aR m.wr).length=(aC (spT m.wr)).length:=rfl
 rw [show aC [m.key,aR m.rd,aR m.wr,Lib.itoa m.st,m.out,m.err]=e7 m from rfl] at h1 h2
 exact ⟨by omega,by omega,h1,h2⟩
structure Mm.in (m:Mm):Prop where
 k:m.key.length≤140737488355328
 o:m.out.length≤140737488355328
 e:m.err.length≤140737488355328
 rl:m.rd.length≤140737488355328
 wl:m.wr.length≤140737488355328
 r:∀ t ∈ m.rd,t.1.1.length≤140737488355328∧t.2.length≤140737488355328
 w:∀ t ∈ m.wr,t.1.1.length≤140737488355328∧t.2.length≤140737488355328
end Go.Proofs.YtpficjpdfbiedaaGreatDoor
namespace Go.Proofs.YtpficjpdfbiedaaGreatDoor
open Go Go.Ab
set_option maxRecDepth 100000
theorem c_str:Tryz.prog.cellsOf 9=1:=by kernel_rfl
theorem vm:Tryz.prog.cellsOf 4=1:=by kernel_rfl
theorem c_int:Tryz.prog.cellsOf 3=1:=by kernel_rfl
theorem vn:Tryz.prog.cellsOf 57=3:=by kernel_rfl
theorem zP:Tryz.prog.bytesOf 57=40:=by kernel_rfl
theorem y6:Rd Tryz.prog 57 tchAV (fun t=>t.1.1.length≤reachBytes∧t.2.length≤reachBytes) :=
 (iW Tryz.underlying57 (by kernel_rfl) (cu rfl (rd_str Tryz.underlying9 c_str) (cu (by rw [c_str]) (v7 Tryz.underlying4 vm) (cu (by rw [c_str,vm]) (rd_str Tryz.underlying9 c_str) (ml _))))).map
  (fun p=>((p.1,p.2.1),p.2.2.1)) (fun _ _=>rfl) (fun _=>vn.symm) (fun _ h=>⟨h.1,h.2.2.1⟩)
theorem mS:Tryz.prog.cellsOf 27=1:=by kernel_rfl
theorem qT:Rd Tryz.prog 27 (fun l:List Tch=>.list 3 (l.map tchAV)) (fun l=>l.length≤140737488355328∧∀ t ∈ l,t.1.1.length≤140737488355328∧t.2.length≤140737488355328) :=
 (nU Tryz.underlying27 mS (by rw [vn];decide) y6).map id (fun _ _=>by rw [vn];rfl) (fun _=>mS.symm) (fun l h=>by
  have h1:=h.1
  rw [zP] at h1
  have h2:=h.2
  unfold reachBytes at h1 h2
  refine ⟨?_,fun t ht=>?_⟩
  ·show l.length≤_;omega
  ·have:=h2 t ht;omega)
theorem zQ:Tryz.prog.cellsOf 29=3:=by kernel_rfl
theorem y7:Rd Tryz.prog 29 (fun r:Int × Str × Str=>.agg [.int .i64 r.1,.str r.2.1,.str r.2.2]) (fun r=>(Lit.int IntKind.i64 r.1).wf=true∧r.2.1.length≤reachBytes∧r.2.2.length≤reachBytes) :=
 (iW Tryz.underlying29 (by kernel_rfl) (cu rfl (rd_int Tryz.underlying3 c_int) (cu (by rw [c_int]) (rd_str Tryz.underlying9 c_str) (cu (by rw [c_int,c_str]) (rd_str Tryz.underlying9 c_str) (ml _))))).map
  (fun p=>(p.1,p.2.1,p.2.2.1)) (fun _ _=>rfl) (fun _=>zQ.symm) (fun _ h=>⟨h.1,h.2.1,h.2.2.1⟩)
theorem Ad:Tryz.prog.cellsOf 31=6:=by kernel_rfl
theorem rd_mm:Rd Tryz.prog 31 Mm.av (fun m=>m.in∧(Lit.int IntKind.i64 m.st).wf=true) :=
 (iW Tryz.underlying31 (by kernel_rfl) (cu rfl (rd_str Tryz.underlying9 c_str) (cu (by rw [c_str]) qT (cu (by rw [c_str,mS]) qT (cu (by rw [c_str,mS]) y7 (ml _)))))).map
  (fun p=>⟨p.1,p.2.1,p.2.2.1,p.2.2.2.1.1,p.2.2.2.1.2.1,p.2.2.2.1.2.2⟩) (fun _ _=>rfl) (fun _=>Ad.symm) (fun _ h=>by
   obtain ⟨h1,⟨h2,h3⟩,⟨h4,h5⟩,⟨h6,h7,h8⟩,_⟩:=h
   unfold reachBytes at h1 h7 h8
   exact ⟨⟨Nat.le_trans h1 (by decide),Nat.le_trans h7 (by decide),Nat.le_trans h8 (by decide),h2,h4,h3,h5⟩,h6⟩)
end Go.Proofs.YtpficjpdfbiedaaGreatDoor
namespace Go.Proofs.YtpficjpdfbiedaaGreatDoor
open Go Go.Ab
set_option maxRecDepth 20000
set_option maxHeartbeats 4000000
theorem sv (n:Nat) (hn:(n:Int)≤9223372036854775807):∀ p:Oid,ak Tryz.prog 74 [.int .i64 n] (Oid.under p) ⟨[],.str (Lib.decDigits n),[]⟩:=by
 induction n using Nat.strongRecOn with
 | ind n ih =>
  intro p
  have h10:(n:Int).tmod 10=((n % 10:Nat):Int):=cT n 10
  have h11:(n:Int).tdiv 10=((n / 10:Nat):Int):=ka n 10
  have hd:IntKind.u8.wrap (48+((n % 10:Nat):Int))=((UInt8.ofNat (48+n % 10)).toNat:Int):=by
   rw [w8 (by omega) (by omega),UInt8.toNat_ofNat'];omega
  have hz:(((n % 10:Nat):Int) < 0)=False:=eq_false (by omega)
  have hlen:=Lib.itoa_length_le ((n / 10:Nat):Int) (by omega) (by omega)
  rw [Lib.itoa_nonneg] at hlen
  refine aK (n:=25) (rs:=[.tmp 2]) Tryz.func74 rfl rfl (by decide) rfl rfl rfl ?_;rintro x rfl hrd hng
  (repeat (first|(refine aA rfl rfl ?_)|(refine aB rfl rfl ?_)|(refine az nmd [] hng (by kernel_rfl) fun hf C S K hC1 hC hS hK=>?_;simp (disch:=first|omega|assumption) only [go_sem,h10,hz,decide_true,decide_false,ne_eq,not_true_eq_false,not_false_eq_true];(repeat ((first|refine hC1 _ () (by simp (disch:=first|omega|assumption) only [go_sem]) ?_);simp (disch:=first|omega|assumption) only [go_sem]));refine hK ?_;clear hK hS hC hC1 K S C hf)|((first|refine zn ?_|refine ze ?_|refine zk ?_);with_reducible (constructor;repeat constructor);try refine zl ?_)))
  refine az nmd [] hng (by kernel_rfl) fun hf C S K hC1 hC hS hK=>?_;simp (disch:=first|omega|assumption) only [go_sem,hd,gE,qu]
  refine hK ?_;clear hK hS hC hC1 K S C hf
  (repeat (first|(refine aA rfl rfl ?_)|(refine aB rfl rfl ?_)|(refine az nmd [] hng (by kernel_rfl) fun hf C S K hC1 hC hS hK=>?_;simp (disch:=first|omega|assumption) only [go_sem,h11];(repeat ((first|refine hC1 _ () (by simp (disch:=first|omega|assumption) only [go_sem]) ?_);simp (disch:=first|omega|assumption) only [go_sem]));refine hK ?_;clear hK hS hC hC1 K S C hf)|((first|refine zn ?_|refine ze ?_|refine zk ?_);with_reducible (constructor;repeat constructor);try refine zl ?_)))
  refine aY rfl rfl (fun hb=>?_) (fun hb=>?_)
  ·refine qw0 ?_
   exact ar (a6 (congrArg AV.str (by rw [Lib.decDigits,dif_pos (by omega)];congr 2;rw [Nat.mod_eq_of_lt (by omega)])))
  ·(try ((first|refine zn ?_|refine ze ?_|refine zk ?_);with_reducible (constructor;repeat constructor));try refine zl ?_)
   refine qr .o h11 (cq (ih (n / 10) (by omega) (by omega) _) trivial) ?_
   refine qw0 ?_
   exact ar (a6 (congrArg AV.str (by rw [Lib.decDigits.eq_def n,dif_neg (by omega)])))
theorem vo (n:Nat) (h0:0 < n) (hn:(n:Int)≤9223372036854775808):∀ p:Oid,ak Tryz.prog 74 [.int .i64 (-(n:Int))] (Oid.under p) ⟨[],.str (Lib.decDigits n),[]⟩:=by
 induction n using Nat.strongRecOn with
 | ind n ih =>
  intro p
  have h10:(-(n:Int)).tmod 10 = -((n % 10:Nat):Int):=(Int.neg_tmod _ _).trans (congrArg Neg.neg (cT n 10))
  have h11:(-(n:Int)).tdiv 10 = -((n / 10:Nat):Int):=(Int.neg_tdiv _ _).trans (congrArg Neg.neg (ka n 10))
  have hd:IntKind.u8.wrap (48+((n % 10:Nat):Int))=((UInt8.ofNat (48+n % 10)).toNat:Int):=by
   rw [w8 (by omega) (by omega),UInt8.toNat_ofNat'];omega
  have hlen:=Lib.itoa_length_le ((n / 10:Nat):Int) (by omega) (by omega)
  rw [Lib.itoa_nonneg] at hlen
  have hq:(-((n / 10:Nat):Int)=0)=(n / 10=0):=propext (by omega)
  by_cases hr:n % 10=0
  case' pos =>
   have h10':(-(n:Int)).tmod 10=((n % 10:Nat):Int):=by rw [h10];omega
   have hz:(((n % 10:Nat):Int) < 0)=False:=eq_false (by omega)
   clear h10
   refine aK (n:=25) (rs:=[.tmp 2]) Tryz.func74 rfl rfl (by decide) rfl rfl rfl ?_;rintro x rfl hrd hng
   (repeat (first|(refine aA rfl rfl ?_)|(refine aB rfl rfl ?_)|(refine az nmd [] hng (by kernel_rfl) fun hf C S K hC1 hC hS hK=>?_;simp (disch:=first|omega|assumption) only [go_sem,h10',hz,decide_true,decide_false,ne_eq,not_true_eq_false,not_false_eq_true];(repeat ((first|refine hC1 _ () (by simp (disch:=first|omega|assumption) only [go_sem]) ?_);simp (disch:=first|omega|assumption) only [go_sem]));refine hK ?_;clear hK hS hC hC1 K S C hf)|((first|refine zn ?_|refine ze ?_|refine zk ?_);with_reducible (constructor;repeat constructor);try refine zl ?_)))
  case' neg =>
   have hz:(-((n % 10:Nat):Int) < 0)=True:=eq_true (by omega)
   have hng':0 - -((n % 10:Nat):Int)=((n % 10:Nat):Int):=by omega
   refine aK (n:=25) (rs:=[.tmp 2]) Tryz.func74 rfl rfl (by decide) rfl rfl rfl ?_;rintro x rfl hrd hng
   (repeat (first|(refine aA rfl rfl ?_)|(refine aB rfl rfl ?_)|(refine az nmd [] hng (by kernel_rfl) fun hf C S K hC1 hC hS hK=>?_;simp (disch:=first|omega|assumption) only [go_sem,h10,hz,hng',decide_true,decide_false,ne_eq,not_true_eq_false,not_false_eq_true];(repeat ((first|refine hC1 _ () (by simp (disch:=first|omega|assumption) only [go_sem]) ?_);simp (disch:=first|omega|assumption) only [go_sem]));refine hK ?_;clear hK hS hC hC1 K S C hf)|((first|refine zn ?_|refine ze ?_|refine zk ?_);with_reducible (constructor;repeat constructor);try refine zl ?_)))
  all_goals
   refine az nmd [] hng (by kernel_rfl) fun hf C S K hC1 hC hS hK=>?_;simp (disch:=first|omega|assumption) only [go_sem,hd,gE,qu]
   refine hK ?_;clear hK hS hC hC1 K S C hf
   (repeat (first|(refine aA rfl rfl ?_)|(refine aB rfl rfl ?_)|(refine az nmd [] hng (by kernel_rfl) fun hf C S K hC1 hC hS hK=>?_;simp (disch:=first|omega|assumption) only [go_sem,h11,hq];(repeat ((first|refine hC1 _ () (by simp (disch:=first|omega|assumption) only [go_sem]) ?_);simp (disch:=first|omega|assumption) only [go_sem]));refine hK ?_;clear hK hS hC hC1 K S C hf)|((first|refine zn ?_|refine ze ?_|refine zk ?_);with_reducible (constructor;repeat constructor);try refine zl ?_)))
   refine aY rfl rfl (fun hb=>?_) (fun hb=>?_)
   ·refine qw0 ?_
    exact ar (a6 (congrArg AV.str (by rw [Lib.decDigits,dif_pos (by omega)];congr 2;rw [Nat.mod_eq_of_lt (by omega)])))
   ·(try ((first|refine zn ?_|refine ze ?_|refine zk ?_);with_reducible (constructor;repeat constructor));try refine zl ?_)
    refine qr .o h11 (cq (ih (n / 10) (by omega) (by omega) (by omega) _) trivial) ?_
    refine qw0 ?_
    exact ar (a6 (congrArg AV.str (by rw [Lib.decDigits.eq_def n,dif_neg (by omega)])))
theorem kN (n:Int) (h0:-9223372036854775808≤n) (hn:n≤9223372036854775807) (p:Oid):ak Tryz.prog 28 [.int .i64 n] (Oid.under p) ⟨[],.str (Lib.itoa n),[]⟩:=by
 by_cases hz:n < 0
 ·have hT:=fun p=>vo n.natAbs (by omega) (by omega) p
  have hl:=Lib.itoa_length_le n (by omega) (by omega)
  have hi:Lib.itoa n=45::Lib.decDigits n.natAbs:=by unfold Lib.itoa;rw [if_pos hz]
  rw [show -(n.natAbs:Int)=n by omega] at hT
  rw [hi] at hl ⊢
  simp only [List.length_cons] at hl
  refine aK (n:=10) (rs:=[.tmp 2]) Tryz.func28 rfl rfl (by decide) rfl rfl rfl ?_;rintro x rfl hrd hng
  (repeat (first|(refine aA rfl rfl ?_)|(refine aB rfl rfl ?_)|(refine az nmd [] hng (by kernel_rfl) fun hf C S K hC1 hC hS hK=>?_;simp (disch:=first|omega|assumption) only [go_sem,hz,decide_true,decide_false,ne_eq,not_true_eq_false,not_false_eq_true];(repeat ((first|refine hC1 _ (hT _) (by simp (disch:=first|omega|assumption) only [go_sem]) ?_);simp (disch:=first|omega|assumption) only [go_sem]));refine hK ?_;clear hK hS hC hC1 K S C hf)|((first|refine zn ?_|refine ze ?_|refine zk ?_);with_reducible (constructor;repeat constructor);try refine zl ?_)))
  exact ar (a6 rfl)
 ·obtain ⟨k,rfl⟩:=Int.eq_ofNat_of_zero_le (by omega:0≤n)
  have hz':((k:Int) < 0)=False:=eq_false (by omega)
  rw [Lib.itoa_nonneg]
  refine aK (n:=10) (rs:=[.tmp 2]) Tryz.func28 rfl rfl (by decide) rfl rfl rfl ?_;rintro x rfl hrd hng
  (repeat (first|(refine aA rfl rfl ?_)|(refine aB rfl rfl ?_)|(refine az nmd [] hng (by kernel_rfl) fun hf C S K hC1 hC hS hK=>?_;simp (disch:=first|omega|assumption) only [go_sem,hz',decide_true,decide_false,ne_eq,not_true_eq_false,not_false_eq_true];(repeat ((first|refine hC1 _ (sv k hn _) (by simp (disch:=first|omega|assumption) only [go_sem]) ?_);simp (disch:=first|omega|assumption) only [go_sem]));refine hK ?_;clear hK hS hC hC1 K S C hf)|((first|refine zn ?_|refine ze ?_|refine zk ?_);with_reducible (constructor;repeat constructor);try refine zl ?_)))
  exact ar (a6 rfl)
end Go.Proofs.YtpficjpdfbiedaaGreatDoor
namespace Go.Proofs.YtpficjpdfbiedaaGreatDoor
open Go Go.Ab
set_option maxRecDepth 20000
set_option maxHeartbeats 4000000
theorem jv (l:List Tch) (hn:l.length≤4000000) (hl:(aR l).length≤140737488355328) (p:Oid) (hp:p.mono=false):ak Tryz.prog 35 [.list 3 (l.map tchAV)] (Oid.under p) ⟨[],.str (aR l),[]⟩:=by
 have hl3:=e6 l
 have hE:=fun p=>dU (spT l) hl (by omega) p
 refine aK (n:=33) (rs:=[.tmp 2]) Tryz.func35 rfl rfl (by decide) rfl rfl rfl ?_;rintro x rfl hrd hng
 refine qw0 ?_
 refine fD 3 1 rfl ?_
 refine aT [0,3,4] (fun k s'=>∃ (i c d j:Nat),s' = ⟨[(0,.list 3 (l.map tchAV)),(3,.sl (.sub d j x.p) 1 (3 * i)),(4,.int .i64 i)],Mem.of [(.sub d j x.p,.arr 1 ((spT (l.take i)).map AV.str))],c,[]⟩∧k=l.length - i∧i≤l.length∧d < c) _ ⟨0,_,_,0,rfl,rfl,Nat.zero_le _,by omega⟩ ?_
 rintro k s' ⟨i,c,d,j,rfl,rfl,hi,hdc⟩
 (repeat (first|(refine aA rfl rfl ?_)|(refine aB rfl rfl ?_)|(refine az nmd [] hng (by kernel_rfl) fun hf C S K hC1 hC hS hK=>?_;simp (disch:=first|omega|assumption) only [go_sem,List.length_map];refine hK ?_;clear hK hS hC hC1 K S C hf)|((first|refine zn ?_|refine ze ?_|refine zk ?_);with_reducible (constructor;repeat constructor);try refine zl ?_)))
 refine aY rfl rfl (fun hb=>?_) (fun hb=>?_)
 ·have hlt:i < l.length:=by omega
  have ht:=oG (l:=l) hlt
  have hsl:=e6 (l.take i)
  rw [List.length_take,Nat.min_eq_left hi] at hsl
  generalize hg:l.getD i default=g at ht
  obtain ⟨⟨gp,gf⟩,gv⟩:=g
  generalize spT (l.take i)=D at ht hsl ⊢
  have hDl:(D.map AV.str).length=3 * i:=by rw [List.length_map,hsl]
  cases gf
  ·(repeat (first|(refine aA rfl rfl ?_)|(refine aB rfl rfl ?_)|(refine az nmd [] hng (by kernel_rfl) fun hf C S K hC1 hC hS hK=>?_;simp (disch:=first|omega|assumption) only [go_sem,hg,tchAV,AV.cells,List.length_map,hsl];refine hK ?_;clear hK hS hC hC1 K S C hf)|((first|refine zn ?_|refine ze ?_|refine zk ?_);with_reducible (constructor;repeat constructor);try refine zl ?_)))
   refine bA nmd [] [] mixed hng (by kernel_rfl) [0,3,4] fun hf C S K hC hS hK=>?_;simp (disch:=first|omega|assumption) only [go_sem,hg,tchAV,AV.cells,List.length_map,hsl]
   (first|refine hK (aE rfl) ?_|refine hK (by simp (disch:=first|omega|assumption) only [go_sem,List.reverse_cons,List.reverse_nil,ne_eq,not_false_eq_true,implies_true]) ?_);clear hK hS hC K S C hf
   refine qw0 ?_
   exact ⟨_,Mem.of [(.sub (c+1+1+1) 13 x.p,.arr 1 ((spT (l.take (i+1))).map AV.str))],by omega,ij (by rw [ht,List.map_append];simp (disch:=first|omega|assumption) only [go_sem,kx,Bool.false_eq_true,if_true,if_false]),i+1,c+1+1+1+1+1,c+1+1+1,13,rfl,rfl,by omega,by omega⟩
  ·(repeat (first|(refine aA rfl rfl ?_)|(refine aB rfl rfl ?_)|(refine az nmd [] hng (by kernel_rfl) fun hf C S K hC1 hC hS hK=>?_;simp (disch:=first|omega|assumption) only [go_sem,hg,tchAV,AV.cells,List.length_map,hsl];refine hK ?_;clear hK hS hC hC1 K S C hf)|((first|refine zn ?_|refine ze ?_|refine zk ?_);with_reducible (constructor;repeat constructor);try refine zl ?_)))
   refine bA nmd [] [] mixed hng (by kernel_rfl) [0,3,4] fun hf C S K hC hS hK=>?_;simp (disch:=first|omega|assumption) only [go_sem,hg,tchAV,AV.cells,List.length_map,hsl]
   (first|refine hK (aE rfl) ?_|refine hK (by simp (disch:=first|omega|assumption) only [go_sem,List.reverse_cons,List.reverse_nil,ne_eq,not_false_eq_true,implies_true]) ?_);clear hK hS hC K S C hf
   refine qw0 ?_
   exact ⟨_,Mem.of [(.sub (c+1+1+1+1) 13 x.p,.arr 1 ((spT (l.take (i+1))).map AV.str))],by omega,ij (by rw [ht,List.map_append];simp (disch:=first|omega|assumption) only [go_sem,kx,Bool.false_eq_true,if_true,if_false]),i+1,c+1+1+1+1+1+1,c+1+1+1+1,13,rfl,rfl,by omega,by omega⟩
 ·obtain rfl:i=l.length:=by omega
  rw [List.take_length]
  refine qw0 ?_
  (refine cm (.sub d j x.p) _ _ (by simp (disch:=first|omega|assumption) only [go_sem];rfl) ?_;simp (disch:=first|omega|assumption) only [go_sem])
  simp (disch:=first|omega|assumption) only [go_sem,hl3]
  refine qr1 (hE _) ?_
  refine qw0 ?_
  exact ar (a6 rfl)
theorem oN (m:Mm) (hr:m.rd.length≤1000000) (hw:m.wr.length≤1000000) (hlr:(aR m.rd).length≤140737488355328) (hlw:(aR m.wr).length≤140737488355328) (hs:-9223372036854775808≤m.st∧m.st≤9223372036854775807) (hl:(e7 m).length≤140737488355328) (p:Oid) (hp:p.mono=false):ak Tryz.prog 15 [.agg [.str m.key,.list 3 (m.rd.map tchAV),.list 3 (m.wr.map tchAV),.int .i64 m.st,.str m.out,.str m.err]] (Oid.under p) ⟨[],.str (e7 m),[]⟩:=by
 have hS1:=fun p hp=>jv m.rd (by omega) hlr p hp
 have hS2:=fun p hp=>jv m.wr (by omega) hlw p hp
 have hI:=fun p=>kN m.st hs.1 hs.2 p
 have hE:=fun p=>dU [m.key,aR m.rd,aR m.wr,Lib.itoa m.st,m.out,m.err] hl (by simp) p
 rw [show aC [m.key,aR m.rd,aR m.wr,Lib.itoa m.st,m.out,m.err]=e7 m from rfl] at hE
 simp only [List.map_cons,List.map_nil] at hE
 generalize e7 m=E at hE ⊢
 clear hl hlr hlw
 refine aK (n:=23) (rs:=[.tmp 2]) Tryz.func15 rfl rfl (by decide) rfl rfl rfl ?_;rintro x rfl hrd hng
 refine qw0 ?_
 refine qd (.d [(1,4),(4,6),(1,7),(4,10),(7,10),(1,11),(4,14),(7,14),(11,14),(4,17),(7,17),(11,17)] [] [2]) trivial (cq (hS1 _) (cq (hS2 _) (cq (hI _) (cq (hE _) trivial)))) ?_
 refine qw0 ?_
 exact ar (a6 rfl)
end Go.Proofs.YtpficjpdfbiedaaGreatDoor
namespace Go.Proofs.YtpficjpdfbiedaaGreatDoor
open Go Go.Ab
set_option maxRecDepth 20000
set_option maxHeartbeats 4000000
theorem lV (s:Str) (hl:s.length≤4000000000) (p:Oid):ak Tryz.prog 33 [.str s] (Oid.under p) ⟨[],lS (dv s),[]⟩:=by
 have hD:=fun p=>kl s hl p
 have h20:¬ (20:Int)=0:=by decide
 unfold dv
 cases hd:dD s with
 | none =>
  rw [hd] at hD
  simp only [kZ] at hD
  refine aK (n:=61) (rs:=[.tmp 2,.tmp 3]) Tryz.func33 rfl rfl (by decide) rfl rfl rfl ?_;rintro x rfl hrd hng
  refine qw0 ?_
  refine qr1 (hD _) ?_
  refine qr (.d [] [(2,15)] []) h20 trivial ?_
  refine qw0 ?_
  exact ar (aq (by simp (disch:=first|omega|assumption) only [go_sem];rfl))
 | some l =>
  rw [hd] at hD
  have hll:l.length≤s.length:=by
   have h1:=(fL (l:=l)).1
   rw [iB hd] at h1;exact h1
  have e3:((l.length:Int)).tmod 3=((l.length % 3:Nat):Int):=cT _ 3
  show ak _ _ _ _ ⟨[],lS (eD l),[]⟩
  simp only [kZ] at hD
  by_cases h3:l.length % 3=0
  case neg =>
   have hnn:eD l=none:=by
    cases ht:eD l with
    | none=>rfl
    | some ts=>have:=iI l ts ht;omega
   rw [hnn]
   have h3':¬ ((l.length % 3:Nat):Int)=0:=by omega
   refine aK (n:=61) (rs:=[.tmp 2,.tmp 3]) Tryz.func33 rfl rfl (by decide) rfl rfl rfl ?_;rintro x rfl hrd hng
   refine qw0 ?_
   refine qr1 (hD _) ?_
   refine qr (.d [] [(2,15)] []) (ai e3 h3') trivial ?_
   refine qw0 ?_
   exact ar (aq (by simp (disch:=first|omega|assumption) only [go_sem];rfl))
  obtain ⟨n,hn⟩:∃ n,l.length=3 * n:=⟨l.length / 3,by omega⟩
  have h3':((l.length % 3:Nat):Int)=0:=by omega
  refine aK (n:=61) (rs:=[.tmp 2,.tmp 3]) Tryz.func33 rfl rfl (by decide) rfl rfl rfl ?_;rintro x rfl hrd hng
  refine qw0 ?_
  refine qr1 (hD _) ?_
  refine qr (.d [] [(2,15)] []) (ai e3 h3') trivial ?_
  refine qw0 ?_
  refine fD 6 3 rfl ?_
  refine qw0 ?_
  refine aT [4,6,7] (fun q s'=>∃ (i k c d j:Nat) (ts:List Tch),s' = ⟨[(4,.list 1 (l.map .str)),(6,.sl (.sub d j x.p) 3 k),(7,.int .i64 i)],Mem.of [(.sub d j x.p,.arr 3 (ts.map tchAV))],c,[]⟩∧i=3 * k∧q=n - k∧k≤n∧d < c∧ts.length=k∧eD (l.take (3 * k))=some ts) _ ⟨0,0,_,_,0,[],rfl,rfl,rfl,Nat.zero_le _,by omega,rfl,by rw [Nat.mul_zero];rfl⟩ ?_
  rintro q s' ⟨i,k,c,d,j,ts,rfl,hi3,rfl,hk,hdc,htl,ht⟩
  (repeat (first|(refine aA rfl rfl ?_)|(refine aB rfl rfl ?_)|(refine az nmd [] hng (by kernel_rfl) fun hf C S K hC1 hC hS hK=>?_;simp (disch:=first|omega|assumption) only [go_sem,List.length_map];refine hK ?_;clear hK hS hC hC1 K S C hf)|((first|refine zn ?_|refine ze ?_|refine zk ?_);with_reducible (constructor;repeat constructor);try refine zl ?_)))
  refine aY rfl rfl (fun hb=>?_) (fun hb=>?_)
  ·have hlt:k < n:=by omega
   have ht3:=vf (l:=l) (k:=k) (by omega)
   have hs3:=vg (l:=l) (k:=k) (by omega)
   have f1:((i:Int)+1).toNat=i+1:=by omega
   have f2:((i:Int)+2).toNat=i+2:=by omega
   rw [← hi3] at ht3 hs3 ht
   generalize hga:l.getD i default=a at ht3 hs3
   generalize hgb:l.getD (i+1) default=b at ht3 hs3
   generalize hgd:l.getD (i+2) default=d' at ht3 hs3
   by_cases hok:okF b
   case neg =>
    have n0:¬ b=[48]:=fun e=>hok (.inl e)
    have n1:¬ b=[49]:=fun e=>hok (.inr e)
    have hbad:eD l=none:=by rw [hs3];exact kJ a b d' _ hok k _ (by rw [List.length_take];omega)
    rw [hbad]
    (try ((first|refine zn ?_|refine ze ?_|refine zk ?_);with_reducible (constructor;repeat constructor));try refine zl ?_)
    refine qr (.d [] [(6,33)] []) (ai n0 (ai n1 (ai f1 hgb))) trivial ?_
    refine qw0 ?_
    exact ar (aq (by simp (disch:=first|omega|assumption) only [go_sem];rfl))
   have hsn:=ja a b d' _ ts ht
   rw [if_pos hok,← ht3] at hsn
   have e01:¬ ([48]:Str)=[49]:=by decide
   have e10:¬ ([49]:Str)=[48]:=by decide
   rcases hok with rfl|rfl
   all_goals
    (try ((first|refine zn ?_|refine ze ?_|refine zk ?_);with_reducible (constructor;repeat constructor));try refine zl ?_)
    refine qr (.d [] [(6,33)] []) (ai e01 (ai e10 (ai f1 hgb))) trivial ?_
    refine qw0 ?_
    refine bA nmd [] [] mixed hng (by kernel_rfl) [4,6,7] fun hf C S K hC hS hK=>?_;simp (disch:=first|omega|assumption) only [go_sem,e01,e10,f1,f2,hga,hgb,hgd,htl,List.length_map]
    (first|refine hK (aE rfl) ?_|refine hK (by simp (disch:=first|omega|assumption) only [go_sem,List.reverse_cons,List.reverse_nil,ne_eq,not_false_eq_true,implies_true]) ?_);clear hK hS hC K S C hf
    refine qw0 ?_
    exact ⟨_,Mem.of [(.sub (c+1+1) 18 x.p,.arr 3 ((ts++[_]).map tchAV))],by omega,ij (by rw [List.map_append];simp (disch:=first|omega|assumption) only [go_sem,tchAV,e01,decide_false,decide_true]),i+3,k+1,c+1+1+1+1,c+1+1,18,_,rfl,by omega,rfl,by omega,by omega,by rw [List.length_append,htl];rfl,hsn⟩
  ·obtain rfl:k=n:=by omega
   have hne:3 * k=l.length:=by omega
   rw [hne,List.take_length] at ht
   rw [ht]
   refine qw0 ?_
   (refine cm (.sub d j x.p) _ _ (by simp (disch:=first|omega|assumption) only [go_sem];rfl) ?_;simp (disch:=first|omega|assumption) only [go_sem])
   simp (disch:=first|omega|assumption) only [go_sem,htl,List.length_map]
   exact ar (aq (by simp (disch:=first|omega|assumption) only [go_sem];rfl))
end Go.Proofs.YtpficjpdfbiedaaGreatDoor
namespace Go.Proofs.YtpficjpdfbiedaaGreatDoor
open Go Go.Ab
set_option maxRecDepth 20000
set_option maxHeartbeats 4000000
theorem vp {n:Str} (h:cv n=false):bW n < 0:=by
 have h1:=(iu n).1
 rw [h] at h1
 have:=of_decide_eq_false h1.symm
 omega
theorem vq {n:Str} (h:cv n=true):¬ bW n < 0∧bW n=aX n:=by
 have h1:=(iu n).1
 rw [h] at h1
 have:=of_decide_eq_true h1.symm
 exact ⟨by omega,((iu n).2 h).symm⟩
theorem jw (s:Str) (hl:s.length≤4000000000) (p:Oid):ak Tryz.prog 14 [.str s] (Oid.under p) ⟨[],w5 (dZ s),[]⟩:=by
 have hD:=fun p=>kl s hl p
 have h20:¬ (20:Int)=0:=by decide
 cases hd:dD s with
 | none =>
  have hdm:dZ s=none:=by unfold dZ;rw [hd]
  rw [hdm]
  rw [hd] at hD
  simp only [kZ] at hD
  refine aK (n:=67) (rs:=[.cell 2 31,.tmp 3]) Tryz.func14 rfl rfl (by decide) rfl rfl rfl ?_;rintro x rfl hrd hng
  refine qw0 ?_
  refine qr1 (hD _) ?_
  refine qr (.d [] [(2,18)] []) h20 trivial ?_
  refine qw0 ?_
  exact ar (aq (by simp (disch:=first|omega|assumption) only [go_sem];rfl))
 | some l =>
  rw [hd] at hD
  simp only [kZ] at hD
  have hml:=ki hd
  by_cases h6:l.length=6
  case neg =>
   have h6':¬ (l.length:Int)=6:=by omega
   have hnn:dZ s=none:=by
    unfold dZ
    rw [hd]
    split
    ·rename_i k r w n o e he;rw [Option.some.inj he] at h6;exact absurd rfl h6
    ·rfl
   rw [hnn]
   refine aK (n:=67) (rs:=[.cell 2 31,.tmp 3]) Tryz.func14 rfl rfl (by decide) rfl rfl rfl ?_;rintro x rfl hrd hng
   refine qw0 ?_
   refine qr1 (hD _) ?_
   refine qr (.d [] [(2,18)] []) h6' trivial ?_
   refine qw0 ?_
   exact ar (aq (by simp (disch:=first|omega|assumption) only [go_sem];rfl))
  obtain ⟨k,r,w,n,o,e,rfl⟩:=xv h6
  have hR1:=fun p=>lV r (Nat.le_trans (hml r (by simp)) hl) p
  have hR2:=fun p=>lV w (Nat.le_trans (hml w (by simp)) hl) p
  have hN:=fun p=>kg n (by have:=hml n (by simp);omega) p
  have hdm:dZ s=mk6 k (dv r) (dv w) n o e:=by unfold dZ;rw [hd]
  rw [hdm]
  simp only [List.map_cons,List.map_nil] at hD
  clear hml hd h6 hdm
  have hg:(cv n=false∧bW n < 0)∨(cv n=true∧¬ bW n < 0∧bW n=aX n):=by
   cases h:cv n
   ·exact .inl ⟨rfl,vp h⟩
   ·exact .inr ⟨rfl,vq h⟩
  unfold mk6
  generalize cv n=g at hg ⊢
  generalize aX n=z at hg ⊢
  generalize bW n=q at hN hg
  generalize dv r=rr at hR1 ⊢
  generalize dv w=ww at hR2 ⊢
  rcases hg with ⟨rfl,hz⟩|⟨rfl,hz,rfl⟩
  all_goals cases rr<;>cases ww
  all_goals
   simp only [lS] at hR1 hR2
   refine aK (n:=67) (rs:=[.cell 2 31,.tmp 3]) Tryz.func14 rfl rfl (by decide) rfl rfl rfl ?_;rintro x rfl hrd hng
   refine qw0 ?_
   refine qr1 (hD _) ?_
   refine qr (.d [] [(2,18)] []) trivial trivial ?_
   refine qw0 ?_
   refine qr1 (hR1 _) ?_
   refine qr1 (hR2 _) ?_
   refine qr1 (hN _) ?_
   refine qr (.d [] [(2,44),(6,48)] []) hz trivial ?_
   refine qw0 ?_
   first
   | exact ar (aq (by simp (disch:=first|omega|assumption) only [go_sem];rfl))
   | (refine bA nmd [] [] mixed hng (by kernel_rfl) [2,3] fun hf C S K hC hS hK=>?_;simp (disch:=first|omega|assumption) only [go_sem]
      (first|refine hK (aE rfl) ?_|refine hK (by simp (disch:=first|omega|assumption) only [go_sem,List.reverse_cons,List.reverse_nil,ne_eq,not_false_eq_true,implies_true]) ?_);clear hK hS hC K S C hf
      refine qw0 ?_
      exact ar (aq (by simp (disch:=first|omega|assumption) only [go_sem];rfl)))
end Go.Proofs.YtpficjpdfbiedaaGreatDoor
namespace Go.Proofs.YtpficjpdfbiedaaGreatDoor
open Go Go.Ab
set_option maxRecDepth 20000
set_option maxHeartbeats 4000000
def y8 (o:Option Mm):AV:=match o with
 | some m=>m.av
 | none=>wZ
theorem oO (o:Option Mm) (c:Nat) (hb:∀ m,o=some m→y4 m c) (hc:c≤4000000000) (p:Oid) (hp:p.mono=false):ak Tryz.prog 17 [y8 o,y8 o] (Oid.under p) ⟨[],.bool true,[]⟩:=by
 cases o with
 | none=>exact (oM ⟨[],[],[],0,[],[]⟩ (by decide) (by decide) p hp).nT (.cons (p5 _) (.cons (p5 _) .nil))
 | some m=>exact oM m (Nat.le_trans (hb m rfl).rd hc) (Nat.le_trans (hb m rfl).wr hc) p hp
theorem oP {m:Mm} (h:Mm.small m 500) (hs:-9223372036854775808≤m.st∧m.st≤9223372036854775807):m.rd.length≤1000000∧m.wr.length≤1000000∧(aR m.rd).length≤20000000∧(aR m.wr).length≤20000000∧(e7 m).length≤1000000000:=by
 have a1:=jn h.rl h.r (by omega) (by omega)
 have a2:=jn h.wl h.w (by omega) (by omega)
 have n1:=h.rl
 have n2:=h.wl
 have k1:=h.k
 have k2:=h.o
 have k3:=h.e
 have hii:=Lib.itoa_length_le m.st (by omega) (by omega)
 have one:∀ s:Str,s.length≤100000000→(chunk s).length≤100000100:=fun s h=>by
  have h1:=bs s
  have h2:=Lib.itoa_length_le s.length (by omega) (by omega)
  omega
 have c1:=one m.key (by omega)
 have c2:=one m.out (by omega)
 have c3:=one m.err (by omega)
 have c4:=one (Lib.itoa m.st) (by omega)
 have c5:=one _ (Nat.le_trans a1 (by omega))
 have c6:=one _ (Nat.le_trans a2 (by omega))
 refine ⟨by omega,by omega,a1,a2,?_⟩
 simp only [e7,aC,List.length_append,List.length_nil];omega
theorem vr {s:Str}:∀ m,dZ s=some m→y4 m s.length:=fun m h=>by
 have h1:=y5 m
 rw [uO h] at h1;exact h1
theorem texts_ok (m:Mm) (hm:m.in) (hst:-9223372036854775808≤m.st∧m.st≤9223372036854775807) (s:Str) (hs:s.length≤140737488355328) (p:Oid) (hp:p.mono=false) :
  ak Tryz.prog 4 [m.av,.str s] (Oid.under p) ⟨[],.bool true,[]⟩:=by
 have hA:=fun p hp=>kM p hp
 have hS:=fun p (_:p.mono=false)=>sq m hm.k hm.o hm.e hm.rl hm.wl hm.r hm.w p
 by_cases h5:kL m≤500
 case neg =>
  rw [decide_eq_false h5] at hS
  clear h5 hm hst
  obtain ⟨mk,mr,mw,ms,mo,me⟩:=m
  simp only [Mm.av] at hS ⊢
  refine aK (n:=72) (rs:=[.tmp 4]) Tryz.func4 rfl rfl (by decide) rfl rfl rfl ?_;rintro x rfl hrd hng
  refine qw0 ?_
  refine qr (.d [] [(3,16)] []) trivial (cq (hS _) trivial) ?_
  (repeat (first|(refine aA rfl rfl ?_)|(refine aB rfl rfl ?_)|(refine az nmd [] hng (by kernel_rfl) fun hf C S K hC1 hC hS hK=>?_;simp (disch:=first|omega|assumption) only [go_sem];(repeat ((first|refine hC1 _ (hA _ (ay rfl hp)) (by simp (disch:=first|omega|assumption) only [go_sem]) ?_);simp (disch:=first|omega|assumption) only [go_sem]));refine hK ?_;clear hK hS hC hC1 K S C hf)|((first|refine zn ?_|refine ze ?_|refine zk ?_);with_reducible (constructor;repeat constructor);try refine zl ?_)))
  exact ar (a6 rfl)
 rw [decide_eq_true h5] at hS
 have hsm:=vi h5
 clear h5
 by_cases hl:s.length≤500
 case neg =>
  have hl':(s.length:Int) > 500:=by omega
  clear hm hsm hst
  obtain ⟨mk,mr,mw,ms,mo,me⟩:=m
  simp only [Mm.av] at hS ⊢
  refine aK (n:=72) (rs:=[.tmp 4]) Tryz.func4 rfl rfl (by decide) rfl rfl rfl ?_;rintro x rfl hrd hng
  refine qw0 ?_
  refine qr (.d [] [(3,16)] []) hl' (cq (hS _) trivial) ?_
  (repeat (first|(refine aA rfl rfl ?_)|(refine aB rfl rfl ?_)|(refine az nmd [] hng (by kernel_rfl) fun hf C S K hC1 hC hS hK=>?_;simp (disch:=first|omega|assumption) only [go_sem];(repeat ((first|refine hC1 _ (hA _ (ay rfl hp)) (by simp (disch:=first|omega|assumption) only [go_sem]) ?_);simp (disch:=first|omega|assumption) only [go_sem]));refine hK ?_;clear hK hS hC hC1 K S C hf)|((first|refine zn ?_|refine ze ?_|refine zk ?_);with_reducible (constructor;repeat constructor);try refine zl ?_)))
  exact ar (a6 rfl)
 have hl':¬ (s.length:Int) > 500:=by omega
 clear hm
 obtain ⟨r1,r2,l1,l2,le⟩:=oP hsm hst
 have hE:=fun p hp=>kE m r1 r2 (by omega) (by omega) hst (by omega) p hp
 have hER:=fun p hp=>oN m r1 r2 (by omega) (by omega) hst (by omega) p hp
 have hDE:=fun p hp=>gJ (e7 m) (by omega) p hp
 have hDRE:=fun p=>jw (e7 m) (by omega) p
 have hDS:=fun p hp=>gJ s (by omega) p hp
 have hDRS:=fun p=>jw s (by omega) p
 have hQE:=fun p hp=>oO (dZ (e7 m)) _ vr (by omega) p hp
 have hQS:=fun p hp=>oO (dZ s) _ vr (by omega) p hp
 generalize e7 m=E at hE hER hDE hDRE hQE
 generalize dZ E=oe at hDE hDRE hQE
 generalize dZ s=os at hDS hDRS hQS
 clear hsm r1 r2 l1 l2 le hst
 obtain ⟨mk,mr,mw,ms,mo,me⟩:=m
 simp only [Mm.av] at hS hE hER ⊢
 cases oe<;>cases os
 all_goals
  simp only [w5,y8,wZ,Mm.av] at hDE hDRE hQE hDS hDRS hQS
  refine aK (n:=72) (rs:=[.tmp 4]) Tryz.func4 rfl rfl (by decide) rfl rfl rfl ?_;rintro x rfl hrd hng
  refine qw0 ?_
  refine qr (.d [] [(3,16)] []) hl' (cq (hS _) trivial) ?_
  refine qw0 ?_
  refine qr1 (hDS _) ?_
  refine qr1 (hDRS _) ?_
  refine qr .o trivial (cq (hER _) (cq (hDE _) trivial)) ?_
  refine qr .o trivial (cq (hER _) (cq (hDRE _) trivial)) ?_
  refine qd (.d [(3,4)] [(1,45),(8,52),(13,57),(18,62),(23,67)] [4]) trivial (cq (hA _) (cq (hE _) (cq (hER _) (cq (hQS _) (cq (hQE _) trivial))))) ?_
  refine qw0 ?_
  exact ar (a6 rfl)
end Go.Proofs.YtpficjpdfbiedaaGreatDoor
namespace Go.Proofs.YtpficjpdfbiedaaGreatDoor
open Go Go.Ab
set_option maxRecDepth 20000
set_option maxHeartbeats 1000000
theorem oQ {P:Program} [Laid P] {o:Oper} {ρ:Operand→AV} {sp:Oid→Prop} {s d el:TypeId} {y:Operand} {nid:Oid} {l:Str} {ag:Bool} {bt:Nat} (ho:o.op = .convert s d y) (hy:ρ y = .str l) (hl:l.length≤140737488355328)
  (hs:tyk P s=some .str) (hd:tyk P d=some (.slice el ag 1 bt)) (h8:u8K (tyk P el)=true) (hsp:sp nid) (hnt:nid.tyd=none):aw P o ρ sp ⟨[],.sl nid 1 l.length,[(nid,some (.arr 1 (l.map byA)))]⟩:=by
 intro x g a w m hm _ hop hspp hng next Q K
 have vy:=hop y (by simp [Op.operands,ho])
 rw [hy] at vy
 obtain ⟨b,hb,hbl⟩:=vy.bg
 obtain ⟨ds,hds,rfl⟩:=ax hs
 obtain ⟨dd,hdd,rfl,_⟩:=ax hd
 have he8:P.underlying el=some (.int .u8):=by
  unfold u8K at h8
  split at h8
  ·rename_i hk;obtain ⟨d8,h9,rfl⟩:=ax hk;exact h9
  ·cases h8
 have hlen:b.size=l.length:=by rw [← hbl,Array.length_toList];rfl
 have hrun:=run_bytes_of_string (P:=P) w s d el b hds hdd he8
 have hcap:=ez (need:=b.size) (old:=0) (el:=el) (t:=w.tape w.drawn (.appendCap b.size 0 el)) (by omega)
 change b.size≤grownCap w b.size 0 el at hcap
 generalize grownCap w b.size 0 el=C at hcap hrun
 have hrs:(bytesRow b C).size=C:=by
  have:b.data.size=b.size:=rfl
  simp [bytesRow,this];omega
 have hget:∀ j (hj:j < l.length),(bytesRow b C).getD j undef = .int .u8 (l[j].toNat:Int):=fun j hj=>by
  have hjb:j < b.data.size:=by have:b.data.size=b.size:=rfl;omega
  subst hbl
  have hjs:j < b.size:=hjb
  simp [bytesRow,Array.getElem?_append,hjs,Array.getElem?_eq_getElem hjb]
 generalize bytesRow b C=row at hrun hrs hget
 rw [hlen] at hrun hcap
 have hmd:ao x g m w.drew:=hm.drew _ (Nat.le_succ _)
 obtain ⟨hl',hun⟩:=hspp nid hsp
 have hrn:g.row w.heap.size=none:=hm.fN (Nat.le_refl _)
 have hex:(execOp a.eval o).run P w = .ok (.value (.slice (some ⟨w.heap.size,0,none⟩) l.length C)) (w.drew.alloc (.cells row el (row.size,row.size+1))):=by
  simp only [execOp,ho,hb,Sem.run_bind,hrun,Result.andThen_ok,Sem.run_pure]
 refine ⟨fun _ _=>trivial,?_⟩
 rw [Oper.semAt_eq _ _ _ (fun c hc=>by rw [ho] at hc;cases hc),hex,Oper.uponIn_value]
 have hat:∀ i,i < l.length→(l.map byA).getD i .undef=byA (l.getD i 0):=fun i hi=>by
  simp [List.getD_eq_getElem?_getD,List.getElem?_eq_getElem hi]
 have hnew:=hmd.new hl' hun (o:=.arr 1 (l.map byA)) (ob:=.cells row el (row.size,row.size+1)) ⟨row,el,(row.size,row.size+1),aV _ _,by rw [List.length_map,hrs];omega,fun j h1 h2=>by have:=h2.1;simp only at this;omega,fun i hi=>by
  rw [List.length_map] at hi
  rw [hat i hi];rfl,fun j hj=>by
  rw [List.length_map,Nat.mul_one] at hj
  rw [hget j hj];rfl,fun i j hi hj=>by
  rw [List.length_map] at hi
  obtain rfl:j=0:=by omega
  rw [hat i hi,Nat.mul_one,Nat.add_zero,hget i hi]
  have e:l.getD i 0=l[i]:=by rw [List.getD_eq_getElem?_getD,List.getElem?_eq_getElem hi];rfl
  rw [e]
  exact .int _ _⟩ (fun t ht=>by rw [hnt] at ht;cases ht)
 refine K ((g.bind nid w.heap.size).measure w.heap.size C) _ _ (Gh.le_trans (Gh.aP hl') (Gh.bZ (.inl hrn))) (fun j hj=>?_) ?_ (hnew.measure ⟨row,el,_,aV w.drew _,hrs⟩ (.inl hrn))
 ·have hne:¬ j=nid:=fun e=>by subst e;exact hj hsp
  simp only [Gh.bind,Gh.measure];rw [if_neg hne]
 ·exact .sl _ _ _ _ _ (by simp [Gh.bind,Gh.measure]) hcap (by simp [Gh.measure])
theorem zR (a:W32):IntKind.u32.wrap ((HXor.hXor (α:=BitVec 32) (β:=BitVec 32) (γ:=BitVec 32) (self:=instHXorOfXorOp (α:=BitVec IntKind.u32.bits)) (BitVec.ofInt 32 (if IntKind.u32.signed=true then -1 else IntKind.u32.max)) (BitVec.ofInt 32 (a.toNat:Int))).toNat:Int)=((~~~a).toNat:Int):=by
 show IntKind.u32.wrap ((BitVec.ofInt 32 (if IntKind.u32.signed=true then -1 else IntKind.u32.max) ^^^ BitVec.ofInt 32 (a.toNat:Int)).toNat:Int)=_
 have e:BitVec.ofInt 32 (if IntKind.u32.signed=true then -1 else IntKind.u32.max)=(BitVec.allOnes 32):=by decide
 rw [wrap32,ofInt32,ofInt32,e,BitVec.allOnes_xor]
attribute [go_sem high] zR
theorem dh (v:W32) (n:Nat) (h0:0 < n) (h:n < 32) (p:Oid):ak Tryz.prog 116 [.int .u32 v.toNat,.int .i64 n] (Oid.under p) ⟨[],.int .u32 (fJ v n).toNat,[]⟩:=by
 have hn:((32:Int) - n).toNat=32 - n:=by omega
 refine aK (n:=13) (rs:=[.tmp 4]) Tryz.func116 rfl rfl (by decide) rfl rfl rfl ?_;rintro x rfl hrd hng
 refine qw0 ?_
 refine bA nmd [] [] mixed hng (by kernel_rfl) [4] fun hf C S K hC hS hK=>?_;simp (disch:=first|omega|assumption) only [go_sem,hn,Int.toNat_natCast]
 (first|refine hK (aE rfl) ?_|refine hK (by simp (disch:=first|omega|assumption) only [go_sem,List.reverse_cons,List.reverse_nil,ne_eq,not_false_eq_true,implies_true]) ?_);clear hK hS hC K S C hf
 refine qw0 ?_
 exact ar (a6 rfl)
theorem p6 (p:Oid):ak Tryz.prog 70 [] (Oid.under p) ⟨[],.list 1 (iD.map w32),[]⟩:=by
 refine aK (n:=2) (rs:=[.tmp 0]) Tryz.func70 rfl rfl (by decide) rfl rfl rfl ?_;rintro x rfl hrd hng
 refine qw0 ?_
 exact ar (aq (by simp (disch:=first|omega|assumption) only [go_sem];rfl))
theorem sx (p:Oid):ak Tryz.prog 115 [] (Oid.under p) ⟨[],.list 1 (aM.map w32),[]⟩:=by
 refine aK (n:=2) (rs:=[.tmp 0]) Tryz.func115 rfl rfl (by decide) rfl rfl rfl ?_;rintro x rfl hrd hng
 refine qw0 ?_
 exact ar (aq (by simp (disch:=first|omega|assumption) only [go_sem];rfl))
def jC (n:Nat):List UInt8:=[ef n 7,ef n 6,ef n 5,ef n 4,ef n 3,ef n 2,ef n 1,ef n 0]
theorem sy (n:Nat) {j:Nat} (h:j < 8):(jC n).take (j+1)=(jC n).take j++[ef n (7 - j)]:=by
 have hj:j=0∨j=1∨j=2∨j=3∨j=4∨j=5∨j=6∨j=7:=by omega
 rcases hj with rfl|rfl|rfl|rfl|rfl|rfl|rfl|rfl<;>rfl
theorem w7 (n:Nat):e9 n=128::List.replicate (b8 n) 0++jC n:=rfl
theorem sA (s:Str) (hl:s.length≤4000000000) (p:Oid):ak Tryz.prog 71 [.str s] (Oid.under p) ⟨[],.list 1 ((s++e9 s.length).map byA),[]⟩:=by
 have hz:b8 s.length < 64:=Nat.mod_lt _ (by decide)
 refine aK (n:=34) (rs:=[.tmp 2]) Tryz.func71 rfl rfl (by decide) rfl rfl rfl ?_;rintro x rfl hrd hng
 refine qw0 ?_
 refine az nmd [] hng (by kernel_rfl) fun hf C S K hC1 hC hS hK=>?_;simp (disch:=first|omega|assumption) only [go_sem]
 refine hS _ _ _ (fun o' hd ho'=>(oQ (nid:=.sub 1 1 x.p) (l:=s) ho' rfl (by omega) rfl rfl rfl (Oid.ah _) rfl).nd) (fun _ h=>by cases h) ?_ (fun _ _ h=>h.elim)
 rintro _ _ ⟨rfl,rfl⟩
 simp (disch:=first|omega|assumption) only [go_sem]
 refine hK ?_;clear hK hS hC hC1 K S C hf
 refine qw0 ?_
 have hz1:∀ k,k < b8 s.length→¬ (((s.length+1+k) % 64:Nat):Int)=56:=fun k hk=>by unfold b8 at hk;omega
 have hz2:(((s.length+1+b8 s.length) % 64:Nat):Int)=56:=by unfold b8;omega
 obtain ⟨zz,hzz⟩:∃ z,b8 s.length=z:=⟨_,rfl⟩
 rw [hzz] at hz hz1 hz2
 refine aT [0,3] (fun q s'=>∃ (k c d j n:Nat),s' = ⟨[(0,.str s),(3,.sl (.sub d j x.p) 1 n)],Mem.of [(.sub d j x.p,.arr 1 ((s++128::List.replicate k 0).map byA))],c,[]⟩∧n=s.length+1+k∧q=zz - k∧k≤zz∧d < c) _ ⟨0,3,2,2,s.length+1,by rw [List.map_append];rfl,rfl,rfl,Nat.zero_le _,by omega⟩ ?_
 rintro q s' ⟨k,c,d,j,n,rfl,hn,rfl,hk,hdc⟩
 have e1:((n:Int)).tmod 64=((n % 64:Nat):Int):=cT _ 64
 have hR:(s++128::List.replicate k 0).length=n:=by simp;omega
 by_cases hkz:k < zz
 ·have h56:=hz1 k hkz
  rw [← hn] at h56
  have hrow:(s++128::List.replicate (k+1) 0).map byA=(s++128::List.replicate k 0).map byA++[AV.int .u8 0]:=by
   rw [List.replicate_succ',← List.cons_append,← List.append_assoc,List.map_append];rfl
  generalize s++128::List.replicate k 0=R at hrow hR ⊢
  (try ((first|refine zn ?_|refine ze ?_|refine zk ?_);with_reducible (constructor;repeat constructor));try refine zl ?_)
  refine qr (.d [] [] []) (ai e1 h56) trivial ?_
  (repeat (first|(refine aA rfl rfl ?_)|(refine aB rfl rfl ?_)|(refine az nmd [] hng (by kernel_rfl) fun hf C S K hC1 hC hS hK=>?_;simp (disch:=first|omega|assumption) only [go_sem,hR,List.length_map];refine hK ?_;clear hK hS hC hC1 K S C hf)|((first|refine zn ?_|refine ze ?_|refine zk ?_);with_reducible (constructor;repeat constructor);try refine zl ?_)))
  exact ⟨_,_,by omega,fun _ _ h=>h,k+1,c+1+1,c+1,2,n+1,by rw [hrow];rfl,by omega,rfl,by omega,by omega⟩
 ·obtain rfl:k=zz:=by omega
  have h56:=hz2
  rw [← hn] at h56
  have hpe:(s++e9 s.length).map byA=((s++128::List.replicate k 0)++jC s.length).map byA:=by rw [w7,hzz,List.append_assoc]
  rw [hpe]
  clear hpe hz1 hz2 hzz
  generalize s++128::List.replicate k 0=R at hR ⊢
  (try ((first|refine zn ?_|refine ze ?_|refine zk ?_);with_reducible (constructor;repeat constructor));try refine zl ?_)
  refine qr (.d [] [] []) (ai e1 h56) trivial ?_
  refine qw0 ?_
  refine aT [0,3,4,5] (fun q s'=>∃ (i c d j m:Nat) (ii:Int),s' = ⟨[(0,.str s),(3,.sl (.sub d j x.p) 1 m),(4,.int .i64 ((s.length:Int) * 8)),(5,.int .i64 ii)],Mem.of [(.sub d j x.p,.arr 1 ((R++(jC s.length).take i).map byA))],c,[]⟩∧m=n+i∧ii=7 - (i:Int)∧q=8 - i∧i≤8∧d < c) _ ⟨0,c+1+1+1,d,j,n,7,by rw [List.take_zero,List.append_nil];rfl,rfl,rfl,rfl,by omega,by omega⟩ ?_
  rintro q s' ⟨i,c,d,j,m,ii,rfl,hm,hii,rfl,hi,hdc⟩
  refine qw0 ?_
  refine aY rfl rfl (fun hb=>?_) (fun hb=>?_)
  ·have hlt:i < 8:=by omega
   have hpt:=sy s.length hlt
   have hv:=oC s.length (show 7 - i < 8 by omega)
   have hm8:min (8 * (7 - i)) 64=8 * (7 - i):=by omega
   have h8ii:(8 * ii).toNat=8 * (7 - i):=by omega
   have hRl:(R++(jC s.length).take i).length=m:=by
    rw [List.length_append,hR,List.length_take,hm];show n+min i 8=n+i;omega
   have hrow:(R++(jC s.length).take (i+1)).map byA=(R++(jC s.length).take i).map byA++[.int .u8 ((ef s.length (7 - i)).toNat:Int)]:=by
    rw [hpt,← List.append_assoc,List.map_append];rfl
   generalize R++(jC s.length).take i=RR at hRl hrow ⊢
   (repeat (first|(refine aA rfl rfl ?_)|(refine aB rfl rfl ?_)|(refine az nmd [] hng (by kernel_rfl) fun hf C S K hC1 hC hS hK=>?_;simp (disch:=first|omega|assumption) only [go_sem,hm8,h8ii,hv,hRl,List.length_map];refine hK ?_;clear hK hS hC hC1 K S C hf)|((first|refine zn ?_|refine ze ?_|refine zk ?_);with_reducible (constructor;repeat constructor);try refine zl ?_)))
   exact ⟨_,_,by omega,fun _ _ h=>h,i+1,c+1+1+1,c+1,7,m+1,ii - 1,by rw [hrow];rfl,by omega,by omega,rfl,by omega,by omega⟩
  ·obtain rfl:i=8:=by omega
   have h8:(jC s.length).take 8=jC s.length:=rfl
   rw [h8]
   have hRl:m=(R++jC s.length).length:=by rw [List.length_append,hR,hm];rfl
   subst hRl
   refine qw0 ?_
   (refine cm (.sub d j x.p) _ _ (by simp (disch:=first|omega|assumption) only [go_sem];rfl) ?_;simp (disch:=first|omega|assumption) only [go_sem])
   exact ar (aq rfl)
end Go.Proofs.YtpficjpdfbiedaaGreatDoor
namespace Go.Proofs.YtpficjpdfbiedaaGreatDoor
open Go Go.Ab
set_option maxRecDepth 20000
set_option maxHeartbeats 1000000
theorem iK {l:List UInt8} {i:Nat} (h:i < l.length) (d:AV):(l.map byA).getD i d = .int .u8 ((l.getD i 0).toNat:Int):=by
 simp [List.getD_eq_getElem?_getD,List.getElem?_map,List.getElem?_eq_getElem h,byA]
theorem oR (b:List UInt8) (h64:b.length=64) (p:Oid):ak Tryz.prog 114 [.list 1 (b.map byA)] (Oid.under p) ⟨[],.list 1 ((aS b 64).map w32),[]⟩:=by
 refine aK (n:=99) (rs:=[.tmp 2]) Tryz.func114 rfl rfl (by decide) rfl rfl rfl ?_;rintro x rfl hrd hng
 refine qw0 ?_
 refine fD 3 1 rfl ?_
 refine qw0 ?_
 refine aT [0,3,4] (fun q s'=>∃ i c d j:Nat,s' = ⟨[(0,.list 1 (b.map byA)),(3,.sl (.sub d j x.p) 1 i),(4,.int .i64 i)],Mem.of [(.sub d j x.p,.arr 1 ((aS b i).map w32))],c,[]⟩∧q=16 - i∧i≤16∧d < c) _ ⟨0,_,_,0,rfl,rfl,by omega,by omega⟩ ?_
 rintro q s' ⟨i,c,d,j,rfl,rfl,hi,hdc⟩
 have hl:=bL b i
 refine qw0 ?_
 refine aY rfl rfl (fun hb=>?_) (fun hb=>?_)
 ·have hlt:i < 16:=by omega
  have f0:((4:Int) * i).toNat=4 * i:=by omega
  have f1:((4:Int) * i+1).toNat=4 * i+1:=by omega
  have f2:((4:Int) * i+2).toNat=4 * i+2:=by omega
  have f3:((4:Int) * i+3).toNat=4 * i+3:=by omega
  have g0:=iK (l:=b) (i:=4 * i) (by omega) AV.undef
  have g1:=iK (l:=b) (i:=4 * i+1) (by omega) AV.undef
  have g2:=iK (l:=b) (i:=4 * i+2) (by omega) AV.undef
  have g3:=iK (l:=b) (i:=4 * i+3) (by omega) AV.undef
  have hrow:(aS b (i+1)).map w32=(aS b i).map w32++[.int .u32 ((wd (b.drop (4 * i))).toNat:Int)]:=by
   rw [aS,List.map_append,oA b _ hlt];rfl
  have hwd:wd (b.drop (4 * i))=ow (b.getD (4 * i) 0) <<< 24 ||| ow (b.getD (4 * i+1) 0) <<< 16 ||| ow (b.getD (4 * i+2) 0) <<< 8 ||| ow (b.getD (4 * i+3) 0):=by
   simp only [wd,List.getD_eq_getElem?_getD,List.getElem?_drop,Nat.add_zero]
  rw [hwd] at hrow
  clear hwd
  generalize aS b i=D at hl hrow ⊢
  refine qw0 ?_
  refine bA nmd [] [] mixed hng (by kernel_rfl) [0,3,4] fun hf C S K hC hS hK=>?_;simp (disch:=first|omega|assumption) only [go_sem,f0,f1,f2,f3,g0,g1,g2,g3,h64,hl,List.length_map]
  (first|refine hK (aE rfl) ?_|refine hK (by simp (disch:=first|omega|assumption) only [go_sem,List.reverse_cons,List.reverse_nil,ne_eq,not_false_eq_true,implies_true]) ?_);clear hK hS hC K S C hf
  refine qw0 ?_
  exact ⟨_,_,by omega,fun _ _ h=>h,i+1,c+1+1+1,c+1,35,by rw [hrow];rfl,rfl,by omega,by omega⟩
 ·obtain rfl:i=16:=by omega
  refine qw0 ?_
  refine aT [0,3,5] (fun q s'=>∃ i c d j:Nat,s' = ⟨[(0,.list 1 (b.map byA)),(3,.sl (.sub d j x.p) 1 i),(5,.int .i64 i)],Mem.of [(.sub d j x.p,.arr 1 ((aS b i).map w32))],c,[]⟩∧q=64 - i∧i≤64∧16≤i∧d < c) _ ⟨16,c+1+1,d,j,rfl,rfl,by omega,by omega,by omega⟩ ?_
  rintro q s' ⟨i,c,d,j,rfl,rfl,hi,h16,hdc⟩
  have hl:=bL b i
  refine qw0 ?_
  refine aY rfl rfl (fun hb=>?_) (fun hb=>?_)
  ·have hlt:i < 64:=by omega
   have f15:((i:Int) - 15).toNat=i - 15:=by omega
   have f2:((i:Int) - 2).toNat=i - 2:=by omega
   have f16:((i:Int) - 16).toNat=i - 16:=by omega
   have f7:((i:Int) - 7).toNat=i - 7:=by omega
   have hrow:(aS b (i+1)).map w32=(aS b i).map w32++[.int .u32 ((jo b (aS b i) i).toNat:Int)]:=by
    rw [aS,List.map_append];rfl
   have hnx:jo b (aS b i) i=(aS b i).getD (i - 16) 0+rX ((aS b i).getD (i - 15) 0)+(aS b i).getD (i - 7) 0+rY ((aS b i).getD (i - 2) 0):=by
    rw [jo,if_neg (by omega),BitVec.add_assoc ((aS b i).getD (i - 16) 0) ((aS b i).getD (i - 7) 0),BitVec.add_comm ((aS b i).getD (i - 7) 0),← BitVec.add_assoc]
   rw [hnx] at hrow
   clear hnx
   generalize aS b i=D at hl hrow ⊢
   have g15:=bR (l:=D) (i:=i - 15) (by omega) AV.undef
   have g2:=bR (l:=D) (i:=i - 2) (by omega) AV.undef
   have g16:=bR (l:=D) (i:=i - 16) (by omega) AV.undef
   have g7:=bR (l:=D) (i:=i - 7) (by omega) AV.undef
   have p15:i - 15 < i:=by omega
   have p2:i - 2 < i:=by omega
   have p16:i - 16 < i:=by omega
   have p7:i - 7 < i:=by omega
   refine qw0 ?_
   refine bA nmd [] [] mixed hng (by kernel_rfl) [0,3,5,6,7] fun hf C S K hC hS hK=>?_;simp (disch:=first|omega|assumption) only [go_sem,f15,f2,g15,g2,p15,p2,hl,List.length_map]
   (first|refine hK (aE rfl) ?_|refine hK (by simp (disch:=first|omega|assumption) only [go_sem,List.reverse_cons,List.reverse_nil,ne_eq,not_false_eq_true,implies_true]) ?_);clear hK hS hC K S C hf
   (try ((first|refine zn ?_|refine ze ?_|refine zk ?_);with_reducible (constructor;repeat constructor));try refine zl ?_)
   clear g15 g2 f15 f2 p15 p2
   generalize D.getD (i - 15) 0=X at hrow ⊢
   generalize D.getD (i - 2) 0=Y at hrow ⊢
   simp only [rX,rY] at hrow
   refine qr .o trivial (cq (dh X 7 (by decide) (by decide) _) (cq (dh X 18 (by decide) (by decide) _) trivial)) ?_
   refine qr .o trivial (cq (dh Y 17 (by decide) (by decide) _) (cq (dh Y 19 (by decide) (by decide) _) trivial)) ?_
   refine bA nmd [] [] mixed hng (by kernel_rfl) [0,3,5] fun hf C S K hC hS hK=>?_;simp (disch:=first|omega|assumption) only [go_sem,f16,f7,g16,g7,p16,p7,hl,List.length_map]
   (first|refine hK (aE rfl) ?_|refine hK (by simp (disch:=first|omega|assumption) only [go_sem,List.reverse_cons,List.reverse_nil,ne_eq,not_false_eq_true,implies_true]) ?_);clear hK hS hC K S C hf
   refine qw0 ?_
   exact ⟨_,_,by omega,fun _ _ h=>h,i+1,c+1+1+1+1+1+1,c+1+1+1+1,17,by rw [hrow];rfl,rfl,by omega,by omega,by omega⟩
  ·obtain rfl:i=64:=by omega
   refine qw0 ?_
   (refine cm (.sub d j x.p) _ _ (by simp (disch:=first|omega|assumption) only [go_sem];rfl) ?_;simp (disch:=first|omega|assumption) only [go_sem])
   simp (disch:=first|omega|assumption) only [go_sem,hl,List.length_map]
   exact ar (aq rfl)
end Go.Proofs.YtpficjpdfbiedaaGreatDoor
namespace Go.Proofs.YtpficjpdfbiedaaGreatDoor
open Go Go.Ab
set_option maxRecDepth 20000
set_option maxHeartbeats 1000000
theorem vt (h:S8) (b:List UInt8) (h64:b.length=64) (p:Oid):ak Tryz.prog 72 [.list 1 (h.l.map w32),.list 1 (b.map byA)] (Oid.under p) ⟨[],.list 1 ((dV aM h.l b).map w32),[]⟩:=by
 have hW:=fun p=>oR b h64 p
 have hlW:=bL b 64
 unfold dV
 rw [S8.zJ]
 generalize aS b 64=W at hW hlW ⊢
 have hl8:h.l.length=8:=rfl
 have hgl:b7 h=h.l.map w32:=rfl
 generalize h.l=hl at hl8 hgl ⊢
 refine aK (n:=155) (rs:=[.tmp 4]) Tryz.func72 rfl rfl (by decide) rfl rfl rfl ?_;rintro x rfl hrd hng
 refine qw0 ?_
 refine qr .o trivial (cq (hW _) (cq (sx _) trivial)) ?_
 (repeat (first|(refine aA rfl rfl ?_)|(refine aB rfl rfl ?_)|(refine az nmd [] hng (by kernel_rfl) fun hf C S K hC1 hC hS hK=>?_;simp (disch:=first|omega|assumption) only [go_sem,hl8,List.length_map,tg];refine hK ?_;clear hK hS hC hC1 K S C hf)|((first|refine zn ?_|refine ze ?_|refine zk ?_);with_reducible (constructor;repeat constructor);try refine zl ?_)))
 (refine cm (.sub 2 1 x.p) _ _ (by simp (disch:=first|omega|assumption) only [go_sem];rfl) ?_;simp (disch:=first|omega|assumption) only [go_sem])
 simp (disch:=first|omega|assumption) only [go_sem,hl8,List.length_map]
 refine qw0 ?_
 refine aT [0,5,6,7,8] (fun q s'=>∃ (i c:Nat) (X:S8),s' = ⟨[(0,.list 1 (hl.map w32)),(5,.list 1 (W.map w32)),(6,.list 1 (aM.map w32)),(7,.list 1 (b7 X)),(8,.int .i64 i)],Mem.of [],c,[]⟩∧q=64 - i∧i≤64∧X=fW aM W h i) _ ⟨0,_,h,by rw [hgl];rfl,rfl,by omega,rfl⟩ ?_
 rintro q s' ⟨i,c,X,rfl,rfl,hi,hX⟩
 refine qw0 ?_
 refine aY rfl rfl (fun hb=>?_) (fun hb=>?_)
 ·have hlt:i < 64:=by omega
  have gK:=bR (l:=aM) (i:=i) (by rw [bm];exact hlt) AV.undef
  have gW:=bR (l:=W) (i:=i) (by omega) AV.undef
  have hR:fW aM W h (i+1)=X.rnd (aM.getD i 0) (W.getD i 0):=by rw [hX];rfl
  clear hX
  generalize aM.getD i 0=kk at gK hR
  generalize W.getD i 0=ww at gW hR
  obtain ⟨xa,xb,xc,xd,xe,xf,xg,xh⟩:=X
  simp only [b7]
  refine qd (.d [(3,6),(3,11),(7,11)] [] [0,5,6,7,8,9]) trivial (cq (dh xe 6 (by decide) (by decide) _) (cq (dh xe 11 (by decide) (by decide) _) (cq (dh xe 25 (by decide) (by decide) _) trivial))) ?_
  refine qd (.d [] [] [0,5,6,7,8,9,10]) trivial trivial ?_
  refine bA nmd [] [] mixed hng (by kernel_rfl) [0,5,6,7,8,11] fun hf C S K hC hS hK=>?_;simp (disch:=first|omega|assumption) only [go_sem,gK,gW,hlW,bm,List.length_map]
  (first|refine hK (aE rfl) ?_|refine hK (by simp (disch:=first|omega|assumption) only [go_sem,List.reverse_cons,List.reverse_nil,ne_eq,not_false_eq_true,implies_true]) ?_);clear hK hS hC K S C hf
  refine qd (.d [(3,6),(3,11),(7,11)] [] [0,5,6,7,8,11,12]) trivial (cq (dh xa 2 (by decide) (by decide) _) (cq (dh xa 13 (by decide) (by decide) _) (cq (dh xa 22 (by decide) (by decide) _) trivial))) ?_
  refine qd (.d [] [] [0,5,6,7,8,11,12,13]) trivial trivial ?_
  refine qd (.d [] [] [0,5,6,7,8]) trivial trivial ?_
  refine qw0 ?_
  refine ⟨_,_,by omega,fun _ _ h=>h,i+1,c+1+1+1+1+1+1+1+1,_,?_,rfl,by omega,hR.symm⟩
  rw [zI,yR,BitVec.add_assoc _ (fJ xa 2 ^^^ fJ xa 13 ^^^ fJ xa 22) _]
  rfl
 ·obtain rfl:i=64:=by omega
  have hXl:X.l.length=8:=rfl
  rw [← hX]
  clear hX
  rw [oB]
  generalize X.l=Z at hXl ⊢
  refine qw0 ?_
  refine fD 14 1 rfl ?_
  refine qw0 ?_
  refine aT [0,7,14,15] (fun q s'=>∃ (i c d j:Nat),s' = ⟨[(0,.list 1 (hl.map w32)),(7,.list 1 (Z.map w32)),(14,.sl (.sub d j x.p) 1 i),(15,.int .i64 i)],Mem.of [(.sub d j x.p,.arr 1 (((ee hl Z 8).take i).map w32))],c,[]⟩∧q=8 - i∧i≤8∧d < c) _ ⟨0,_,_,0,rfl,rfl,by omega,by omega⟩ ?_
  rintro q s' ⟨i,c,d,j,rfl,rfl,hi,hdc⟩
  have hAl:((ee hl Z 8).take i).length=i:=by rw [List.length_take,cV];omega
  refine qw0 ?_
  refine aY rfl rfl (fun hb=>?_) (fun hb=>?_)
  ·have hlt:i < 8:=by omega
   have gH:=bR (l:=hl) (i:=i) (by omega) AV.undef
   have gZ:=bR (l:=Z) (i:=i) (by omega) AV.undef
   have hrow:((ee hl Z 8).take (i+1)).map w32=((ee hl Z 8).take i).map w32++[.int .u32 ((hl.getD i 0+Z.getD i 0).toNat:Int)]:=by
    have h1:=ox hl Z 8 (j:=i) hlt
    have h2:i < (ee hl Z 8).length:=by rw [cV];exact hlt
    rw [if_pos hlt,List.getD_eq_getElem?_getD,List.getElem?_eq_getElem h2,Option.getD_some] at h1
    rw [List.take_add_one,List.getElem?_eq_getElem h2,List.map_append,h1];rfl
   generalize (ee hl Z 8).take i=D at hrow hAl ⊢
   (try ((first|refine zn ?_|refine ze ?_|refine zk ?_);with_reducible (constructor;repeat constructor));try refine zl ?_)
   refine bA nmd [] [] mixed hng (by kernel_rfl) [0,7,14,15] fun hf C S K hC hS hK=>?_;simp (disch:=first|omega|assumption) only [go_sem,gH,gZ,hl8,hXl,hAl,List.length_map]
   (first|refine hK (aE rfl) ?_|refine hK (by simp (disch:=first|omega|assumption) only [go_sem,List.reverse_cons,List.reverse_nil,ne_eq,not_false_eq_true,implies_true]) ?_);clear hK hS hC K S C hf
   refine qw0 ?_
   exact ⟨_,_,by omega,fun _ _ h=>h,i+1,c+1+1+1,c+1,11,by rw [hrow];rfl,rfl,by omega,by omega⟩
  ·obtain rfl:i=8:=by omega
   have hA8:(ee hl Z 8).take 8=ee hl Z 8:=List.take_of_length_le (by rw [cV];exact Nat.le_refl _)
   rw [hA8] at hAl ⊢
   refine qw0 ?_
   (refine cm (.sub d j x.p) _ _ (by simp (disch:=first|omega|assumption) only [go_sem];rfl) ?_;simp (disch:=first|omega|assumption) only [go_sem])
   simp (disch:=first|omega|assumption) only [go_sem,hAl,List.length_map]
   exact ar (aq rfl)
end Go.Proofs.YtpficjpdfbiedaaGreatDoor
namespace Go.Proofs.YtpficjpdfbiedaaGreatDoor
open Go Go.Ab
set_option maxRecDepth 20000
set_option maxHeartbeats 1000000
theorem w9 (s:List UInt8) (hl:s.length≤2000000000) (p:Oid):ak Tryz.prog 26 [.str s] (Oid.under p) ⟨[],.str (jB s),[]⟩:=by
 have hpad:=fun p=>sA s (by omega) p
 obtain ⟨m0,hm0⟩:=uQ s
 have hpl:=iC s.length
 rw [oE]
 generalize s++e9 s.length=total at hm0 hpad ⊢
 refine aK (n:=41) (rs:=[.tmp 2]) Tryz.func26 rfl rfl (by decide) rfl rfl rfl ?_;rintro x rfl hrd hng
 refine qw0 ?_
 refine qr1 (p6 _) ?_
 refine qr1 (hpad _) ?_
 refine aT [3,4] (fun k s'=>∃ (r:List UInt8) (X:S8) (c m:Nat),s' = ⟨[(3,.list 1 (X.l.map w32)),(4,.list 1 (r.map byA))],Mem.of [],c,[]⟩∧k=m∧r.length=64 * m∧bM aM m X.l r=bM aM (total.length / 64) iD total) _ ⟨total,xu,_,m0+1,rfl,rfl,hm0,by rw [hm0,Nat.mul_div_cancel_left _ (by decide)];rfl⟩ ?_
 rintro k s' ⟨r,X,c,m,rfl,rfl,hr,hbl⟩
 (repeat (first|(refine aA rfl rfl ?_)|(refine aB rfl rfl ?_)|(refine az nmd [] hng (by kernel_rfl) fun hf C S K hC1 hC hS hK=>?_;simp (disch:=first|omega|assumption) only [go_sem,List.length_map];refine hK ?_;clear hK hS hC hC1 K S C hf)|((first|refine zn ?_|refine ze ?_|refine zk ?_);with_reducible (constructor;repeat constructor);try refine zl ?_)))
 refine aY rfl rfl (fun hb=>?_) (fun hb=>?_)
 ·obtain ⟨n,rfl⟩:∃ n,k=n+1:=by
   cases k with
   | zero=>omega
   | succ n=>exact ⟨n,rfl⟩
  have hblk:=fun p=>vt X (r.take 64) (by rw [List.length_take];omega) p
  have h8:(dV aM X.l (r.take 64)).length=8:=cV _ _ _
  rw [← qP h8] at hblk
  have hbl2:bM aM (n+1) X.l r=bM aM n (S8.of (dV aM X.l (r.take 64))).l (r.drop 64):=by rw [qP h8];rfl
  rw [hbl2] at hbl
  clear hbl2 h8
  generalize S8.of (dV aM X.l (r.take 64))=Y at hblk hbl
  have hmt:(r.map byA).take 64=(r.take 64).map byA:=(List.map_take ..).symm
  have hmd:(r.map byA).drop 64=(r.drop 64).map byA:=(List.map_drop ..).symm
  have h64:64≤r.length:=by omega
  (try ((first|refine zn ?_|refine ze ?_|refine zk ?_);with_reducible (constructor;repeat constructor));try refine zl ?_)
  refine az nmd [] hng (by kernel_rfl) fun hf C S K hC1 hC hS hK=>?_;simp (disch:=first|omega|assumption) only [go_sem,hmt,List.length_map]
  refine hC1 _ (hblk _) (fun _ h=>by cases h) ?_
  simp (disch:=first|omega|assumption) only [go_sem]
  refine hK ?_;clear hK hS hC hC1 K S C hf
  (try ((first|refine zn ?_|refine ze ?_|refine zk ?_);with_reducible (constructor;repeat constructor));try refine zl ?_)
  refine az nmd [] hng (by kernel_rfl) fun hf C S K hC1 hC hS hK=>?_;simp (disch:=first|omega|assumption) only [go_sem,hmd,List.length_map]
  refine hK ?_;clear hK hS hC hC1 K S C hf
  refine qw0 ?_
  exact ⟨_,_,by omega,fun _ _ h=>h,r.drop 64,Y,_,n,rfl,rfl,by rw [List.length_drop];omega,hbl⟩
 ·obtain rfl:k=0:=by omega
  have hX:X.l=bM aM (total.length / 64) iD total:=hbl
  rw [← hX]
  have hx8:X.l.length=8:=rfl
  clear hX hbl
  generalize X.l=l at hx8 ⊢
  refine qw0 ?_
  refine fD 5 1 rfl ?_
  refine qw0 ?_
  refine aT [3,5,6] (fun k s'=>∃ (i c d e:Nat),s' = ⟨[(3,.list 1 (l.map w32)),(5,.sl (.sub d e x.p) 1 (8 * i)),(6,.int .i64 i)],Mem.of [(.sub d e x.p,.arr 1 ((eS (l.take i)).map byA))],c,[]⟩∧k=8 - i∧i≤8∧d < c) _ ⟨0,_,_,0,rfl,rfl,by omega,by omega⟩ ?_
  rintro k s' ⟨i,c,d,e,rfl,rfl,hi,hdc⟩
  refine qw0 ?_
  refine aY rfl rfl (fun hb=>?_) (fun hb=>?_)
  ·have hlt:i < 8:=by omega
   have gW:=bR (l:=l) (i:=i) (by omega) AV.undef
   have hht:=lQ (l:=l) (i:=i) (by omega)
   have hhl:=iF (l.take i)
   rw [List.length_take,Nat.min_eq_left (by omega)] at hhl
   refine qw0 ?_
   generalize l.getD i 0=X at gW hht ⊢
   generalize eS (l.take i)=D at hht hhl ⊢
   refine aT [3,5,6,7] (fun k s'=>∃ (j c d e n:Nat) (kk:Int),s' = ⟨[(3,.list 1 (l.map w32)),(5,.sl (.sub d e x.p) 1 n),(6,.int .i64 i),(7,.int .i64 kk)],Mem.of [(.sub d e x.p,.arr 1 ((D++(fb X).take j).map byA))],c,[]⟩∧n=8 * i+j∧k=8 - j∧j≤8∧kk=28 - 4 * (j:Int)∧d < c) _ ⟨0,_,d,e,8 * i,28,by rw [List.take_zero,List.append_nil];rfl,rfl,rfl,by omega,by omega,by omega⟩ ?_
   rintro k s' ⟨j,c,d,e,n,kk,rfl,hn,rfl,hj,hkk,hdc⟩
   refine qw0 ?_
   refine aY rfl rfl (fun hb=>?_) (fun hb=>?_)
   ·have hj8:j < 8:=by omega
    have fk:kk.toNat=28 - 4 * j:=by omega
    have hht2:=lP X hj8
    have hl15:=oD (X >>> (28 - 4 * j))
    have hDl:(D++(fb X).take j).length=n:=by
     rw [List.length_append,hhl,List.length_take,Nat.min_eq_left (show j≤(fb X).length by show j≤8;omega),hn]
    have hrow:(D++(fb X).take (j+1)).map byA=(D++(fb X).take j).map byA++[AV.int .u8 ((yT.getD (X >>> (28 - 4 * j) &&& 15).toNat 0).toNat:Int)]:=by
     rw [hht2,← List.append_assoc,List.map_append];rfl
    generalize D++(fb X).take j=DD at hDl hrow ⊢
    (try ((first|refine zn ?_|refine ze ?_|refine zk ?_);with_reducible (constructor;repeat constructor));try refine zl ?_)
    refine az nmd [] hng (by kernel_rfl) fun hf C S K hC1 hC hS hK=>?_;simp (disch:=first|omega|assumption) only [go_sem,fk,hDl,gW,hx8,List.length_map]
    refine hK ?_;clear hK hS hC hC1 K S C hf
    refine qw0 ?_
    exact ⟨_,_,by omega,fun _ _ h=>h,j+1,c+1+1+1,c+1,10,n+1,kk - 4,by rw [hrow];rfl,by omega,rfl,by omega,by omega,by omega⟩
   ·obtain rfl:j=8:=by omega
    refine qw0 ?_
    exact ⟨_,_,by omega,fun _ _ h=>h,i+1,c+1+1,d,e,by rw [hht,hn];rfl,rfl,by omega,by omega⟩
  ·obtain rfl:i=8:=by omega
   have hl8:l.take 8=l:=List.take_of_length_le (by omega)
   have hhl:=iF l
   rw [hx8] at hhl
   rw [hl8]
   refine qw0 ?_
   refine az nmd [] hng (by kernel_rfl) fun hf C S K hC1 hC hS hK=>?_;simp (disch:=first|omega|assumption) only [go_sem]
   refine hS _ _ _ (fun o' hd ho'=>(fK (id:=.sub d e x.p) (l:=eS l) ho' (by rw [hhl];rfl) (by rw [hhl];omega) rfl rfl rfl).nd) qs0 ?_ (fun _ _ h=>h.elim)
   rintro _ _ ⟨rfl,rfl⟩
   simp (disch:=first|omega|assumption) only [go_sem]
   refine hK ?_;clear hK hS hC hC1 K S C hf
   refine qw0 ?_
   exact ar (aq rfl)
end Go.Proofs.YtpficjpdfbiedaaGreatDoor
namespace Go.Proofs.YtpficjpdfbiedaaGreatDoor
open Go Go.Ab
set_option maxRecDepth 20000
set_option maxHeartbeats 4000000
theorem vu {a e:List Str} {cwd inp:Str} {um:Int} (ha:(aC a).length≤100000000) (he:(aC e).length≤100000000) (hc:cwd.length≤100000000) (hi:inp.length≤100000000) (hu:-9223372036854775808≤um∧um≤9223372036854775807):(aC [aC a,aC e,cwd,Lib.itoa um,inp]).length≤1000000000:=by
 have one:∀ s:Str,s.length≤100000000→(chunk s).length≤100000100:=fun s h=>by
  have h1:=bs s
  have h2:=Lib.itoa_length_le s.length (by omega) (by omega)
  omega
 have c1:=one _ ha
 have c2:=one _ he
 have c3:=one _ hc
 have c5:=one _ hi
 have hii:=Lib.itoa_length_le um hu.1 hu.2
 have c4:=one (Lib.itoa um) (by omega)
 simp only [aC,List.length_append,List.length_nil];omega
theorem xi (a e:List Str) (cwd:Str) (um:Int) (inp:Str) (ha:(aC a).length≤100000000) (he:(aC e).length≤100000000) (ha2:a.length≤1000000) (he2:e.length≤1000000) (hc:cwd.length≤100000000) (hi:inp.length≤100000000) (hu:-9223372036854775808≤um∧um≤9223372036854775807) (p:Oid) :
  ak Tryz.prog 11 [.list 1 (a.map AV.str),.list 1 (e.map AV.str),.str cwd,.int .i64 um,.str inp] (Oid.under p) ⟨[],.str (jB (aC [aC a,aC e,cwd,Lib.itoa um,inp])),[]⟩:=by
 have h1:=fun p=>dU a (by omega) (by omega) p
 have h2:=fun p=>dU e (by omega) (by omega) p
 have h3:=fun p=>kN um hu.1 hu.2 p
 have hlen:=vu ha he hc hi hu
 have h4:=fun p=>dU [aC a,aC e,cwd,Lib.itoa um,inp] (by omega) (by simp) p
 have h5:=fun p=>w9 (aC [aC a,aC e,cwd,Lib.itoa um,inp]) (by omega) p
 simp only [List.map_cons,List.map_nil] at h4
 generalize jB (aC [aC a,aC e,cwd,Lib.itoa um,inp])=K0 at h5 ⊢
 generalize aC [aC a,aC e,cwd,Lib.itoa um,inp]=E0 at h4 h5
 refine aK (n:=22) (rs:=[.tmp 10]) Tryz.func11 rfl rfl (by decide) rfl rfl rfl ?_;rintro x rfl hrd hng
 refine qw0 ?_
 refine qr .o trivial (cq (h1 _) (cq (h2 _) (cq (h3 _) (cq (h4 _) (cq (h5 _) trivial))))) ?_
 refine qw0 ?_
 exact ar (a6 rfl)
theorem oS {q:List Str} (h:cj q≤300):(aC q).length≤100000000∧q.length≤1000000:=by
 obtain ⟨h1,h2⟩:=lU q
 have key:∀ q:List Str,(∀ s ∈ q,s.length≤300)→(aC q).length≤q.length * 1300:=by
  intro q
  induction q with
  | nil=>intro _;simp [aC]
  | cons s q ih =>
   intro hq
   have h1:=ih fun s hs=>hq s (List.mem_cons_of_mem _ hs)
   have h2:=hq s List.mem_cons_self
   have h3:=bs s
   have h4:=Lib.itoa_length_le s.length (by omega) (by omega)
   rw [aC,List.length_append,List.length_cons,Nat.add_mul]
   omega
 have h3:=key q fun s hs=>Nat.le_trans (h2 s hs) h
 omega
theorem keys_ok (a e:List Str) (cwd:Str) (um:Int) (inp:Str) (ha:a.length≤140737488355328) (hat:∀ t ∈ a,t.length≤140737488355328) (he:e.length≤140737488355328) (het:∀ t ∈ e,t.length≤140737488355328) (hc:cwd.length≤140737488355328) (hi:inp.length≤140737488355328) (hu:-9223372036854775808≤um∧um≤9223372036854775807) (p:Oid) (hp:p.mono=false) :
  ak Tryz.prog 3 [.list 1 (a.map AV.str),.list 1 (e.map AV.str),.str cwd,.int .i64 um,.str inp] (Oid.under p) ⟨[],.bool true,[]⟩:=by
 have hA:=fun p hp=>kM p hp
 have hF:=fun p=>vk a ha hat p
 have hG:=fun p=>vk e he het p
 by_cases h1:cj a≤300
 case neg =>
  rw [decide_eq_false h1] at hF
  refine aK (n:=44) (rs:=[.tmp 10]) Tryz.func3 rfl rfl (by decide) rfl rfl rfl ?_;rintro x rfl hrd hng
  refine qw0 ?_
  refine qr (.d [] [(3,14),(8,19)] []) trivial (cq (hF _) trivial) ?_
  (repeat (first|(refine aA rfl rfl ?_)|(refine aB rfl rfl ?_)|(refine az nmd [] hng (by kernel_rfl) fun hf C S K hC1 hC hS hK=>?_;simp (disch:=first|omega|assumption) only [go_sem];(repeat ((first|refine hC1 _ (hA _ (ay rfl hp)) (by simp (disch:=first|omega|assumption) only [go_sem]) ?_);simp (disch:=first|omega|assumption) only [go_sem]));refine hK ?_;clear hK hS hC hC1 K S C hf)|((first|refine zn ?_|refine ze ?_|refine zk ?_);with_reducible (constructor;repeat constructor);try refine zl ?_)))
  exact ar (a6 rfl)
 rw [decide_eq_true h1] at hF
 by_cases h2:cj e≤300
 case neg =>
  rw [decide_eq_false h2] at hG
  refine aK (n:=44) (rs:=[.tmp 10]) Tryz.func3 rfl rfl (by decide) rfl rfl rfl ?_;rintro x rfl hrd hng
  refine qw0 ?_
  refine qr (.d [] [(3,14),(8,19)] []) trivial (cq (hF _) (cq (hG _) trivial)) ?_
  (repeat (first|(refine aA rfl rfl ?_)|(refine aB rfl rfl ?_)|(refine az nmd [] hng (by kernel_rfl) fun hf C S K hC1 hC hS hK=>?_;simp (disch:=first|omega|assumption) only [go_sem];(repeat ((first|refine hC1 _ (hA _ (ay rfl hp)) (by simp (disch:=first|omega|assumption) only [go_sem]) ?_);simp (disch:=first|omega|assumption) only [go_sem]));refine hK ?_;clear hK hS hC hC1 K S C hf)|((first|refine zn ?_|refine ze ?_|refine zk ?_);with_reducible (constructor;repeat constructor);try refine zl ?_)))
  exact ar (a6 rfl)
 rw [decide_eq_true h2] at hG
 by_cases h3:cwd.length+inp.length≤300
 case neg =>
  have h3':(cwd.length:Int)+inp.length > 300:=by omega
  refine aK (n:=44) (rs:=[.tmp 10]) Tryz.func3 rfl rfl (by decide) rfl rfl rfl ?_;rintro x rfl hrd hng
  refine qw0 ?_
  refine qr (.d [] [(3,14),(8,19)] []) h3' (cq (hF _) (cq (hG _) trivial)) ?_
  (repeat (first|(refine aA rfl rfl ?_)|(refine aB rfl rfl ?_)|(refine az nmd [] hng (by kernel_rfl) fun hf C S K hC1 hC hS hK=>?_;simp (disch:=first|omega|assumption) only [go_sem];(repeat ((first|refine hC1 _ (hA _ (ay rfl hp)) (by simp (disch:=first|omega|assumption) only [go_sem]) ?_);simp (disch:=first|omega|assumption) only [go_sem]));refine hK ?_;clear hK hS hC hC1 K S C hf)|((first|refine zn ?_|refine ze ?_|refine zk ?_);with_reducible (constructor;repeat constructor);try refine zl ?_)))
  exact ar (a6 rfl)
 have h3':¬ (cwd.length:Int)+inp.length > 300:=by omega
 obtain ⟨q1,q2⟩:=oS h1
 obtain ⟨q3,q4⟩:=oS h2
 have hK:=fun p hp=>u5 a e cwd um inp q1 q3 q2 q4 (by omega) (by omega) hu p hp
 have hR:=fun p=>xi a e cwd um inp q1 q3 q2 q4 (by omega) (by omega) hu p
 generalize jB (aC [aC a,aC e,cwd,Lib.itoa um,inp])=ky at hK hR
 refine aK (n:=44) (rs:=[.tmp 10]) Tryz.func3 rfl rfl (by decide) rfl rfl rfl ?_;rintro x rfl hrd hng
 refine qw0 ?_
 refine qr (.d [] [(3,14),(8,19)] []) h3' (cq (hF _) (cq (hG _) trivial)) ?_
 refine qw0 ?_
 refine az nmd [(1,29)] hng (by kernel_rfl) fun hf C S K hC1 hC hS hK'=>?_;refine qt h3 ?_
 refine hC1 _ (hA _ (ay rfl hp)) (fun _ h=>by cases h) ?_;refine qt h3 ?_
 refine hC1 _ (hK _ (ay rfl hp)) (fun _ h=>by cases h) ?_;refine qt h3 ?_
 refine hC1 _ (hR _) (fun _ h=>by cases h) ?_;refine qt h3 ?_
 refine hK' ?_;clear hK' hS hC hC1 K S C hf
 refine qw0 ?_
 exact ar (a6 rfl)
end Go.Proofs.YtpficjpdfbiedaaGreatDoor
namespace Go.Proofs.YtpficjpdfbiedaaGreatDoor
open Go Go.Ab
set_option maxRecDepth 100000
theorem wf64m {n:Int} (h:(Lit.int .i64 n).wf=true):-9223372036854775808≤n∧n≤9223372036854775807:=by
 simpa [Lit.wf,IntKind.min,IntKind.max,IntKind.signed,IntKind.bits] using h
theorem c_strs:Tryz.prog.cellsOf 22=1:=by kernel_rfl
theorem zS:Tryz.prog.bytesOf 9=16:=by kernel_rfl
theorem rd_strs:Rd Tryz.prog 22 (fun l:List Str=>.list 1 (l.map AV.str)) (fun l=>l.length≤140737488355328∧∀ t ∈ l,t.length≤140737488355328) :=
 (nU Tryz.underlying22 c_strs (by rw [c_str];decide) (rd_str Tryz.underlying9 c_str)).map id (fun _ _=>by rw [c_str];rfl) (fun _=>c_strs.symm) (fun l h=>by
  have h1:=h.1
  rw [zS] at h1
  have h2:=h.2
  unfold reachBytes at h1 h2
  refine ⟨?_,fun t ht=>?_⟩
  ·show l.length≤_;omega
  ·have:=h2 t ht;omega)
end Go.Proofs.YtpficjpdfbiedaaGreatDoor
