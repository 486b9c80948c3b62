/- A part of the proof: the texts Z5, Z6, Z7, Z8, Z9h, Z10, Z11, Z13, Z12, Z15, Z16, Z17, K1, K2, FwR, FwZ, FwX, K3, K4, K5, K6, K7, K8, KB, KC, KD, one behind the other. -/
import Derived.Test.YtngffmnomciogaaGreatDoorPTd
import Derived.Shelf.SlMaps.Clone
import Derived.WalkKit
import Derived.Recover
import Derived.Laws.MakeOwn
set_option linter.unusedVariables false
set_option linter.unusedSimpArgs false
set_option linter.unusedSectionVars false
namespace Go.Proofs.YtngffmnomciogaaGreatDoor
open Go Go.Ab
set_option maxRecDepth 20000
set_option maxHeartbeats 4000000
def eB (tr:Bool) (n:Str) (W:WL):WL:=if n=[] then W else if tr then cY ltB n (some ()) W else W
theorem e6 {P:Program} {rs:List ResultVar} {need:List (Oid × aj)} {fr:List (Nat × AV)} {m:Mem} {c:Nat} {val:AV} {upd:List (Oid × Option aj)} (h1:fH P m fr rs=some val)
  (h2:∀ q,q ∈ upd→∀ o,q.2=some o→m q.1=some o) (h3:∀ q,q ∈ need→(∀ r,r ∈ upd→¬ r.1=q.1)→m q.1=some q.2):dJ P rs need (fun v u=>v=val∧u=upd) (fun _ _=>False) .ret ⟨fr,m,c,[]⟩ :=
 bm val upd h1 ⟨rfl,rfl⟩ (oY h2 h3)
theorem ua (r:Oid) (OO RR:AV) (L:PL) (hL:L.length≤1000000) (W:WL) (hW:W.length≤1000000) (hWs:aN ltB W) (tr:Bool) (n:Str) (b:Bits) (p:Oid) (hr:¬ Oid.under p r) :
  aq Tryz.prog 60 [.ptr r 0,.str n,b.av] (Oid.under p) ⟨[(r,.cells [.list 4 (L.map aG),OO,RR,.list 1 (W.map fun q=>.str q.1),.bool tr])],.tuple [],[(r,some (.cells [.list 4 ((dX n b L).map aG),OO,RR,.list 1 ((eB tr n W).map fun q=>.str q.1),.bool tr]))]⟩:=by
 have hr':∀ c i,¬ Oid.under (.sub c i p) r:=fun c i h=>hr (Oid.ae h)
 simp only [Bits.av]
 refine aV (n:=141) (rs:=[]) Tryz.func60 rfl rfl (by decide) rfl rfl rfl ?_;rintro x rfl hrd hng
 refine mx ?_
 refine qw (uu hr) ?_
 refine bs rfl rfl (fun hb=>?_) (fun hb=>?_)
 ·have h1:dX n b L=L:=if_pos hb
  have h2:eB tr n W=W:=if_pos hb
  rw [h1,h2]
  refine qw (uu hr) ?_
  refine aE (.now (e6 rfl ?_ ?_))
  all_goals simp only [List.mem_cons,List.not_mem_nil,or_false,forall_eq_or_imp,forall_eq,Option.some.injEq,forall_eq',Mem.ao,eq_self,if_true,↓reduceIte,reduceCtorEq,implies_true,not_true_eq_false,false_imp_iff,true_and,and_true,false_and,and_false,imp_self]
 ·have hn:¬ n=[]:=hb
  refine qr .o (uu hr) trivial ?_
  refine lW ?_
  refine dE [0,1,5] (fun s'=>∃ (B:Bits) (c:Nat),0 < c∧s' = ⟨[(0,.ptr r 0),(1,.str n),(5,.ptr (.sub 0 0 x.p) 0)],Mem.of [(r,.cells [.list 4 (L.map aG),OO,RR,.list 1 (W.map fun q=>.str q.1),.bool tr]),(.sub 0 0 x.p,.cells [.int .i64 B.k,.int .i64 B.m,.str B.l])],c,[]⟩∧(B.k=0↔b.k=0)∧(¬ b.k=0→B=b)) ?_ ?_
  ·refine bs rfl rfl (fun hb=>?_) (fun hb=>?_)
   ·refine qw (uu hr) ?_
    exact aR ⟨Bits.no,4,by decide,rfl,⟨fun _=>hb,fun _=>rfl⟩,fun h=>absurd hb h⟩
   ·refine qw (uu hr) ?_
    exact aR ⟨b,3,by decide,rfl,Iff.rfl,fun _=>rfl⟩
  rintro s' ⟨B,c,hc,rfl,hB0,hB1⟩
  refine lX ?_
  refine aas [0,1,5] (fun s'=>∃ c2:Nat,0 < c2∧s' = ⟨[(0,.ptr r 0),(1,.str n),(5,.ptr (.sub 0 0 x.p) 0)],Mem.of [(r,.cells [.list 4 (L.map aG),OO,RR,.list 1 ((eB tr n W).map fun q=>.str q.1),.bool tr]),(.sub 0 0 x.p,.cells [.int .i64 B.k,.int .i64 B.m,.str B.l])],c2,[]⟩) ?_ ?_
  ·refine lX ?_
   refine dE [0,1,5,25] (fun s'=>∃ q:Bool,s' = ⟨[(0,.ptr r 0),(1,.str n),(5,.ptr (.sub 0 0 x.p) 0),(25,.bool q)],Mem.of [(r,.cells [.list 4 (L.map aG),OO,RR,.list 1 (W.map fun q=>.str q.1),.bool tr]),(.sub 0 0 x.p,.cells [.int .i64 B.k,.int .i64 B.m,.str B.l])],c+1,[]⟩∧q=(tr && !(aH n W).isSome)) ?_ ?_
   ·cases tr with
    | false =>
     refine ay nmd [(4,20)] hng (by kernel_rfl) fun hf C S K hC1 hC hS hK=>?_;simp (disch:=first|omega|assumption) only [go_sem,Oid.ab hr,Oid.aa hr]
     refine hK ?_;clear hK hS hC hC1 K S C hf
     exact aR ⟨false,rfl,rfl⟩
    | true =>
     refine ay nmd [(4,20)] hng (by kernel_rfl) fun hf C S K hC1 hC hS hK=>?_;simp (disch:=first|omega|assumption) only [go_sem,Oid.ab hr,Oid.aa hr]
     refine hC1 _ (ru r (.list 4 (L.map aG)) OO RR (.bool true) W (by omega) n _ (hr' _ _)) (qs (uu hr)) ?_
     simp (disch:=first|omega|assumption) only [go_sem,Oid.ab hr,Oid.aa hr]
     refine hK ?_;clear hK hS hC hC1 K S C hf
     exact aR ⟨_,rfl,by rw [Bool.true_and]⟩
   rintro s' ⟨q,rfl,hq⟩
   refine oR rfl rfl (fun hb=>?_) (fun hb=>?_)
   ·rw [hb] at hq
    have hq1:tr=true∧(aH n W).isSome=false:=by simpa using hq.symm
    obtain ⟨rfl,hls⟩:=hq1
    have hput:eB true n W=cY ltB n (some ()) W:=by unfold eB;rw [if_neg hn,if_pos rfl]
    refine qw0 ?_
    refine cE [0,1,5,6] (fun k s'=>∃ i c':Nat,k=W.length - i∧i≤W.length∧0 < c'∧(∀ j q,j < i→W[j]? = some q→ltB q.1 n)∧s' = ⟨[(0,.ptr r 0),(1,.str n),(5,.ptr (.sub 0 0 x.p) 0),(6,.int .i64 i)],Mem.of [(r,.cells [.list 4 (L.map aG),OO,RR,.list 1 (W.map fun q=>.str q.1),.bool true]),(.sub 0 0 x.p,.cells [.int .i64 B.k,.int .i64 B.m,.str B.l])],c',[]⟩) _ ⟨0,_,rfl,Nat.zero_le _,by omega,fun j q h=>by omega,rfl⟩ ?_
    rintro k s' ⟨i,c',rfl,hi,hc',hlt,rfl⟩
    have hc0:¬ c' = 0:=by omega
    (try ((first|refine zn ?_|refine ze ?_|refine zk ?_);with_reducible (constructor;repeat constructor));try refine zl ?_)
    refine dE [0,1,5,6,43] (fun s'=>∃ q:Bool,s' = ⟨[(0,.ptr r 0),(1,.str n),(5,.ptr (.sub 0 0 x.p) 0),(6,.int .i64 i),(43,.bool q)],Mem.of [(r,.cells [.list 4 (L.map aG),OO,RR,.list 1 (W.map fun q=>.str q.1),.bool true]),(.sub 0 0 x.p,.cells [.int .i64 B.k,.int .i64 B.m,.str B.l])],c' + 1,[]⟩∧(q=true↔∃ e,W[i]? = some e∧ltB e.1 n)) ?_ ?_
    ·refine ay nmd [(7,33)] hng (by kernel_rfl) fun hf C S K hC1 hC hS hK=>?_;simp (disch:=first|omega|assumption) only [go_sem,Oid.ab hr,Oid.aa hr]
     (repeat' (first|(refine bV (fun hv=>?_) (fun hv=>?_)<;>(try simp only [zb1,zb2,zb3,zb4,zb5] at hv)<;>simp (disch:=first|omega|assumption) only [go_sem,hv,Oid.ab hr,Oid.aa hr])|(refine hK ?_;clear hK hS hC hC1 K S C hf)))
     ·have hl:i < W.length:=by omega
      exact aR ⟨_,rfl,⟨fun h=>⟨W.getD i default,by rw [bK hl,List.getElem?_eq_getElem hl],h⟩,fun ⟨e,he,h⟩=>by
       rw [List.getElem?_eq_getElem hl] at he
       simp only [Option.some.injEq] at he
       rw [bK hl,he];exact h⟩⟩
     ·exact aR ⟨_,rfl,⟨fun h=>(by cases h),fun ⟨e,he,h⟩=>by rw [List.getElem?_eq_none (by omega)] at he;cases he⟩⟩
    rintro s' ⟨q,rfl,hq⟩
    refine oR rfl rfl (fun hb=>?_) (fun hb=>?_)
    ·obtain ⟨e,he,hle⟩:=hq.1 hb
     have hl:i < W.length:=(List.getElem?_eq_some_iff.1 he).1
     refine qw0 ?_
     refine ⟨_,_,by omega,fun _ _ h=>h,i+1,_,rfl,by omega,by omega,fun j q' hj hq'=>?_,rfl⟩
     rcases Nat.lt_or_ge j i with h|h
     ·exact hlt j q' h hq'
     ·obtain rfl:j=i:=by omega
      rw [he] at hq';simp only [Option.some.injEq] at hq';rw [← hq'];exact hle
    ·have hnl:∀ q,W[i]? = some q→¬ ltB q.1 n:=fun q' h1 h2=>by rw [hq.2 ⟨q',h1,h2⟩] at hb;cases hb
     have hsp:=gy (lt:=ltB) n (some ()) W i hi hlt hnl
     have hno:∀ q,W[i]? = some q→¬ q.1=n:=fun q' h1 h2=>by
      have:=(br (hWs.nodup eT) (n:=n) (b:=q'.2)).2 (by rw [← h2];exact List.mem_of_getElem? h1)
      rw [this] at hls;cases hls
     have hsp2:cY ltB n (some ()) W=W.take i++[(n,())]++W.drop i:=by
      rw [hsp]
      cases hwi:W[i]? with
      | none =>
       have hd:W.drop i=[]:=List.drop_eq_nil_of_le (List.getElem?_eq_none_iff.1 hwi)
       simp only [hd,dL,List.append_nil]
      | some q'=>simp only [if_neg (hno q' hwi)];rfl
     refine qw (uu hr) ?_
     refine tV ?_
     refine gh (.sub (c' + 1+1+1+1) 8 x.p) r 1 ((cY ltB n (some ()) W).map fun q=>.str q.1) [.list 4 (L.map aG),OO,RR,.sl (.sub (c' + 1+1+1+1) 8 x.p) 1 (min i W.length+1+(W.length - i)),.bool true] [.list 4 (L.map aG),OO,RR,.list 1 ((cY ltB n (some ()) W).map fun q=>.str q.1),.bool true] ?_ ?_ ?_ ?_ ?_
     ·simp (disch:=first|omega|assumption) only [go_sem,Oid.ab hr,Oid.aa hr]
      rw [hsp2];simp
     ·simp (disch:=first|omega|assumption) only [go_sem,Oid.ab hr,Oid.aa hr]
     ·exact fun e=>hr (e ▸ Oid.ae (Oid.az _))
     ·exact .keep (.keep (.keep (.fS (by rw [hsp2];simp only [List.length_map,List.length_append,List.length_take,List.length_drop,List.length_cons,List.length_nil]) (.keep .nil))))
     ·simp (disch:=first|omega|assumption) only [go_sem,Oid.ab hr,Oid.aa hr]
      rw [hput]
      exact .now ⟨_,fun _ _ h=>h,c' + 1+1+1+1+1,by omega,rfl⟩
   ·rw [hb] at hq
    have hpw:eB tr n W=W:=by
     unfold eB
     rw [if_neg hn]
     cases tr with
     | false=>rfl
     | true =>
      have hs:(aH n W).isSome=true:=by simpa using hq.symm
      obtain ⟨u,hu⟩:=Option.isSome_iff_exists.1 hs
      rw [if_pos rfl]
      exact xh eT hWs hu
    rw [hpw]
    refine qw0 ?_
    exact tV (.now ⟨_,fun _ _ h=>h,c+1,by omega,rfl⟩)
  rintro s' ⟨c2,hc2,rfl⟩
  generalize eB tr n W=V
  have hput:dX n b L=cY ltB n (if b.k=0 then none else some b) L:=if_neg hn
  rw [hput]
  generalize ho:(if b.k=0 then none else some b)=o
  refine qw0 ?_
  refine sf 8 4 rfl ?_
  simp (disch:=first|omega|assumption) only [go_sem]
  refine cE [0,1,5,8,9] (fun k s'=>∃ (i d j c:Nat),k=L.length - i∧i≤L.length∧0 < d∧d < c∧(∀ j q,j < i→L[j]? = some q→ltB q.1 n)∧s' = ⟨[(0,.ptr r 0),(1,.str n),(5,.ptr (.sub 0 0 x.p) 0),(8,.sl (.sub d j x.p) 4 i),(9,.int .i64 i)],Mem.of [(r,.cells [.list 4 (L.map aG),OO,RR,.list 1 (V.map fun q=>.str q.1),.bool tr]),(.sub 0 0 x.p,.cells [.int .i64 B.k,.int .i64 B.m,.str B.l]),(.sub d j x.p,.arr 4 ((L.take i).map aG))],c,[]⟩) _ ⟨0,c2+1+1,0,_,rfl,Nat.zero_le _,by omega,Nat.lt_succ_self _,fun j q h=>by omega,?_⟩ ?_
  ·rfl
  rintro k s' ⟨i,d,j,c,rfl,hi,hd,hdc,hlt,rfl⟩
  have hd0:¬ d=0:=by omega
  have hc0:¬ c=0:=by omega
  (try ((first|refine zn ?_|refine ze ?_|refine zk ?_);with_reducible (constructor;repeat constructor));try refine zl ?_)
  refine dE [0,1,5,8,9,87] (fun s'=>∃ q:Bool,s' = ⟨[(0,.ptr r 0),(1,.str n),(5,.ptr (.sub 0 0 x.p) 0),(8,.sl (.sub d j x.p) 4 i),(9,.int .i64 i),(87,.bool q)],Mem.of [(r,.cells [.list 4 (L.map aG),OO,RR,.list 1 (V.map fun q=>.str q.1),.bool tr]),(.sub 0 0 x.p,.cells [.int .i64 B.k,.int .i64 B.m,.str B.l]),(.sub d j x.p,.arr 4 ((L.take i).map aG))],c+1,[]⟩∧(q=true↔∃ e,L[i]? = some e∧ltB e.1 n)) ?_ ?_
  ·generalize hg:L.getD i default=q
   obtain ⟨qn,qk,qm,ql⟩:=q
   refine ay nmd [(7,76)] hng (by kernel_rfl) fun hf C S K hC1 hC hS hK=>?_;simp (disch:=first|omega|assumption) only [go_sem,Oid.ab hr,Oid.aa hr,hg,aG,AV.cells]
   (repeat' (first|(refine bV (fun hv=>?_) (fun hv=>?_)<;>(try simp only [zb1,zb2,zb3,zb4,zb5] at hv)<;>simp (disch:=first|omega|assumption) only [go_sem,hv,Oid.ab hr,Oid.aa hr,hg,aG,AV.cells])|(refine hK ?_;clear hK hS hC hC1 K S C hf)))
   ·have hl:i < L.length:=by omega
    rw [bK hl] at hg
    exact aR ⟨_,rfl,⟨fun h=>⟨(qn,⟨qk,qm,ql⟩),by rw [List.getElem?_eq_getElem hl,hg],h⟩,fun ⟨e,he,h⟩=>by
     rw [List.getElem?_eq_getElem hl,hg] at he
     simp only [Option.some.injEq] at he
     rw [← he] at h;exact h⟩⟩
   ·exact aR ⟨_,rfl,⟨fun h=>(by cases h),fun ⟨e,he,h⟩=>by rw [List.getElem?_eq_none (by omega)] at he;cases he⟩⟩
  rintro s' ⟨q,rfl,hq⟩
  refine oR rfl rfl (fun hb=>?_) (fun hb=>?_)
  ·obtain ⟨e,he,hle⟩:=hq.1 hb
   have hl:i < L.length:=(List.getElem?_eq_some_iff.1 he).1
   have hts:=iP aG hl
   generalize hg:L.getD i default=g at hts
   obtain ⟨qn,qk,qm,ql⟩:=g
   simp only [aG] at hts
   (repeat (first|(refine aB rfl rfl ?_)|(refine aC rfl rfl ?_)|(refine ay nmd [] hng (by kernel_rfl) fun hf C S K hC1 hC hS hK=>?_;simp (disch:=first|omega|assumption) only [go_sem,Oid.ab hr,Oid.aa hr,hg,aG,AV.cells];refine hK ?_;clear hK hS hC hC1 K S C hf)|((first|refine zn ?_|refine ze ?_|refine zk ?_);with_reducible (constructor;repeat constructor);try refine zl ?_)))
   refine ⟨_,_,by omega,fun _ _ h=>h,i+1,c+1,9,c+1+1+1,rfl,by omega,by omega,by omega,fun j q' hj hq'=>?_,?_⟩
   ·rcases Nat.lt_or_ge j i with h|h
    ·exact hlt j q' h hq'
    ·obtain rfl:j=i:=by omega
     rw [he] at hq';simp only [Option.some.injEq] at hq';rw [← hq'];exact hle
   ·rw [hts];rfl
  ·have hnl:∀ q,L[i]? = some q→¬ ltB q.1 n:=fun q' h1 h2=>by rw [hq.2 ⟨q',h1,h2⟩] at hb;cases hb
   have hsp:=gy (lt:=ltB) n o L i hi hlt hnl
   refine qr .o (uu hr) trivial ?_
   refine lW ?_
   refine dE [0,1,5,8,9] (fun s'=>∃ (d j c:Nat),0 < d∧d < c∧s' = ⟨[(0,.ptr r 0),(1,.str n),(5,.ptr (.sub 0 0 x.p) 0),(8,.sl (.sub d j x.p) 4 (i+(dL n o).length)),(9,.int .i64 i)],Mem.of [(r,.cells [.list 4 (L.map aG),OO,RR,.list 1 (V.map fun q=>.str q.1),.bool tr]),(.sub 0 0 x.p,.cells [.int .i64 B.k,.int .i64 B.m,.str B.l]),(.sub d j x.p,.arr 4 ((L.take i++dL n o).map aG))],c,[]⟩) ?_ ?_
   ·refine bs rfl rfl (fun hb=>?_) (fun hb=>?_)
    ·have hk:¬ b.k=0:=fun h=>hb (hB0.2 h)
     obtain rfl:=hB1 hk
     rw [if_neg hk] at ho
     subst ho
     refine qw (uu hr) ?_
     exact aR ⟨c+1+1,5,c+1+1+1,by omega,by omega,by rw [List.map_append];rfl⟩
    ·have hk:b.k=0:=hB0.1 (by simpa using hb)
     rw [if_pos hk] at ho
     subst ho
     refine qw (uu hr) ?_
     exact aR ⟨d,j,c+1+1,hd,by omega,by simp only [dL,List.append_nil];rfl⟩
   rintro s' ⟨d,j,c,hd,hdc,rfl⟩
   have hd0:¬ d=0:=by omega
   have hc0:¬ c=0:=by omega
   refine lX ?_
   refine dE [0,1,5,8,9] (fun s'=>∃ (i' c2:Nat),i'≤L.length∧d < c2∧s' = ⟨[(0,.ptr r 0),(1,.str n),(5,.ptr (.sub 0 0 x.p) 0),(8,.sl (.sub d j x.p) 4 (i+(dL n o).length)),(9,.int .i64 i')],Mem.of [(r,.cells [.list 4 (L.map aG),OO,RR,.list 1 (V.map fun q=>.str q.1),.bool tr]),(.sub 0 0 x.p,.cells [.int .i64 B.k,.int .i64 B.m,.str B.l]),(.sub d j x.p,.arr 4 ((L.take i++dL n o).map aG))],c2,[]⟩∧cY ltB n o L=L.take i++dL n o++L.drop i') ?_ ?_
   ·generalize hg:L.getD i default=g
    obtain ⟨qn,qk,qm,ql⟩:=g
    generalize htl:(dL n o).length=tl
    generalize hrow:(L.take i++dL n o).map aG=row
    refine lX ?_
    refine ay nmd [(7,116)] hng (by kernel_rfl) fun hf C S K hC1 hC hS hK=>?_;simp (disch:=first|omega|assumption) only [go_sem,Oid.ab hr,Oid.aa hr,hg,aG,AV.cells]
    (repeat' (first|(refine bV (fun hv=>?_) (fun hv=>?_)<;>(try simp only [zb1,zb2,zb3,zb4,zb5] at hv)<;>simp (disch:=first|omega|assumption) only [go_sem,hv,Oid.ab hr,Oid.aa hr,hg,aG,AV.cells])|(refine hK ?_;clear hK hS hC hC1 K S C hf)))
    ·have hl:i < L.length:=by omega
     rw [bK hl] at hg
     rw [List.getElem?_eq_getElem hl,hg] at hsp
     refine lW ?_
     refine bs rfl rfl (fun hb=>?_) (fun hb=>?_)
     ·refine qw0 ?_
      exact aR ⟨i+1,c+1+1,by omega,by omega,rfl,by rw [hsp];simp only [if_pos hb]⟩
     ·refine qw0 ?_
      exact aR ⟨i,c+1,by omega,by omega,rfl,by rw [hsp];simp only [if_neg hb]⟩
    ·rw [List.getElem?_eq_none (by omega)] at hsp
     refine qw0 ?_
     exact aR ⟨i,c+1,by omega,by omega,rfl,by rw [hsp];simp [List.drop_eq_nil_of_le (show L.length≤i by omega)]⟩
   rintro s' ⟨i',c2,hi',hdc2,rfl,hins⟩
   have hc20:¬ c2=0:=by omega
   have htl:(dL n o).length≤1:=by cases o<;>simp [dL]
   refine qr .o (uu hr) trivial ?_
   refine bC (gh (.sub c2 8 x.p) r 4 ((cY ltB n o L).map aG) [.sl (.sub c2 8 x.p) 4 (i+(dL n o).length+(L.length - i')),OO,RR,.list 1 (V.map fun q=>.str q.1),.bool tr] [.list 4 ((cY ltB n o L).map aG),OO,RR,.list 1 (V.map fun q=>.str q.1),.bool tr] ?_ ?_ ?_ (.fS ?_ (.keep (.keep (.keep (.keep .nil))))) (.now (bL rfl ?_ ?_)))
   ·simp (disch:=first|omega|assumption) only [go_sem,Oid.ab hr,Oid.aa hr]
    rw [hins];simp
   ·simp (disch:=first|omega|assumption) only [go_sem,Oid.ab hr,Oid.aa hr]
   ·exact fun e=>hr (e ▸ Oid.ae (Oid.az _))
   ·rw [hins];simp only [List.length_map,List.length_append,List.length_take,List.length_drop];omega
   ·simp (disch:=first|omega|assumption) only [go_sem,Oid.ab hr,Oid.aa hr]
    all_goals simp only [List.mem_cons,List.not_mem_nil,or_false,forall_eq_or_imp,forall_eq,Option.some.injEq,forall_eq',Mem.ao,eq_self,if_true,↓reduceIte,reduceCtorEq,implies_true,not_true_eq_false,false_imp_iff,true_and,and_true,false_and,and_false,imp_self]
   ·simp (disch:=first|omega|assumption) only [go_sem,Oid.ab hr,Oid.aa hr]
    all_goals simp only [List.mem_cons,List.not_mem_nil,or_false,forall_eq_or_imp,forall_eq,Option.some.injEq,forall_eq',Mem.ao,eq_self,if_true,↓reduceIte,reduceCtorEq,implies_true,not_true_eq_false,false_imp_iff,true_and,and_true,false_and,and_false,imp_self]
end Go.Proofs.YtngffmnomciogaaGreatDoor
namespace Go.Proofs.YtngffmnomciogaaGreatDoor
open Go Go.Ab
set_option maxRecDepth 20000
set_option maxHeartbeats 4000000
theorem RZ (p:Oid):aq Tryz.prog 32 [] (Oid.under p) ⟨[],.ptr (.sub 1 1 p) 0,[(.sub 1 1 p,some (.cells [.list 4 [],.list 4 [],.list 3 [],.list 1 [],.bool false]))]⟩:=by
 refine aV (n:=3) (rs:=[.tmp 0]) Tryz.func32 rfl rfl (by decide) rfl rfl rfl ?_;rintro x rfl hrd hng
 refine mx ?_
 refine qw0 ?_
 refine aE (RY (.sub 1 1 x.p) [.nilSl,.nilSl,.nilSl,.nilSl,.bool false] [.list 4 [],.list 4 [],.list 3 [],.list 1 [],.bool false] ?_ (.cons (.lx 4) (.cons (.lx 4) (.cons (.lx 3) (.cons (.lx 1) (.cons (.refl _) .nil))))) (.now (e6 rfl ?_ ?_)))
 ·simp (disch:=first|omega|assumption) only [go_sem]
 ·simp (disch:=first|omega|assumption) only [go_sem]
  all_goals simp only [List.mem_cons,List.not_mem_nil,or_false,forall_eq_or_imp,forall_eq,Option.some.injEq,forall_eq',Mem.ao,eq_self,if_true,↓reduceIte,reduceCtorEq,implies_true,not_true_eq_false,false_imp_iff,true_and,and_true,false_and,and_false,imp_self]
 ·simp (disch:=first|omega|assumption) only [go_sem]
  all_goals simp only [List.mem_cons,List.not_mem_nil,or_false,forall_eq_or_imp,forall_eq,Option.some.injEq,forall_eq',Mem.ao,eq_self,if_true,↓reduceIte,reduceCtorEq,implies_true,not_true_eq_false,false_imp_iff,true_and,and_true,false_and,and_false,imp_self]
theorem xi (r:Oid) (L:PL) (OO RR WW:AV) (n:Str) (f:Bool) (p:Oid) (hr:¬ Oid.under p r) :
  aq Tryz.prog 141 [.ptr r 0,.str n,.bool f] (Oid.under p) ⟨[(r,.cells [.list 4 (L.map aG),OO,RR,WW,.bool false])],.tuple [],[]⟩:=by
 refine aV (n:=144) (rs:=[]) Tryz.func141 rfl rfl (by decide) rfl rfl rfl ?_;rintro x rfl hrd hng
 (try ((first|refine zn ?_|refine ze ?_|refine zk ?_);with_reducible (constructor;repeat constructor));try refine zl ?_)
 refine ay nmd [(5,14),(8,17)] hng (by kernel_rfl) fun hf C S K hC1 hC hS hK=>?_;simp (disch:=first|omega|assumption) only [go_sem,Oid.ab hr,Oid.aa hr]
 refine hK ?_;clear hK hS hC hC1 K S C hf
 refine qw0 ?_
 refine aE (aS rfl ?_ ?_)
 all_goals simp only [List.mem_cons,List.not_mem_nil,or_false,forall_eq_or_imp,forall_eq,Option.some.injEq,forall_eq',Mem.ao,eq_self,if_true,↓reduceIte,reduceCtorEq,implies_true,not_true_eq_false,false_imp_iff,true_and,and_true,false_and,and_false,imp_self]
theorem xj (r:Oid) (L:PL) (hL:L.length≤1000000) (OO RR WW:AV) (tr:Bool) (p:Oid) (hr:¬ Oid.under p r) :
  aq Tryz.prog 62 [.ptr r 0] (Oid.under p) ⟨[(r,.cells [.list 4 (L.map aG),OO,RR,WW,.bool tr])],.list 1 (L.map fun q=>.str q.1),[]⟩:=by
 refine aV (n:=26) (rs:=[.tmp 2]) Tryz.func62 rfl rfl (by decide) rfl rfl rfl ?_;rintro x rfl hrd hng
 refine mx ?_
 refine qw (uu hr) ?_
 refine sf 3 1 rfl ?_
 simp (disch:=first|omega|assumption) only [go_sem]
 refine cE [0,3,4] (fun k s'=>∃ (i d j c:Nat),k=L.length - i∧i≤L.length∧d < c∧s' = ⟨[(0,.ptr r 0),(3,.sl (.sub d j x.p) 1 i),(4,.int .i64 i)],Mem.of [(r,.cells [.list 4 (L.map aG),OO,RR,WW,.bool tr]),(.sub d j x.p,.arr 1 ((L.take i).map fun q=>.str q.1))],c,[]⟩) _ ⟨0,3,0,4,rfl,Nat.zero_le _,by omega,rfl⟩ ?_
 rintro k s' ⟨i,d,j,c,rfl,hi,hdc,rfl⟩
 refine qw (uu hr) ?_
 refine bs rfl rfl (fun hb=>?_) (fun hb=>?_)
 ·have hl:i < L.length:=by omega
  have hts:=iP (fun q:Str × Bits=>AV.str q.1) hl
  generalize hg:L.getD i default=g at hts
  obtain ⟨qn,qk,qm,ql⟩:=g
  simp only at hts
  (repeat (first|(refine aB rfl rfl ?_)|(refine aC rfl rfl ?_)|(refine ay nmd [] hng (by kernel_rfl) fun hf C S K hC1 hC hS hK=>?_;simp (disch:=first|omega|assumption) only [go_sem,Oid.ab hr,Oid.aa hr,hg,aG,AV.cells];refine hK ?_;clear hK hS hC hC1 K S C hf)|((first|refine zn ?_|refine ze ?_|refine zk ?_);with_reducible (constructor;repeat constructor);try refine zl ?_)))
  exact ⟨_,_,by omega,fun _ _ h=>h,i+1,c+1,10,c+1+1+1,rfl,by omega,by omega,by rw [hts];rfl⟩
 ·obtain rfl:i=L.length:=by omega
  refine qw (uu hr) ?_
  refine aE (A4 (.sub d j x.p) 1 (L.map fun q=>.str q.1) ?_ (.now (e6 ?_ ?_ ?_)))
  ·simp (disch:=first|omega|assumption) only [go_sem,Oid.ab hr,Oid.aa hr]
   rw [List.take_length]
  ·simp (disch:=first|omega|assumption) only [go_sem,Oid.ab hr,Oid.aa hr]
  ·simp (disch:=first|omega|assumption) only [go_sem,Oid.ab hr,Oid.aa hr]
   all_goals simp only [List.mem_cons,List.not_mem_nil,or_false,forall_eq_or_imp,forall_eq,Option.some.injEq,forall_eq',Mem.ao,eq_self,if_true,↓reduceIte,reduceCtorEq,implies_true,not_true_eq_false,false_imp_iff,true_and,and_true,false_and,and_false,imp_self]
  ·simp (disch:=first|omega|assumption) only [go_sem,Oid.ab hr,Oid.aa hr]
   all_goals simp only [List.mem_cons,List.not_mem_nil,or_false,forall_eq_or_imp,forall_eq,Option.some.injEq,forall_eq',Mem.ao,eq_self,if_true,↓reduceIte,reduceCtorEq,implies_true,not_true_eq_false,false_imp_iff,true_and,and_true,false_and,and_false,imp_self]
end Go.Proofs.YtngffmnomciogaaGreatDoor
namespace Go.Proofs.YtngffmnomciogaaGreatDoor
open Go Go.Ab
set_option maxRecDepth 20000
set_option maxHeartbeats 4000000
theorem xk (b1 o:Oid) (es:List ME) (clock:Nat) (p:Oid) (hne1:¬ o=b1) (hb1:¬ Oid.under p b1) (ho:¬ Oid.under p o) :
  nD Tryz.prog 205 [.ptr b1 0] p [(b1,.cells [.map o]),(o,.map [.ss] false es clock)] 1 (fun pre xs=>pre.length < es.length∧∃ s:Str,xs=[.str s]) (fun b pre=>b=true→∃ U:List ME,U.Perm es∧pre=U.map fun e=>[.str (dN e)]):=by
 intro l J L0 hJ hdis hnp hY
 refine eo (by kernel_rfl) fun hcon=>?_
 refine fZ (n:=14) (rs:=[]) Tryz.func205 rfl rfl (by decide) rfl rfl rfl ?_;rintro x rfl hrd hng
 have hcL:∀ q ∈ L0,Mem.of L0 q.1=some q.2:=fun q hq=>by
  have:=hcon q (List.mem_append_right _ hq)
  rwa [A1 fun q' hq'=>hdis q hq q' hq'] at this
 generalize hQ:dJ Tryz.prog [] ([(b1,.cells [.map o]),(o,.map [.ss] false es clock)]++L0) _ _=Q
 refine aaS fun hwf=>?_
 obtain ⟨hw1,hw2⟩:=hwf o [.ss] false es clock (by simp only [bf,bA,Mem.ao,Mem.aM,Mem.aQ,Mem.aX,bY,cf,List.cons_append,List.nil_append,List.append_nil,↓reduceIte,eq_self,and_true,true_and,and_self,and_false,false_and,reduceCtorEq,Oid.sub.injEq,Nat.reduceEqDiff,hne1,Oid.aa hb1,Oid.aa ho,Oid.ab hb1,Oid.ab ho])
 have hstr:∀ e ∈ es,e.key = .str (dN e):=fun e he=>by
  obtain ⟨s,hs⟩:=kV (hw1 e he).1
  simp only [dN,hs]
 (try ((first|refine zn ?_|refine ze ?_|refine zk ?_);with_reducible (constructor;repeat constructor));try refine zl ?_)
 refine ay nmd [] hng (by kernel_rfl) fun hf C S K hC1 hC hS hK=>?_;simp (disch:=first|omega|assumption) only [go_sem,hne1,Oid.aa hb1,Oid.aa ho,Oid.ab hb1,Oid.ab ho,aK]
 refine hK ?_;clear hK hS hC hC1 K S C hf
 (try ((first|refine zn ?_|refine ze ?_|refine zk ?_);with_reducible (constructor;repeat constructor));try refine zl ?_)
 have hn0:∀ q ∈ L0,¬ q.1=b1∧¬ q.1=o∧¬ q.1 = .sub 0 1 x.p:=fun q hq=>⟨hdis q hq _ List.mem_cons_self,hdis q hq _ (List.mem_cons_of_mem _ List.mem_cons_self),fun e=>hnp q hq (e ▸ Oid.ae (Oid.az _))⟩
 refine nK ([(b1,.cells [.map o]),(o,.map [.ss] false es clock),(.sub 0 1 x.p,.iter (some o) clock [] clock)]++L0) (jR ?_ ?_) ?_
 ·simp only [bf,bA,Mem.ao,Mem.aM,Mem.aQ,Mem.aX,bY,cf,List.cons_append,List.nil_append,List.append_nil,↓reduceIte,eq_self,and_true,true_and,and_self,and_false,false_and,reduceCtorEq,Oid.sub.injEq,Nat.reduceEqDiff,hne1,Oid.aa hb1,Oid.aa ho,Oid.ab hb1,Oid.ab ho,aK]
 ·intro q hq
  obtain ⟨a1,a2,a3⟩:=hn0 q hq
  simp only [bf,bA,Mem.ao,Mem.aM,Mem.aQ,Mem.aX,bY,cf,List.cons_append,List.nil_append,List.append_nil,↓reduceIte,eq_self,and_true,true_and,and_self,and_false,false_and,reduceCtorEq,Oid.sub.injEq,Nat.reduceEqDiff,aK,a1,a2,a3]
  exact hcL q hq
 refine cE [0,1,5] (fun q s'=>∃ (c:Nat) (U:List ME) (L:List (Oid × aj)),s' = ⟨[(0,.fn (.yield l) [] []),(1,.ptr b1 0),(5,.iter (.sub 0 1 x.p))],Mem.of ([(b1,.cells [.map o]),(o,.map [.ss] false es clock),(.sub 0 1 x.p,.iter (some o) clock (U.map ME.born) clock)]++L),c,[]⟩∧0 < c∧q=es.length - U.length∧(U.map ME.born).Nodup∧(∀ e ∈ U,e ∈ es)∧J true (U.map fun e=>[.str (dN e)]) L ∧
  (∀ q ∈ L,Mem.of L q.1=some q.2)∧∀ q ∈ L,((∃ q' ∈ L0,q'.1=q.1)∨Oid.under x.p q.1)∧¬ q.1=b1∧¬ q.1=o∧¬ q.1 = .sub 0 1 x.p∧∀ d j,c≤d→¬ Oid.under (.sub d j x.p) q.1) es.length ⟨_,[],L0,rfl,by omega,rfl,List.nodup_nil,fun i h=>(by cases h),hJ,hcL,fun q hq=>⟨.inl ⟨q,hq,rfl⟩,(hn0 q hq).1,(hn0 q hq).2.1,(hn0 q hq).2.2,fun d j _ h=>hnp q hq (Oid.ae h)⟩⟩ ?_
 rintro q s' ⟨c,U,L,rfl,hc,rfl,hnd,hlt,hj,hcc,hnm⟩
 have hst:U.map ME.born=[]∨es=[]∨∃ e ∈ es,e.born < clock:=by
  cases U with
  | nil=>exact .inl rfl
  | cons e _=>exact .inr (.inr ⟨e,hlt e List.mem_cons_self,(hw1 e (hlt e List.mem_cons_self)).2⟩)
 (try ((first|refine zn ?_|refine ze ?_|refine zk ?_);with_reducible (constructor;repeat constructor));try refine zl ?_)
 refine ay nmd [] hng (by kernel_rfl) fun hf C S K hC1 hC hS hK=>?_;simp (disch:=first|omega|assumption) only [go_sem]
 refine hS _ _ _ (fun o' hd ho'=>tB (it:=.sub 0 1 x.p) (id:=o) (since:=clock) (ks:=[.ss]) (ag:=false) (clock:=clock) ho' rfl hst) ?_ ?_ (fun _ _ h=>h.elim)
 ·simp only [bf,bA,Mem.ao,Mem.aM,Mem.aQ,Mem.aX,bY,cf,List.cons_append,List.nil_append,List.append_nil,↓reduceIte,eq_self,and_true,true_and,and_self,and_false,false_and,reduceCtorEq,Oid.sub.injEq,Nat.reduceEqDiff,hne1,Oid.aa hb1,Oid.aa ho,Oid.ab hb1,Oid.ab ho]
 rintro val upd (⟨e,he,hns,rfl,rfl⟩|⟨hall,rfl,rfl⟩)
 ·have hfi:=find_born hw2 he
  have hk:=hstr e he
  have hnd':((U++[e]).map ME.born).Nodup:=by
   rw [List.map_append]
   exact List.nodup_append.2 ⟨hnd,by simp,fun a ha b hb' e'=>by simp at hb';subst hb';subst e';exact hns ha⟩
  have hlt':∀ j ∈ U++[e],j ∈ es:=fun j hj=>by
   rcases List.mem_append.1 hj with hj|hj
   ·exact hlt j hj
   ·simp at hj;subst hj;exact he
  have hle:=tS hw2 hlt' hnd'
  generalize hks:dN e=s at *
  simp (disch:=first|omega|assumption) only [go_sem,hne1,Oid.aa hb1,Oid.aa ho,Oid.ab hb1,Oid.ab ho,aK,hk]
  refine hK ?_;clear hK hS hC hC1 K S C hf
  (repeat (first|(refine aB rfl rfl ?_)|(refine aC rfl rfl ?_)|(refine ay nmd [] hng (by kernel_rfl) fun hf C S K hC1 hC hS hK=>?_;simp (disch:=first|omega|assumption) only [go_sem];refine hK ?_;clear hK hS hC hC1 K S C hf)|((first|refine zv ?_|refine zw ?_|refine zu ?_);with_reducible (constructor;repeat constructor);try refine zl ?_)))
  refine iB ?_
  (repeat (first|(refine aB rfl rfl ?_)|(refine aC rfl rfl ?_)|(refine ay nmd [] hng (by kernel_rfl) fun hf C S K hC1 hC hS hK=>?_;simp (disch:=first|omega|assumption) only [go_sem];refine hK ?_;clear hK hS hC hC1 K S C hf)|((first|refine zv ?_|refine zw ?_|refine zu ?_);with_reducible (constructor;repeat constructor);try refine zl ?_)))
  refine ay nmd [] hng (by kernel_rfl) fun hf C S K hC1 hC hS hK=>?_;simp (disch:=first|omega|assumption) only [go_sem,hne1,Oid.aa hb1,Oid.aa ho,Oid.ab hb1,Oid.ab ho,aK,hfi,hk,List.getLast?_concat]
  refine hK ?_;clear hK hS hC hC1 K S C hf
  (repeat (first|(refine aB rfl rfl ?_)|(refine aC rfl rfl ?_)|(refine ay nmd [] hng (by kernel_rfl) fun hf C S K hC1 hC hS hK=>?_;simp (disch:=first|omega|assumption) only [go_sem];refine hK ?_;clear hK hS hC hC1 K S C hf)|((first|refine zv ?_|refine zw ?_|refine zu ?_);with_reducible (constructor;repeat constructor);try refine zl ?_)))
  have hnL:∀ q ∈ L,∀ q' ∈ ([(b1,.cells [.map o]),(o,.map [.ss] false es clock),(.sub 0 1 x.p,.iter (some o) clock (U.map ME.born++[e.born]) clock)]:List (Oid × aj)),¬ q.1=q'.1:=fun q hq=>by
   obtain ⟨_,a1,a2,a3,a4⟩:=hnm q hq
   simp only [bf,bA,Mem.ao,Mem.aM,Mem.aQ,Mem.aX,bY,cf,List.cons_append,List.nil_append,List.append_nil,↓reduceIte,eq_self,and_true,true_and,and_self,and_false,false_and,reduceCtorEq,Oid.sub.injEq,Nat.reduceEqDiff,a1,a2,a3,not_false_eq_true]
  have hBm:∀ q ∈ ([(b1,.cells [.map o]),(o,.map [.ss] false es clock),(.sub 0 1 x.p,.iter (some o) clock (U.map ME.born++[e.born]) clock)]:List (Oid × aj)),Mem.of ([(b1,.cells [.map o]),(o,.map [.ss] false es clock),(.sub 0 1 x.p,.iter (some o) clock (U.map ME.born++[e.born]) clock)]++L) q.1=some q.2:=by
   simp only [bf,bA,Mem.ao,Mem.aM,Mem.aQ,Mem.aX,bY,cf,List.cons_append,List.nil_append,List.append_nil,↓reduceIte,eq_self,and_true,true_and,and_self,and_false,false_and,reduceCtorEq,Oid.sub.injEq,Nat.reduceEqDiff,hne1,Oid.aa hb1,Oid.aa ho,Oid.ab hb1,Oid.ab ho]
  have hall:=ga hBm hnL hcc
  have hmm:(U++[e]).map ME.born=U.map ME.born++[e.born]:=by simp
  have hlen2:(U++[e]).length=U.length+1:=by simp
  refine ay nmd [] hng (by kernel_rfl) fun hf C S K hC1 hC hS hK=>?_;simp (disch:=first|omega|assumption) only [go_sem,hne1,Oid.aa hb1,Oid.aa ho,Oid.ab hb1,Oid.ab ho,aK]
  refine hS _ _ _ (fun o' hd ho'=>nC ho' rfl (hY _ [.str s] L (.sub (c+1+1) 2 x.p) hj rfl ⟨by rw [List.length_map];rw [hlen2] at hle;omega,s,rfl⟩)) (fun q hq=>hall q (List.mem_append_right _ hq)) ?_ (fun _ _ h=>h.elim)
  rintro val upd ⟨b,L',rfl,hj',hU⟩
  have hym:=nJ hU (fun q hq=>hall q (List.mem_append_right _ hq)) hBm ?_
  rotate_left
  ·intro q hq
   refine ⟨fun q' hq'=>hnL q' hq' q hq,fun hu=>?_⟩
   simp only [List.mem_cons,List.not_mem_nil,or_false] at hq
   rcases hq with rfl|rfl|rfl
   ·exact hb1 (Oid.ae hu)
   ·exact ho (Oid.ae hu)
   ·have:=(Oid.apart hu (Oid.az _)).1;omega
  have hcl:∀ q ∈ L',Mem.of L' q.1=some q.2:=fun q hq=>by
   obtain ⟨o',ho'⟩:=Mem.ll hq
   obtain ⟨q',h1,h2,h3⟩:=Mem.dy ho'
   have h4:=hym q (List.mem_append_right _ hq)
   have h5:=hym q' (List.mem_append_right _ h1)
   rw [h2,h4,h3] at h5
   rw [ho'];exact h5.symm
  simp (disch:=first|omega|assumption) only [go_sem]
  refine hK ?_;clear hK hS hC hC1 K S C hf
  (repeat (first|(refine aB rfl rfl ?_)|(refine aC rfl rfl ?_)|(refine ay nmd [] hng (by kernel_rfl) fun hf C S K hC1 hC hS hK=>?_;simp (disch:=first|omega|assumption) only [go_sem];refine hK ?_;clear hK hS hC hC1 K S C hf)|((first|refine zv ?_|refine zw ?_|refine zu ?_);with_reducible (constructor;repeat constructor);try refine zl ?_)))
  refine nK ([(b1,.cells [.map o]),(o,.map [.ss] false es clock),(.sub 0 1 x.p,.iter (some o) clock (U.map ME.born++[e.born]) clock)]++L') (by rw [← Mem.aQ];exact hym) ?_
  have hnm':∀ q ∈ L',((∃ q' ∈ L0,q'.1=q.1)∨Oid.under x.p q.1)∧¬ q.1=b1∧¬ q.1=o∧¬ q.1 = .sub 0 1 x.p∧∀ d j,c+1+1+1≤d→¬ Oid.under (.sub d j x.p) q.1:=fun q hq=>by
   rcases hU.nam q hq with ⟨q',h1,h2⟩|h1
   ·obtain ⟨a0,a1,a2,a3,a4⟩:=hnm q' h1
    rw [h2] at a0 a1 a2 a3 a4
    exact ⟨a0,a1,a2,a3,fun d j hd=>a4 d j (by omega)⟩
   ·have hu:=Oid.ae h1
    refine ⟨.inr hu,fun e=>hb1 (e ▸ hu),fun e=>ho (e ▸ hu),fun e=>?_,fun d j hd h2=>?_⟩
    ·rw [e] at h1;have:=(Oid.apart h1 (Oid.az _)).1;omega
    ·have:=(Oid.apart h1 h2).1;omega
  have hmap:((U++[e]).map fun e=>[AV.str (dN e)])=(U.map fun e=>[AV.str (dN e)])++[[.str s]]:=by simp [hks]
  have hnL':∀ q ∈ L',∀ q' ∈ ([(b1,.cells [.map o]),(o,.map [.ss] false es clock),(.sub 0 1 x.p,.iter (some o) clock (U.map ME.born++[e.born]) clock)]:List (Oid × aj)),¬ q.1=q'.1:=fun q hq=>by
   obtain ⟨_,a1,a2,a3,a4⟩:=hnm' q hq
   simp only [bf,bA,Mem.ao,Mem.aM,Mem.aQ,Mem.aX,bY,cf,List.cons_append,List.nil_append,List.append_nil,↓reduceIte,eq_self,and_true,true_and,and_self,and_false,false_and,reduceCtorEq,Oid.sub.injEq,Nat.reduceEqDiff,a1,a2,a3,not_false_eq_true]
  have hall':=ga (L:=L') (B:=[(b1,.cells [.map o]),(o,.map [.ss] false es clock),(.sub 0 1 x.p,.iter (some o) clock (U.map ME.born++[e.born]) clock)]) (fun q hq=>by
   have:=hym q (List.mem_append_left _ hq)
   revert q
   simp only [bf,bA,Mem.ao,Mem.aM,Mem.aQ,Mem.aX,bY,cf,List.cons_append,List.nil_append,List.append_nil,↓reduceIte,eq_self,and_true,true_and,and_self,and_false,false_and,reduceCtorEq,Oid.sub.injEq,Nat.reduceEqDiff,hne1,Oid.aa hb1,Oid.aa ho,Oid.ab hb1,Oid.ab ho,implies_true]) hnL' hcl
  cases b with
  | true =>
   refine qw0 ?_
   rw [← hmap] at hj'
   refine ⟨_,Mem.of ([(b1,.cells [.map o]),(o,.map [.ss] false es clock),(.sub 0 1 x.p,.iter (some o) clock (U.map ME.born++[e.born]) clock)]++L'),?_,lr hall',c+1+1+1,U++[e],L',by rw [hmm];rfl,by omega,rfl,hnd',hlt',hj',hcl,hnm'⟩
   rw [hlen2] at hle ⊢;omega
  | false =>
   refine aB rfl rfl (aE ?_)
   subst hQ
   have hsw:=jJ (L:=[(b1,.cells [.map o]),(o,.map [.ss] false es clock)]++L0) (L':=[(b1,.cells [.map o]),(o,.map [.ss] false es clock)]++L') (m:=Mem.of ([(b1,.cells [.map o]),(o,.map [.ss] false es clock),(.sub 0 1 x.p,.iter (some o) clock (U.map ME.born++[e.born]) clock)]++L')) (sp:=Oid.under x.p) (fun q hq=>hall' q (by
     rcases List.mem_append.1 hq with hq|hq
     ·exact List.mem_append_left _ (by simp only [List.mem_cons,List.not_mem_nil,or_false] at hq ⊢;rcases hq with h|h<;>simp [h])
     ·exact List.mem_append_right _ hq)) (fun q hq=>by
     rcases List.mem_append.1 hq with hq|hq
     ·exact .inl ⟨q,List.mem_append_left _ hq,rfl⟩
     ·rcases (hnm' q hq).1 with ⟨q',h1,h2⟩|h
      ·exact .inl ⟨q',List.mem_append_right _ h1,h2⟩
      ·exact .inr h)
   exact bm _ _ rfl ⟨false,_,L',fun h=>(by cases h),hj',hsw.1⟩ hsw.2
 ·simp (disch:=first|omega|assumption) only [go_sem]
  refine hK ?_;clear hK hS hC hC1 K S C hf
  (try ((first|refine zn ?_|refine ze ?_|refine zk ?_);with_reducible (constructor;repeat constructor));try refine zl ?_)
  subst hQ
  have hfull:=nT hw2 hlt hnd fun e he=>hall e he (hw1 e he).2
  have hnL:∀ q ∈ L,∀ q' ∈ ([(b1,.cells [.map o]),(o,.map [.ss] false es clock),(.sub 0 1 x.p,.iter (some o) clock (U.map ME.born) clock)]:List (Oid × aj)),¬ q.1=q'.1:=fun q hq=>by
   obtain ⟨_,a1,a2,a3,a4⟩:=hnm q hq
   simp only [bf,bA,Mem.ao,Mem.aM,Mem.aQ,Mem.aX,bY,cf,List.cons_append,List.nil_append,List.append_nil,↓reduceIte,eq_self,and_true,true_and,and_self,and_false,false_and,reduceCtorEq,Oid.sub.injEq,Nat.reduceEqDiff,a1,a2,a3,not_false_eq_true]
  have hall':=ga (L:=L) (B:=[(b1,.cells [.map o]),(o,.map [.ss] false es clock),(.sub 0 1 x.p,.iter (some o) clock (U.map ME.born) clock)]) (by
   simp only [bf,bA,Mem.ao,Mem.aM,Mem.aQ,Mem.aX,bY,cf,List.cons_append,List.nil_append,List.append_nil,↓reduceIte,eq_self,and_true,true_and,and_self,and_false,false_and,reduceCtorEq,Oid.sub.injEq,Nat.reduceEqDiff,hne1,Oid.aa hb1,Oid.aa ho,Oid.ab hb1,Oid.ab ho]) hnL hcc
  have hsw:=jJ (L:=[(b1,.cells [.map o]),(o,.map [.ss] false es clock)]++L0) (L':=[(b1,.cells [.map o]),(o,.map [.ss] false es clock)]++L) (m:=Mem.of ([(b1,.cells [.map o]),(o,.map [.ss] false es clock),(.sub 0 1 x.p,.iter (some o) clock (U.map ME.born) clock)]++L)) (sp:=Oid.under x.p) (fun q hq=>hall' q (by
     rcases List.mem_append.1 hq with hq|hq
     ·exact List.mem_append_left _ (by simp only [List.mem_cons,List.not_mem_nil,or_false] at hq ⊢;rcases hq with h|h<;>simp [h])
     ·exact List.mem_append_right _ hq)) (fun q hq=>by
     rcases List.mem_append.1 hq with hq|hq
     ·exact .inl ⟨q,List.mem_append_left _ hq,rfl⟩
     ·rcases (hnm q hq).1 with ⟨q',h1,h2⟩|h
      ·exact .inl ⟨q',List.mem_append_right _ h1,h2⟩
      ·exact .inr h)
  refine aC rfl rfl ?_
  (try ((first|refine zn ?_|refine ze ?_|refine zk ?_);with_reducible (constructor;repeat constructor));try refine zl ?_)
  refine bC ?_
  exact a8 _ _ rfl ⟨true,_,L,fun _=>⟨U,hfull,rfl⟩,hj,hsw.1⟩ hsw.2
end Go.Proofs.YtngffmnomciogaaGreatDoor
namespace Go.Proofs.YtngffmnomciogaaGreatDoor
open Go Go.Ab
set_option maxRecDepth 20000
set_option maxHeartbeats 4000000
theorem A8 (o:Oid) (p:Oid) (ho:¬ Oid.under p o):aq Tryz.prog 138 [.map o] (Oid.under p) ⟨[],.fn (.func 205) [] [.ptr (.sub 0 0 p) 0],[(.sub 0 0 p,some (.cells [.map o]))]⟩:=by
 refine aV (n:=4) (rs:=[.tmp 2]) Tryz.func138 rfl rfl (by decide) rfl rfl rfl ?_;rintro x rfl hrd hng
 refine qw0 ?_
 refine aE (bm _ _ rfl ⟨rfl,rfl⟩ ?_)
 intro i o' h
 rw [Mem.aQ] at h
 exact h
theorem A9 (st t:Oid) (tv:AV) (es:List ME) (clock:Nat) (hel:es.length≤2000000000000) (hts:¬ t=st) (p:Oid) (hs:¬ Oid.under p st) (ht:¬ Oid.under p t) :
  aq Tryz.prog 63 [.ptr st 0] (Oid.under p) ⟨[(st,.cells [.map t,tv]),(t,.map [.ss] false es clock)],.list 1 ((cz (es.map dN)).map .str),[]⟩:=by
 refine aV (n:=9) (rs:=[.tmp 2]) Tryz.func63 rfl rfl (by decide) rfl rfl rfl ?_;rintro x rfl hrd hng
 have hu12:Oid.under (.sub 1 4 x.p) (.sub 0 0 (.sub 1 4 x.p)):=Oid.ae (Oid.az _)
 have hapt:∀ p',Oid.under (.sub 1 5 x.p) p'→¬ Oid.under p' (.sub 0 0 (.sub 1 4 x.p)):=fun p' h h2=>by
  have:=(Oid.apart (Oid.ee h h2) hu12).2
  omega
 refine qw0 ?_
 refine ay nmd [] hng (by kernel_rfl) fun hf C S K hC1 hC hS hK=>?_;simp (disch:=first|omega|assumption) only [go_sem,Oid.ab ht,Oid.aa ht,Oid.ab hs,Oid.aa hs,hts]
 refine hC1 _ (A8 t _ (fun h=>ht (Oid.ae h))) qs0 ?_
 simp (disch:=first|omega|assumption) only [go_sem]
 refine hC1 _ (oa 205 [.ptr (.sub 0 0 (.sub 1 4 x.p)) 0] [(.sub 0 0 (.sub 1 4 x.p),.cells [.map t]),(t,.map [.ss] false es clock)] es.length (es.map dN) _ hel (by simp) _ ?_ ?_
  (fun p' hp=>xk (.sub 0 0 (.sub 1 4 x.p)) t es clock p' ?_ ?_ ?_) ?_) ?_ ?_
 ·intro q hq
  simp only [List.mem_cons,List.not_mem_nil,or_false] at hq
  rcases hq with rfl|rfl
  ·exact hapt _ (Oid.az _)
  ·exact fun h=>ht (Oid.ae h)
 ·intro q hq
  simp only [List.mem_cons,List.not_mem_nil,or_false] at hq
  rcases hq with rfl|rfl<;>(intro sz xs e;cases e)
 ·exact fun e=>ht (e ▸ Oid.ae hu12)
 ·exact hapt _ hp
 ·exact fun h=>ht (Oid.ae (Oid.ee hp h))
 ·intro l hl
  obtain ⟨U,h1,h2⟩:=hl rfl
  have h3:l=U.map dN:=str_inj (by rw [h2,List.map_map];rfl)
  rw [h3]
  exact h1.map _
 ·have h0:=Oid.ab (fun h=>ht (Oid.ae h):¬ Oid.under (.sub 1 4 x.p) t) 0 0
  have h1:=Oid.aa (fun h=>ht (Oid.ae h):¬ Oid.under (.sub 1 4 x.p) t) 0 0
  have h2:=Oid.ab (fun h=>hs (Oid.ae h):¬ Oid.under (.sub 1 4 x.p) st) 0 0
  have h3:=Oid.aa (fun h=>hs (Oid.ae h):¬ Oid.under (.sub 1 4 x.p) st) 0 0
  simp only [bf,bA,Mem.ao,Mem.aM,Mem.aQ,Mem.aX,bY,cf,List.cons_append,List.nil_append,List.append_nil,↓reduceIte,eq_self,and_true,true_and,and_self,and_false,false_and,reduceCtorEq,Oid.sub.injEq,Nat.reduceEqDiff,aK,h0,h1,h2,h3,Oid.ab ht,Oid.aa ht,Oid.ab hs,Oid.aa hs,hts]
 ·simp (disch:=first|omega|assumption) only [go_sem]
  refine hK ?_;clear hK hS hC hC1 K S C hf
  refine qw0 ?_
  have h0:=Oid.ab (fun h=>ht (Oid.ae h):¬ Oid.under (.sub 1 4 x.p) t) 0 0
  have h1:=Oid.aa (fun h=>ht (Oid.ae h):¬ Oid.under (.sub 1 4 x.p) t) 0 0
  have h2:=Oid.ab (fun h=>hs (Oid.ae h):¬ Oid.under (.sub 1 4 x.p) st) 0 0
  have h3:=Oid.aa (fun h=>hs (Oid.ae h):¬ Oid.under (.sub 1 4 x.p) st) 0 0
  refine aE (aS rfl ?_ ?_)
  all_goals simp only [List.mem_cons,List.not_mem_nil,or_false,forall_eq_or_imp,forall_eq,Option.some.injEq,forall_eq',Mem.ao,eq_self,if_true,↓reduceIte,reduceCtorEq,implies_true,not_true_eq_false,false_imp_iff,true_and,and_true,false_and,and_false,imp_self,aK,h0,h1,h2,h3,Oid.ab ht,Oid.aa ht,Oid.ab hs,Oid.aa hs,hts]
theorem xl {es:List ME} {L:PL} (h:fL es L) (hs:aN ltB L):cz (es.map dN)=L.map (·.1):=by
 refine rj ?_ (List.pairwise_map.2 (hs.imp fun {a b} h=>List.le_of_lt (sV h)))
 obtain ⟨E,rfl,h2,_⟩:=h
 have h3:(E.map (ji AV.str Bits.av)).map dN=(E.map prj).map (·.1):=by
  rw [List.map_map,List.map_map];rfl
 rw [h3]
 exact h2.map _
end Go.Proofs.YtngffmnomciogaaGreatDoor
namespace Go.Proofs.YtngffmnomciogaaGreatDoor
open Go Go.Ab
set_option maxRecDepth 20000
set_option maxHeartbeats 4000000
theorem ic (n:Str) (b:Bits) (L:PL):(dX n b L).length≤L.length+1:=by
 unfold dX
 split
 ·omega
 ·generalize (if b.k=0 then none else some b)=o
  induction L with
  | nil=>cases o<;>simp [cY,dL]
  | cons q L ih =>
   simp only [cY]
   split
   ·simp only [List.length_cons];omega
   ·have:(dL n o).length≤1:=by cases o<;>simp [dL]
    simp only [List.length_append,List.length_cons]
    split
    ·omega
    ·rw [List.length_cons];omega
theorem mA {n:Str} {b:Bits} {L:PL} {q:Str × Bits} (h:q ∈ dX n b L):q=(n,b)∨q ∈ L:=by
 unfold dX at h
 split at h
 ·exact .inr h
 ·refine (ez h).imp (fun h=>?_) id
  obtain ⟨h1,h2⟩:=mb h
  split at h2
  ·cases h2
  ·simp only [Option.some.injEq] at h2
   rw [Prod.ext_iff];exact ⟨h1,h2.symm⟩
end Go.Proofs.YtngffmnomciogaaGreatDoor
namespace Go.Proofs.YtngffmnomciogaaGreatDoor
open Go Go.Ab
set_option maxRecDepth 20000
set_option maxHeartbeats 4000000
abbrev RL:=List ((Str × Bool) × Str)
def ltF (a b:Str × Bool):Prop:=ltB a.1 b.1∨(a.1=b.1∧a.2=false∧b.2=true)
instance:DecidableRel ltF:=fun a b=>inferInstanceAs (Decidable (ltB a.1 b.1∨(a.1=b.1∧a.2=false∧b.2=true)))
theorem Ba:Ord ltF where
 irr a h:=by
  rcases h with h|⟨_,h1,h2⟩
  ·exact eT.irr _ h
  ·rw [h1] at h2;cases h2
 tr a b c h1 h2:=by
  rcases h1 with h1|⟨h1,h3,h4⟩<;>rcases h2 with h2|⟨h2,h5,h6⟩
  ·exact .inl (eT.tr _ _ _ h1 h2)
  ·exact .inl (h2 ▸ h1)
  ·exact .inl (h1 ▸ h2)
  ·rw [h4] at h5;cases h5
 tot a b h hn:=by
  obtain ⟨a1,a2⟩:=a
  obtain ⟨b1,b2⟩:=b
  by_cases he:a1=b1
  ·subst he
   right
   refine ⟨rfl,?_,?_⟩
   ·cases b2 with
    | false=>rfl
    | true =>
     cases a2 with
     | false=>exact absurd (.inr ⟨rfl,rfl,rfl⟩) h
     | true=>exact absurd rfl hn
   ·cases a2 with
    | true=>rfl
    | false =>
     cases b2 with
     | false=>exact absurd rfl hn
     | true=>exact absurd (.inr ⟨rfl,rfl,rfl⟩) h
  ·exact .inl (eT.tot a1 b1 (fun h'=>h (.inl h')) he)
def dF (q:Str × Bool):AV:=.agg [.str q.1,.bool q.2]
theorem abU:iQ dF:=fun a b=>by
 obtain ⟨a1,a2⟩:=a
 obtain ⟨b1,b2⟩:=b
 by_cases h1:a1=b1<;>by_cases h2:a2=b2<;>simp [dD,dF,AV.cells,bt,eqS,h1,h2]
def cG (q:(Str × Bool) × Str):AV:=.agg [.str q.1.1,.bool q.1.2,.str q.2]
def dm (L:PL) (f:Str × Bool):Str:=if f.2=true then b5 (bc L f.1) else cN (aI L f.1)
def eC (old:PL) (W:WL) (f:Str × Bool) (R:RL):RL:=if f.2=false∧(aH f.1 W).isSome=true then R else if (aH f R).isSome=true then R else cY ltF f (some (dm old f)) R
theorem pB {L:PL} (h:POk L) (n:Str):(aI L n).ok:=by
 unfold aI
 split
 ·exact ⟨⟨by decide,by decide⟩,⟨by decide,by decide⟩,by decide⟩
 ·cases h2:aH n L with
  | none=>exact ⟨⟨by decide,by decide⟩,⟨by decide,by decide⟩,by decide⟩
  | some b =>
   have:∀ {L:PL},aH n L=some b→∃ q ∈ L,q.2=b:=by
    intro L
    induction L with
    | nil=>intro h;cases h
    | cons q L ih =>
     intro h
     simp only [aH] at h
     split at h
     ·exact ⟨q,List.mem_cons_self,Option.some.inj h⟩
     ·obtain ⟨q',h3,h4⟩:=ih h;exact ⟨q',List.mem_cons_of_mem _ h3,h4⟩
   obtain ⟨q,h3,h4⟩:=this h2
   rw [Option.getD_some,← h4]
   exact h.val q h3
def R0 (L:PL):Prop:=∀ q ∈ L,0≤q.2.k∧0≤q.2.m
theorem rv {L:PL} (h:R0 L) (n:Str):0≤(aI L n).k∧0≤(aI L n).m:=by
 unfold aI
 split
 ·exact ⟨by decide,by decide⟩
 ·cases h2:aH n L with
  | none=>exact ⟨by decide,by decide⟩
  | some b =>
   have:∀ {L:PL},aH n L=some b→∃ q ∈ L,q.2=b:=by
    intro L
    induction L with
    | nil=>intro h;cases h
    | cons q L ih =>
     intro h
     simp only [aH] at h
     split at h
     ·exact ⟨q,List.mem_cons_self,Option.some.inj h⟩
     ·obtain ⟨q',h3,h4⟩:=ih h;exact ⟨q',List.mem_cons_of_mem _ h3,h4⟩
   obtain ⟨q,h3,h4⟩:=this h2
   rw [Option.getD_some,← h4]
   exact h q h3
theorem sZ {κ ν:Type} [DecidableEq κ] {lt:κ→κ→Prop} (ho:Ord lt) (k:κ) {L:List (κ × ν)} (hs:aN lt L) {i:Nat} (h1:∀ j q,j < i→L[j]? = some q→lt q.1 k) (h2:∀ q,L[i]? = some q→¬ lt q.1 k) :
  (aH k L).isSome=true↔∃ q,L[i]? = some q∧q.1=k:=by
 constructor
 ·intro h
  obtain ⟨b,hb⟩:=Option.isSome_iff_exists.1 h
  have hm:=(br (hs.nodup ho)).1 hb
  obtain ⟨j,hj,hjq⟩:=List.mem_iff_getElem.1 hm
  have hjs:L[j]? = some (k,b):=by rw [List.getElem?_eq_getElem hj,hjq]
  rcases Nat.lt_trichotomy j i with h3|h3|h3
  ·exact absurd (h1 j _ h3 hjs) (ho.irr k)
  ·exact ⟨_,by rw [← h3];exact hjs,rfl⟩
  ·have hi:i < L.length:=by omega
   have:=List.pairwise_iff_getElem.1 hs i j hi hj h3
   rw [hjq] at this
   exact absurd this (h2 _ (List.getElem?_eq_getElem hi))
 ·rintro ⟨q,h3,rfl⟩
  rw [(br (hs.nodup ho) (n:=q.1) (b:=q.2)).2 (List.mem_of_getElem? h3)]
  rfl
theorem xm (r:Oid) (LL:AV) (old:PL) (hold:POk old) (hnat:R0 old) (R:RL) (hR:R.length≤1000000) (hRs:aN ltF R) (W:WL) (hW:W.length≤1000000) (n:Str) (hn:n.length≤140737488355000) (f:Bool) (p:Oid) (hr:¬ Oid.under p r) :
  aq Tryz.prog 141 [.ptr r 0,.str n,.bool f] (Oid.under p) ⟨[(r,.cells [LL,.list 4 (old.map aG),.list 3 (R.map cG),.list 1 (W.map fun q=>.str q.1),.bool true])],.tuple [],[(r,some (.cells [LL,.list 4 (old.map aG),.list 3 ((eC old W (n,f) R).map cG),.list 1 (W.map fun q=>.str q.1),.bool true]))]⟩:=by
 have hr':∀ c i,¬ Oid.under (.sub c i p) r:=fun c i h=>hr (Oid.ae h)
 have hoL:=hold.len
 refine aV (n:=144) (rs:=[]) Tryz.func141 rfl rfl (by decide) rfl rfl rfl ?_;rintro x rfl hrd hng
 refine mx ?_
 refine lX ?_
 refine lX ?_
 refine dE [0,1,2,22] (fun s'=>∃ q:Bool,s' = ⟨[(0,.ptr r 0),(1,.str n),(2,.bool f),(22,.bool q)],Mem.of [(r,.cells [LL,.list 4 (old.map aG),.list 3 (R.map cG),.list 1 (W.map fun q=>.str q.1),.bool true])],1,[]⟩∧(q=true↔f=false∧(aH n W).isSome=true)) ?_ ?_
 ·cases f with
  | true =>
   refine ay nmd [(5,14),(8,17)] hng (by kernel_rfl) fun hf C S K hC1 hC hS hK=>?_;simp (disch:=first|omega|assumption) only [go_sem,Oid.ab hr,Oid.aa hr]
   refine hK ?_;clear hK hS hC hC1 K S C hf
   exact aR ⟨_,rfl,by simp⟩
  | false =>
   refine ay nmd [(5,14),(8,17)] hng (by kernel_rfl) fun hf C S K hC1 hC hS hK=>?_;simp (disch:=first|omega|assumption) only [go_sem,Oid.ab hr,Oid.aa hr]
   refine hC1 _ (ru r LL (.list 4 (old.map aG)) (.list 3 (R.map cG)) (.bool true) W (by omega) n _ (hr' _ _)) (qs (uu hr)) ?_
   simp (disch:=first|omega|assumption) only [go_sem,Oid.ab hr,Oid.aa hr]
   refine hK ?_;clear hK hS hC hC1 K S C hf
   exact aR ⟨_,rfl,by simp⟩
 rintro s' ⟨q,rfl,hq⟩
 refine oR rfl rfl (fun hb=>?_) (fun hb=>?_)
 ·have h1:eC old W (n,f) R=R:=if_pos (hq.1 hb)
  rw [h1]
  refine qw0 ?_
  refine aE (.now (e6 rfl ?_ ?_))
  all_goals simp only [List.mem_cons,List.not_mem_nil,or_false,forall_eq_or_imp,forall_eq,Option.some.injEq,forall_eq',Mem.ao,eq_self,if_true,↓reduceIte,reduceCtorEq,implies_true,not_true_eq_false,false_imp_iff,true_and,and_true,false_and,and_false,imp_self]
 ·have h1:eC old W (n,f) R=if (aH (n,f) R).isSome=true then R else cY ltF (n,f) (some (dm old (n,f))) R:=if_neg fun h=>by rw [hq.2 h] at hb;cases hb
  rw [h1]
  refine qw0 ?_
  refine cE [0,1,2,6] (fun k s'=>∃ i c':Nat,k=R.length - i∧i≤R.length∧0 < c'∧(∀ j q,j < i→R[j]? = some q→ltF q.1 (n,f))∧s' = ⟨[(0,.ptr r 0),(1,.str n),(2,.bool f),(6,.int .i64 i)],Mem.of [(r,.cells [LL,.list 4 (old.map aG),.list 3 (R.map cG),.list 1 (W.map fun q=>.str q.1),.bool true])],c',[]⟩) _ ⟨0,_,rfl,Nat.zero_le _,by omega,fun j q h=>by omega,rfl⟩ ?_
  rintro k s' ⟨i,c',rfl,hi,hc',hlt,rfl⟩
  have hc0:¬ c' = 0:=by omega
  generalize hg:R.getD i default=g
  obtain ⟨⟨gn,gf⟩,gv⟩:=g
  (try ((first|refine zn ?_|refine ze ?_|refine zk ?_);with_reducible (constructor;repeat constructor));try refine zl ?_)
  refine dE [0,1,2,6,67] (fun s'=>∃ q:Bool,s' = ⟨[(0,.ptr r 0),(1,.str n),(2,.bool f),(6,.int .i64 i),(67,.bool q)],Mem.of [(r,.cells [LL,.list 4 (old.map aG),.list 3 (R.map cG),.list 1 (W.map fun q=>.str q.1),.bool true])],c' + 1,[]⟩∧(q=true↔i < R.length∧ltF (gn,gf) (n,f))) ?_ ?_
  ·refine ay nmd [(7,30),(18,41),(29,52),(40,63)] hng (by kernel_rfl) fun hf C S K hC1 hC hS hK=>?_;simp (disch:=first|omega|assumption) only [go_sem,Oid.ab hr,Oid.aa hr,hg,cG,AV.cells]
   (repeat' (first|(refine bV (fun hv=>?_) (fun hv=>?_)<;>(try simp only [zb1,zb2,zb3,zb4,zb5] at hv)<;>simp (disch:=first|omega|assumption) only [go_sem,hv,Oid.ab hr,Oid.aa hr,hg,cG,AV.cells])|(refine hK ?_;clear hK hS hC hC1 K S C hf)))
   all_goals refine aR ⟨_,rfl,?_⟩
   all_goals first|(simp_all [ltF,ltB];done)|(simp_all [ltF,ltB];omega)
  rintro s' ⟨q,rfl,hq⟩
  refine oR rfl rfl (fun hb=>?_) (fun hb=>?_)
  ·obtain ⟨hl,hle⟩:=hq.1 hb
   refine qw0 ?_
   refine ⟨_,_,by omega,fun _ _ h=>h,i+1,_,rfl,by omega,by omega,fun j q' hj hq'=>?_,rfl⟩
   rcases Nat.lt_or_ge j i with h|h
   ·exact hlt j q' h hq'
   ·obtain rfl:j=i:=by omega
    rw [List.getElem?_eq_getElem hl] at hq';simp only [Option.some.injEq] at hq'
    rw [bK hl,hq'] at hg
    rw [hg];exact hle
  ·have hnl:∀ q,R[i]? = some q→¬ ltF q.1 (n,f):=fun q' h1 h2=>by
    obtain ⟨hl,h3⟩:=List.getElem?_eq_some_iff.1 h1
    rw [bK hl,h3] at hg
    rw [hg] at h2
    rw [hq.2 ⟨hl,h2⟩] at hb;cases hb
   have hsp:=gy (lt:=ltF) (n,f) (some (dm old (n,f))) R i hi hlt hnl
   have hlk:=sZ Ba (n,f) hRs hlt hnl
   (try ((first|refine zn ?_|refine ze ?_|refine zk ?_);with_reducible (constructor;repeat constructor));try refine zl ?_)
   refine dE [0,1,2,6,100] (fun s'=>∃ q:Bool,s' = ⟨[(0,.ptr r 0),(1,.str n),(2,.bool f),(6,.int .i64 i),(100,.bool q)],Mem.of [(r,.cells [LL,.list 4 (old.map aG),.list 3 (R.map cG),.list 1 (W.map fun q=>.str q.1),.bool true])],c' + 1+1,[]⟩∧(q=true↔i < R.length∧gn=n∧gf=f)) ?_ ?_
   ·refine ay nmd [(7,77),(19,89)] hng (by kernel_rfl) fun hf C S K hC1 hC hS hK=>?_;simp (disch:=first|omega|assumption) only [go_sem,Oid.ab hr,Oid.aa hr,hg,cG,AV.cells]
    (repeat' (first|(refine bV (fun hv=>?_) (fun hv=>?_)<;>(try simp only [zb1,zb2,zb3,zb4,zb5] at hv)<;>simp (disch:=first|omega|assumption) only [go_sem,hv,Oid.ab hr,Oid.aa hr,hg,cG,AV.cells])|(refine hK ?_;clear hK hS hC hC1 K S C hf)))
    all_goals refine aR ⟨_,rfl,?_⟩
    all_goals first|(simp_all;done)|(simp_all;omega)
   rintro s' ⟨q2,rfl,hq2⟩
   have hfound:(aH (n,f) R).isSome=true↔q2=true:=by
    rw [hlk,hq2]
    constructor
    ·rintro ⟨e,h1,h2⟩
     obtain ⟨hl,h3⟩:=List.getElem?_eq_some_iff.1 h1
     rw [bK hl,h3] at hg
     rw [hg] at h2
     simp only [Prod.mk.injEq] at h2
     exact ⟨hl,h2⟩
    ·rintro ⟨hl,rfl,rfl⟩
     rw [bK hl] at hg
     exact ⟨_,List.getElem?_eq_getElem hl,by rw [hg]⟩
   refine oR rfl rfl (fun hb=>?_) (fun hb=>?_)
   ·rw [if_pos (hfound.2 hb)]
    refine qw0 ?_
    refine aE (.now (e6 rfl ?_ ?_))
    all_goals simp only [List.mem_cons,List.not_mem_nil,or_false,forall_eq_or_imp,forall_eq,Option.some.injEq,forall_eq',Mem.ao,eq_self,if_true,↓reduceIte,reduceCtorEq,implies_true,not_true_eq_false,false_imp_iff,true_and,and_true,false_and,and_false,imp_self]
   ·have hnf:¬ (aH (n,f) R).isSome=true:=fun h=>by rw [hfound.1 h] at hb;cases hb
    rw [if_neg hnf]
    have hsp2:cY ltF (n,f) (some (dm old (n,f))) R=R.take i++[((n,f),dm old (n,f))]++R.drop i:=by
     rw [hsp]
     cases hwi:R[i]? with
     | none =>
      have hd:R.drop i=[]:=List.drop_eq_nil_of_le (List.getElem?_eq_none_iff.1 hwi)
      simp only [hd,dL,List.append_nil]
     | some q' =>
      have:¬ q'.1=(n,f):=fun e=>hnf (hlk.2 ⟨q',hwi,e⟩)
      simp only [if_neg this];rfl
    have hnames:=fun p=>od old hold n hn p
    obtain ⟨l1,l2⟩:=jo hold n
    have henc:=fun p=>l9 (bc old n) (by omega) (by omega) p
    have hget:=fun p=>A6 old (by omega) n p
    have hval:=fun p=>wZ (aI old n) (pB hold n) (rv hnat n) p
    cases f with
    | true =>
     rw [show dm old (n,true)=b5 (bc old n) from if_pos rfl] at *
     generalize bc old n=A at *
     (repeat (first|(refine aB rfl rfl ?_)|(refine aC rfl rfl ?_)|(refine ay nmd [] hng (by kernel_rfl) fun hf C S K hC1 hC hS hK=>?_;simp (disch:=first|omega|assumption) only [go_sem,Oid.ab hr,Oid.aa hr];(repeat ((first|refine hC1 _ (hnames _) (by simp (disch:=first|omega|assumption) only [go_sem]) ?_|refine hC1 _ (henc _) (by simp (disch:=first|omega|assumption) only [go_sem]) ?_);simp (disch:=first|omega|assumption) only [go_sem]));refine hK ?_;clear hK hS hC hC1 K S C hf)|((first|refine zn ?_|refine ze ?_|refine zk ?_);with_reducible (constructor;repeat constructor);try refine zl ?_)))
     refine bC (gh (.sub (c' + 1+1+1+1+1+1+1+1) 8 x.p) r 3 ((cY ltF (n,true) (some (b5 A)) R).map cG) [LL,.list 4 (old.map aG),.sl (.sub (c' + 1+1+1+1+1+1+1+1) 8 x.p) 3 (min i R.length+1+(R.length - i)),.list 1 (W.map fun q=>.str q.1),.bool true] [LL,.list 4 (old.map aG),.list 3 ((cY ltF (n,true) (some (b5 A)) R).map cG),.list 1 (W.map fun q=>.str q.1),.bool true] ?_ ?_ ?_ (.keep (.keep (.fS ?_ (.keep (.keep .nil))))) (.now (bL rfl ?_ ?_)))
     ·simp (disch:=first|omega|assumption) only [go_sem,Oid.ab hr,Oid.aa hr]
      rw [hsp2];simp [cG]
     ·simp (disch:=first|omega|assumption) only [go_sem,Oid.ab hr,Oid.aa hr]
     ·exact fun e=>hr (e ▸ Oid.ae (Oid.az _))
     ·rw [hsp2];simp only [List.length_map,List.length_append,List.length_take,List.length_drop,List.length_cons,List.length_nil]
     ·simp (disch:=first|omega|assumption) only [go_sem,Oid.ab hr,Oid.aa hr]
      all_goals simp only [List.mem_cons,List.not_mem_nil,or_false,forall_eq_or_imp,forall_eq,Option.some.injEq,forall_eq',Mem.ao,eq_self,if_true,↓reduceIte,reduceCtorEq,implies_true,not_true_eq_false,false_imp_iff,true_and,and_true,false_and,and_false,imp_self]
     ·simp (disch:=first|omega|assumption) only [go_sem,Oid.ab hr,Oid.aa hr]
      all_goals simp only [List.mem_cons,List.not_mem_nil,or_false,forall_eq_or_imp,forall_eq,Option.some.injEq,forall_eq',Mem.ao,eq_self,if_true,↓reduceIte,reduceCtorEq,implies_true,not_true_eq_false,false_imp_iff,true_and,and_true,false_and,and_false,imp_self]
    | false =>
     rw [show dm old (n,false)=cN (aI old n) from if_neg Bool.false_ne_true] at *
     generalize aI old n=B at *
     simp only [Bits.av] at hget hval
     (repeat (first|(refine aB rfl rfl ?_)|(refine aC rfl rfl ?_)|(refine ay nmd [] hng (by kernel_rfl) fun hf C S K hC1 hC hS hK=>?_;simp (disch:=first|omega|assumption) only [go_sem,Oid.ab hr,Oid.aa hr];(repeat ((first|refine hC1 _ (hget _) (by simp (disch:=first|omega|assumption) only [go_sem]) ?_|refine hC1 _ (hval _) (by simp (disch:=first|omega|assumption) only [go_sem]) ?_);simp (disch:=first|omega|assumption) only [go_sem]));refine hK ?_;clear hK hS hC hC1 K S C hf)|((first|refine zn ?_|refine ze ?_|refine zk ?_);with_reducible (constructor;repeat constructor);try refine zl ?_)))
     refine bC (gh (.sub (c' + 1+1+1+1+1+1+1+1) 8 x.p) r 3 ((cY ltF (n,false) (some (cN B)) R).map cG) [LL,.list 4 (old.map aG),.sl (.sub (c' + 1+1+1+1+1+1+1+1) 8 x.p) 3 (min i R.length+1+(R.length - i)),.list 1 (W.map fun q=>.str q.1),.bool true] [LL,.list 4 (old.map aG),.list 3 ((cY ltF (n,false) (some (cN B)) R).map cG),.list 1 (W.map fun q=>.str q.1),.bool true] ?_ ?_ ?_ (.keep (.keep (.fS ?_ (.keep (.keep .nil))))) (.now (bL rfl ?_ ?_)))
     ·simp (disch:=first|omega|assumption) only [go_sem,Oid.ab hr,Oid.aa hr]
      rw [hsp2];simp [cG]
     ·simp (disch:=first|omega|assumption) only [go_sem,Oid.ab hr,Oid.aa hr]
     ·exact fun e=>hr (e ▸ Oid.ae (Oid.az _))
     ·rw [hsp2];simp only [List.length_map,List.length_append,List.length_take,List.length_drop,List.length_cons,List.length_nil]
     ·simp (disch:=first|omega|assumption) only [go_sem,Oid.ab hr,Oid.aa hr]
      all_goals simp only [List.mem_cons,List.not_mem_nil,or_false,forall_eq_or_imp,forall_eq,Option.some.injEq,forall_eq',Mem.ao,eq_self,if_true,↓reduceIte,reduceCtorEq,implies_true,not_true_eq_false,false_imp_iff,true_and,and_true,false_and,and_false,imp_self]
     ·simp (disch:=first|omega|assumption) only [go_sem,Oid.ab hr,Oid.aa hr]
      all_goals simp only [List.mem_cons,List.not_mem_nil,or_false,forall_eq_or_imp,forall_eq,Option.some.injEq,forall_eq',Mem.ao,eq_self,if_true,↓reduceIte,reduceCtorEq,implies_true,not_true_eq_false,false_imp_iff,true_and,and_true,false_and,and_false,imp_self]
end Go.Proofs.YtngffmnomciogaaGreatDoor
namespace Go.Proofs.YtngffmnomciogaaGreatDoor
open Go Go.Ab
set_option maxRecDepth 20000
set_option maxHeartbeats 4000000
theorem xn (o:Oid) (eso:List ME) (co:Nat) (old:PL) (hm:fL eso old) (hs:aN ltB old) (ho:POk old) (n:Str) (hn:n.length≤140737488355000) (f:Bool) (p:Oid) (hp:p.mono=false) (u1:¬ Oid.under p o) :
  aq Tryz.prog 206 [.map o,dF (n,f)] (Oid.under p) ⟨[(o,.map [.ss] false eso co)],.str (dm old (n,f)),[]⟩:=by
 have u1':∀ c i,¬ Oid.under (.sub c i p) o:=fun c i h=>u1 (Oid.ae h)
 have hkl:=fun e he=>Nat.le_trans (mz hm ho e he) (show 1000000≤140737488355328 by decide)
 have hol:=ho.len
 have hel:eso.length≤2000000000000:=by rw [jS hm];omega
 have hnm:=fun p h=>mw o n hn eso co hkl hel p h
 rw [kp hm hs] at hnm
 obtain ⟨l1,l2⟩:=jo ho n
 have hen:=fun p hp=>nQ (bc old n) (by omega) (by omega) p hp
 have hat:=fun p h=>AH o o eso co p h h n ((aH n old).getD Bits.no) (my hm n)
 have hgp:(if n=[] then (⟨2,7,[]⟩:Bits) else (aH n old).getD Bits.no)=aI old n:=rfl
 rw [hgp] at hat
 have hv:=fun p hp=>AF (aI old n) (pB ho n) p hp
 simp only [dF]
 refine aV (n:=17) (rs:=[.tmp 4]) Tryz.func206 rfl rfl (by decide) rfl rfl rfl ?_;rintro x rfl hrd hng
 refine qr .o (uu u1) trivial ?_
 cases f with
 | true =>
  rw [show dm old (n,true)=b5 (bc old n) from if_pos rfl]
  generalize bc old n=A at *
  (repeat (first|(refine aB rfl rfl ?_)|(refine aC rfl rfl ?_)|(refine ay nmd [] hng (by kernel_rfl) fun hf C S K hC1 hC hS hK=>?_;simp (disch:=first|omega|assumption) only [go_sem,Oid.ab u1,Oid.aa u1];(repeat ((first|refine hC1 _ (hnm _ (u1' _ _)) (by simp (disch:=first|omega|assumption) only [go_sem]) ?_|refine hC1 _ (hen _ (ar rfl hp)) (by simp (disch:=first|omega|assumption) only [go_sem]) ?_);simp (disch:=first|omega|assumption) only [go_sem]));refine hK ?_;clear hK hS hC hC1 K S C hf)|((first|refine zn ?_|refine ze ?_|refine zk ?_);with_reducible (constructor;repeat constructor);try refine zl ?_)))
  refine aE (aS rfl ?_ ?_)
  all_goals simp only [List.mem_cons,List.not_mem_nil,or_false,forall_eq_or_imp,forall_eq,Option.some.injEq,forall_eq',Mem.ao,eq_self,if_true,↓reduceIte,reduceCtorEq,implies_true,not_true_eq_false,false_imp_iff,true_and,and_true,false_and,and_false,imp_self,Oid.ab u1,Oid.aa u1]
 | false =>
  rw [show dm old (n,false)=cN (aI old n) from if_neg Bool.false_ne_true]
  generalize aI old n=B at *
  simp only [Bits.av] at hat hv
  (repeat (first|(refine aB rfl rfl ?_)|(refine aC rfl rfl ?_)|(refine ay nmd [] hng (by kernel_rfl) fun hf C S K hC1 hC hS hK=>?_;simp (disch:=first|omega|assumption) only [go_sem,Oid.ab u1,Oid.aa u1];(repeat ((first|refine hC1 _ (hat _ (u1' _ _)) (by simp (disch:=first|omega|assumption) only [go_sem]) ?_|refine hC1 _ (hv _ (ar rfl hp)) (by simp (disch:=first|omega|assumption) only [go_sem]) ?_);simp (disch:=first|omega|assumption) only [go_sem]));refine hK ?_;clear hK hS hC hC1 K S C hf)|((first|refine zn ?_|refine ze ?_|refine zk ?_);with_reducible (constructor;repeat constructor);try refine zl ?_)))
  refine aE (aS rfl ?_ ?_)
  all_goals simp only [List.mem_cons,List.not_mem_nil,or_false,forall_eq_or_imp,forall_eq,Option.some.injEq,forall_eq',Mem.ao,eq_self,if_true,↓reduceIte,reduceCtorEq,implies_true,not_true_eq_false,false_imp_iff,true_and,and_true,false_and,and_false,imp_self,Oid.ab u1,Oid.aa u1]
def dn (f w h:Bool) (k v:AV) (es:List ME) (c:Nat):List ME × Nat:=if ((!f && w) || h)=true then (es,c) else (b9 k v c es,c+1)
section
variable (st t tr o rd wr:Oid) (hn:[wr,rd,o,tr,t,st].Nodup) (es eso esr esw:List ME) (clock co cr cw:Nat)
include hn
theorem ry (old:PL) (hm:fL eso old) (hs:aN ltB old) (ho:POk old) (n:Str) (hnl:n.length≤140737488355000) (f w h:Bool) (hw:fv (.str n) (.bool false) esw = .bool w) (hh:bI (dF (n,f)) esr=h) (p:Oid) (hp:p.mono=false) (hu:∀ i ∈ [st,t,tr,o,rd,wr],¬ Oid.under p i) :
  aq Tryz.prog 139 [.ptr st 0,dF (n,f)] (Oid.under p) ⟨[(st,.cells [.map t,.ptr tr 0]),(t,.map [.ss] false es clock),(tr,.cells [.map o,.map rd,.map wr]),(o,.map [.ss] false eso co),(rd,.map [.ss,.sb] true esr cr),(wr,.map [.ss] false esw cw)],.tuple [],[(rd,some (.map [.ss,.sb] true (dn f w h (dF (n,f)) (.str (dm old (n,f))) esr cr).1 (dn f w h (dF (n,f)) (.str (dm old (n,f))) esr cr).2))]⟩:=by
 simp only [List.nodup_cons,List.mem_cons,List.not_mem_nil,or_false,not_or,not_false_eq_true,List.nodup_nil,and_true] at hn;simp only [List.mem_cons,List.not_mem_nil,or_false,forall_eq_or_imp,forall_eq] at hu;have hd:=hn;obtain ⟨u1,u2,u3,u4,u5,u6⟩:=hu
 have u4':∀ c i,¬ Oid.under (.sub c i p) o:=fun c i h=>u4 (Oid.ae h)
 have hval:=fun p hp h=>xn o eso co old hm hs ho n hnl f p hp h
 generalize dm old (n,f)=V at *
 simp only [dF] at hval hh ⊢
 refine aV (n:=59) (rs:=[]) Tryz.func139 rfl rfl (by decide) rfl rfl rfl ?_;rintro x rfl hrd hng
 cases f with
 | false =>
  cases w with
  | true =>
   refine qr .o (ai hd (ai (uu u1) (ai (uu u2) (ai (uu u3) (ai (uu u4) (ai (uu u5) (uu u6))))))) trivial ?_
   refine cD nmd [(5,11),(9,15)] [] mixed hng (by kernel_rfl) [0,3,27] fun hf C S K hC hS hK=>?_;simp (disch:=first|omega|assumption) only [go_sem,hw,hd,Oid.ab u1,Oid.aa u1,Oid.ab u2,Oid.aa u2,Oid.ab u3,Oid.aa u3,Oid.ab u4,Oid.aa u4,Oid.ab u5,Oid.aa u5,Oid.ab u6,Oid.aa u6]
   (first|refine hK (aJ rfl) ?_|refine hK (by simp (disch:=first|omega|assumption) only [go_sem,List.reverse_cons,List.reverse_nil,ne_eq,not_false_eq_true,implies_true]) ?_);clear hK hS hC K S C hf
   refine qw0 ?_
   refine aE (aS rfl ?_ ?_)
   all_goals simp only [List.mem_cons,List.not_mem_nil,or_false,forall_eq_or_imp,forall_eq,Option.some.injEq,forall_eq',Mem.ao,eq_self,if_true,↓reduceIte,reduceCtorEq,implies_true,not_true_eq_false,false_imp_iff,true_and,and_true,false_and,and_false,imp_self,hd,Oid.ab u1,Oid.aa u1,Oid.ab u2,Oid.aa u2,Oid.ab u3,Oid.aa u3,Oid.ab u4,Oid.aa u4,Oid.ab u5,Oid.aa u5,Oid.ab u6,Oid.aa u6,dn,Bool.not_false,Bool.true_and,Bool.true_or]
  | false =>
   refine qr .o (ai hd (ai (uu u1) (ai (uu u2) (ai (uu u3) (ai (uu u4) (ai (uu u5) (uu u6))))))) trivial ?_
   refine cD nmd [(5,11),(9,15)] [] mixed hng (by kernel_rfl) [0,3,27] fun hf C S K hC hS hK=>?_;simp (disch:=first|omega|assumption) only [go_sem,hw,hd,Oid.ab u1,Oid.aa u1,Oid.ab u2,Oid.aa u2,Oid.ab u3,Oid.aa u3,Oid.ab u4,Oid.aa u4,Oid.ab u5,Oid.aa u5,Oid.ab u6,Oid.aa u6]
   (first|refine hK (aJ rfl) ?_|refine hK (by simp (disch:=first|omega|assumption) only [go_sem,List.reverse_cons,List.reverse_nil,ne_eq,not_false_eq_true,implies_true]) ?_);clear hK hS hC K S C hf
   refine qw0 ?_
   (try ((first|refine zn ?_|refine ze ?_|refine zk ?_);with_reducible (constructor;repeat constructor));try refine zl ?_)
   cases h with
   | true =>
    refine cD nmd [] [] mixed hng (by kernel_rfl) [0,3,5] fun hf C S K hC hS hK=>?_;simp (disch:=first|omega|assumption) only [go_sem,hh,kF,hd,Oid.ab u1,Oid.aa u1,Oid.ab u2,Oid.aa u2,Oid.ab u3,Oid.aa u3,Oid.ab u4,Oid.aa u4,Oid.ab u5,Oid.aa u5,Oid.ab u6,Oid.aa u6]
    (first|refine hK (aJ rfl) ?_|refine hK (by simp (disch:=first|omega|assumption) only [go_sem,List.reverse_cons,List.reverse_nil,ne_eq,not_false_eq_true,implies_true]) ?_);clear hK hS hC K S C hf
    refine qw0 ?_
    refine bC (bL rfl ?_ ?_)
    all_goals simp only [List.mem_cons,List.not_mem_nil,or_false,forall_eq_or_imp,forall_eq,Option.some.injEq,forall_eq',Mem.ao,eq_self,if_true,↓reduceIte,reduceCtorEq,implies_true,not_true_eq_false,false_imp_iff,true_and,and_true,false_and,and_false,imp_self,hd,Oid.ab u1,Oid.aa u1,Oid.ab u2,Oid.aa u2,Oid.ab u3,Oid.aa u3,Oid.ab u4,Oid.aa u4,Oid.ab u5,Oid.aa u5,Oid.ab u6,Oid.aa u6,dn,Bool.not_false,Bool.true_and,Bool.true_or,Bool.or_true]
   | false =>
    refine cD nmd [] [] mixed hng (by kernel_rfl) [0,3,5] fun hf C S K hC hS hK=>?_;simp (disch:=first|omega|assumption) only [go_sem,hh,kF,hd,Oid.ab u1,Oid.aa u1,Oid.ab u2,Oid.aa u2,Oid.ab u3,Oid.aa u3,Oid.ab u4,Oid.aa u4,Oid.ab u5,Oid.aa u5,Oid.ab u6,Oid.aa u6]
    (first|refine hK (aJ rfl) ?_|refine hK (by simp (disch:=first|omega|assumption) only [go_sem,List.reverse_cons,List.reverse_nil,ne_eq,not_false_eq_true,implies_true]) ?_);clear hK hS hC K S C hf
    refine qw0 ?_
    refine cD nmd [] [(3,16),(6,16),(7,16)] mixed hng (by kernel_rfl) [0] fun hf C S K hC hS hK=>?_;simp (disch:=first|omega|assumption) only [go_sem,hh,hd,Oid.ab u1,Oid.aa u1,Oid.ab u2,Oid.aa u2,Oid.ab u3,Oid.aa u3,Oid.ab u4,Oid.aa u4,Oid.ab u5,Oid.aa u5,Oid.ab u6,Oid.aa u6]
    refine hC _ (hval _ (ar rfl hp) (u4' _ _)) (qs (ai hd (ai (uu u1) (ai (uu u2) (ai (uu u3) (ai (uu u4) (ai (uu u5) (uu u6)))))))) ?_
    simp (disch:=first|omega|assumption) only [go_sem,hh,hd,Oid.ab u1,Oid.aa u1,Oid.ab u2,Oid.aa u2,Oid.ab u3,Oid.aa u3,Oid.ab u4,Oid.aa u4,Oid.ab u5,Oid.aa u5,Oid.ab u6,Oid.aa u6]
    (first|refine hK (aJ rfl) ?_|refine hK (by simp (disch:=first|omega|assumption) only [go_sem,List.reverse_cons,List.reverse_nil,ne_eq,not_false_eq_true,implies_true]) ?_);clear hK hS hC K S C hf
    refine bC (bL rfl ?_ ?_)
    all_goals simp only [List.mem_cons,List.not_mem_nil,or_false,forall_eq_or_imp,forall_eq,Option.some.injEq,forall_eq',Mem.ao,eq_self,if_true,↓reduceIte,reduceCtorEq,implies_true,not_true_eq_false,false_imp_iff,true_and,and_true,false_and,and_false,imp_self,hd,Oid.ab u1,Oid.aa u1,Oid.ab u2,Oid.aa u2,Oid.ab u3,Oid.aa u3,Oid.ab u4,Oid.aa u4,Oid.ab u5,Oid.aa u5,Oid.ab u6,Oid.aa u6,dn,hh,Bool.not_false,Bool.not_true,Bool.true_and,Bool.false_and,Bool.or_false,Bool.false_eq_true]
 | true =>
  refine qr .o (ai hd (ai (uu u1) (ai (uu u2) (ai (uu u3) (ai (uu u4) (ai (uu u5) (uu u6))))))) trivial ?_
  refine cD nmd [(5,11),(9,15)] [] mixed hng (by kernel_rfl) [0,3,27] fun hf C S K hC hS hK=>?_;simp (disch:=first|omega|assumption) only [go_sem,hd,Oid.ab u1,Oid.aa u1,Oid.ab u2,Oid.aa u2,Oid.ab u3,Oid.aa u3,Oid.ab u4,Oid.aa u4,Oid.ab u5,Oid.aa u5,Oid.ab u6,Oid.aa u6]
  (first|refine hK (aJ rfl) ?_|refine hK (by simp (disch:=first|omega|assumption) only [go_sem,List.reverse_cons,List.reverse_nil,ne_eq,not_false_eq_true,implies_true]) ?_);clear hK hS hC K S C hf
  refine qw0 ?_
  (try ((first|refine zn ?_|refine ze ?_|refine zk ?_);with_reducible (constructor;repeat constructor));try refine zl ?_)
  cases h with
  | true =>
   refine cD nmd [] [] mixed hng (by kernel_rfl) [0,3,5] fun hf C S K hC hS hK=>?_;simp (disch:=first|omega|assumption) only [go_sem,hh,kF,hd,Oid.ab u1,Oid.aa u1,Oid.ab u2,Oid.aa u2,Oid.ab u3,Oid.aa u3,Oid.ab u4,Oid.aa u4,Oid.ab u5,Oid.aa u5,Oid.ab u6,Oid.aa u6]
   (first|refine hK (aJ rfl) ?_|refine hK (by simp (disch:=first|omega|assumption) only [go_sem,List.reverse_cons,List.reverse_nil,ne_eq,not_false_eq_true,implies_true]) ?_);clear hK hS hC K S C hf
   refine qw0 ?_
   refine bC (bL rfl ?_ ?_)
   all_goals simp only [List.mem_cons,List.not_mem_nil,or_false,forall_eq_or_imp,forall_eq,Option.some.injEq,forall_eq',Mem.ao,eq_self,if_true,↓reduceIte,reduceCtorEq,implies_true,not_true_eq_false,false_imp_iff,true_and,and_true,false_and,and_false,imp_self,hd,Oid.ab u1,Oid.aa u1,Oid.ab u2,Oid.aa u2,Oid.ab u3,Oid.aa u3,Oid.ab u4,Oid.aa u4,Oid.ab u5,Oid.aa u5,Oid.ab u6,Oid.aa u6,dn,Bool.not_false,Bool.true_and,Bool.true_or,Bool.or_true]
  | false =>
   refine cD nmd [] [] mixed hng (by kernel_rfl) [0,3,5] fun hf C S K hC hS hK=>?_;simp (disch:=first|omega|assumption) only [go_sem,hh,kF,hd,Oid.ab u1,Oid.aa u1,Oid.ab u2,Oid.aa u2,Oid.ab u3,Oid.aa u3,Oid.ab u4,Oid.aa u4,Oid.ab u5,Oid.aa u5,Oid.ab u6,Oid.aa u6]
   (first|refine hK (aJ rfl) ?_|refine hK (by simp (disch:=first|omega|assumption) only [go_sem,List.reverse_cons,List.reverse_nil,ne_eq,not_false_eq_true,implies_true]) ?_);clear hK hS hC K S C hf
   refine qw0 ?_
   refine cD nmd [] [(3,16),(6,16),(7,16)] mixed hng (by kernel_rfl) [0] fun hf C S K hC hS hK=>?_;simp (disch:=first|omega|assumption) only [go_sem,hh,hd,Oid.ab u1,Oid.aa u1,Oid.ab u2,Oid.aa u2,Oid.ab u3,Oid.aa u3,Oid.ab u4,Oid.aa u4,Oid.ab u5,Oid.aa u5,Oid.ab u6,Oid.aa u6]
   refine hC _ (hval _ (ar rfl hp) (u4' _ _)) (qs (ai hd (ai (uu u1) (ai (uu u2) (ai (uu u3) (ai (uu u4) (ai (uu u5) (uu u6)))))))) ?_
   simp (disch:=first|omega|assumption) only [go_sem,hh,hd,Oid.ab u1,Oid.aa u1,Oid.ab u2,Oid.aa u2,Oid.ab u3,Oid.aa u3,Oid.ab u4,Oid.aa u4,Oid.ab u5,Oid.aa u5,Oid.ab u6,Oid.aa u6]
   (first|refine hK (aJ rfl) ?_|refine hK (by simp (disch:=first|omega|assumption) only [go_sem,List.reverse_cons,List.reverse_nil,ne_eq,not_false_eq_true,implies_true]) ?_);clear hK hS hC K S C hf
   refine bC (bL rfl ?_ ?_)
   all_goals simp only [List.mem_cons,List.not_mem_nil,or_false,forall_eq_or_imp,forall_eq,Option.some.injEq,forall_eq',Mem.ao,eq_self,if_true,↓reduceIte,reduceCtorEq,implies_true,not_true_eq_false,false_imp_iff,true_and,and_true,false_and,and_false,imp_self,hd,Oid.ab u1,Oid.aa u1,Oid.ab u2,Oid.aa u2,Oid.ab u3,Oid.aa u3,Oid.ab u4,Oid.aa u4,Oid.ab u5,Oid.aa u5,Oid.ab u6,Oid.aa u6,dn,hh,Bool.not_false,Bool.not_true,Bool.true_and,Bool.false_and,Bool.or_false,Bool.false_eq_true]
end
end Go.Proofs.YtngffmnomciogaaGreatDoor
namespace Go.Proofs.YtngffmnomciogaaGreatDoor
open Go Go.Ab
set_option maxRecDepth 20000
set_option maxHeartbeats 4000000
section
variable (st t tr o rd wr:Oid) (hn:[wr,rd,o,tr,t,st].Nodup) (es eso esr esw:List ME) (clock co cr cw:Nat)
include hn
theorem aat (old L:PL) (hm:fL eso old) (hs:aN ltB old) (ho:POk old) (hm1:fL es L) (n:Str) (hnl:n.length≤140737488355000) (w h:Bool) (hw:fv (.str n) (.bool false) esw = .bool w) (hh:bI (dF (n,false)) esr=h) (p:Oid) (hp:p.mono=false) (hu:∀ i ∈ [st,t,tr,o,rd,wr],¬ Oid.under p i) :
  aq Tryz.prog 64 [.ptr st 0,.str n] (Oid.under p) ⟨[(st,.cells [.map t,.ptr tr 0]),(t,.map [.ss] false es clock),(tr,.cells [.map o,.map rd,.map wr]),(o,.map [.ss] false eso co),(rd,.map [.ss,.sb] true esr cr),(wr,.map [.ss] false esw cw)],(aI L n).av,[(rd,some (.map [.ss,.sb] true (dn false w h (dF (n,false)) (.str (dm old (n,false))) esr cr).1 (dn false w h (dF (n,false)) (.str (dm old (n,false))) esr cr).2))]⟩:=by
 have hrd':=fun p hp hu=>ry st t tr o rd wr hn es eso esr esw clock co cr cw old hm hs ho n hnl false w h hw hh p hp hu
 have hat:=fun p h=>AH t t es clock p h h n ((aH n L).getD Bits.no) (my hm1 n)
 have hgp:(if n=[] then (⟨2,7,[]⟩:Bits) else (aH n L).getD Bits.no)=aI L n:=rfl
 rw [hgp] at hat
 have hu':∀ c j,∀ i ∈ [st,t,tr,o,rd,wr],¬ Oid.under (.sub c j p) i:=fun c j i hi h=>hu i hi (Oid.ae h)
 simp only [List.nodup_cons,List.mem_cons,List.not_mem_nil,or_false,not_or,not_false_eq_true,List.nodup_nil,and_true] at hn;simp only [List.mem_cons,List.not_mem_nil,or_false,forall_eq_or_imp,forall_eq] at hu;have hd:=hn;obtain ⟨u1,u2,u3,u4,u5,u6⟩:=hu
 have u2':∀ c i,¬ Oid.under (.sub c i p) t:=fun c i h=>u2 (Oid.ae h)
 generalize (dn false w h (dF (n,false)) (.str (dm old (n,false))) esr cr).1=E1 at *
 generalize (dn false w h (dF (n,false)) (.str (dm old (n,false))) esr cr).2=C1 at *
 generalize aI L n=B at *
 simp only [Bits.av,dF] at *
 refine aV (n:=15) (rs:=[.cell 4 86]) Tryz.func64 rfl rfl (by decide) rfl rfl rfl ?_;rintro x rfl hrd hng
 refine qw (ai hd (ai (uu u1) (ai (uu u2) (ai (uu u3) (ai (uu u4) (ai (uu u5) (uu u6))))))) ?_
 refine ay nmd [] hng (by kernel_rfl) fun hf C S K hC1 hC hS hK=>?_;simp (disch:=first|omega|assumption) only [go_sem,hd,Oid.ab u1,Oid.aa u1,Oid.ab u2,Oid.aa u2,Oid.ab u3,Oid.aa u3,Oid.ab u4,Oid.aa u4,Oid.ab u5,Oid.aa u5,Oid.ab u6,Oid.aa u6]
 refine hC1 _ (hrd' _ (ar rfl hp) (hu' _ _)) (qs (ai hd (ai (uu u1) (ai (uu u2) (ai (uu u3) (ai (uu u4) (ai (uu u5) (uu u6)))))))) ?_
 simp (disch:=first|omega|assumption) only [go_sem,hd,Oid.ab u1,Oid.aa u1,Oid.ab u2,Oid.aa u2,Oid.ab u3,Oid.aa u3,Oid.ab u4,Oid.aa u4,Oid.ab u5,Oid.aa u5,Oid.ab u6,Oid.aa u6]
 refine hK ?_;clear hK hS hC hC1 K S C hf
 refine qr .o (ai hd (ai (uu u1) (ai (uu u2) (ai (uu u3) (ai (uu u4) (ai (uu u5) (uu u6))))))) (cq (hat _ (u2' _ _)) trivial) ?_
 refine qw (ai hd (ai (uu u1) (ai (uu u2) (ai (uu u3) (ai (uu u4) (ai (uu u5) (uu u6))))))) ?_
 refine aE (aS (qs (ai hd (ai (uu u1) (ai (uu u2) (ai (uu u3) (ai (uu u4) (ai (uu u5) (uu u6)))))))) ?_ ?_)
 all_goals simp only [List.mem_cons,List.not_mem_nil,or_false,forall_eq_or_imp,forall_eq,Option.some.injEq,forall_eq',Mem.ao,eq_self,if_true,↓reduceIte,reduceCtorEq,implies_true,not_true_eq_false,false_imp_iff,true_and,and_true,false_and,and_false,imp_self,hd,Oid.ab u1,Oid.aa u1,Oid.ab u2,Oid.aa u2,Oid.ab u3,Oid.aa u3,Oid.ab u4,Oid.aa u4,Oid.ab u5,Oid.aa u5,Oid.ab u6,Oid.aa u6]
theorem xo (old L:PL) (hm:fL eso old) (hs:aN ltB old) (ho:POk old) (hm1:fL es L) (hs1:aN ltB L) (ho1:POk L) (n:Str) (hnl:n.length≤140737488355000) (w h:Bool) (hw:fv (.str n) (.bool false) esw = .bool w) (hh:bI (dF (n,true)) esr=h) (p:Oid) (hp:p.mono=false) (hu:∀ i ∈ [st,t,tr,o,rd,wr],¬ Oid.under p i) :
  aq Tryz.prog 149 [.ptr st 0,.str n] (Oid.under p) ⟨[(st,.cells [.map t,.ptr tr 0]),(t,.map [.ss] false es clock),(tr,.cells [.map o,.map rd,.map wr]),(o,.map [.ss] false eso co),(rd,.map [.ss,.sb] true esr cr),(wr,.map [.ss] false esw cw)],.list 1 ((bc L n).map AV.str),[(rd,some (.map [.ss,.sb] true (dn true w h (dF (n,true)) (.str (dm old (n,true))) esr cr).1 (dn true w h (dF (n,true)) (.str (dm old (n,true))) esr cr).2))]⟩:=by
 have hrd':=fun p hp hu=>ry st t tr o rd wr hn es eso esr esw clock co cr cw old hm hs ho n hnl true w h hw hh p hp hu
 have hkl:=fun e he=>Nat.le_trans (mz hm1 ho1 e he) (show 1000000≤140737488355328 by decide)
 have hol:=ho1.len
 have hel:es.length≤2000000000000:=by rw [jS hm1];omega
 have hnm:=fun p h=>mw t n hnl es clock hkl hel p h
 rw [kp hm1 hs1] at hnm
 have hu':∀ c j,∀ i ∈ [st,t,tr,o,rd,wr],¬ Oid.under (.sub c j p) i:=fun c j i hi h=>hu i hi (Oid.ae h)
 simp only [List.nodup_cons,List.mem_cons,List.not_mem_nil,or_false,not_or,not_false_eq_true,List.nodup_nil,and_true] at hn;simp only [List.mem_cons,List.not_mem_nil,or_false,forall_eq_or_imp,forall_eq] at hu;have hd:=hn;obtain ⟨u1,u2,u3,u4,u5,u6⟩:=hu
 have u2':∀ c i,¬ Oid.under (.sub c i p) t:=fun c i h=>u2 (Oid.ae h)
 generalize (dn true w h (dF (n,true)) (.str (dm old (n,true))) esr cr).1=E1 at *
 generalize (dn true w h (dF (n,true)) (.str (dm old (n,true))) esr cr).2=C1 at *
 generalize bc L n=B at *
 simp only [dF] at *
 refine aV (n:=15) (rs:=[.tmp 4]) Tryz.func149 rfl rfl (by decide) rfl rfl rfl ?_;rintro x rfl hrd hng
 refine qw (ai hd (ai (uu u1) (ai (uu u2) (ai (uu u3) (ai (uu u4) (ai (uu u5) (uu u6))))))) ?_
 refine ay nmd [] hng (by kernel_rfl) fun hf C S K hC1 hC hS hK=>?_;simp (disch:=first|omega|assumption) only [go_sem,hd,Oid.ab u1,Oid.aa u1,Oid.ab u2,Oid.aa u2,Oid.ab u3,Oid.aa u3,Oid.ab u4,Oid.aa u4,Oid.ab u5,Oid.aa u5,Oid.ab u6,Oid.aa u6]
 refine hC1 _ (hrd' _ (ar rfl hp) (hu' _ _)) (qs (ai hd (ai (uu u1) (ai (uu u2) (ai (uu u3) (ai (uu u4) (ai (uu u5) (uu u6)))))))) ?_
 simp (disch:=first|omega|assumption) only [go_sem,hd,Oid.ab u1,Oid.aa u1,Oid.ab u2,Oid.aa u2,Oid.ab u3,Oid.aa u3,Oid.ab u4,Oid.aa u4,Oid.ab u5,Oid.aa u5,Oid.ab u6,Oid.aa u6]
 refine hK ?_;clear hK hS hC hC1 K S C hf
 refine qr .o (ai hd (ai (uu u1) (ai (uu u2) (ai (uu u3) (ai (uu u4) (ai (uu u5) (uu u6))))))) (cq (hnm _ (u2' _ _)) trivial) ?_
 refine qw (ai hd (ai (uu u1) (ai (uu u2) (ai (uu u3) (ai (uu u4) (ai (uu u5) (uu u6))))))) ?_
 refine aE (aS rfl ?_ ?_)
 all_goals simp only [List.mem_cons,List.not_mem_nil,or_false,forall_eq_or_imp,forall_eq,Option.some.injEq,forall_eq',Mem.ao,eq_self,if_true,↓reduceIte,reduceCtorEq,implies_true,not_true_eq_false,false_imp_iff,true_and,and_true,false_and,and_false,imp_self,hd,Oid.ab u1,Oid.aa u1,Oid.ab u2,Oid.aa u2,Oid.ab u3,Oid.aa u3,Oid.ab u4,Oid.aa u4,Oid.ab u5,Oid.aa u5,Oid.ab u6,Oid.aa u6]
def jT (n:Str) (es:List ME) (c:Nat):List ME × Nat:=if n=[] then (es,c) else (b9 (.str n) (.bool true) c es,if bI (.str n) es=true then c else c+1)
theorem R1 (n:Str) (b:Bits) (p:Oid) (hp:p.mono=false) (hu:∀ i ∈ [st,t,tr,o,rd,wr],¬ Oid.under p i) :
  aq Tryz.prog 57 [.ptr st 0,.str n,b.av] (Oid.under p) ⟨[(st,.cells [.map t,.ptr tr 0]),(t,.map [.ss] false es clock),(tr,.cells [.map o,.map rd,.map wr]),(o,.map [.ss] false eso co),(rd,.map [.ss,.sb] true esr cr),(wr,.map [.ss] false esw cw)],.tuple [],[(t,some (.map [.ss] false (pd n b es clock) (pf n b es clock))),(wr,some (.map [.ss] false (jT n esw cw).1 (jT n esw cw).2))]⟩:=by
 simp only [List.nodup_cons,List.mem_cons,List.not_mem_nil,or_false,not_or,not_false_eq_true,List.nodup_nil,and_true] at hn;simp only [List.mem_cons,List.not_mem_nil,or_false,forall_eq_or_imp,forall_eq] at hu;have hd:=hn;obtain ⟨u1,u2,u3,u4,u5,u6⟩:=hu
 simp only [Bits.av]
 by_cases hn0:n=[]
 ·unfold pd pf jT
  simp only [if_pos hn0]
  refine aV (n:=35) (rs:=[]) Tryz.func57 rfl rfl (by decide) rfl rfl rfl ?_;rintro x rfl hrd hng
  refine qw (ai hd (ai (uu u1) (ai (uu u2) (ai (uu u3) (ai (uu u4) (ai (uu u5) (uu u6))))))) ?_
  refine bs rfl rfl (fun hb=>?_) (fun hb=>?_)
  ·refine qw (ai hd (ai (uu u1) (ai (uu u2) (ai (uu u3) (ai (uu u4) (ai (uu u5) (uu u6))))))) ?_
   refine aE (e6 rfl ?_ ?_)
   all_goals simp only [List.mem_cons,List.not_mem_nil,or_false,forall_eq_or_imp,forall_eq,Option.some.injEq,forall_eq',Mem.ao,eq_self,if_true,↓reduceIte,reduceCtorEq,implies_true,not_true_eq_false,false_imp_iff,true_and,and_true,false_and,and_false,imp_self,hd,Oid.ab u1,Oid.aa u1,Oid.ab u2,Oid.aa u2,Oid.ab u3,Oid.aa u3,Oid.ab u4,Oid.aa u4,Oid.ab u5,Oid.aa u5,Oid.ab u6,Oid.aa u6]
  ·exact absurd hn0 hb
 ·unfold pd pf jT
  simp only [if_neg hn0]
  refine aV (n:=35) (rs:=[]) Tryz.func57 rfl rfl (by decide) rfl rfl rfl ?_;rintro x rfl hrd hng
  refine qw (ai hd (ai (uu u1) (ai (uu u2) (ai (uu u3) (ai (uu u4) (ai (uu u5) (uu u6))))))) ?_
  refine bs rfl rfl (fun hb=>?_) (fun hb=>?_)
  ·exact absurd hb hn0
  ·refine qw (ai hd (ai (uu u1) (ai (uu u2) (ai (uu u3) (ai (uu u4) (ai (uu u5) (uu u6))))))) ?_
   by_cases hk:b.k=0
   ·simp only [if_pos hk]
    refine bs rfl rfl (fun hb=>?_) (fun hb=>?_)
    ·refine qw (ai hd (ai (uu u1) (ai (uu u2) (ai (uu u3) (ai (uu u4) (ai (uu u5) (uu u6))))))) ?_
     refine bC (bL rfl ?_ ?_)
     all_goals simp only [List.mem_cons,List.not_mem_nil,or_false,forall_eq_or_imp,forall_eq,Option.some.injEq,forall_eq',Mem.ao,eq_self,if_true,↓reduceIte,reduceCtorEq,implies_true,not_true_eq_false,false_imp_iff,true_and,and_true,false_and,and_false,imp_self,hd,Oid.ab u1,Oid.aa u1,Oid.ab u2,Oid.aa u2,Oid.ab u3,Oid.aa u3,Oid.ab u4,Oid.aa u4,Oid.ab u5,Oid.aa u5,Oid.ab u6,Oid.aa u6]
    ·exact absurd hk hb
   ·simp only [if_neg hk]
    refine bs rfl rfl (fun hb=>?_) (fun hb=>?_)
    ·exact absurd hb hk
    ·(try ((first|refine zn ?_|refine ze ?_|refine zk ?_);with_reducible (constructor;repeat constructor));try refine zl ?_)
     refine qd (.d [] [] [0]) (ai hd (ai (uu u1) (ai (uu u2) (ai (uu u3) (ai (uu u4) (ai (uu u5) (uu u6))))))) trivial ?_
     refine bC (bL rfl ?_ ?_)
     all_goals simp only [List.mem_cons,List.not_mem_nil,or_false,forall_eq_or_imp,forall_eq,Option.some.injEq,forall_eq',Mem.ao,eq_self,if_true,↓reduceIte,reduceCtorEq,implies_true,not_true_eq_false,false_imp_iff,true_and,and_true,false_and,and_false,imp_self,Bits.av,hd,Oid.ab u1,Oid.aa u1,Oid.ab u2,Oid.aa u2,Oid.ab u3,Oid.aa u3,Oid.ab u4,Oid.aa u4,Oid.ab u5,Oid.aa u5,Oid.ab u6,Oid.aa u6]
end
end Go.Proofs.YtngffmnomciogaaGreatDoor
namespace Go.Proofs.YtngffmnomciogaaGreatDoor
open Go Go.Ab
set_option maxRecDepth 100000
set_option maxHeartbeats 2000000
end Go.Proofs.YtngffmnomciogaaGreatDoor
namespace Go.Proofs.YtngffmnomciogaaGreatDoor
open Go Go.Ab
structure Tr where
 old:PL
 R:RL
 W:WL
structure St where
 L:PL
 t:Option Tr
def Tr.read (q:Tr) (f:Str × Bool):Tr:={ q with R:=eC q.old q.W f q.R }
def Tr.put (q:Tr) (n:Str):Tr:={ q with W:=eB true n q.W }
def St.read (s:St) (f:Str × Bool):St:=⟨s.L,s.t.map fun q=>q.read f⟩
def St.put (s:St) (n:Str) (b:Bits):St:=⟨dX n b s.L,s.t.map fun q=>q.put n⟩
def St.begin (s:St):St:=⟨s.L,some ⟨s.L,[],[]⟩⟩
structure TOK (q:Tr):Prop where
 so:aN ltB q.old
 sr:aN ltF q.R
 sw:aN ltB q.W
 po:POk q.old
 no:R0 q.old
structure SOK (s:St):Prop where
 sl:aN ltB s.L
 po:POk s.L
 no:R0 s.L
 tr:∀ q,s.t=some q→TOK q
theorem s4 {old:PL} {W:WL} {f:Str × Bool} {R:RL} (h:aN ltF R):aN ltF (eC old W f R):=by
 unfold eC
 split
 ·exact h
 ·split
  ·exact h
  ·exact eY Ba _ _ h
theorem iG {old:PL} {W:WL} {f:Str × Bool} {R:RL} (h:aN ltF R):(eC old W f R).length≤R.length+1:=by
 unfold eC
 split
 ·omega
 ·split
  ·omega
  ·have:=(cg Ba f (some (dm old f)) h).length_eq
   rw [this,List.length_append]
   have:=List.length_filter_le (fun q=>decide (¬ q.1=f)) R
   simp only [dL,List.length_singleton];omega
theorem xp {tr:Bool} {n:Str} {W:WL} (h:aN ltB W):aN ltB (eB tr n W):=by
 unfold eB
 split
 ·exact h
 ·split
  ·exact eY eT _ _ h
  ·exact h
theorem SOK.read {s:St} (h:SOK s) (f:Str × Bool):SOK (s.read f) :=
 ⟨h.sl,h.po,h.no,fun q hq=>by
  simp only [St.read,Option.map_eq_some_iff] at hq
  obtain ⟨a,h1,rfl⟩:=hq
  have k:=h.tr a h1
  exact ⟨k.so,s4 k.sr,k.sw,k.po,k.no⟩⟩
def cj (st:Oid) (s:St) (N:List Oid) (F:Oid→aj):Prop:=N.Nodup∧match s.t with
 | none=>∃ (t:Oid) (es:List ME) (clock:Nat),N=[st,t]∧F st = .cells [.map t,.nilPtr]∧F t = .map [.ss] false es clock∧fL es s.L
 | some q=>∃ (t tr o rd wr:Oid) (es eso esr esw:List ME) (clock co cr cw:Nat),N=[st,t,tr,o,rd,wr]∧F st = .cells [.map t,.ptr tr 0]∧F t = .map [.ss] false es clock∧F tr = .cells [.map o,.map rd,.map wr] ∧
   F o = .map [.ss] false eso co∧F rd = .map [.ss,.sb] true esr cr∧F wr = .map [.ss] false esw cw∧fL es s.L∧fL eso q.old∧jl dF AV.str esr q.R∧jl AV.str (fun _:Unit=>.bool true) esw q.W
theorem xq {esw:List ME} {W:WL} (h:jl AV.str (fun _:Unit=>.bool true) esw W) (n:Str):fv (.str n) (.bool false) esw = .bool (aH n W).isSome:=by
 rw [rf encS h]
 cases aH n W<;>rfl
theorem xr {old:PL} {W:WL} {esr:List ME} {R:RL} (h:jl dF AV.str esr R) (hs:aN ltF R) (n:Str) (f:Bool) (cr:Nat) :
  jl dF AV.str (dn f (aH n W).isSome (aH (n,f) R).isSome (dF (n,f)) (.str (dm old (n,f))) esr cr).1 (eC old W (n,f) R):=by
 unfold dn eC
 by_cases h1:f=false∧(aH n W).isSome=true
 ·rw [if_pos h1,if_pos (by rw [h1.1,h1.2];rfl)];exact h
 ·rw [if_neg h1]
  by_cases h2:(aH (n,f) R).isSome=true
  ·rw [if_pos h2,if_pos (by rw [h2,Bool.or_true])];exact h
  ·rw [if_neg h2,if_neg]
   ·exact ma abU h (n,f) (dm old (n,f)) cr ((cg Ba (n,f) (some (dm old (n,f))) hs).trans (.refl _))
   ·intro h3
    rw [Bool.or_eq_true,Bool.and_eq_true,Bool.not_eq_true'] at h3
    rcases h3 with h3|h3
    ·exact h1 h3
    ·exact h2 h3
theorem rz {st:Oid} {s:St} {N:List Oid} {F:Oid→aj} (h:cj st s N F) (hs:SOK s) (g:Str × Bool) (f:FuncId) (xs:List AV) (v:AV)
  (h0:∀ (t:Oid) (es:List ME) (clock:Nat),s.t=none→¬ t=st→fL es s.L→∀ p,p.mono=false→¬ Oid.under p st→¬ Oid.under p t→aq Tryz.prog f xs (Oid.under p) ⟨[(st,.cells [.map t,.nilPtr]),(t,.map [.ss] false es clock)],v,[]⟩)
  (h1:∀ (q:Tr) (t tr o rd wr:Oid) (es eso esr esw:List ME) (clock co cr cw:Nat),s.t=some q→[wr,rd,o,tr,t,st].Nodup→fL es s.L→fL eso q.old→fv (.str g.1) (.bool false) esw = .bool (aH g.1 q.W).isSome→bI (dF (g.1,g.2)) esr=(aH (g.1,g.2) q.R).isSome →
   ∀ p,p.mono=false→(∀ i ∈ [st,t,tr,o,rd,wr],¬ Oid.under p i)→aq Tryz.prog f xs (Oid.under p) ⟨[(st,.cells [.map t,.ptr tr 0]),(t,.map [.ss] false es clock),(tr,.cells [.map o,.map rd,.map wr]),(o,.map [.ss] false eso co),(rd,.map [.ss,.sb] true esr cr),(wr,.map [.ss] false esw cw)],v,
    [(rd,some (.map [.ss,.sb] true (dn g.2 (aH g.1 q.W).isSome (aH (g.1,g.2) q.R).isSome (dF (g.1,g.2)) (.str (dm q.old (g.1,g.2))) esr cr).1 (dn g.2 (aH g.1 q.W).isSome (aH (g.1,g.2) q.R).isSome (dF (g.1,g.2)) (.str (dm q.old (g.1,g.2))) esr cr).2))]⟩) :
  ∃ F',cj st (s.read g) N F'∧∀ p,p.mono=false→aZ p N→aq Tryz.prog f xs (Oid.under p) ⟨bk (N,F),v,sb N F'⟩:=by
 obtain ⟨L,t0⟩:=s
 obtain ⟨hnd,h⟩:=h
 cases t0 with
 | none =>
  obtain ⟨t,es,clock,rfl,k1,k2,k3⟩:=h
  have hts:¬ t=st:=fun e=>by simp [e] at hnd
  refine ⟨F,⟨hnd,t,es,clock,rfl,k1,k2,k3⟩,fun p hp ho=>?_⟩
  refine (h0 t es clock rfl hts k3 p hp (ho _ (by simp)) (ho _ (by simp))).AZ ?_ (fun _ hq=>by cases hq) fun i hi=>px hi
  rw [bk2,k1,k2];exact fun q hq=>hq
 | some q =>
  obtain ⟨t,tr,o,rd,wr,es,eso,esr,esw,clock,co,cr,cw,rfl,k1,k2,k3,k4,k5,k6,m1,m2,m3,m4⟩:=h
  have hT:=hs.tr q rfl
  have hnd':[wr,rd,o,tr,t,st].Nodup:=(List.reverse_perm [st,t,tr,o,rd,wr]).nodup_iff.2 hnd
  have hc:=h1 q t tr o rd wr es eso esr esw clock co cr cw rfl hnd' m1 m2 (xq m4 g.1) (AL abU m3 (g.1,g.2))
  have hme:=xr (old:=q.old) (W:=q.W) m3 hT.sr g.1 g.2 cr
  generalize (dn g.2 (aH g.1 q.W).isSome (aH (g.1,g.2) q.R).isSome (dF (g.1,g.2)) (.str (dm q.old (g.1,g.2))) esr cr).1=E1 at hc hme
  generalize (dn g.2 (aH g.1 q.W).isSome (aH (g.1,g.2) q.R).isSome (dF (g.1,g.2)) (.str (dm q.old (g.1,g.2))) esr cr).2=C1 at hc
  have hn0:=hnd
  simp only [List.nodup_cons,List.mem_cons,List.not_mem_nil,or_false,not_or] at hn0
  obtain ⟨⟨n1,n2,n3,n4,n5⟩,⟨n6,n7,n8,n9⟩,⟨n10,n11,n12⟩,⟨n13,n14⟩,n15,_⟩:=hn0
  refine ⟨mv F rd (.map [.ss,.sb] true E1 C1),⟨hnd,t,tr,o,rd,wr,es,eso,E1,esw,clock,co,C1,cw,rfl,?_,?_,?_,?_,?_,?_,m1,m2,hme,m4⟩,fun p hp ho=>?_⟩
  ·rw [bq,if_neg n4];exact k1
  ·rw [bq,if_neg n8];exact k2
  ·rw [bq,if_neg n11];exact k3
  ·rw [bq,if_neg n13];exact k4
  ·rw [bq,if_pos rfl]
  ·rw [bq,if_neg fun e=>n15 e.symm];exact k6
  ·refine (hc p hp ho).AZ ?_ (fun q hq=>by rw [List.mem_singleton.1 hq];simp) fun i hi=>?_
   ·rw [bk6,k1,k2,k3,k4,k5,k6];exact fun q hq=>hq
   ·show ((Mem.of _).set rd (some (.map [.ss,.sb] true E1 C1))) i=_
    simp only [Mem.set,bq]
    split
    ·rfl
    ·exact px hi
theorem Bb {st:Oid} {s:St} {N:List Oid} {F:Oid→aj} (h:cj st s N F) (hs:SOK s) (n:Str) (hn:n.length≤140737488355000) :
  ∃ F',cj st (s.read (n,false)) N F'∧∀ p,p.mono=false→aZ p N→aq Tryz.prog 64 [.ptr st 0,.str n] (Oid.under p) ⟨bk (N,F),(aI s.L n).av,sb N F'⟩ :=
 rz h hs (n,false) _ _ _
  (fun t es clock _ hts hm p _ h1 h2=>sP st t es clock hts p h1 h2 n ((aH n s.L).getD Bits.no) (my hm n))
  (fun q t tr o rd wr es eso esr esw clock co cr cw hq hn' hm hmo hw hh p hp hu=>aat st t tr o rd wr hn' es eso esr esw clock co cr cw q.old s.L hmo (hs.tr q hq).so (hs.tr q hq).po hm n hn _ _ hw hh p hp hu)
theorem xt {st:Oid} {s:St} {N:List Oid} {F:Oid→aj} (h:cj st s N F) (hs:SOK s) (n:Str) (hn:n.length≤140737488355000) :
  ∃ F',cj st (s.read (n,true)) N F'∧∀ p,p.mono=false→aZ p N→aq Tryz.prog 149 [.ptr st 0,.str n] (Oid.under p) ⟨bk (N,F),.list 1 ((bc s.L n).map AV.str),sb N F'⟩ :=
 rz h hs (n,true) _ _ _
  (fun t es clock _ hts hm p _ h1 h2=>by
   have:=ni st t es clock hts p h1 h2 n hn (fun e he=>Nat.le_trans (mz hm hs.po e he) (by decide)) (by have:=hs.po.len;rw [jS hm];omega)
   rwa [kp hm hs.sl] at this)
  (fun q t tr o rd wr es eso esr esw clock co cr cw hq hn' hm hmo hw hh p hp hu=>xo st t tr o rd wr hn' es eso esr esw clock co cr cw q.old s.L hmo (hs.tr q hq).so (hs.tr q hq).po hm hs.sl hs.po n hn _ _ hw hh p hp hu)
end Go.Proofs.YtngffmnomciogaaGreatDoor
namespace Go.Proofs.YtngffmnomciogaaGreatDoor
open Go Go.Ab
set_option maxRecDepth 20000
set_option maxHeartbeats 4000000
theorem aau (r:Oid) (L:PL) (hL:L.length≤1000000) (n:Str) (o1 r1 w1 b1 o2 r2 w2 b2:AV) (hT:∀ p,¬ Oid.under p r→aq Tryz.prog 141 [.ptr r 0,.str n,.bool false] (Oid.under p) ⟨[(r,.cells [.list 4 (L.map aG),o1,r1,w1,b1])],.tuple [],[(r,some (.cells [.list 4 (L.map aG),o2,r2,w2,b2]))]⟩)
  (p:Oid) (hr:¬ Oid.under p r):aq Tryz.prog 65 [.ptr r 0,.str n] (Oid.under p) ⟨[(r,.cells [.list 4 (L.map aG),o1,r1,w1,b1])],(aI L n).av,[(r,some (.cells [.list 4 (L.map aG),o2,r2,w2,b2]))]⟩:=by
 have hr':∀ c i,¬ Oid.under (.sub c i p) r:=fun c i h=>hr (Oid.ae h)
 have hg:=fun p=>A6 L (by omega) n p
 generalize aI L n=B at hg ⊢
 simp only [Bits.av] at hg ⊢
 refine aV (n:=14) (rs:=[.cell 4 86]) Tryz.func65 rfl rfl (by decide) rfl rfl rfl ?_;rintro x rfl hrd hng
 (repeat (first|(refine aB rfl rfl ?_)|(refine aC rfl rfl ?_)|(refine ay nmd [] hng (by kernel_rfl) fun hf C S K hC1 hC hS hK=>?_;simp (disch:=first|omega|assumption) only [go_sem,Oid.ab hr,Oid.aa hr];(repeat ((first|refine hC1 _ (hT _ (hr' _ _)) (by simp (disch:=first|omega|assumption) only [go_sem]) ?_|refine hC1 _ (hg _) (by simp (disch:=first|omega|assumption) only [go_sem]) ?_);simp (disch:=first|omega|assumption) only [go_sem]));refine hK ?_;clear hK hS hC hC1 K S C hf)|((first|refine zn ?_|refine ze ?_|refine zk ?_);with_reducible (constructor;repeat constructor);try refine zl ?_)))
 refine aE (aS (qs (uu hr)) ?_ ?_)
 all_goals simp only [List.mem_cons,List.not_mem_nil,or_false,forall_eq_or_imp,forall_eq,Option.some.injEq,forall_eq',Mem.ao,eq_self,if_true,↓reduceIte,reduceCtorEq,implies_true,not_true_eq_false,false_imp_iff,true_and,and_true,false_and,and_false,imp_self,Oid.ab hr,Oid.aa hr]
theorem xu (r:Oid) (L:PL) (hL:POk L) (n:Str) (hn:n.length≤140737488355000) (o1 r1 w1 b1 o2 r2 w2 b2:AV) (hT:∀ p,¬ Oid.under p r→aq Tryz.prog 141 [.ptr r 0,.str n,.bool true] (Oid.under p) ⟨[(r,.cells [.list 4 (L.map aG),o1,r1,w1,b1])],.tuple [],[(r,some (.cells [.list 4 (L.map aG),o2,r2,w2,b2]))]⟩)
  (p:Oid) (hr:¬ Oid.under p r):aq Tryz.prog 150 [.ptr r 0,.str n] (Oid.under p) ⟨[(r,.cells [.list 4 (L.map aG),o1,r1,w1,b1])],.list 1 ((bc L n).map AV.str),[(r,some (.cells [.list 4 (L.map aG),o2,r2,w2,b2]))]⟩:=by
 have hr':∀ c i,¬ Oid.under (.sub c i p) r:=fun c i h=>hr (Oid.ae h)
 have hg:=fun p=>od L hL n hn p
 generalize bc L n=B at hg ⊢
 refine aV (n:=14) (rs:=[.tmp 4]) Tryz.func150 rfl rfl (by decide) rfl rfl rfl ?_;rintro x rfl hrd hng
 (repeat (first|(refine aB rfl rfl ?_)|(refine aC rfl rfl ?_)|(refine ay nmd [] hng (by kernel_rfl) fun hf C S K hC1 hC hS hK=>?_;simp (disch:=first|omega|assumption) only [go_sem,Oid.ab hr,Oid.aa hr];(repeat ((first|refine hC1 _ (hT _ (hr' _ _)) (by simp (disch:=first|omega|assumption) only [go_sem]) ?_|refine hC1 _ (hg _) (by simp (disch:=first|omega|assumption) only [go_sem]) ?_);simp (disch:=first|omega|assumption) only [go_sem]));refine hK ?_;clear hK hS hC hC1 K S C hf)|((first|refine zn ?_|refine ze ?_|refine zk ?_);with_reducible (constructor;repeat constructor);try refine zl ?_)))
 refine aE (aS (qs (uu hr)) ?_ ?_)
 all_goals simp only [List.mem_cons,List.not_mem_nil,or_false,forall_eq_or_imp,forall_eq,Option.some.injEq,forall_eq',Mem.ao,eq_self,if_true,↓reduceIte,reduceCtorEq,implies_true,not_true_eq_false,false_imp_iff,true_and,and_true,false_and,and_false,imp_self,Oid.ab hr,Oid.aa hr]
def eU (r:Oid) (s:St) (N:List Oid) (F:Oid→aj):Prop:=N=[r]∧match s.t with
 | none=>∃ OO:AV,F r = .cells [.list 4 (s.L.map aG),OO,.list 3 [],.list 1 [],.bool false]
 | some q=>F r = .cells [.list 4 (s.L.map aG),.list 4 (q.old.map aG),.list 3 (q.R.map cG),.list 1 (q.W.map fun w=>.str w.1),.bool true]
theorem oe {r:Oid} {s:St} {N:List Oid} {F:Oid→aj} (h:eU r s N F) (hs:SOK s) (hR:∀ q,s.t=some q→q.R.length≤1000000∧q.W.length≤1000000) (g:Str × Bool) (hn:g.1.length≤140737488355000) (f:FuncId) (xs:List AV) (v:AV)
  (h0:∀ (o1 r1 w1 b1 o2 r2 w2 b2:AV),(∀ p,¬ Oid.under p r→aq Tryz.prog 141 [.ptr r 0,.str g.1,.bool g.2] (Oid.under p) ⟨[(r,.cells [.list 4 (s.L.map aG),o1,r1,w1,b1])],.tuple [],[(r,some (.cells [.list 4 (s.L.map aG),o2,r2,w2,b2]))]⟩) →
   ∀ p,¬ Oid.under p r→aq Tryz.prog f xs (Oid.under p) ⟨[(r,.cells [.list 4 (s.L.map aG),o1,r1,w1,b1])],v,[(r,some (.cells [.list 4 (s.L.map aG),o2,r2,w2,b2]))]⟩) :
  ∃ F',eU r (s.read g) N F'∧∀ p,p.mono=false→aZ p N→aq Tryz.prog f xs (Oid.under p) ⟨bk (N,F),v,sb N F'⟩:=by
 obtain ⟨L,t0⟩:=s
 obtain ⟨rfl,h⟩:=h
 cases t0 with
 | none =>
  obtain ⟨OO,hF⟩:=h
  refine ⟨mv F r (.cells [.list 4 (L.map aG),OO,.list 3 [],.list 1 [],.bool false]),⟨rfl,OO,by rw [bq,if_pos rfl];rfl⟩,fun p _ ho=>?_⟩
  exact (h0 OO (.list 3 []) (.list 1 []) (.bool false) OO (.list 3 []) (.list 1 []) (.bool false) (fun p hp=>kT (xi r L OO (.list 3 []) (.list 1 []) g.1 g.2 p hp) (by simp)) p (ho r (by simp))).one hF
 | some q =>
  have hT:=hs.tr q rfl
  obtain ⟨hR1,hW1⟩:=hR q rfl
  refine ⟨mv F r (.cells [.list 4 (L.map aG),.list 4 (q.old.map aG),.list 3 ((eC q.old q.W g q.R).map cG),.list 1 (q.W.map fun w=>.str w.1),.bool true]),⟨rfl,by rw [bq,if_pos rfl];rfl⟩,fun p _ ho=>?_⟩
  exact (h0 _ _ _ _ _ _ _ _ (fun p hp=>xm r (.list 4 (L.map aG)) q.old hT.po hT.no q.R hR1 hT.sr q.W hW1 g.1 hn g.2 p hp) p (ho r (by simp))).one h
theorem Bc {r:Oid} {s:St} {N:List Oid} {F:Oid→aj} (h:eU r s N F) (hs:SOK s) (hR:∀ q,s.t=some q→q.R.length≤1000000∧q.W.length≤1000000) (n:Str) (hn:n.length≤140737488355000) :
  ∃ F',eU r (s.read (n,false)) N F'∧∀ p,p.mono=false→aZ p N→aq Tryz.prog 65 [.ptr r 0,.str n] (Oid.under p) ⟨bk (N,F),(aI s.L n).av,sb N F'⟩ :=
 oe h hs hR (n,false) hn _ _ _ fun o1 r1 w1 b1 o2 r2 w2 b2 hT p hp=>aau r s.L hs.po.len n o1 r1 w1 b1 o2 r2 w2 b2 hT p hp
theorem s5 {r:Oid} {s:St} {N:List Oid} {F:Oid→aj} (h:eU r s N F) (hs:SOK s) (hR:∀ q,s.t=some q→q.R.length≤1000000∧q.W.length≤1000000) (n:Str) (hn:n.length≤140737488355000) :
  ∃ F',eU r (s.read (n,true)) N F'∧∀ p,p.mono=false→aZ p N→aq Tryz.prog 150 [.ptr r 0,.str n] (Oid.under p) ⟨bk (N,F),.list 1 ((bc s.L n).map AV.str),sb N F'⟩ :=
 oe h hs hR (n,true) hn _ _ _ fun o1 r1 w1 b1 o2 r2 w2 b2 hT p hp=>xu r s.L hs.po n hn o1 r1 w1 b1 o2 r2 w2 b2 hT p hp
end Go.Proofs.YtngffmnomciogaaGreatDoor
namespace Go.Proofs.YtngffmnomciogaaGreatDoor
open Go Go.Ab
theorem mB {n:Str} {W:WL} (h:aN ltB W):(eB true n W).length≤W.length+1:=by
 unfold eB
 split
 ·omega
 ·rw [if_pos rfl]
  have:=(cg eT n (some ()) h).length_eq
  rw [this,List.length_append]
  have:=List.length_filter_le (fun q=>decide (¬ q.1=n)) W
  simp only [dL,List.length_singleton];omega
theorem SOK.put {s:St} (h:SOK s) (n:Str) (b:Bits) (hl:s.L.length < 1000000) (hn:n.length≤1000000) (hb:b.ok) (hb2:0≤b.k∧0≤b.m):SOK (s.put n b) :=
 ⟨eZ h.sl n b,⟨Nat.le_trans (ic n b s.L) hl,fun q hq=>by
   rcases mA hq with rfl|hq
   ·exact hn
   ·exact h.po.key q hq,fun q hq=>by
   rcases mA hq with rfl|hq
   ·exact hb
   ·exact h.po.val q hq⟩,fun q hq=>by
   rcases mA hq with rfl|hq
   ·exact hb2
   ·exact h.no q hq,fun q hq=>by
  simp only [St.put,Option.map_eq_some_iff] at hq
  obtain ⟨a,h1,rfl⟩:=hq
  have k:=h.tr a h1
  exact ⟨k.so,k.sr,xp k.sw,k.po,k.no⟩⟩
theorem xv {esw:List ME} {W:WL} (h:jl AV.str (fun _:Unit=>.bool true) esw W) (hs:aN ltB W) (n:Str) (cw:Nat):jl AV.str (fun _:Unit=>.bool true) (jT n esw cw).1 (eB true n W):=by
 unfold jT eB
 split
 ·exact h
 ·rw [if_pos rfl]
  exact ma encS h n () cw ((cg eT n (some ()) hs).trans (.refl _))
theorem R2 {st:Oid} {s:St} {N:List Oid} {F:Oid→aj} (h:cj st s N F) (hs:SOK s) (n:Str) (b:Bits) :
  ∃ F',cj st (s.put n b) N F'∧∀ p,p.mono=false→aZ p N→aq Tryz.prog 57 [.ptr st 0,.str n,b.av] (Oid.under p) ⟨bk (N,F),.tuple [],sb N F'⟩:=by
 obtain ⟨L,t0⟩:=s
 obtain ⟨hnd,h⟩:=h
 cases t0 with
 | none =>
  obtain ⟨t,es,clock,rfl,k1,k2,k3⟩:=h
  have hts:¬ t=st:=fun e=>by simp [e] at hnd
  refine ⟨mv F t (.map [.ss] false (pd n b es clock) (pf n b es clock)),⟨hnd,t,_,pf n b es clock,rfl,?_,?_,rp k3 hs.sl n b clock⟩,fun p hp ho=>?_⟩
  ·rw [bq,if_neg fun e=>hts e.symm];exact k1
  ·rw [bq,if_pos rfl]
  ·refine (aaj st t es clock hts p (ho _ (by simp)) (ho _ (by simp)) n b).AZ ?_ (fun q hq=>by rw [List.mem_singleton.1 hq];simp) fun i hi=>?_
   ·rw [bk2,k1,k2];exact fun q hq=>hq
   ·show ((Mem.of _).set t (some _)) i=_
    simp only [Mem.set,bq]
    split
    ·rfl
    ·exact px hi
 | some q =>
  obtain ⟨t,tr,o,rd,wr,es,eso,esr,esw,clock,co,cr,cw,rfl,k1,k2,k3,k4,k5,k6,m1,m2,m3,m4⟩:=h
  have hT:=hs.tr q rfl
  have hnd':[wr,rd,o,tr,t,st].Nodup:=(List.reverse_perm [st,t,tr,o,rd,wr]).nodup_iff.2 hnd
  have hn0:=hnd
  simp only [List.nodup_cons,List.mem_cons,List.not_mem_nil,or_false,not_or] at hn0
  obtain ⟨⟨n1,n2,n3,n4,n5⟩,⟨n6,n7,n8,n9⟩,⟨n10,n11,n12⟩,⟨n13,n14⟩,n15,_⟩:=hn0
  refine ⟨mv (mv F t (.map [.ss] false (pd n b es clock) (pf n b es clock))) wr (.map [.ss] false (jT n esw cw).1 (jT n esw cw).2),⟨hnd,t,tr,o,rd,wr,_,eso,esr,_,pf n b es clock,co,cr,(jT n esw cw).2,rfl,?_,?_,?_,?_,?_,?_,rp m1 hs.sl n b clock,m2,m3,xv m4 hT.sw n cw⟩,fun p hp ho=>?_⟩
  ·rw [bq,if_neg n5,bq,if_neg n1];exact k1
  ·rw [bq,if_neg n9,bq,if_pos rfl]
  ·rw [bq,if_neg n12,bq,if_neg fun e=>n6 e.symm];exact k3
  ·rw [bq,if_neg n14,bq,if_neg fun e=>n7 e.symm];exact k4
  ·rw [bq,if_neg n15,bq,if_neg fun e=>n8 e.symm];exact k5
  ·rw [bq,if_pos rfl]
  ·refine (R1 st t tr o rd wr hnd' es eso esr esw clock co cr cw n b p hp ho).AZ ?_ (fun q hq=>by
    simp only [List.mem_cons,List.not_mem_nil,or_false] at hq
    rcases hq with rfl|rfl<;>simp) fun i hi=>?_
   ·rw [bk6,k1,k2,k3,k4,k5,k6];exact fun q hq=>hq
   ·show (((Mem.of _).set t (some _)).set wr (some _)) i=_
    simp only [Mem.set,bq]
    split
    ·rfl
    ·split
     ·rfl
     ·exact px hi
theorem Bd {r:Oid} {s:St} {N:List Oid} {F:Oid→aj} (h:eU r s N F) (hs:SOK s) (hR:∀ q,s.t=some q→q.R.length≤1000000∧q.W.length≤1000000) (n:Str) (b:Bits) :
  ∃ F',eU r (s.put n b) N F'∧∀ p,p.mono=false→aZ p N→aq Tryz.prog 60 [.ptr r 0,.str n,b.av] (Oid.under p) ⟨bk (N,F),.tuple [],sb N F'⟩:=by
 obtain ⟨L,t0⟩:=s
 obtain ⟨rfl,h⟩:=h
 cases t0 with
 | none =>
  obtain ⟨OO,hF⟩:=h
  have hw:eB false n []=[]:=by unfold eB;split<;>rfl
  refine ⟨mv F r (.cells [.list 4 ((dX n b L).map aG),OO,.list 3 [],.list 1 [],.bool false]),⟨rfl,OO,by rw [bq,if_pos rfl];rfl⟩,fun p _ ho=>?_⟩
  have:=ua r OO (.list 3 []) L hs.po.len [] (by simp) List.Pairwise.nil false n b p (ho r (by simp))
  rw [hw] at this
  exact aq.one this hF
 | some q =>
  have hT:=hs.tr q rfl
  obtain ⟨hR1,hW1⟩:=hR q rfl
  refine ⟨mv F r (.cells [.list 4 ((dX n b L).map aG),.list 4 (q.old.map aG),.list 3 (q.R.map cG),.list 1 ((eB true n q.W).map fun w=>.str w.1),.bool true]),⟨rfl,by rw [bq,if_pos rfl];rfl⟩,fun p _ ho=>?_⟩
  exact aq.one (ua r _ _ L hs.po.len q.W hW1 hT.sw true n b p (ho r (by simp))) h
end Go.Proofs.YtngffmnomciogaaGreatDoor
namespace Go.Proofs.YtngffmnomciogaaGreatDoor
open Go Go.Ab
set_option maxRecDepth 20000
abbrev Rds:=List (Str × Bool)
abbrev Pts:=List (Str × Bits)
def gz (a b:Int):Int:=IntKind.i64.wrap (BitVec.ofInt IntKind.i64.bits a &&& BitVec.ofInt IntKind.i64.bits b).toNat
def bH (a b:Int):Int:=IntKind.i64.wrap (BitVec.ofInt IntKind.i64.bits a &&& ~~~ BitVec.ofInt IntKind.i64.bits b).toNat
def bg (s:Str):Str:=s.take (eA s 47 s.length).toNat
theorem xw (a b:Int):fq .and .i64 a b=some (.int .i64 (gz a b)):=rfl
theorem pC (a b:Int):fq .andNot .i64 a b=some (.int .i64 (bH a b)):=rfl
attribute [go_sem high] xw pC
inductive Rs (α:Type) where
 | err (e:Int)
 | go (a:α)
structure Wk where
 pl:Str
 todo:List Str
 links:Nat
 dir:Bool
def inE (b:Bits):Int:=if b.k=0 then 10 else if ¬ b.k=2 then 15 else if gz b.m 1=0 then 18 else 0
def eD (w:Wk) (t:List Str) (l:Str):Rs Wk :=
 if 8 < w.links+1 then .err 17 else if l=[] then .err 10 else .go ⟨if l.getD 0 0=47 then [] else w.pl,cu l++t,w.links+1,w.dir || (decide (t=[]) && fj l)⟩
def ig (w:Wk) (n:Str):Str:=w.pl++(47::n)
def goF (L:PL) (fol:Bool) (w:Wk) (n:Str) (t:List Str):Rs Wk :=
 if (aI L (ig w n)).k=3∧(¬ t=[]∨fol=true∨w.dir=true) then eD w t (aI L (ig w n)).l
 else if ¬ t=[]∧(aI L (ig w n)).k=0 then .err 10 else .go ⟨ig w n,t,w.links,w.dir⟩
def bT (L:PL) (fol:Bool) (w:Wk) (n:Str) (t:List Str):Rds × Rs Wk :=
 if ¬ inE (aI L w.pl)=0 then ([(w.pl,false)],.err (inE (aI L w.pl)))
 else if 32 < n.length then ([(w.pl,false)],.err 2)
 else if n=[46] then ([(w.pl,false)],.go ⟨w.pl,t,w.links,w.dir⟩)
 else if n=[46,46] then ([(w.pl,false)],.go ⟨bg w.pl,t,w.links,w.dir⟩)
 else ([(w.pl,false),(ig w n,false)],goF L fol w n t)
def cS (L:PL) (fol:Bool):Nat→Wk→Rds × Rs Wk
 | 0,w=>([],if w.todo=[] then .go w else .err 0)
 | k+1,w=>match w.todo with
  | []=>([],.go w)
  | n::t=>match bT L fol w n t with
   | (rd,.err e)=>(rd,.err e)
   | (rd,.go w')=>(rd++(cS L fol k w').1,(cS L fol k w').2)
def wtF:List Str→Nat
 | []=>0
 | n::t=>n.length+1+wtF t
def wkW (w:Wk):Nat:=wtF w.todo+(8 - w.links) * 302
def aP (cwd path:Str):Wk:=⟨if path.getD 0 0=47 then [] else cwd,cu path,0,fj path⟩
def gJ (L:PL):Rds × Rs Wk→Rds × Rs (Str × Bits)
 | (rd,.err e)=>(rd,.err e)
 | (rd,.go w)=>(rd++[(w.pl,false)],if w.dir=true∧¬ (aI L w.pl).k=0∧¬ (aI L w.pl).k=2 then .err 15 else .go (w.pl,aI L w.pl))
def findF (L:PL) (cwd path:Str) (fol:Bool):Rds × Rs (Str × Bits) :=
 if path=[] then ([],.err 10) else if 200 < path.length then ([],.err 2) else gJ L (cS L fol (wkW (aP cwd path)) (aP cwd path))
def cH {α β:Type} (x:Rds × Rs α) (f:α→Rds × Rs β):Rds × Rs β:=match x with
 | (r,.err e)=>(r,.err e)
 | (r,.go a)=>(r++(f a).1,(f a).2)
def fk (L:PL) (cwd path:Str) (fol:Bool):Rds × Rs (Str × Bits):=cH (findF L cwd path fol) fun a=>([],if a.2.k=0 then .err 10 else .go a)
def dO (place:Str) (e:Bits):Int:=if place=[] then 18 else if ¬ e.k=2 then 10 else if ¬ gz e.m 3=3 then 18 else 0
def eE {α:Type} (L:PL) (place:Str) (a:α):Rds × Rs α:=([(bg place,false)],if ¬ dO place (aI L (bg place))=0 then .err (dO place (aI L (bg place))) else .go a)
def a6 (L:PL) (cwd path:Str):Rds × Rs Str:=cH (fk L cwd path true) fun a=>([],if a.2.k=2 then .err 14 else if gz a.2.m 4=0 then .err 18 else .go a.2.l)
def ub (e:Bits) (more:Bool) (data:Str):Str:=if more=true then e.l++data else data
def cT (at':Str) (e:Bits) (more:Bool) (data:Str):Rs Pts:=if 100000 < (ub e more data).length then .err 2 else .go [(at',⟨e.k,e.m,ub e more data⟩)]
def aY (L:PL) (cwd:Str) (um:Int) (path data:Str) (more:Bool):Rds × Rs Pts:=cH (findF L cwd path true) fun a =>
 if a.2.k=2 then ([],.err 14)
 else if a.2.k=0 then (if fj path=true then ([],.err 14) else cH (eE L a.1 ()) fun _=>([],cT a.1 ⟨1,bH 6 um,[]⟩ more data))
 else if gz a.2.m 2=0 then ([],.err 18) else ([],cT a.1 a.2 more data)
def jU (L:PL) (cwd path:Str) (e:Bits):Rds × Rs Pts:=cH (findF L cwd path false) fun a =>
 if ¬ a.2.k=0 then ([],.err 11) else eE L a.1 [(a.1,e)]
def ij (L:PL) (cwd:Str) (um:Int) (path:Str):Rds × Rs Pts:=jU L cwd path ⟨2,bH 7 um,[]⟩
def bP (L:PL) (cwd from' to':Str):Rds × Rs Pts:=cH (fk L cwd from' false) fun a =>
 if a.2.k=2 then ([],.err 14) else cH (findF L cwd to' false) fun b =>
  if b.2.k=2 then ([],.err 14) else if b.2.k=0∧fj to' = true then ([],.err 15)
  else cH (eE L a.1 ()) fun _=>eE L b.1 (if a.1=b.1 then [] else [(a.1,Bits.no),(b.1,a.2)])
def bj {α:Type}:Rs α→Int
 | .err e=>e
 | .go _=>0
def cO:Rs Pts→Pts
 | .err _=>[]
 | .go l=>l
def St.rds (s:St) (l:Rds):St:=l.foldl St.read s
def St.pts (s:St) (l:Pts):St:=l.foldl (fun s q=>s.put q.1 q.2) s
theorem Be (l:Rds):∀ s:St,(s.rds l).L=s.L:=by
 induction l with
 | nil=>intro s;rfl
 | cons f l ih=>intro s;show ((s.read f).rds l).L=_;rw [ih];rfl
theorem SOK.rds {s:St} (h:SOK s) (l:Rds):SOK (s.rds l):=by
 induction l generalizing s with
 | nil=>exact h
 | cons f l ih=>exact ih (h.read f)
theorem og {α β:Type} {x:Rds × Rs α} {f:α→Rds × Rs β} {r:Rds} {e:Int} (h:x=(r,.err e)):cH x f=(r,.err e):=by rw [h];rfl
theorem rA {α β:Type} {x:Rds × Rs α} {f:α→Rds × Rs β} {r:Rds} {a:α} (h:x=(r,.go a)):cH x f=(r++(f a).1,(f a).2):=by rw [h];rfl
theorem mC (c:UInt8):∀ s:Str,wtF (aW c s)=s.length+1
 | []=>rfl
 | b::s=>by
  have ih:=mC c s
  rw [aW]
  split
  ·simp only [wtF,ih,List.length_nil,List.length_cons];omega
  ·cases h:aW c s with
   | nil=>exact absurd h (iD c s)
   | cons l r=>rw [h] at ih;simp only [wtF,List.length_cons] at ih ⊢;omega
theorem mD (q:Str→Bool):∀ l:List Str,wtF (l.filter q)≤wtF l
 | []=>Nat.le_refl _
 | n::l=>by
  have ih:=mD q l
  rw [List.filter_cons]
  split<;>simp only [wtF]<;>omega
theorem mE (s:Str):wtF (cu s)≤s.length+1:=by
 rw [← mC 47 s];exact mD _ _
theorem uc:∀ a b:List Str,wtF (a++b)=wtF a+wtF b
 | [],b=>by simp [wtF]
 | n::a,b=>by have ih:=uc a b;simp only [List.cons_append,wtF,ih];omega
theorem jq (s:Str):(bg s).length≤s.length:=by unfold bg;rw [List.length_take];omega
def jr (L:PL):Prop:=∀ q ∈ L,q.2.k=3→q.2.l.length≤300
theorem xx {L:PL} (hs:aN ltB L) (h:jr L) (n:Str) (h3:(aI L n).k=3):(aI L n).l.length≤300:=by
 unfold aI at h3 ⊢
 split at h3
 ·simp at h3
 ·rename_i hn
  rw [if_neg hn]
  cases hb:aH n L with
  | none=>rw [hb] at h3;simp [Bits.no] at h3
  | some b=>rw [hb] at h3;exact h _ ((br (hs.nodup eT)).1 hb) h3
theorem rB {L:PL} (hs:aN ltB L) (hl:jr L) {fol:Bool} {w w':Wk} {n:Str} {t:List Str} {rd:Rds} (h:bT L fol w n t=(rd,.go w')) :
  wtF w'.todo+(8 - w'.links) * 302 < wtF (n::t)+(8 - w.links) * 302∧w'.pl.length+(wtF w'.todo+(8 - w'.links) * 302)≤w.pl.length+(wtF (n::t)+(8 - w.links) * 302):=by
 have hw:(wtF (n::t))=n.length+1+wtF t:=rfl
 unfold bT at h
 split at h;· cases h
 split at h;· cases h
 split at h
 ·cases h;simp only;omega
 split at h
 ·cases h;have:=jq w.pl;simp only;omega
 have hn:(ig w n).length=w.pl.length+n.length+1:=by simp only [ig,List.length_append,List.length_cons];omega
 obtain ⟨-,h⟩:=Prod.mk.inj h
 unfold goF at h
 split at h
 ·rename_i h3
  have hb:=xx hs hl _ h3.1
  generalize aI L (ig w n)=b at h hb
  unfold eD at h
  split at h;· cases h
  split at h;· cases h
  have hp:=mE b.l
  cases h
  simp only [uc]
  have:(if b.l.getD 0 0=47 then ([]:Str) else w.pl).length≤w.pl.length:=by split<;>simp
  omega
 ·split at h;· cases h
  cases h;simp only;omega
theorem xy {L:PL} {fol:Bool} {w:Wk} {n:Str} {t:List Str}:∀ f ∈ (bT L fol w n t).1,f.1.length≤w.pl.length+n.length+1:=by
 have h1:∀ f ∈ [(w.pl,false)],f.1.length≤w.pl.length+n.length+1:=fun f hf=>by rw [List.mem_singleton.1 hf];show w.pl.length≤_;omega
 unfold bT
 split;· exact h1
 split;· exact h1
 split;· exact h1
 split;· exact h1
 intro f hf
 simp only [List.mem_cons,List.not_mem_nil,or_false] at hf
 rcases hf with rfl|rfl
 ·show w.pl.length≤_;omega
 ·show (ig w n).length≤_;simp only [ig,List.length_append,List.length_cons];omega
theorem xz {L:PL} {fol:Bool} {w:Wk} {n:Str} {t:List Str}:(bT L fol w n t).1.length≤2:=by
 unfold bT
 repeat' split
 all_goals simp
theorem ud {L:PL} (hs:aN ltB L) (hl:jr L) (fol:Bool):∀ (k:Nat) (w:Wk),wkW w≤k →
  (∀ f ∈ (cS L fol k w).1,f.1.length≤w.pl.length+wkW w)∧(cS L fol k w).1.length≤2 * k∧∀ w',(cS L fol k w).2 = .go w'→w'.todo=[]∧w'.pl.length≤w.pl.length+wkW w
 | 0,w,h=>by
  obtain ⟨a,todo,l,d⟩:=w
  cases todo with
  | nil=>exact ⟨fun f hf=>(by cases hf),Nat.zero_le _,fun w' h=>(by simp only [cS,if_true,Rs.go.injEq] at h;subst h;exact ⟨rfl,Nat.le_add_right _ _⟩)⟩
  | cons n t=>simp only [wkW,wtF] at h;omega
 | k+1,w,h=>by
  obtain ⟨a,todo,l,d⟩:=w
  cases todo with
  | nil=>exact ⟨fun f hf=>(by cases hf),Nat.zero_le _,fun w' h=>(by simp only [cS,Rs.go.injEq] at h;subst h;exact ⟨rfl,Nat.le_add_right _ _⟩)⟩
  | cons n t =>
   have h1:=xy (L:=L) (fol:=fol) (w:=⟨a,n::t,l,d⟩) (n:=n) (t:=t)
   have h2:=xz (L:=L) (fol:=fol) (w:=⟨a,n::t,l,d⟩) (n:=n) (t:=t)
   have hw:wkW ⟨a,n::t,l,d⟩=n.length+1+wtF t+(8 - l) * 302:=rfl
   simp only [cS]
   cases hst:bT L fol ⟨a,n::t,l,d⟩ n t with
   | mk rd r =>
    rw [hst] at h1 h2
    cases r with
    | err e=>exact ⟨fun f hf=>Nat.le_trans (h1 f hf) (by simp only [hw];omega),by simp only at h2 ⊢;omega,fun w' h=>(by cases h)⟩
    | go w' =>
     obtain ⟨g1,g2⟩:=rB hs hl hst
     simp only at g1 g2
     have hw':wkW w' = wtF w'.todo+(8 - w'.links) * 302:=rfl
     have hwt:wtF (n::t)=n.length+1+wtF t:=rfl
     obtain ⟨k1,k2,k3⟩:=ud hs hl fol k w' (by omega)
     refine ⟨fun f hf=>?_,?_,fun w'' h=>?_⟩
     ·rcases List.mem_append.1 hf with hf|hf
      ·have:=h1 f hf;simp only [hw] at this ⊢;omega
      ·have:=k1 f hf;simp only [hw];omega
     ·rw [List.length_append];simp only at h2;omega
     ·obtain ⟨q1,q2⟩:=k3 w'' h
      exact ⟨q1,by simp only [hw];omega⟩
theorem mF (cwd path:Str) (hp:path.length≤200):(aP cwd path).pl.length≤cwd.length∧wkW (aP cwd path)≤2617:=by
 have h:=mE path
 constructor
 ·simp only [aP];split<;>simp
 ·simp only [wkW,aP];omega
theorem kq {L:PL} (hs:aN ltB L) (hl:jr L) (cwd path:Str) (fol:Bool) :
  (∀ f ∈ (findF L cwd path fol).1,f.1.length≤cwd.length+2700)∧(findF L cwd path fol).1.length≤6000∧∀ a,(findF L cwd path fol).2 = .go a→a.1.length≤cwd.length+2700∧a.2=aI L a.1:=by
 unfold findF
 split
 ·exact ⟨fun f hf=>(by cases hf),Nat.zero_le _,fun a h=>(by cases h)⟩
 split
 ·exact ⟨fun f hf=>(by cases hf),Nat.zero_le _,fun a h=>(by cases h)⟩
 rename_i hp
 obtain ⟨s1,s2⟩:=mF cwd path (by omega)
 obtain ⟨h1,h2,h3⟩:=ud hs hl fol (wkW (aP cwd path)) (aP cwd path) (Nat.le_refl _)
 generalize cS L fol (wkW (aP cwd path)) (aP cwd path)=x at h1 h2 h3
 obtain ⟨rd,r⟩:=x
 simp only at h1 h2 h3
 cases r with
 | err e=>exact ⟨fun f hf=>Nat.le_trans (h1 f hf) (by omega),by simp only [gJ];omega,fun a h=>(by cases h)⟩
 | go w =>
  obtain ⟨h4,h5⟩:=h3 w rfl
  refine ⟨fun f hf=>?_,?_,fun a h=>?_⟩
  ·simp only [gJ] at hf
   rcases List.mem_append.1 hf with hf|hf
   ·exact Nat.le_trans (h1 f hf) (by omega)
   ·rw [List.mem_singleton.1 hf];show w.pl.length≤_;omega
  ·simp only [gJ,List.length_append,List.length_singleton];omega
  ·simp only [gJ] at h
   split at h
   ·cases h
   ·cases h;exact ⟨by simp only;omega,rfl⟩
end Go.Proofs.YtngffmnomciogaaGreatDoor
namespace Go.Proofs.YtngffmnomciogaaGreatDoor
open Go Go.Ab
set_option maxRecDepth 20000
def pD (fA fN:FuncId) (o:Oid) (N:List Oid) (L:PL) (f:Str × Bool) (F F':Oid→aj):Prop:=match f with
 | (n,false)=>∀ p,p.mono=false→aZ p N→aq Tryz.prog fA [.ptr o 0,.str n] (Oid.under p) ⟨bk (N,F),(aI L n).av,sb N F'⟩
 | (n,true)=>∀ p,p.mono=false→aZ p N→aq Tryz.prog fN [.ptr o 0,.str n] (Oid.under p) ⟨bk (N,F),.list 1 ((bc L n).map AV.str),sb N F'⟩
def xA (fA fN:FuncId) (o:Oid) (N:List Oid) (L:PL):Rds→(Oid→aj)→(Oid→aj)→Prop
 | [],F,F'=>F=F'
 | f::l,F,F'=>∃ F1,pD fA fN o N L f F F1∧xA fA fN o N L l F1 F'
theorem cU {fA fN:FuncId} {o:Oid} {N:List Oid} {L:PL} {b:Rds} {F':Oid→aj}:∀ {a:Rds} {F:Oid→aj},xA fA fN o N L (a++b) F F'→∃ F1,xA fA fN o N L a F F1∧xA fA fN o N L b F1 F'
 | [],F,h=>⟨F,rfl,h⟩
 | f::a,F,⟨F1,h1,h2⟩=>by
  obtain ⟨F2,k1,k2⟩:=cU h2
  exact ⟨F2,⟨F1,h1,k1⟩,k2⟩
abbrev RP (st:Oid) (N:List Oid) (L:PL):=xA 64 149 st N L
abbrev RR' (r:Oid) (M:List Oid) (L:PL):=xA 65 150 r M L
theorem Bf {st:Oid} {N:List Oid}:∀ (l:Rds) (s:St) (F:Oid→aj),cj st s N F→SOK s→(∀ f ∈ l,f.1.length≤140737488355000)→∃ F',cj st (s.rds l) N F'∧RP st N s.L l F F'
 | [],s,F,h,_,_=>⟨F,h,rfl⟩
 | f::l,s,F,h,hs,hl=>by
  have hf:=hl f List.mem_cons_self
  have key:∃ F1,cj st (s.read f) N F1∧pD 64 149 st N s.L f F F1:=by
   obtain ⟨n,b⟩:=f
   cases b
   ·exact Bb h hs n hf
   ·exact xt h hs n hf
  obtain ⟨F1,h1,h2⟩:=key
  obtain ⟨F',k1,k2⟩:=Bf l (s.read f) F1 h1 (hs.read f) fun g hg=>hl g (List.mem_cons_of_mem _ hg)
  exact ⟨F',k1,F1,h2,k2⟩
theorem SH {r:Oid} {M:List Oid}:∀ (l:Rds) (s:St) (F:Oid→aj),eU r s M F→SOK s→(∀ q,s.t=some q→q.R.length+l.length≤1000000∧q.W.length≤1000000)→(∀ f ∈ l,f.1.length≤140737488355000)→∃ F',eU r (s.rds l) M F'∧RR' r M s.L l F F'
 | [],s,F,h,_,_,_=>⟨F,h,rfl⟩
 | f::l,s,F,h,hs,hR,hl=>by
  have hf:=hl f List.mem_cons_self
  have hR1:∀ q,s.t=some q→q.R.length≤1000000∧q.W.length≤1000000:=fun q hq=>by have:=hR q hq;omega
  have key:∃ F1,eU r (s.read f) M F1∧pD 65 150 r M s.L f F F1:=by
   obtain ⟨n,b⟩:=f
   cases b
   ·exact Bc h hs hR1 n hf
   ·exact s5 h hs hR1 n hf
  obtain ⟨F1,h1,h2⟩:=key
  obtain ⟨F',k1,k2⟩:=SH l (s.read f) F1 h1 (hs.read f) (fun q hq=>by
   simp only [St.read,Option.map_eq_some_iff] at hq
   obtain ⟨a,ha,rfl⟩:=hq
   have h3:=hR a ha
   have h4:=iG (old:=a.old) (W:=a.W) (f:=f) (hs.tr a ha).sr
   simp only [List.length_cons] at h3
   refine ⟨?_,h3.2⟩
   show (eC a.old a.W f a.R).length+_≤_
   omega) fun g hg=>hl g (List.mem_cons_of_mem _ hg)
  exact ⟨F',k1,F1,h2,k2⟩
def pE (e:Int):AV:=.iface 45 (.int .i64 e)
abbrev db (f:FuncId) (xs:List AV) (sp:Oid→Prop) (need:List (Oid × aj)) (r:Rs AV) (u0:List (Oid × Option aj)):Prop :=
 b7 Tryz.prog f xs sp need (fun v u=>r = .go v∧u=u0) (fun pv u=>∃ e,r = .err e∧pv=pE e∧u=u0)
theorem db.ok {f:FuncId} {xs:List AV} {sp:Oid→Prop} {need:List (Oid × aj)} {r:Rs AV} {v:AV} {u0:List (Oid × Option aj)} (h:db f xs sp need r u0) (hr:r = .go v):aq Tryz.prog f xs sp ⟨need,v,u0⟩ :=
 b7.ok (h.weaken (fun w u ⟨h1,h2⟩=>by rw [hr] at h1;exact ⟨(Rs.go.inj h1).symm,h2⟩) fun pv u ⟨e,h1,_⟩=>by rw [hr] at h1;cases h1)
theorem db.pn {f:FuncId} {xs:List AV} {sp:Oid→Prop} {need:List (Oid × aj)} {r:Rs AV} {e:Int} {u0:List (Oid × Option aj)} (h:db f xs sp need r u0) (hr:r = .err e):AY Tryz.prog f xs sp need (pE e) u0 :=
 h.weaken (fun w u ⟨h1,h2⟩=>by rw [hr] at h1;cases h1) fun pv u ⟨e',h1,h2,h3⟩=>by rw [hr] at h1;exact ⟨by rw [h2,Rs.err.inj h1],h3⟩
end Go.Proofs.YtngffmnomciogaaGreatDoor
namespace Go.Ab
structure Bg (P:Program) [Laid P] (f:FuncId) (xs:List AV) (sp:Oid→Prop) (need:List (Oid × aj)) (u0:List (Oid × Option aj)) (rec:AV→List (Oid × Option aj)→Prop):Prop where
 enters:cn P f=true
 ret:∀ (x:Ctx) (g:Gh) (args:Array Value) (w:World) (m:Mem),ax x g m w→(∀ q,q ∈ need→m q.1=some q.2)→VRs g xs args→(∀ i,sp i→g.loc i=none∧Oid.under x.p i)→Fit P x →
  CallsD P f args .returning w fun en u' w'=>∃ g' v,en = .returned v∧u' = .returning∧g.le g'∧(∀ i,¬ sp i→g'.loc i=g.loc i)∧ax x g' (m.aF u0) w'
 pan:∀ (pv:AV) (u:List (Oid × Option aj)),rec pv u→∀ (x:Ctx) (g:Gh) (args:Array Value) (w:World) (m:Mem) (v:Value),ax x g m w→(∀ q,q ∈ need→m q.1=some q.2)→VRs g xs args→(∀ i,sp i→g.loc i=none∧Oid.under x.p i)→Fit P x →
  VR g pv v→CallsD P f args (.panicking [{ v,recovered:=false,goexit:=false }]) w fun en u' w'=>∃ g' v',en = .returned v'∧u' = .panicking [{ v,recovered:=true,goexit:=false }]∧g.le g'∧(∀ i,¬ sp i→g'.loc i=g.loc i)∧ax x g' (m.aF u) w'
theorem CallsD.SI {P:Program} {f:FuncId} {args:Array Value} {u:FrameMode} {w:World} {R R':Ending→FrameMode→World→Prop} (h:CallsD P f args u w R) (hr:∀ e u' w',R e u' w'→R' e u' w'):CallsD P f args u w R' :=
 fun c cs hu=>let ⟨e,u',w',fr,r,rest⟩:=h c cs hu;⟨e,u',w',fr,hr _ _ _ r,rest⟩
def ku (P:Program) [Laid P] (p:Oid) (K:Mem→Prop) (Kp:AV→Mem→Prop):List AD→Nat→Option AV→Mem→Prop
 | [],_,none,m=>K m
 | [],_,some pv,m=>Kp pv m
 | .call f cap args::ds,c,mode,m=>∃ (k:FuncId) (need:List (Oid × aj)) (u0:List (Oid × Option aj)) (rec:AV→List (Oid × Option aj)→Prop),f = .func k∧Bg P k (args++cap) (Oid.under (.sub c 0 p)) need u0 rec∧(∀ q,q ∈ need→m q.1=some q.2)∧match mode with
  | none=>ku P p K Kp ds (c+1) none (m.aF u0)
  | some pv=>∃ u,rec pv u∧ku P p K Kp ds (c+1) none (m.aF u)
 | .coll _::_,_,_,_=>False
theorem gA {P:Program} [Laid P] {x:Ctx} {fn:Func} {tmps:Array Value} {R:Ending→World→Prop} {K:Mem→Prop} {Kp:AV→Mem→Prop} (hx:Fit P x) {g0:Gh}
  (hK:∀ g m w,g0.le g→ax x g m w→K m→∃ v,(results fn tmps).run P w = .ok v w∧R (.returned v) w) :
  ∀ (ds:List AD) (dl:List Deferred) (c:Nat) (g:Gh) (m:Mem) (w:World),g0.le g→ax x g m w→(∀ i,dA x.p c i→g.loc i=none)→DRs g ds dl→ku P x.p K Kp ds c none m→Leaves P fn tmps R dl .returning w
 | [],_,_,g,m,w,hle,hm,_,hd,h=>by cases hd;exact hK g m w hle hm h
 | .coll _::_,_,_,_,_,_,_,_,_,_,h=>h.elim
 | .call f cap args::ds,_,c,g,m,w,hle,hm,hy,hd,h=>by
  obtain ⟨k,need,u0,rec,rfl,hD,hn,h⟩:=h
  cases hd with
  | cons h1 t =>
   cases h1 with
   | call _ _ _ cv av v1 v2 =>
    refine ⟨by simp,_,_,k,av++cv,rfl,?_,?_⟩
    ·have he:=hD.enters
     unfold cn at he
     cases hfn:P.funcs[k]? with
     | none=>rw [hfn] at he;cases he
     | some fn =>
      rw [hfn] at he
      simp only [Bool.and_eq_true,bne_iff_ne,ne_eq] at he
      obtain ⟨he1,he2⟩:=he
      have hb:fn.body.isNone=false:=by cases hbb:fn.body<;>simp_all
      have hnm:(fn.name == "runtime.NumGoroutine")=false:=by simpa using he2
      simp only [Sem.run_bind,Sem.run_pure,Result.andThen_ok,invoke,callFunc,run_program,hfn,hnm,hb,Bool.false_eq_true,if_false]
    ·refine CallsD.SI (hD.ret x g _ w m hm hn (v2.append v1) (fun i hi=>⟨hy i ⟨c,0,Nat.le_refl _,hi⟩,Oid.ae hi⟩) hx) fun en u' w' ⟨g',v,e1,e2,e3,e4,e5⟩=>?_
     subst e1;subst e2
     show Leaves P fn tmps R _ .returning w'
     refine gA hx hK ds _ (c+1) g' _ w' (Gh.le_trans hle e3) e5 (fun i hi=>?_) (t.mono e3) h
     rw [e4 i fun hu=>?_]
     ·exact hy i (hi.mono (Nat.le_succ _))
     ·obtain ⟨c',i',h1,h2⟩:=hi
      have:=(Oid.apart hu h2).1
      omega
theorem s6 {P:Program} [Laid P] {x:Ctx} {fn:Func} {tmps:Array Value} {R:Ending→World→Prop} {K:Mem→Prop} {Kp:AV→Mem→Prop} (hx:Fit P x) {g0:Gh}
  (hK:∀ g m w,g0.le g→ax x g m w→K m→∃ v,(results fn tmps).run P w = .ok v w∧R (.returned v) w) {pv:AV} {v:Value}
  (hKp:∀ m w,ax x g0 m w→Kp pv m→R (.panicked [{ v,recovered:=false,goexit:=false }]) w) (hv:VR g0 pv v) :
  ∀ (ds:List AD) (dl:List Deferred) (c:Nat) (m:Mem) (w:World),ax x g0 m w→(∀ i,dA x.p c i→g0.loc i=none)→DRs g0 ds dl→ku P x.p K Kp ds c (some pv) m→Leaves P fn tmps R dl (.panicking [{ v,recovered:=false,goexit:=false }]) w
 | [],_,_,m,w,hm,_,hd,h=>by cases hd;exact hKp m w hm h
 | .coll _::_,_,_,_,_,_,_,_,h=>h.elim
 | .call f cap args::ds,_,c,m,w,hm,hy,hd,h=>by
  obtain ⟨k,need,u0,rec,rfl,hD,hn,u,hr,h⟩:=h
  cases hd with
  | cons h1 t =>
   cases h1 with
   | call _ _ _ cv av v1 v2 =>
    refine ⟨by simp,_,_,k,av++cv,rfl,?_,?_⟩
    ·have he:=hD.enters
     unfold cn at he
     cases hfn:P.funcs[k]? with
     | none=>rw [hfn] at he;cases he
     | some fn =>
      rw [hfn] at he
      simp only [Bool.and_eq_true,bne_iff_ne,ne_eq] at he
      obtain ⟨he1,he2⟩:=he
      have hb:fn.body.isNone=false:=by cases hbb:fn.body<;>simp_all
      have hnm:(fn.name == "runtime.NumGoroutine")=false:=by simpa using he2
      simp only [Sem.run_bind,Sem.run_pure,Result.andThen_ok,invoke,callFunc,run_program,hfn,hnm,hb,Bool.false_eq_true,if_false]
    ·refine CallsD.SI (hD.pan pv u hr x g0 _ w m v hm hn (v2.append v1) (fun i hi=>⟨hy i ⟨c,0,Nat.le_refl _,hi⟩,Oid.ae hi⟩) hx hv) fun en u' w' ⟨g',v',e1,e2,e3,e4,e5⟩=>?_
     subst e1;subst e2
     show Leaves P fn tmps R _ (settle _) w'
     have hs:settle (.panicking [{ v,recovered:=true,goexit:=false }]) = .returning:=rfl
     rw [hs]
     refine gA hx hK ds _ (c+1) g' _ w' e3 e5 (fun i hi=>?_) (t.mono e3) h
     rw [e4 i fun hu=>?_]
     ·exact hy i (hi.mono (Nat.le_succ _))
     ·obtain ⟨c',i',h1,h2⟩:=hi
      have:=(Oid.apart hu h2).1
      omega
def ue (P:Program) [Laid P] (p:Oid) (rs:List ResultVar) (need:List (Oid × aj)) (R Rp:AV→List (Oid × Option aj)→Prop):AX→AS→Prop
 | .normal,s | .ret,s=>ku P p (fun m=>∃ val upd,fH P m s.fr rs=some val∧R val upd∧∀ i o,((Mem.of need).aF upd) i=some o→m i=some o) (fun _ _=>False) s.ds s.c none s.mem
 | .panic pv,s=>ku P p (fun m=>∃ val upd,fH P m s.fr rs=some val∧R val upd∧∀ i o,((Mem.of need).aF upd) i=some o→m i=some o) (fun pv m=>∃ upd,Rp pv upd∧∀ i o,((Mem.of need).aF upd) i=some o→m i=some o) s.ds s.c (some pv) s.mem
 | .exit _,_=>False
theorem kv {P:Program} [Laid P] {f:FuncId} {fn:Func} {n:Nat} {rs:List ResultVar} {c:Code} {xs:List AV} {p:Oid} {need:List (Oid × aj)} {R Rp:AV→List (Oid × Option aj)→Prop} (hf:P.funcs[f]? = some fn) (hn:fn.ntmps=n) (hr:fn.results.toList=rs)
  (hnm:(fn.name != "runtime.NumGoroutine")=true) (hl:(Nat.ble xs.length n)=true) (hok:eG n rs=true) (hb:fn.body=some c)
  (hT:∀ x:Ctx,x.p=p→x.rd=none→Fit P x→T P x n c ⟨cx 0 xs,Mem.of need,0,[]⟩ (after P x n (ue P p rs need R Rp) [])):b7 P f xs (Oid.under p) need R Rp:=by
 subst hn;subst hr
 have hl:=Nat.le_of_ble_eq_true hl
 refine ⟨by simp only [cn,hf,hb,Option.isSome_some,Bool.true_and];exact hnm,fun x g args w m hm hneed hargs hsp hng=>?_⟩
 refine calls_of_wp_defers hf hb ?_
 have hin:=hm.enter (p:=p) hneed
 have hsz:(args++Array.replicate (fn.ntmps - args.size) undef).size=fn.ntmps:=by simp [hargs.1];omega
 have hrel:Rel (x.inner g w need p) fn.ntmps g ⟨cx 0 xs,Mem.of need,0,[]⟩ { tmps:=args++Array.replicate (fn.ntmps - args.size) undef,defers:=[] } w:=by
  refine ⟨hin,hsz,.nil,fun t ht=>?_,fun i hi=>(hsp i hi.under).1⟩
  simp only
  rw [ln]
  split
  ·rename_i h
   rw [Nat.sub_zero,bl (by rw [hargs.1];omega)]
   exact hargs.2 t (by omega)
  ·exact .unk _
 have hpx:Oid.under x.p p:=(hsp p (Oid.az p)).2
 have hfit:Fit P (x.inner g w need p):=hng.inner rfl hm.le
 refine (wpIn_wide (n:=0)).1 (wpIn_mono (hT (x.inner g w need p) rfl rfl hfit g _ w hrel) fun en a' w' ⟨g',ex,s',h1,h2,h3⟩=>?_)
 have hK:∀ g2 m2 w2,g'.le g2→ax (x.inner g w need p) g2 m2 w2→(∃ val upd,fH P m2 s'.fr fn.results.toList=some val∧R val upd∧∀ i o,((Mem.of need).aF upd) i=some o→m2 i=some o) →
   ∃ v,(results fn a'.tmps).run P w2 = .ok v w2∧((∃ g' v' val upd,Ending.returned v = .returned v'∧R val upd∧g.le g'∧(∀ i,¬ Oid.under p i→g'.loc i=g.loc i)∧VR g' val v'∧ax x g' (m.aF upd) w2) ∨
   (∃ g' e pv upd,Ending.returned v = .panicked [e]∧Rp pv upd∧g.le g'∧(∀ i,¬ Oid.under p i→g'.loc i=g.loc i)∧VR g' pv e.v∧e.recovered=false∧e.goexit=false∧ax x g' (m.aF upd) w2)):=by
  rintro g2 m2 w2 hle hm2 ⟨val,upd,r1,r2,r3⟩
  obtain ⟨v,v1,v2⟩:=fI (P:=P) hm2 hok r1 fun t ht=>(h1.fr t ht).mono hle
  exact ⟨v,v1,.inl ⟨g2,v,val,upd,rfl,r2,hm2.le,hm2.locs,v2,hm.leave hneed hpx hm2 r3⟩⟩
 cases ex with
 | normal=>cases en<;>simp only [AX.fits] at h2;exact gA hfit hK _ _ _ g' _ _ (Gh.le_refl _) h1.mr h1.young h1.df h3
 | ret=>cases en<;>simp only [AX.fits] at h2;exact gA hfit hK _ _ _ g' _ _ (Gh.le_refl _) h1.mr h1.young h1.df h3
 | exit i=>exact h3.elim
 | panic pv =>
  have:∃ e:PanicEntry,en = .panic [e]∧VR g' pv e.v∧e.recovered=false∧e.goexit=false:=by
   cases en with
   | panic ch =>
    match ch,h2 with
    | [e],h2=>exact ⟨e,rfl,h2⟩
   | _=>exact h2.elim
  obtain ⟨⟨v,rc,ge⟩,rfl,hv,e1,e2⟩:=this
  simp only at e1 e2;subst e1;subst e2
  exact s6 hfit hK (fun m2 w2 hm2 ⟨upd,r2,r3⟩=>.inr ⟨g',_,pv,upd,rfl,r2,hm2.le,hm2.locs,hv,rfl,rfl,hm.leave hneed hpx hm2 r3⟩) hv _ _ _ _ _ h1.mr h1.young h1.df h3
theorem Bh {P:Program} [Laid P] {f:FuncId} {fn:Func} {n:Nat} {rs:List ResultVar} {c:Code} {xs:List AV} {p:Oid} {e:Eff} (hf:P.funcs[f]? = some fn) (hn:fn.ntmps=n) (hr:fn.results.toList=rs)
  (hnm:(fn.name != "runtime.NumGoroutine")=true) (hl:(Nat.ble xs.length n)=true) (hok:eG n rs=true) (hb:fn.body=some c)
  (hT:∀ x:Ctx,x.p=p→x.rd=none→Fit P x→T P x n c ⟨cx 0 xs,Mem.of e.need,0,[]⟩ (after P x n (ue P p rs e.need (fun v u=>v=e.val∧u=e.upd) fun _ _=>False) [])):aq P f xs (Oid.under p) e :=
 (kv hf hn hr hnm hl hok hb hT).ok
theorem R3 {P:Program} [Laid P] {x:Ctx} {n:Nat} {Q:AX→AS→Prop} {id:Nat} {o:Oper} {k:FuncId} {args:Array Operand} {ts:Array TypeId} {fr:List (Nat × AV)} {m:Mem} {c:Nat} {ds:List AD} (hng:Fit P x)
  (hrd:x.rd=none) (ho:o.op = .defer ⟨.value (.func k),args,ts⟩) (hd:o.dst=none) (hgd:o.guard=none) (hok:dP n P.globals.size #[o] o=true)
  (h:Q .normal ⟨fr,m,c+1,.call (.func k) [] (args.toList.map (evA fr))::ds⟩):T P x n (.region id #[o] false) ⟨fr,m,c,ds⟩ Q:=by
 intro g a w hr
 refine wpIn_region ?_
 have hop:=(RR.of hr).operands hng.1 hok (f':=F fr) (fun _ _=>rfl)
 have hargs:VRs g (args.toList.map (evA fr)) (args.map a.eval):=VRs.map fun t ht=>hop t (by
  have:t ∈ args:=by simpa using ht
  simp [Op.operands,Call.operands,ho,this])
 have hrun:(execOp a.eval o).run P w = .ok (.defer ⟨.fn (.func k) #[],args.map a.eval⟩) w:=by
  simp [execOp,ho,resolve,Deferred.ofValue,Act.eval]
 have hw:Region.wanted o (yielded #[o] a.tmps)=true:=by simp [Region.wanted,hgd]
 show wpOpsIn (Fc x.rd) 0 P #[o] _ [0] a w
 simp only [wpOpsIn,List.getElem?_toArray,List.getElem?_cons_zero,hw,if_true]
 refine ⟨fun _ _=>trivial,?_⟩
 have hro:(Fc x.rd).round=none:=hrd
 rw [hro,Oper.semAt_none,hrun,Oper.uponIn_defer,hd]
 exact ⟨g,.normal,⟨fr,m,c+1,.call (.func k) [] (args.toList.map (evA fr))::ds⟩,⟨hr.mr,hr.tm,.cons (.call _ _ _ _ _ ⟨rfl,fun j hj=>absurd hj (Nat.not_lt_zero _)⟩ hargs) hr.df,hr.fr,fun i hi=>hr.young i (hi.mono (Nat.le_succ _))⟩,trivial,h⟩
theorem jV {P:Program} [Laid P] {x:Ctx} {n:Nat} {Q:AX→AS→Prop} {ks:List Pc} {id:Nat} {o:Oper} {k:FuncId} {args:Array Operand} {ts:Array TypeId} {fr:List (Nat × AV)} {m:Mem} {c:Nat} {ds:List AD} (hng:Fit P x)
  (hrd:x.rd=none) (ho:o.op = .defer ⟨.value (.func k),args,ts⟩) (hd:o.dst=none) (hgd:o.guard=none) (hok:dP n P.globals.size #[o] o=true)
  (h:after P x n Q ks .normal ⟨fr,m,c+1,.call (.func k) [] (args.toList.map (evA fr))::ds⟩):T P x n (.region id #[o] false) ⟨fr,m,c,ds⟩ (after P x n Q ks):=R3 hng hrd ho hd hgd hok h
theorem rC {P:Program} {ρ:Operand→Value} {o:Oper} {ts:Array TypeId} (ho:o.op = .call ⟨.builtin .recover,#[],ts⟩) (w:World):(execOp ρ o).run P w = .ok .recover w:=by
 simp [execOp,ho,resolve,invoke,builtin]
def Bi (need:List (Oid × aj)) (u:List (Oid × Option aj)):AX→AS→Prop
 | .normal,s | .ret,s=>s.ds=[]∧∀ i o,((Mem.of need).aF u) i=some o→s.mem i=some o
 | _,_=>False
theorem Bj {P:Program} [Laid P] {f:FuncId} {fn:Func} {n id a b:Nat} {r s:Oper} {ts:Array TypeId} {rest:Code} {xs:List AV} {p:Oid} {need:List (Oid × aj)} {u0:List (Oid × Option aj)} {rec:AV→List (Oid × Option aj)→Prop}
  (hf:P.funcs[f]? = some fn) (hn:fn.ntmps=n) (hr:fn.results.toList=[]) (hnm:(fn.name != "runtime.NumGoroutine")=true) (hl:(Nat.ble xs.length n)=true) (hb:fn.body=some (.seq (.region id #[r,s] false) rest))
  (h1:r.op = .call ⟨.builtin .recover,#[],ts⟩) (h2:r.dst=some a) (h3:r.guard=none) (h4:s.op = .assign (.tmp a)) (h5:s.dst=some b) (h6:s.guard=none) (ha:(Nat.blt a n)=true) (hbn:(Nat.blt b n)=true)
  (hR:∀ x:Ctx,x.p=p→x.rd=none→Fit P x→T P x n rest ⟨(b,.nilIface)::(a,.nilIface)::cx 0 xs,Mem.of need,1,[]⟩ (after P x n (Bi need u0) []))
  (hP:∀ pv u,rec pv u→∀ x:Ctx,x.p=p→x.rd=none→Fit P x→T P x n rest ⟨(b,pv)::(a,pv)::cx 0 xs,Mem.of need,1,[]⟩ (after P x n (Bi need u) [])):Bg P f xs (Oid.under p) need u0 rec:=by
 subst hn
 have hl:=Nat.le_of_ble_eq_true hl
 have ha:a < fn.ntmps:=by simpa using ha
 have hbn:b < fn.ntmps:=by simpa using hbn
 have hbody:fn.body.isSome=true:=by rw [hb];rfl
 have hrel:∀ (x:Ctx) (g:Gh) (args:Array Value) (w:World) (m:Mem) (pv:AV) (v:Value),ax x g m w→(∀ q,q ∈ need→m q.1=some q.2)→VRs g xs args→(∀ i,Oid.under p i→g.loc i=none∧Oid.under x.p i)→VR g pv v →
   Rel (x.inner g w need p) fn.ntmps g ⟨(b,pv)::(a,pv)::cx 0 xs,Mem.of need,1,[]⟩ ((Act.put { tmps:=args++Array.replicate (fn.ntmps - args.size) undef,defers:=[] } (some a) v).put (some b) v) w:=by
  intro x g args w m pv v hm hneed hargs hsp hv
  have hin:=hm.enter (p:=p) hneed
  have hsz:(args++Array.replicate (fn.ntmps - args.size) undef).size=fn.ntmps:=by simp [hargs.1];omega
  have h0:RR (x.inner g w need p) fn.ntmps [] g (F (cx 0 xs)) (Mem.of need) { tmps:=args++Array.replicate (fn.ntmps - args.size) undef,defers:=[] } w:=by
   refine ⟨hin,hsz,.nil,fun t ht=>?_⟩
   rw [ln]
   split
   ·rename_i h
    rw [Nat.sub_zero,bl (by rw [hargs.1];omega)]
    exact hargs.2 t (by omega)
   ·exact .unk _
  have h2:=(h0.put (Gh.le_refl g) hin (some a) hv).put (Gh.le_refl g) hin (some b) hv
  rw [← lB,← lB] at h2
  exact h2.rel fun i hi=>(hsp i hi.under).1
 have key:∀ (u u':FrameMode) (pv:AV) (v:Value) (upd:List (Oid × Option aj)) (x:Ctx) (g:Gh) (args:Array Value) (w:World) (m:Mem),ax x g m w→(∀ q,q ∈ need→m q.1=some q.2)→VRs g xs args→(∀ i,Oid.under p i→g.loc i=none∧Oid.under x.p i)→Fit P x→VR g pv v →
   (∀ (c₀:Frame) (cs:List Frame),c₀.mode=u→(recoverD (c₀::cs)=none∧u' = u∧v = .nilIface)∨recoverD (c₀::cs)=some (v,{ c₀ with mode:=u' }::cs)) →
   (∀ x:Ctx,x.p=p→x.rd=none→Fit P x→T P x fn.ntmps rest ⟨(b,pv)::(a,pv)::cx 0 xs,Mem.of need,1,[]⟩ (after P x fn.ntmps (Bi need upd) [])) →
   CallsD P f args u w fun en u2 w'=>∃ g' v',en = .returned v'∧u2=u'∧g.le g'∧(∀ i,¬ Oid.under p i→g'.loc i=g.loc i)∧ax x g' (m.aF upd) w':=by
  intro u u' pv v upd x g args w m hm hneed hargs hsp hx hv hrec hT
  refine callsD_of_wpS hf hb fun c₀ cs hc=>?_
  refine wpS_seq (wpS_region ?_)
  have hw1:∀ y,Region.wanted r y=true:=fun y=>by simp [Region.wanted,h3]
  have hw2:∀ y,Region.wanted s y=true:=fun y=>by simp [Region.wanted,h6]
  show wpOpsS P #[r,s] _ [0,1] _ _ _
  have hpx:Oid.under x.p p:=(hsp p (Oid.az p)).2
  have hsz:(args++Array.replicate (fn.ntmps - args.size) undef).size=fn.ntmps:=by simp [hargs.1];omega
  have fin:rest.wpS P (bodyPostS P fn c₀ cs fun en u2 w'=>∃ g' v',en = .returned v'∧u2=u'∧g.le g'∧(∀ i,¬ Oid.under p i→g'.loc i=g.loc i)∧ax x g' (m.aF upd) w') ((Act.put { tmps:=args++Array.replicate (fn.ntmps - args.size) undef,defers:=[] } (some a) v).put (some b) v) ({ c₀ with mode:=u' }::cs) w:=by
   refine wpS_of_wp ((wpIn_wide (n:=0)).1 (wpIn_mono (hT (x.inner g w need p) rfl rfl (hx.inner rfl hm.le) g _ w (hrel x g args w m pv v hm hneed hargs hsp hv)) fun en a' w' ⟨g',ex,s',k1,k2,k3⟩=>?_))
   have done:s'.ds=[]∧(∀ i o,((Mem.of need).aF upd) i=some o→s'.mem i=some o)→a'.defers=[]∧∃ u2,({ c₀ with mode:=u' }::cs:List Frame)={ c₀ with mode:=u2 }::cs∧∃ v2,(results fn a'.tmps).run P w' = .ok v2 w' ∧
     ∃ g' v',Ending.returned v2 = .returned v'∧u2=u'∧g.le g'∧(∀ i,¬ Oid.under p i→g'.loc i=g.loc i)∧ax x g' (m.aF upd) w':=by
    rintro ⟨q1,q2⟩
    have hdf:=k1.df
    rw [q1] at hdf
    obtain ⟨v2,r1,_⟩:=fI (P:=P) (fn:=fn) (n:=fn.ntmps) (fr:=s'.fr) (y:=.tuple []) k1.mr (by rw [hr];rfl) (by rw [hr];rfl) k1.fr
    exact ⟨hdf.BI,u',rfl,v2,r1,g',v2,rfl,rfl,k1.mr.le,k1.mr.locs,hm.leave hneed hpx k1.mr q2⟩
   cases ex with
   | normal=>cases en<;>simp only [AX.fits] at k2;exact done k3
   | ret=>cases en<;>simp only [AX.fits] at k2;exact done k3
   | exit i=>exact k3.elim
   | panic pv=>exact k3.elim
  have step2:wpOpsS P #[r,s] (Exit.thenS (rest.wpS P (bodyPostS P fn c₀ cs fun en u2 w'=>∃ g' v',en = .returned v'∧u2=u'∧g.le g'∧(∀ i,¬ Oid.under p i→g'.loc i=g.loc i)∧ax x g' (m.aF upd) w')) (bodyPostS P fn c₀ cs fun en u2 w'=>∃ g' v',en = .returned v'∧u2=u'∧g.le g'∧(∀ i,¬ Oid.under p i→g'.loc i=g.loc i)∧ax x g' (m.aF upd) w'))
    [1] (Act.put { tmps:=args++Array.replicate (fn.ntmps - args.size) undef,defers:=[] } (some a) v) ({ c₀ with mode:=u' }::cs) w:=by
   have hr2:(execOp (Act.put { tmps:=args++Array.replicate (fn.ntmps - args.size) undef,defers:=[] } (some a) v).eval s).run P w = .ok (.value v) w:=by
    simp only [execOp,h4,Sem.run_pure,Act.eval]
    rw [pT (by rw [hsz];exact ha),if_pos rfl]
   have hs1:(#[r,s]:Array Oper)[1]? = some s:=rfl
   simp only [wpOpsS,hs1,hw2,if_true,hr2]
   simp only [Oper.upon,h5]
   exact fin
  have hs0:(#[r,s]:Array Oper)[0]? = some r:=rfl
  rw [wpOpsS]
  simp only [hs0,hw1,if_true,rC h1,h2]
  rcases hrec c₀ cs hc with ⟨q1,q2,q3⟩|q1
  ·rw [q1]
   subst q2;subst q3
   have:({ c₀ with mode:=u' }:Frame)=c₀:=by rw [← hc]
   rw [this] at step2
   exact step2
  ·rw [q1]
   exact step2
 refine ⟨by simp only [cn,hf,hbody,Bool.true_and];exact hnm,fun x g args w m hm hneed hargs hsp hx=>?_,fun pv u hu x g args w m v hm hneed hargs hsp hx hv=>?_⟩
 ·exact key .returning .returning .nilIface .nilIface u0 x g args w m hm hneed hargs hsp hx .nilIface (fun c₀ cs hc=>.inl ⟨by simp [recoverD,hc],rfl,rfl⟩) hR
 ·exact key _ _ pv v u x g args w m hm hneed hargs hsp hx hv (fun c₀ cs hc=>.inr (by simp [recoverD,hc])) (hP pv u hu)
end Go.Ab
namespace Go.Ab
theorem xB {P:Program} [Laid P] {o:Oper} {ρ:Operand→AV} {sp:Oid→Prop} {y:Operand} {t:TypeId} {v:AV} (ho:o.op = .panic y) (hy:ρ y = .iface t v) :
  jH P o ρ sp [] (fun _ _=>False) (fun pv u=>pv = .iface t v∧u=[]):=by
 intro x g a w m hm _ hop hsp hng next Q _ Kp
 have vy:=hop y (by simp [Op.operands,ho])
 rw [hy] at vy
 obtain ⟨u,hu,hv⟩:=vy.j4
 have hex:(execOp a.eval o).run P w = .halt (.panic (.iface t u)) w:=by
  simp only [execOp,ho,hu]
  rfl
 refine ⟨fun _ _=>trivial,?_⟩
 rw [Oper.semAt_eq _ _ _ (fun c hc=>by rw [ho] at hc;cases hc),hex,Oper.uponIn_panic]
 exact Kp _ [] ⟨rfl,rfl⟩ g _ w (Gh.le_refl g) (fun _ _=>rfl) (by rw [← hu];exact hy ▸ hop y (by simp [Op.operands,ho])) rfl rfl hm
theorem mG {P:Program} [Laid P] {o:Oper} {ρ:Operand→AV} {sp:Oid→Prop} {y:Operand} {xT t:TypeId} {v:AV} (ho:o.op = .typeAssert y xT t false) (hy:ρ y = .iface t v)
  (hrun:∀ u w,(Instr.typeAssert (.iface t u) xT t false).run P w = .ok u w):aA P o ρ sp ⟨[],v,[]⟩ :=
 aA.plain fun g a w hop=>by
  have vy:=hop y (by simp [Op.operands,ho])
  rw [hy] at vy
  obtain ⟨u,hu,hv⟩:=vy.j4
  exact ⟨u,by simp only [execOp,ho,hu,Sem.run_bind,hrun,Result.andThen_ok,Sem.run_pure],hv⟩
theorem R4 (N:List Oid) (F:Oid→aj):jg (sb N F)=N:=by
 induction N with
 | nil=>rfl
 | cons i N ih=>show i::jg (sb N F)=_;rw [ih]
theorem R5 (N:List Oid) (F:Oid→aj):jg (bk (N,F))=N:=by
 induction N with
 | nil=>rfl
 | cons i N ih=>show i::jg (bk (N,F))=_;rw [ih]
theorem Bl {α β:Type} (a b:List (α × β)):jg (a++b)=jg a++jg b:=by
 induction a with
 | nil=>rfl
 | cons q a ih=>show q.1::jg (a++b)=_;rw [ih];rfl
def gone (N:List Oid):List (Oid × Option aj):=N.map fun i=>(i,none)
theorem xC (N:List Oid):jg (gone N)=N:=by
 induction N with
 | nil=>rfl
 | cons i N ih=>show i::jg (gone N)=_;rw [ih]
theorem R6 {N M:List Oid} {P:Oid→Prop}:(∀ i,i ∈ N++M→P i)=((∀ i,i ∈ N→P i)∧∀ i,i ∈ M→P i) :=
 propext ⟨fun h=>⟨fun i hi=>h i (List.mem_append_left _ hi),fun i hi=>h i (List.mem_append_right _ hi)⟩,fun h i hi=>(List.mem_append.1 hi).elim (h.1 i) (h.2 i)⟩
theorem R7 (K:List Oid) (i:Oid):∀ m:Mem,(m.aF (gone K)) i=if i ∈ K then none else m i:=by
 induction K with
 | nil=>intro m;simp [gone,Mem.aF]
 | cons j K ih =>
  intro m
  show ((m.set j none).aF (gone K)) i=_
  rw [ih]
  by_cases h1:i ∈ K
  ·rw [if_pos h1,if_pos (List.mem_cons_of_mem _ h1)]
  ·rw [if_neg h1]
   by_cases h2:i=j
   ·subst h2;rw [if_pos List.mem_cons_self];simp [Mem.set]
   ·rw [if_neg (fun h=>(List.mem_cons.1 h).elim h2 h1)];simp [Mem.set,h2]
theorem xD {P:Program} {rs:List ResultVar} {fr:List (Nat × AV)} {m:Mem} {c:Nat} {val:AV} {N M:List Oid} {F G:Oid→aj} {Rp:AV→List (Oid × Option aj)→Prop} (h1:fH P m fr rs=some val) :
  dJ P rs (bk (N,F)++bk (M,G)) (fun v u=>v=val∧u=gone (N++M)) Rp .ret ⟨fr,m,c,[]⟩ :=
 bm val _ h1 ⟨rfl,rfl⟩ fun i o h=>by
  rw [R7] at h
  split at h
  ·cases h
  ·rename_i h2
   obtain ⟨q,k1,rfl,rfl⟩:=Mem.dy h
   rcases List.mem_append.1 k1 with k1|k1
   ·exact absurd (List.mem_append_left _ (b8.1 k1).1) h2
   ·exact absurd (List.mem_append_right _ (b8.1 k1).1) h2
theorem xE {p:Oid} {N:List Oid} {c k:Nat} (h:aZ p N):(∀ i,i ∈ N→¬ i=Oid.sub c k p)=True:=eq_true fun i hi e=>h.mem (e ▸ hi)
theorem xF {p:Oid} {N:List Oid} {c k:Nat} (h:aZ p N):(∀ i,i ∈ N→¬ Oid.sub c k p=i)=True:=eq_true fun i hi e=>h.mem (e ▸ hi)
theorem Bm {a:Oid} {N:List Oid} (h:a ∉ N):(∀ i,i ∈ N→¬ i=a)=True:=eq_true fun i hi e=>h (e ▸ hi)
theorem Bn {a:Oid} {N:List Oid} (h:a ∉ N):(∀ i,i ∈ N→¬ a=i)=True:=eq_true fun i hi e=>h (e ▸ hi)
theorem Bo {N M:List Oid} (h:DJ N M):(∀ i,i ∈ N→∀ j,j ∈ M→¬ i=j)=True:=eq_true fun i hi j hj e=>h i hi (e ▸ hj)
theorem Bp {N M:List Oid} (h:DJ N M):(∀ i,i ∈ M→∀ j,j ∈ N→¬ i=j)=True:=eq_true fun i hi j hj e=>h j hj (e ▸ hi)
attribute [go_sem] Bl xC R6 R4 R5 xE xF Bm Bn Bo Bp
end Go.Ab
namespace Go.Ab
theorem aA.nd {P:Program} [Laid P] {o:Oper} {ρ:Operand→AV} {sp:Oid→Prop} {e:Eff} (h:aA P o ρ sp e):jH P o ρ sp e.need (fun v u=>v=e.val∧u=e.upd) (fun _ _=>False) :=
 fun x g a w m hm hn hop hs hng next Q K _=>h x g a w m hm hn hop hs hng next Q fun g' v w' h1 h2 h3 h4=>K _ _ ⟨rfl,rfl⟩ g' v w' h1 h2 h3 h4
end Go.Ab
namespace Go.Proofs.YtngffmnomciogaaGreatDoor
open Go Go.Ab
set_option maxRecDepth 20000
set_option maxHeartbeats 4000000
section
variable {rs:List ResultVar} {need:List (Oid × aj)} {fr:List (Nat × AV)} {m:Mem} {c:Nat} {r:Rs AV} {v:AV} {u0:List (Oid × Option aj)} {R Rp:AV→List (Oid × Option aj)→Prop}
theorem pF (h1:fH Tryz.prog m fr rs=some v) (hr:r = .go v) (h3:∀ i o,((Mem.of need).aF u0) i=some o→m i=some o):dJ Tryz.prog rs need (fun w u=>r = .go w∧u=u0) Rp .ret ⟨fr,m,c,[]⟩:=bm v u0 h1 ⟨hr,rfl⟩ h3
theorem jW (h1:fH Tryz.prog m fr rs=some v) (hr:r = .go v) (h3:∀ i o,((Mem.of need).aF u0) i=some o→m i=some o):dJ Tryz.prog rs need (fun w u=>r = .go w∧u=u0) Rp .normal ⟨fr,m,c,[]⟩:=a8 v u0 h1 ⟨hr,rfl⟩ h3
theorem bZ {e:Int} (hr:r = .err e) (h3:∀ i o,((Mem.of need).aF u0) i=some o→m i=some o):dJ Tryz.prog rs need R (fun pv u=>∃ e,r = .err e∧pv=pE e∧u=u0) (.panic (pE e)) ⟨fr,m,c,[]⟩:=⟨u0,⟨e,hr,rfl,rfl⟩,h3⟩
end
theorem bw (e:Int) (p:Oid):aq Tryz.prog 54 [.bool true,.int .i64 e] (Oid.under p) ⟨[],.tuple [],[]⟩:=by
 refine aV (n:=8) (rs:=[]) Tryz.func54 rfl rfl (by decide) rfl rfl rfl ?_;rintro x rfl hrd hng
 refine qw0 ?_
 exact bC (a8 _ _ rfl ⟨rfl,rfl⟩ fun _ _ h=>h)
theorem bQ (e:Int) (p:Oid):AY Tryz.prog 54 [.bool false,.int .i64 e] (Oid.under p) [] (pE e) []:=by
 refine fZ (n:=8) (rs:=[]) Tryz.func54 rfl rfl (by decide) rfl rfl rfl ?_;rintro x rfl hrd hng
 refine qr0 ?_
 refine aB rfl rfl ?_
 (try ((first|refine zn ?_|refine ze ?_|refine zk ?_);with_reducible (constructor;repeat constructor));try refine zl ?_)
 refine ay nmd [] hng (by kernel_rfl) fun hf C S K hC1 hC hS hK=>?_;simp (disch:=first|omega|assumption) only [go_sem]
 refine hS _ _ _ (fun o' hd ho'=>xB ho' rfl) (fun _ h=>by cases h) (fun _ _ h=>h.elim) ?_
 rintro _ _ ⟨rfl,rfl⟩
 exact ⟨[],⟨rfl,rfl⟩,fun _ _ h=>h⟩
theorem rD (q:Oid) (z:Int) (p:Oid) (hq:¬ Oid.under p q):Bg Tryz.prog 52 [.ptr q 0] (Oid.under p) [(q,.cells [.int .i64 z])] [] (fun pv u=>∃ e,pv=pE e∧u=[(q,some (.cells [.int .i64 e]))]):=by
 refine Bj (n:=10) (id:=0) (a:=3) (b:=2) Tryz.func52 rfl rfl (by decide) rfl rfl rfl rfl rfl rfl rfl rfl rfl rfl (fun x hp hrd hng=>?_) (fun pv u ⟨e,hpv,hu⟩ x hp hrd hng=>?_)
 ·subst hp
  (try ((first|refine zn ?_|refine ze ?_|refine zk ?_);with_reducible (constructor;repeat constructor));try refine zl ?_)
  refine ay nmd [] hng (by kernel_rfl) fun hf C S K hC1 hC hS hK=>?_;simp (disch:=first|omega|assumption) only [go_sem]
  refine hK ?_;clear hK hS hC hC1 K S C hf
  (try ((first|refine zn ?_|refine ze ?_|refine zk ?_);with_reducible (constructor;repeat constructor));try refine zl ?_)
  refine aC rfl rfl ?_
  (try ((first|refine zn ?_|refine ze ?_|refine zk ?_);with_reducible (constructor;repeat constructor));try refine zl ?_)
  exact bC ⟨rfl,fun i o h=>h⟩
 ·subst hp;subst hpv;subst hu
  (try ((first|refine zn ?_|refine ze ?_|refine zk ?_);with_reducible (constructor;repeat constructor));try refine zl ?_)
  refine ay nmd [] hng (by kernel_rfl) fun hf C S K hC1 hC hS hK=>?_;simp (disch:=first|omega|assumption) only [go_sem,pE]
  refine hK ?_;clear hK hS hC hC1 K S C hf
  (try ((first|refine zn ?_|refine ze ?_|refine zk ?_);with_reducible (constructor;repeat constructor));try refine zl ?_)
  refine aB rfl rfl ?_
  (try ((first|refine zn ?_|refine ze ?_|refine zk ?_);with_reducible (constructor;repeat constructor));try refine zl ?_)
  refine ay nmd [] hng (by kernel_rfl) fun hf C S K hC1 hC hS hK=>?_;simp (disch:=first|omega|assumption) only [go_sem,pE]
  refine hS _ _ _ (fun o' hd ho'=>(mG ho' rfl (fun u w=>by kernel_rfl)).nd) (fun _ h=>by cases h) ?_ (fun _ _ h=>h.elim)
  rintro _ _ ⟨rfl,rfl⟩
  simp (disch:=first|omega|assumption) only [go_sem,Oid.ab hq,Oid.aa hq]
  refine hK ?_;clear hK hS hC hC1 K S C hf
  refine bC ⟨rfl,fun i o h=>?_⟩
  simp only [Mem.of,Mem.aF,Mem.set,Mem.emp] at h ⊢
  split at h<;>simp_all
section
variable {p pp q:Oid} {o o':aj} {N:List Oid} {F G:Oid→aj} {fr:List (Nat × AV)} {m:Mem} {c:Nat} {z e:Int} {val:AV} {rs:List ResultVar}
theorem dY {i c:Nat} (h:i < c):¬ Oid.under (.sub c 0 p) (.sub i 1 p)∧¬ Oid.under (.sub c 0 p) (.sub i 0 p)∧¬ Oid.under (.sub c 0 p) (.sub i 2 p):=by
 refine ⟨fun hu=>?_,fun hu=>?_,fun hu=>?_⟩ <;>
 ·have:=(Oid.apart hu (Oid.az _)).1
  omega
theorem kx (hu:¬ Oid.under (.sub c 0 p) q) (hq:m q=some (.cells [.int .i64 z])) (h1:fH Tryz.prog (m.set q (some (.cells [.int .i64 e]))) fr rs=some val)
  (h3:m pp=some o) (h4:∀ x,x ∈ bk (N,G)→m x.1=some x.2) (hqp:¬ pp=q) (hqN:q ∉ N) :
  ue Tryz.prog p rs ((pp,o)::bk (N,F)) (fun v u=>v=val∧u=sb N G) (fun _ _=>False) (.panic (pE e)) ⟨fr,m,c,[.call (.func 52) [] [.ptr q 0]]⟩ :=
 ⟨_,_,_,_,rfl,rD q z _ hu,fun x hx=>by rw [List.mem_singleton.1 hx];exact hq,_,⟨e,rfl,rfl⟩,val,_,h1,⟨rfl,rfl⟩,eS (A0:=[(pp,o)]) (U:=[]) (fun _ h=>by cases h) (fun x hx _=>by
  rw [List.mem_singleton.1 hx]
  show (m.set q _) pp=_
  simp only [Mem.set,if_neg hqp];exact h3) fun x hx=>by
  show (m.set q _) x.1=_
  simp only [Mem.set]
  rw [if_neg fun e:x.1=q=>hqN (e ▸ (b8.1 hx).1)];exact h4 x hx⟩
theorem mH {Rp:AV→List (Oid × Option aj)→Prop} (hu:¬ Oid.under (.sub c 0 p) q) (hq:m q=some (.cells [.int .i64 z])) (h1:fH Tryz.prog m fr rs=some val) (h3:m pp=some o) (h4:∀ x,x ∈ bk (N,G)→m x.1=some x.2) :
  ue Tryz.prog p rs ((pp,o)::bk (N,F)) (fun v u=>v=val∧u=sb N G) Rp .ret ⟨fr,m,c,[.call (.func 52) [] [.ptr q 0]]⟩ :=
 ⟨_,_,_,_,rfl,rD q z _ hu,fun x hx=>by rw [List.mem_singleton.1 hx];exact hq,val,_,h1,⟨rfl,rfl⟩,eS (A0:=[(pp,o)]) (U:=[]) (fun _ h=>by cases h) (fun x hx _=>by rw [List.mem_singleton.1 hx];exact h3) h4⟩
end
theorem rE (s:Str) (hs:s.length≤4000000000) (p:Oid):aq Tryz.prog 121 [.str s] (Oid.under p) ⟨[],.str (bg s),[]⟩:=by
 have hk:=mg s 47 s.length
 refine aV (n:=8) (rs:=[.tmp 2]) Tryz.func121 rfl rfl (by decide) rfl rfl rfl ?_;rintro x rfl hrd hng
 refine qr0 ?_
 refine ay nmd [] hng (by kernel_rfl) fun hf C S K hC1 hC hS hK=>?_;simp (disch:=first|omega|assumption) only [go_sem]
 refine hC1 _ (mh s 47 hs _) qs0 ?_
 simp (disch:=first|omega|assumption) only [go_sem]
 have hm:(if 0 < eA s 47 s.length then eA s 47 s.length else 0)=((eA s 47 s.length).toNat:Int):=by split<;>omega
 simp (disch:=first|omega|assumption) only [go_sem,hm]
 refine hK ?_;clear hK hS hC hC1 K S C hf
 refine qw0 ?_
 exact aE (b6 (congrArg AV.str (by unfold bg;simp)))
end Go.Proofs.YtngffmnomciogaaGreatDoor
namespace Go.Proofs.YtngffmnomciogaaGreatDoor
open Go Go.Ab
set_option maxRecDepth 20000
set_option maxHeartbeats 4000000
theorem nbu {N:List Oid} {G:Oid→aj} (m:Mem):∀ x,x ∈ bk (N,G)→(m.aF (sb N G)) x.1=some x.2:=fun x hx=>by
 obtain ⟨h1,h2⟩:=b8.1 hx
 rw [dM,if_pos h1,h2]
theorem nbA {A:List (Oid × aj)} {N:List Oid} {F:Oid→aj} (hA:∀ e ∈ A,e.1 ∉ N) (Bs:List Bk):∀ x,x ∈ bk (N,F)→Mem.blk A ((N,F)::Bs) x.1=some x.2:=by
 induction A with
 | nil=>intro x hx;obtain ⟨h1,h2⟩:=b8.1 hx;rw [aO,if_pos h1,h2]
 | cons a A ih =>
  intro x hx
  rw [Mem.gZ,if_neg fun e:x.1=a.1=>hA a List.mem_cons_self (e ▸ (b8.1 hx).1)]
  exact ih (fun e he=>hA e (List.mem_cons_of_mem _ he)) x hx
def wkC (pp:Oid) (fol:Bool) (w:Wk):aj:=.cells [.ptr pp 0,.str w.pl,.list 1 (w.todo.map AV.str),.int .i64 w.links,.bool fol,.bool w.dir]
def prC (st:Oid) (cwd:Str) (um:Int):aj:=.cells [.ptr st 0,.str cwd,.int .i64 um]
def inR (b:Bits):Rs AV:=if inE b=0 then .go (.tuple []) else .err (inE b)
theorem xG {wk pp st:Oid} {N:List Oid} {F F1:Oid→aj} {L:PL} (fol:Bool) (w:Wk) (cwd:Str) (um:Int) (h1:¬ wk=pp) (hwN:wk ∉ N) (hpN:pp ∉ N)
  (hA:RP st N L [(w.pl,false)] F F1) (p:Oid) (hp:p.mono=false) (hw:¬ Oid.under p wk) (hpp:¬ Oid.under p pp) (hO:aZ p N) :
  db 188 [.ptr wk 0] (Oid.under p) ((wk,wkC pp fol w)::(pp,prC st cwd um)::bk (N,F)) (inR (aI L w.pl)) (sb N F1):=by
 obtain ⟨_,hA,rfl⟩:=hA
 rename_i F1
 have hA':∀ p,p.mono=false→aZ p N→aq Tryz.prog 64 [.ptr st 0,.str w.pl] (Oid.under p) ⟨bk (N,F),(aI L w.pl).av,sb N F1⟩:=hA
 clear hA
 generalize aI L w.pl=B at hA' ⊢
 obtain ⟨ek,em,el⟩:=B
 simp only [Bits.av] at hA'
 have h2:¬ pp=wk:=fun e=>h1 e.symm
 have hmem:∀ (o:aj) (i o':_),((Mem.of ((wk,wkC pp fol w)::(pp,prC st cwd um)::bk (N,F))).aF (sb N F1)) i=some o'→Mem.blk [(wk,wkC pp fol w),(pp,prC st cwd um),(.sub 0 12 p,o)] [(N,F1)] i=some o':=fun o =>
  eS (A0:=[(wk,wkC pp fol w),(pp,prC st cwd um)]) (U:=[]) (fun _ h=>by cases h) (fun q hq _=>by
   simp only [List.mem_cons,List.not_mem_nil,or_false] at hq
   rcases hq with rfl|rfl<;>simp [Mem.gZ,Oid.ab hw,Oid.aa hw,Oid.ab hpp,Oid.aa hpp,h2]) (by
   show ∀ q,q ∈ bk _→_
   rw [mq hwN,mq hpN,AW hO,sR];trivial)
 unfold wkC prC at hmem ⊢
 refine fZ (n:=28) (rs:=[]) Tryz.func188 rfl rfl (by decide) rfl rfl rfl ?_;rintro x rfl hrd hng
 rw [cK]
 (try ((first|refine zn ?_|refine ze ?_|refine zk ?_);with_reducible (constructor;repeat constructor));try refine zl ?_)
 refine cD nmd [] [(3,12),(6,12),(10,12),(11,12)] mixed hng (by kernel_rfl) [2] fun hf C S K hC hS hK=>?_;simp (disch:=first|omega|assumption) only [go_sem,Oid.ab hw,Oid.aa hw,Oid.ab hpp,Oid.aa hpp,h1,h2]
 refine hC _ (hA' _ (ar rfl hp) (hO.sub _ _)) (by show ∀ q,q ∈ bk _→_;rw [mq hwN,mq hpN,sR];trivial) ?_
 simp (disch:=first|omega|assumption) only [go_sem,Oid.ab hw,Oid.aa hw,Oid.ab hpp,Oid.aa hpp,h1,h2,hwN,hpN,hO]
 (first|refine hK (aJ rfl) ?_|refine hK (by simp (disch:=first|omega|assumption) only [go_sem,List.reverse_cons,List.reverse_nil,ne_eq,not_false_eq_true,implies_true]) ?_);clear hK hS hC K S C hf
 by_cases c1:ek=0
 ·(try ((first|refine zn ?_|refine ze ?_|refine zk ?_);with_reducible (constructor;repeat constructor));try refine zl ?_)
  refine ay nmd [] hng (by kernel_rfl) fun hf C S K hC1 hC hS hK=>?_;simp (disch:=first|omega|assumption) only [go_sem,Oid.ab hw,Oid.aa hw,Oid.ab hpp,Oid.aa hpp,c1,decide_true,decide_false,ne_eq,not_true_eq_false,not_false_eq_true]
  refine hC _ _ _ (bQ 10 _) (fun _ h=>by cases h) (fun _ _ h=>h.elim) ?_
  rintro _ _ ⟨rfl,rfl⟩
  exact bZ (by simp [inR,inE,c1]) (hmem _)
 refine qr .o (ai (uu hw) (ai (uu hpp) c1)) (cq (bw 10 _) trivial) ?_
 by_cases c2:ek=2
 case neg =>
  (try ((first|refine zn ?_|refine ze ?_|refine zk ?_);with_reducible (constructor;repeat constructor));try refine zl ?_)
  refine ay nmd [] hng (by kernel_rfl) fun hf C S K hC1 hC hS hK=>?_;simp (disch:=first|omega|assumption) only [go_sem,Oid.ab hw,Oid.aa hw,Oid.ab hpp,Oid.aa hpp,c2,decide_true,decide_false,ne_eq,not_true_eq_false,not_false_eq_true]
  refine hC _ _ _ (bQ 15 _) (fun _ h=>by cases h) (fun _ _ h=>h.elim) ?_
  rintro _ _ ⟨rfl,rfl⟩
  exact bZ (by simp [inR,inE,c1,c2]) (hmem _)
 refine qr .o (ai (uu hw) (ai (uu hpp) c2)) (cq (bw 15 _) trivial) ?_
 by_cases c3:gz em 1=0
 ·(try ((first|refine zn ?_|refine ze ?_|refine zk ?_);with_reducible (constructor;repeat constructor));try refine zl ?_)
  refine ay nmd [] hng (by kernel_rfl) fun hf C S K hC1 hC hS hK=>?_;simp (disch:=first|omega|assumption) only [go_sem,Oid.ab hw,Oid.aa hw,Oid.ab hpp,Oid.aa hpp,c3,decide_true,decide_false,ne_eq,not_true_eq_false,not_false_eq_true]
  refine hC _ _ _ (bQ 18 _) (fun _ h=>by cases h) (fun _ _ h=>h.elim) ?_
  rintro _ _ ⟨rfl,rfl⟩
  exact bZ (by simp [inR,inE,c1,c2,c3]) (hmem _)
 refine qr .o (ai (uu hw) (ai (uu hpp) c3)) (cq (bw 18 _) trivial) ?_
 exact bC (jW (v:=.tuple []) rfl (by simp [inR,inE,c1,c2,c3]) (hmem _))
end Go.Proofs.YtngffmnomciogaaGreatDoor
namespace Go.Proofs.YtngffmnomciogaaGreatDoor
open Go Go.Ab
set_option maxRecDepth 20000
set_option maxHeartbeats 4000000
def unR {α:Type}:Rs α→Rs AV
 | .err e=>.err e
 | .go _=>.go (.tuple [])
def stU (wk pp:Oid) (fol:Bool):Rs Wk→List (Oid × Option aj)
 | .err _=>[(wk,none)]
 | .go w=>[(wk,some (wkC pp fol w))]
theorem R8 {a:Oid} {o o':aj} {m:Mem} (h:m a=some o'):∀ i q,((Mem.of [(a,o)]).aF [(a,some o')]) i=some q→m i=some q:=fun i q k=>by
 simp only [Mem.of,Mem.aF,Mem.set,Mem.emp] at k
 split at k
 ·rename_i e;rw [e,h];exact k
 ·first|cases k|(split at k<;>first|contradiction|cases k)
theorem rF {a:Oid} {o:aj} {m:Mem}:∀ i q,((Mem.of [(a,o)]).aF [(a,none)]) i=some q→m i=some q:=fun i q k=>by
 simp only [Mem.of,Mem.aF,Mem.set,Mem.emp] at k
 split at k
 ·cases k
 ·first|cases k|(split at k<;>first|contradiction|cases k)
theorem R9 {wk pp:Oid} (fol:Bool) (w:Wk) (d:Str) (hl:w.links≤8) (hd:d.length≤4000000) (ht:w.todo.length≤4000000) (p:Oid) (hw:¬ Oid.under p wk) :
  db 189 [.ptr wk 0,.str d] (Oid.under p) [(wk,wkC pp fol w)] (unR (eD w w.todo d)) (stU wk pp fol (eD w w.todo d)):=by
 obtain ⟨pl,t,l,dir⟩:=w
 simp only at hl ht
 have hpc:=fun p=>nZ d (by omega) p
 have hpl:(cu d).length≤d.length+1:=by
  have h1:=ml 47 d
  have h2:=List.length_filter_le (fun t:Str=>!t.isEmpty) (aW 47 d)
  unfold cu;omega
 have hsf:=fun p=>eR d (by omega) p
 unfold wkC
 refine fZ (n:=52) (rs:=[]) Tryz.func189 rfl rfl (by decide) rfl rfl rfl ?_;rintro x rfl hrd hng
 refine qr .o (uu hw) trivial ?_
 by_cases c1:8 < l+1
 ·have e1:¬ (l:Int)+1≤8:=by omega
  have hL:eD ⟨pl,t,l,dir⟩ t d = .err 17:=by simp only [eD,if_pos c1]
  simp only [hL]
  refine ay nmd [] hng (by kernel_rfl) fun hf C S K hC1 hC hS hK=>?_;simp (disch:=first|omega|assumption) only [go_sem,Oid.ab hw,Oid.aa hw,e1,decide_false]
  refine hC _ _ _ (bQ 17 _) (fun _ h=>by cases h) (fun _ _ h=>h.elim) ?_
  rintro _ _ ⟨rfl,rfl⟩
  exact bZ rfl rF
 have e1:(l:Int)+1≤8:=by omega
 refine qr .o (ai (uu hw) e1) (cq (bw 17 _) trivial) ?_
 by_cases c2:d=[]
 ·have hL:eD ⟨pl,t,l,dir⟩ t d = .err 10:=by simp only [eD,if_neg c1,if_pos c2]
  simp only [hL]
  refine ay nmd [] hng (by kernel_rfl) fun hf C S K hC1 hC hS hK=>?_;simp (disch:=first|omega|assumption) only [go_sem,Oid.ab hw,Oid.aa hw,c2,decide_true,decide_false,ne_eq,not_true_eq_false,not_false_eq_true]
  refine hC _ _ _ (bQ 10 _) (fun _ h=>by cases h) (fun _ _ h=>h.elim) ?_
  rintro _ _ ⟨rfl,rfl⟩
  exact bZ rfl rF
 have hL:eD ⟨pl,t,l,dir⟩ t d = .go ⟨if d.getD 0 0=47 then [] else pl,cu d++t,l+1,dir || (decide (t=[]) && fj d)⟩:=by simp only [eD,if_neg c1,if_neg c2]
 simp only [hL]
 have hpx:=fun p=>nh d c2 (by omega) p
 generalize fj d=ed at hsf hL
 refine qr .o (ai (uu hw) c2) (cq (bw 10 _) trivial) ?_
 (repeat (first|(refine aB rfl rfl ?_)|(refine aC rfl rfl ?_)|(refine ay nmd [] hng (by kernel_rfl) fun hf C S K hC1 hC hS hK=>?_;simp (disch:=first|omega|assumption) only [go_sem,List.length_map];refine hK ?_;clear hK hS hC hC1 K S C hf)|((first|refine zn ?_|refine ze ?_|refine zk ?_);with_reducible (constructor;repeat constructor);try refine zl ?_)))
 refine dE [0,1] (fun s'=>∃ c':Nat,s' = ⟨[(0,.ptr wk 0),(1,.str d)],Mem.of [(wk,.cells [.ptr pp 0,.str pl,.list 1 (t.map AV.str),.int .i64 ((l:Int)+1),.bool fol,.bool (dir || (decide (t=[]) && ed))])],c',[]⟩) ?_ ?_
 ·refine bs rfl rfl (fun hb=>?_) (fun hb=>?_)
  ·obtain rfl:t=[]:=List.eq_nil_of_length_eq_zero (by omega)
   cases dir with
   | true =>
    refine qr (.d [] [(5,31)] []) (uu hw) trivial ?_
    exact aR ⟨_,rfl⟩
   | false =>
    refine qr (.d [] [(5,31)] []) (uu hw) (cq (hsf _) trivial) ?_
    exact aR ⟨_,rfl⟩
  ·have ht0:¬ t=[]:=fun e=>hb (by rw [e];rfl)
   refine qw0 ?_
   rw [decide_eq_false ht0,Bool.false_and,Bool.or_false]
   exact aR ⟨_,rfl⟩
 rintro s' ⟨c,rfl⟩
 (repeat (first|(refine aB rfl rfl ?_)|(refine aC rfl rfl ?_)|(refine ay nmd [] hng (by kernel_rfl) fun hf C S K hC1 hC hS hK=>?_;simp (disch:=first|omega|assumption) only [go_sem];(repeat ((first|refine hC1 _ (hpx _) (by simp (disch:=first|omega|assumption) only [go_sem]) ?_);simp (disch:=first|omega|assumption) only [go_sem]));refine hK ?_;clear hK hS hC hC1 K S C hf)|((first|refine zn ?_|refine ze ?_|refine zk ?_);with_reducible (constructor;repeat constructor);try refine zl ?_)))
 refine dE [0,1] (fun s'=>∃ c':Nat,s' = ⟨[(0,.ptr wk 0),(1,.str d)],Mem.of [(wk,.cells [.ptr pp 0,.str (if d.getD 0 0=47 then [] else pl),.list 1 (t.map AV.str),.int .i64 ((l:Int)+1),.bool fol,.bool (dir || (decide (t=[]) && ed))])],c',[]⟩) ?_ ?_
 ·refine bs rfl rfl (fun hb=>?_) (fun hb=>?_)
  ·refine qw (uu hw) ?_
   rw [if_pos hb]
   exact aR ⟨_,rfl⟩
  ·refine qw0 ?_
   rw [if_neg hb]
   exact aR ⟨_,rfl⟩
 clear c
 rintro s' ⟨c,rfl⟩
 have hw2:¬ Oid.under (.sub 1 1 (.sub c 2 x.p)) wk:=fun h=>hw (Oid.ae (Oid.ae h))
 refine mx ?_
 (try ((first|refine zn ?_|refine ze ?_|refine zk ?_);with_reducible (constructor;repeat constructor));try refine zl ?_)
 refine cD nmd [] [(2,6)] mixed hng (by kernel_rfl) [] fun hf C S K hC hS hK=>?_;simp (disch:=first|omega|assumption) only [go_sem,Oid.ab hw,Oid.aa hw,List.length_map]
 refine hC _ (hpc _) qs0 ?_
 simp (disch:=first|omega|assumption) only [go_sem,Oid.ab hw,Oid.aa hw,List.length_map,Oid.ab hw2,Oid.aa hw2]
 (first|refine hK (aJ rfl) ?_|refine hK (by simp (disch:=first|omega|assumption) only [go_sem,List.reverse_cons,List.reverse_nil,ne_eq,not_false_eq_true,implies_true]) ?_);clear hK hS hC K S C hf
 refine bC (gh (.sub c 7 x.p) wk 1 (List.map AV.str (cu d)++List.map AV.str t) _ [.ptr pp 0,.str (if d.getD 0 0=47 then [] else pl),.list 1 (List.map AV.str (cu d)++List.map AV.str t),.int .i64 ((l:Int)+1),.bool fol,.bool (dir || (decide (t=[]) && ed))]
  (by simp [Mem.ao,Oid.ab hw,Oid.aa hw]) (by simp [Mem.ao];rfl) (by simp [Oid.ab hw,Oid.aa hw]) (.keep (.keep (.fS (by simp) (.keep (.keep (.keep .nil)))))) (.now (jW (v:=.tuple []) rfl rfl (R8 ?_))))
 simp only [Mem.set,if_true,wkC,List.map_append]
 rfl
end Go.Proofs.YtngffmnomciogaaGreatDoor
namespace Go.Proofs.YtngffmnomciogaaGreatDoor
open Go Go.Ab
set_option maxRecDepth 20000
set_option maxHeartbeats 4000000
def stR (x:Rds × Rs Wk):Rs AV:=unR x.2
def stM (wk pp:Oid) (fol:Bool) (N:List Oid) (F:Oid→aj) (r:Rs Wk):List (Oid × Option aj):=stU wk pp fol r++sb N F
section
variable {wk pp:Oid} {o o' q:aj} {N:List Oid} {F G:Oid→aj} {m:Mem}
theorem pG (fol:Bool) (w:Wk) (h1:m wk=some (wkC pp fol w)) (h2:m pp=some q) (h3:∀ x,x ∈ bk (N,G)→m x.1=some x.2) :
  ∀ i v,((Mem.of ((wk,o)::(pp,q)::bk (N,F))).aF (stM wk pp fol N G (.go w))) i=some v→m i=some v :=
 eS (A0:=[(wk,o),(pp,q)]) (U:=[(wk,some (wkC pp fol w))]) (fun x hx v h=>by
  rw [List.mem_singleton.1 hx] at h ⊢
  rw [← h];exact h1) (fun x hx h=>by
  simp only [List.mem_cons,List.not_mem_nil,or_false] at hx
  rcases hx with rfl|rfl
  ·exact absurd rfl (h _ (List.mem_singleton.2 rfl))
  ·exact h2) h3
theorem pH (fol:Bool) (e:Int) (h2:m pp=some q) (h3:∀ x,x ∈ bk (N,G)→m x.1=some x.2) :
  ∀ i v,((Mem.of ((wk,o)::(pp,q)::bk (N,F))).aF (stM wk pp fol N G (.err e))) i=some v→m i=some v :=
 eS (A0:=[(wk,o),(pp,q)]) (U:=[(wk,none)]) (fun x hx v h=>by
  rw [List.mem_singleton.1 hx] at h
  cases h) (fun x hx h=>by
  simp only [List.mem_cons,List.not_mem_nil,or_false] at hx
  rcases hx with rfl|rfl
  ·exact absurd rfl (h _ (List.mem_singleton.2 rfl))
  ·exact h2) h3
end
theorem Sa {wk pp st:Oid} {N:List Oid} {F F':Oid→aj} {L:PL} (hL:∀ n,(aI L n).l.length≤4000000) (fol:Bool) (pl n:Str) (t:List Str) (l:Nat) (dir:Bool) (cwd:Str) (um:Int) (h1:¬ wk=pp) (hwN:wk ∉ N) (hpN:pp ∉ N)
  (hl:l≤8) (ht:t.length≤4000000) (hpl:pl.length≤100000000) (hn:n.length≤100000000)
  (hA:RP st N L (bT L fol ⟨pl,n::t,l,dir⟩ n t).1 F F') (p:Oid) (hp:p.mono=false) (hw:¬ Oid.under p wk) (hpp:¬ Oid.under p pp) (hO:aZ p N) :
  db 119 [.ptr wk 0] (Oid.under p) ((wk,wkC pp fol ⟨pl,n::t,l,dir⟩)::(pp,prC st cwd um)::bk (N,F))
   (stR (bT L fol ⟨pl,n::t,l,dir⟩ n t)) (stM wk pp fol N F' (bT L fol ⟨pl,n::t,l,dir⟩ n t).2):=by
 have h2:¬ pp=wk:=fun e=>h1 e.symm
 have hin:∀ F1,RP st N L [(pl,false)] F F1→∀ p,p.mono=false→¬ Oid.under p wk→¬ Oid.under p pp→aZ p N→db 188 [.ptr wk 0] (Oid.under p) ((wk,wkC pp fol ⟨pl,t,l,dir⟩)::(pp,prC st cwd um)::bk (N,F)) (inR (aI L pl)) (sb N F1) :=
  fun F1 h p hp hw hpp hO=>xG fol ⟨pl,t,l,dir⟩ cwd um h1 hwN hpN h p hp hw hpp hO
 have hab:=fun p=>rE pl (by omega) p
 have hal:=jq pl
 by_cases c0:inE (aI L pl)=0
 case neg =>
  have hS:bT L fol ⟨pl,n::t,l,dir⟩ n t=([(pl,false)],.err (inE (aI L pl))):=by simp only [bT,if_pos c0]
  rw [hS] at hA ⊢
  have hin':=hin _ hA
  unfold inR at hin'
  simp only [if_neg c0] at hin'
  generalize inE (aI L pl)=e at hin' hS ⊢
  unfold wkC prC at hin' ⊢
  refine fZ (n:=96) (rs:=[]) Tryz.func119 rfl rfl (by decide) rfl rfl rfl ?_;rintro x rfl hrd hng
  rw [cK]
  refine qr .o (ai (uu hw) (ai (uu hpp) (ai h1 h2))) trivial ?_
  refine qr .o (ai (uu hw) (ai (uu hpp) (ai h1 h2))) trivial ?_
  refine ay nmd [] hng (by kernel_rfl) fun hf C S K hC1 hC hS hK=>?_;simp (disch:=first|omega|assumption) only [go_sem,Oid.ab hw,Oid.aa hw,Oid.ab hpp,Oid.aa hpp,h1,h2]
  refine hC _ _ _ (db.pn (hin' _ (ar rfl hp) (fun h=>hw (Oid.ae h)) (fun h=>hpp (Oid.ae h)) (hO.sub _ _)) rfl) ?_ (fun _ _ h=>h.elim) ?_
  ·exact (by simp only [List.mem_cons,forall_eq_or_imp];exact ⟨by simp (disch:=first|omega|assumption) only [go_sem,Oid.ab hw,Oid.aa hw,Oid.ab hpp,Oid.aa hpp,h1,h2,hwN,hpN,hO],by simp (disch:=first|omega|assumption) only [go_sem,Oid.ab hw,Oid.aa hw,Oid.ab hpp,Oid.aa hpp,h1,h2,hwN,hpN,hO],(by first|exact nbu _|exact nbA (by simp [hwN,hpN,hO.mem]) _)⟩)
  ·rintro _ _ ⟨rfl,rfl⟩
   exact bZ rfl (pH fol e (by show _=some _;simp (disch:=first|omega|assumption) only [go_sem,Oid.ab hw,Oid.aa hw,Oid.ab hpp,Oid.aa hpp,h1,h2,hwN,hpN,hO]) (by first|exact nbu _|exact nbA (by simp [hwN,hpN,hO.mem]) _))
 have hi0:∀ (rd:Rds) (r:Rs Wk),bT L fol ⟨pl,n::t,l,dir⟩ n t=((pl,false)::rd,r)→∃ F1,RP st N L rd F1 F'∧∀ p,p.mono=false→¬ Oid.under p wk→¬ Oid.under p pp→aZ p N→aq Tryz.prog 188 [.ptr wk 0] (Oid.under p) ⟨(wk,wkC pp fol ⟨pl,t,l,dir⟩)::(pp,prC st cwd um)::bk (N,F),.tuple [],sb N F1⟩:=fun rd r hS=>by
  rw [hS] at hA
  obtain ⟨F1,k1,k2⟩:=hA
  refine ⟨F1,k2,fun p hp hw hpp hO=>db.ok (hin F1 ⟨F1,k1,rfl⟩ p hp hw hpp hO) ?_⟩
  unfold inR;rw [if_pos c0]
 by_cases c1:32 < n.length
 ·have hS:bT L fol ⟨pl,n::t,l,dir⟩ n t=([(pl,false)],.err 2):=by simp only [bT,c0,not_true_eq_false,if_false,if_pos c1]
  obtain ⟨F1,rfl,hin'⟩:=hi0 _ _ hS
  rw [hS]
  have e1:¬ (n.length:Int)≤32:=by omega
  unfold wkC prC at hin' ⊢
  refine fZ (n:=96) (rs:=[]) Tryz.func119 rfl rfl (by decide) rfl rfl rfl ?_;rintro x rfl hrd hng
  rw [cK]
  refine kr .o (ai (uu hw) (ai h1 (ai h2 hwN))) trivial ?_
  refine kr .o (ai (uu hw) (ai h1 (ai h2 hwN))) trivial ?_
  refine ay nmd [] hng (by kernel_rfl) fun hf C S K hC1 hC hS hK=>?_;simp (disch:=first|omega|assumption) only [go_sem,Oid.ab hw,Oid.aa hw,Oid.ab hpp,Oid.aa hpp,h1,h2,hwN,hpN,hO]
  refine hC1 _ (hin' _ (ar rfl hp) (fun h=>hw (Oid.ae h)) (fun h=>hpp (Oid.ae h)) (hO.sub _ _)) (by simp only [List.mem_cons,forall_eq_or_imp];exact ⟨by simp (disch:=first|omega|assumption) only [go_sem,Oid.ab hw,Oid.aa hw,Oid.ab hpp,Oid.aa hpp,h1,h2,hwN,hpN,hO],by simp (disch:=first|omega|assumption) only [go_sem,Oid.ab hw,Oid.aa hw,Oid.ab hpp,Oid.aa hpp,h1,h2,hwN,hpN,hO],(by first|exact nbu _|exact nbA (by simp [hwN,hpN,hO.mem]) _)⟩) ?_
  simp (disch:=first|omega|assumption) only [go_sem,Oid.ab hw,Oid.aa hw,Oid.ab hpp,Oid.aa hpp,h1,h2,hwN,hpN,hO]
  refine hK ?_;clear hK hS hC hC1 K S C hf
  (try ((first|refine zn ?_|refine ze ?_|refine zk ?_);with_reducible (constructor;repeat constructor));try refine zl ?_)
  refine ay nmd [] hng (by kernel_rfl) fun hf C S K hC1 hC hS hK=>?_;simp (disch:=first|omega|assumption) only [go_sem,Oid.ab hw,Oid.aa hw,Oid.ab hpp,Oid.aa hpp,h1,h2,hwN,hpN,hO,e1,decide_true,decide_false,ne_eq,not_true_eq_false,not_false_eq_true]
  refine hC _ _ _ (bQ 2 _) (fun _ h=>by cases h) (fun _ _ h=>h.elim) ?_
  rintro _ _ ⟨rfl,rfl⟩
  exact bZ rfl (pH fol 2 (by show _=some _;simp (disch:=first|omega|assumption) only [go_sem,Oid.ab hw,Oid.aa hw,Oid.ab hpp,Oid.aa hpp,h1,h2,hwN,hpN,hO]) (by first|exact nbu _|exact nbA (by simp [hwN,hpN,hO.mem]) _))
 have e1:(n.length:Int)≤32:=by omega
 by_cases c2:n=[46]
 ·have hS:bT L fol ⟨pl,n::t,l,dir⟩ n t=([(pl,false)],.go ⟨pl,t,l,dir⟩):=by simp only [bT,c0,not_true_eq_false,if_false,if_neg c1,if_pos c2]
  obtain ⟨F1,rfl,hin'⟩:=hi0 _ _ hS
  rw [hS]
  unfold prC at hin' ⊢
  unfold wkC at hin'
  refine fZ (n:=96) (rs:=[]) Tryz.func119 rfl rfl (by decide) rfl rfl rfl ?_;rintro x rfl hrd hng
  rw [cK]
  simp only [wkC]
  refine kr .o (ai (uu hw) (ai h1 (ai h2 hwN))) trivial ?_
  refine kr .o (ai (uu hw) (ai h1 (ai h2 hwN))) trivial ?_
  refine ay nmd [] hng (by kernel_rfl) fun hf C S K hC1 hC hS hK=>?_;simp (disch:=first|omega|assumption) only [go_sem,Oid.ab hw,Oid.aa hw,Oid.ab hpp,Oid.aa hpp,h1,h2,hwN,hpN,hO]
  refine hC1 _ (hin' _ (ar rfl hp) (fun h=>hw (Oid.ae h)) (fun h=>hpp (Oid.ae h)) (hO.sub _ _)) (by simp only [List.mem_cons,forall_eq_or_imp];exact ⟨by simp (disch:=first|omega|assumption) only [go_sem,Oid.ab hw,Oid.aa hw,Oid.ab hpp,Oid.aa hpp,h1,h2,hwN,hpN,hO],by simp (disch:=first|omega|assumption) only [go_sem,Oid.ab hw,Oid.aa hw,Oid.ab hpp,Oid.aa hpp,h1,h2,hwN,hpN,hO],(by first|exact nbu _|exact nbA (by simp [hwN,hpN,hO.mem]) _)⟩) ?_
  simp (disch:=first|omega|assumption) only [go_sem,Oid.ab hw,Oid.aa hw,Oid.ab hpp,Oid.aa hpp,h1,h2,hwN,hpN,hO]
  refine hK ?_;clear hK hS hC hC1 K S C hf
  refine kr .o (ai (uu hw) (ai h1 (ai h2 (ai hwN e1)))) (cq (bw 2 _) trivial) ?_
  refine qw c2 ?_
  exact aE (pF (v:=.tuple []) rfl rfl (pG fol ⟨pl,t,l,dir⟩ (by show _=some (wkC _ _ _);simp only [wkC];simp (disch:=first|omega|assumption) only [go_sem,Oid.ab hw,Oid.aa hw,Oid.ab hpp,Oid.aa hpp,h1,h2,hwN,hpN,hO]) (by show _=some _;simp (disch:=first|omega|assumption) only [go_sem,Oid.ab hw,Oid.aa hw,Oid.ab hpp,Oid.aa hpp,h1,h2,hwN,hpN,hO]) (by first|exact nbu _|exact nbA (by simp [hwN,hpN,hO.mem]) _)))
 by_cases c3:n=[46,46]
 ·have hS:bT L fol ⟨pl,n::t,l,dir⟩ n t=([(pl,false)],.go ⟨bg pl,t,l,dir⟩):=by simp only [bT,c0,not_true_eq_false,if_false,if_neg c1,if_neg c2,if_pos c3]
  obtain ⟨F1,rfl,hin'⟩:=hi0 _ _ hS
  rw [hS]
  unfold prC at hin' ⊢
  unfold wkC at hin'
  refine fZ (n:=96) (rs:=[]) Tryz.func119 rfl rfl (by decide) rfl rfl rfl ?_;rintro x rfl hrd hng
  rw [cK]
  simp only [wkC]
  refine kr .o (ai (uu hw) (ai h1 (ai h2 hwN))) trivial ?_
  refine kr .o (ai (uu hw) (ai h1 (ai h2 hwN))) trivial ?_
  refine ay nmd [] hng (by kernel_rfl) fun hf C S K hC1 hC hS hK=>?_;simp (disch:=first|omega|assumption) only [go_sem,Oid.ab hw,Oid.aa hw,Oid.ab hpp,Oid.aa hpp,h1,h2,hwN,hpN,hO]
  refine hC1 _ (hin' _ (ar rfl hp) (fun h=>hw (Oid.ae h)) (fun h=>hpp (Oid.ae h)) (hO.sub _ _)) (by simp only [List.mem_cons,forall_eq_or_imp];exact ⟨by simp (disch:=first|omega|assumption) only [go_sem,Oid.ab hw,Oid.aa hw,Oid.ab hpp,Oid.aa hpp,h1,h2,hwN,hpN,hO],by simp (disch:=first|omega|assumption) only [go_sem,Oid.ab hw,Oid.aa hw,Oid.ab hpp,Oid.aa hpp,h1,h2,hwN,hpN,hO],(by first|exact nbu _|exact nbA (by simp [hwN,hpN,hO.mem]) _)⟩) ?_
  simp (disch:=first|omega|assumption) only [go_sem,Oid.ab hw,Oid.aa hw,Oid.ab hpp,Oid.aa hpp,h1,h2,hwN,hpN,hO]
  refine hK ?_;clear hK hS hC hC1 K S C hf
  refine kr .o (ai (uu hw) (ai h1 (ai h2 (ai hwN e1)))) (cq (bw 2 _) trivial) ?_
  refine qw c3 ?_
  refine kr .o (ai (uu hw) (ai h1 (ai h2 hwN))) (cq (hab _) trivial) ?_
  exact aE (pF (v:=.tuple []) rfl rfl (pG fol ⟨bg pl,t,l,dir⟩ (by show _=some (wkC _ _ _);simp only [wkC];simp (disch:=first|omega|assumption) only [go_sem,Oid.ab hw,Oid.aa hw,Oid.ab hpp,Oid.aa hpp,h1,h2,hwN,hpN,hO]) (by show _=some _;simp (disch:=first|omega|assumption) only [go_sem,Oid.ab hw,Oid.aa hw,Oid.ab hpp,Oid.aa hpp,h1,h2,hwN,hpN,hO]) (by first|exact nbu _|exact nbA (by simp [hwN,hpN,hO.mem]) _)))
 have hS:bT L fol ⟨pl,n::t,l,dir⟩ n t=([(pl,false),(pl++(47::n),false)],goF L fol ⟨pl,n::t,l,dir⟩ n t):=by simp only [bT,c0,not_true_eq_false,if_false,if_neg c1,if_neg c2,if_neg c3,ig]
 obtain ⟨F1,⟨F2,hat,rfl⟩,hin'⟩:=hi0 _ _ hS
 have hat':∀ p,p.mono=false→aZ p N→aq Tryz.prog 64 [.ptr st 0,.str (pl++(47::n))] (Oid.under p) ⟨bk (N,F1),(aI L (pl++(47::n))).av,sb N F2⟩:=hat
 rw [hS]
 have hdl:=hL (pl++(47::n))
 have hgo:goF L fol ⟨pl,n::t,l,dir⟩ n t=if (aI L (pl++(47::n))).k=3∧(¬ t=[]∨fol=true∨dir=true) then eD ⟨pl,n::t,l,dir⟩ t (aI L (pl++(47::n))).l
  else if ¬ t=[]∧(aI L (pl++(47::n))).k=0 then .err 10 else .go ⟨pl++(47::n),t,l,dir⟩:=rfl
 rw [hgo]
 clear hgo hS hin hat hi0
 generalize aI L (pl++(47::n))=B at hat' hdl ⊢
 obtain ⟨ek,em,el⟩:=B
 simp only [Bits.av] at hat' hdl ⊢
 have hlk:=fun p=>R9 (wk:=wk) (pp:=pp) fol ⟨pl,t,l,dir⟩ el hl hdl ht p
 have hlf:eD ⟨pl,n::t,l,dir⟩ t el=eD ⟨pl,t,l,dir⟩ t el:=rfl
 rw [hlf]
 simp only at hlk
 unfold prC at hin' ⊢
 unfold wkC at hin' hlk
 refine fZ (n:=96) (rs:=[]) Tryz.func119 rfl rfl (by decide) rfl rfl rfl ?_;rintro x rfl hrd hng
 rw [cK]
 simp only [wkC]
 refine kr .o (ai (uu hw) (ai h1 (ai h2 hwN))) trivial ?_
 refine kr .o (ai (uu hw) (ai h1 (ai h2 hwN))) trivial ?_
 refine ay nmd [] hng (by kernel_rfl) fun hf C S K hC1 hC hS hK=>?_;simp (disch:=first|omega|assumption) only [go_sem,Oid.ab hw,Oid.aa hw,Oid.ab hpp,Oid.aa hpp,h1,h2,hwN,hpN,hO]
 refine hC1 _ (hin' _ (ar rfl hp) (fun h=>hw (Oid.ae h)) (fun h=>hpp (Oid.ae h)) (hO.sub _ _)) (by simp only [List.mem_cons,forall_eq_or_imp];exact ⟨by simp (disch:=first|omega|assumption) only [go_sem,Oid.ab hw,Oid.aa hw,Oid.ab hpp,Oid.aa hpp,h1,h2,hwN,hpN,hO],by simp (disch:=first|omega|assumption) only [go_sem,Oid.ab hw,Oid.aa hw,Oid.ab hpp,Oid.aa hpp,h1,h2,hwN,hpN,hO],(by first|exact nbu _|exact nbA (by simp [hwN,hpN,hO.mem]) _)⟩) ?_
 simp (disch:=first|omega|assumption) only [go_sem,Oid.ab hw,Oid.aa hw,Oid.ab hpp,Oid.aa hpp,h1,h2,hwN,hpN,hO]
 refine hK ?_;clear hK hS hC hC1 K S C hf
 refine kr .o (ai (uu hw) (ai h1 (ai h2 (ai hwN e1)))) (cq (bw 2 _) trivial) ?_
 have hcat:pl++[47]++n=pl++(47::n):=by simp
 refine kw (ai (uu hw) (ai h1 (ai h2 (ai hwN (ai c2 (ai c3 hcat)))))) ?_
 refine kr .o (ai (uu hw) (ai h1 (ai h2 hwN))) (cq hat' trivial) ?_
 (repeat (first|(refine aB rfl rfl ?_)|(refine aC rfl rfl ?_)|(refine ay nmd [] hng (by kernel_rfl) fun hf C S K hC1 hC hS hK=>?_;simp (disch:=first|omega|assumption) only [go_sem,Oid.ab hw,Oid.aa hw,Oid.ab hpp,Oid.aa hpp,h1,h2,hwN,hpN,hO,List.length_map];refine hK ?_;clear hK hS hC hC1 K S C hf)|((first|refine zn ?_|refine ze ?_|refine zk ?_);with_reducible (constructor;repeat constructor);try refine zl ?_)))
 rw [show decide ((t.length:Int)=0)=decide (t=[]) from decide_eq_decide.2 ⟨fun h=>List.eq_nil_of_length_eq_zero (by omega),fun h=>by rw [h];rfl⟩]
 refine dE [0,3,4,5,72] (fun s'=>∃ c':Nat,s' = ⟨[(0,.ptr wk 0),(3,.str (pl++(47::n))),(4,.ptr (.sub 8 9 x.p) 0),(5,.bool (decide (t=[]))),(72,.bool (decide (ek=3∧(¬ t=[]∨fol=true∨dir=true))))],Mem.blk [(wk,.cells [.ptr pp 0,.str pl,.list 1 (t.map AV.str),.int .i64 l,.bool fol,.bool dir]),(pp,.cells [.ptr st 0,.str cwd,.int .i64 um]),(.sub 8 9 x.p,.cells [.int .i64 ek,.int .i64 em,.str el])] [(N,F2)],c',[]⟩∧8 < c') ?_ ?_
 ·by_cases k3:ek=3
  ·cases t with
   | cons t0 tr =>
    rw [show decide (ek=3∧(¬ (t0::tr)=[]∨fol=true∨dir=true))=true from by simp [k3]]
    refine kr (.d [] [(3,76),(6,79),(12,85)] []) (ai (uu hw) (ai h1 (ai h2 (ai hwN k3)))) trivial ?_
    exact aR ⟨_,by rw [k3];rfl,by omega⟩
   | nil =>
    rw [show decide (ek=3∧(¬ ([]:List Str)=[]∨fol=true∨dir=true))=(fol || dir) from by cases fol<;>cases dir<;>simp [k3]]
    cases fol with
    | true =>
     refine kr (.d [] [(3,76),(6,79),(12,85)] []) (ai (uu hw) (ai h1 (ai h2 (ai hwN k3)))) trivial ?_
     exact aR ⟨_,by rw [k3];rfl,by omega⟩
    | false =>
     cases dir with
     | true =>
      refine kr (.d [] [(3,76),(6,79),(12,85)] []) (ai (uu hw) (ai h1 (ai h2 (ai hwN k3)))) trivial ?_
      exact aR ⟨_,by rw [k3];rfl,by omega⟩
     | false =>
      refine kr (.d [] [(3,76),(6,79),(12,85)] []) (ai (uu hw) (ai h1 (ai h2 (ai hwN k3)))) trivial ?_
      exact aR ⟨_,by rw [k3];rfl,by omega⟩
  ·rw [show decide (ek=3∧(¬ t=[]∨fol=true∨dir=true))=false from by simp [k3]]
   refine kr (.d [] [(3,76),(6,79),(12,85)] []) (ai (uu hw) (ai h1 (ai h2 (ai hwN k3)))) trivial ?_
   exact aR ⟨_,rfl,by omega⟩
 rintro s' ⟨c,rfl,hc⟩
 by_cases k3:ek=3∧(¬ t=[]∨fol=true∨dir=true)
 ·rw [decide_eq_true k3,if_pos k3]
  (try ((first|refine zn ?_|refine ze ?_|refine zk ?_);with_reducible (constructor;repeat constructor));try refine zl ?_)
  refine aB rfl rfl ?_
  generalize eD ⟨pl,t,l,dir⟩ t el=LR at hlk
  cases LR with
  | err e =>
   (try ((first|refine zn ?_|refine ze ?_|refine zk ?_);with_reducible (constructor;repeat constructor));try refine zl ?_)
   refine ay nmd [] hng (by kernel_rfl) fun hf C S K hC1 hC hS hK=>?_;simp (disch:=first|omega|assumption) only [go_sem,Oid.ab hw,Oid.aa hw,Oid.ab hpp,Oid.aa hpp,h1,h2,hwN,hpN,hO]
   refine hC _ _ _ (db.pn (hlk _ (fun h=>hw (Oid.ae h))) rfl) (by simp only [List.mem_singleton,forall_eq];simp (disch:=first|omega|assumption) only [go_sem,Oid.ab hw,Oid.aa hw,Oid.ab hpp,Oid.aa hpp,h1,h2,hwN,hpN,hO]) (fun _ _ h=>h.elim) ?_
   rintro _ _ ⟨rfl,rfl⟩
   refine bZ rfl (pH fol e ?_ ?_)
   ·show (Mem.set _ wk none) pp=_
    simp only [Mem.set,if_neg h2];simp (disch:=first|omega|assumption) only [go_sem,Oid.ab hw,Oid.aa hw,Oid.ab hpp,Oid.aa hpp,h1,h2,hwN,hpN,hO]
   ·intro y hy
    show (Mem.set _ wk none) y.1=_
    simp only [Mem.set]
    rw [if_neg fun e:y.1=wk=>hwN (e ▸ (b8.1 hy).1)]
    exact nbA (by simp [hwN,hpN,hO.mem]) _ y hy
  | go w' =>
   (try ((first|refine zn ?_|refine ze ?_|refine zk ?_);with_reducible (constructor;repeat constructor));try refine zl ?_)
   refine ay nmd [] hng (by kernel_rfl) fun hf C S K hC1 hC hS hK=>?_;simp (disch:=first|omega|assumption) only [go_sem,Oid.ab hw,Oid.aa hw,Oid.ab hpp,Oid.aa hpp,h1,h2,hwN,hpN,hO]
   refine hC1 _ (db.ok (hlk _ (fun h=>hw (Oid.ae h))) rfl) (by simp only [List.mem_singleton,forall_eq];simp (disch:=first|omega|assumption) only [go_sem,Oid.ab hw,Oid.aa hw,Oid.ab hpp,Oid.aa hpp,h1,h2,hwN,hpN,hO]) ?_
   simp only [stU]
   simp (disch:=first|omega|assumption) only [go_sem,Oid.ab hw,Oid.aa hw,Oid.ab hpp,Oid.aa hpp,h1,h2,hwN,hpN,hO]
   refine hK ?_;clear hK hS hC hC1 K S C hf
   (try ((first|refine zn ?_|refine ze ?_|refine zk ?_);with_reducible (constructor;repeat constructor));try refine zl ?_)
   refine bC (jW (v:=.tuple []) rfl rfl (pG fol w' ?_ ?_ ?_))
   ·simp (disch:=first|omega|assumption) only [go_sem,Oid.ab hw,Oid.aa hw,Oid.ab hpp,Oid.aa hpp,h1,h2,hwN,hpN,hO]
   ·simp (disch:=first|omega|assumption) only [go_sem,Oid.ab hw,Oid.aa hw,Oid.ab hpp,Oid.aa hpp,h1,h2,hwN,hpN,hO]
   ·exact (by first|exact nbu _|exact nbA (by simp [hwN,hpN,hO.mem]) _)
 ·rw [decide_eq_false k3,if_neg k3]
  (try ((first|refine zn ?_|refine ze ?_|refine zk ?_);with_reducible (constructor;repeat constructor));try refine zl ?_)
  refine aC rfl rfl ?_
  by_cases k4:¬ t=[]∧ek=0
  ·rw [if_pos k4]
   have ht0:=k4.1
   have he0:=k4.2
   (try ((first|refine zn ?_|refine ze ?_|refine zk ?_);with_reducible (constructor;repeat constructor));try refine zl ?_)
   refine ay nmd [(1,62)] hng (by kernel_rfl) fun hf C S K hC1 hC hS hK=>?_;simp (disch:=first|omega|assumption) only [go_sem,Oid.ab hw,Oid.aa hw,Oid.ab hpp,Oid.aa hpp,h1,h2,hwN,hpN,hO,ht0,he0,decide_true,decide_false,ne_eq,not_true_eq_false,not_false_eq_true]
   refine hC _ _ _ (bQ 10 _) (fun _ h=>by cases h) (fun _ _ h=>h.elim) ?_
   rintro _ _ ⟨rfl,rfl⟩
   exact bZ rfl (pH fol 10 (by show _=some _;simp (disch:=first|omega|assumption) only [go_sem,Oid.ab hw,Oid.aa hw,Oid.ab hpp,Oid.aa hpp,h1,h2,hwN,hpN,hO]) (by first|exact nbu _|exact nbA (by simp [hwN,hpN,hO.mem]) _))
  ·rw [if_neg k4]
   (try ((first|refine zn ?_|refine ze ?_|refine zk ?_);with_reducible (constructor;repeat constructor));try refine zl ?_)
   refine dE [0,3] (fun s'=>∃ c':Nat,s' = ⟨[(0,.ptr wk 0),(3,.str (pl++(47::n)))],Mem.blk [(wk,.cells [.ptr pp 0,.str pl,.list 1 (t.map AV.str),.int .i64 l,.bool fol,.bool dir]),(pp,.cells [.ptr st 0,.str cwd,.int .i64 um]),(.sub 8 9 x.p,.cells [.int .i64 ek,.int .i64 em,.str el])] [(N,F2)],c',[]⟩∧8 < c') ?_ ?_
   ·by_cases ht0:t=[]
    ·refine kr (.d [] [(1,62)] []) (ai (uu hw) (ai h1 (ai h2 (ai hwN ht0)))) (cq (bw 10 _) trivial) ?_
     exact aR ⟨_,by simp only [ht0];rfl,by omega⟩
    ·have he0:¬ ek=0:=fun e=>k4 ⟨ht0,e⟩
     refine kr (.d [] [(1,62)] []) (ai (uu hw) (ai h1 (ai h2 (ai hwN (ai ht0 he0))))) (cq (bw 10 _) trivial) ?_
     exact aR ⟨_,rfl,by omega⟩
   clear hc c
   rintro s' ⟨c,rfl,hc⟩
   refine kw (ai (uu hw) (ai h1 (ai h2 hwN))) ?_
   refine bC (jW (v:=.tuple []) rfl rfl (pG fol ⟨pl++(47::n),t,l,dir⟩ ?_ ?_ ?_))
   ·simp only [wkC];simp (disch:=first|omega|assumption) only [go_sem,Oid.ab hw,Oid.aa hw,Oid.ab hpp,Oid.aa hpp,h1,h2,hwN,hpN,hO]
   ·simp (disch:=first|omega|assumption) only [go_sem,Oid.ab hw,Oid.aa hw,Oid.ab hpp,Oid.aa hpp,h1,h2,hwN,hpN,hO]
   ·exact (by first|exact nbu _|exact nbA (by simp [hwN,hpN,hO.mem]) _)
end Go.Proofs.YtngffmnomciogaaGreatDoor
namespace Go.Proofs.YtngffmnomciogaaGreatDoor
open Go Go.Ab
set_option maxRecDepth 20000
set_option maxHeartbeats 4000000
def fdR:Rs (Str × Bits)→Rs AV
 | .err e=>.err e
 | .go a=>.go (.tuple [.str a.1,a.2.av])
theorem gK {pp:Oid} {q:aj} {N:List Oid} {F G:Oid→aj} {m:Mem} (h2:m pp=some q) (h3:∀ x,x ∈ bk (N,G)→m x.1=some x.2):∀ i v,((Mem.of ((pp,q)::bk (N,F))).aF (sb N G)) i=some v→m i=some v :=
 eS (A0:=[(pp,q)]) (U:=[]) (fun x hx=>by cases hx) (fun x hx _=>by rw [List.mem_singleton.1 hx];exact h2) h3
theorem Bq:∀ t:List Str,t.length≤wtF t
 | []=>Nat.le_refl _
 | n::t=>by have:=Bq t;simp only [wtF,List.length_cons];omega
theorem rG {L:PL} {fol:Bool} {w w':Wk} {n:Str} {t:List Str} {rd:Rds} (h:bT L fol w n t=(rd,.go w')) (hl:w.links≤8):w'.links≤8:=by
 unfold bT at h
 split at h;· cases h
 split at h;· cases h
 split at h;· cases h;exact hl
 split at h;· cases h;exact hl
 obtain ⟨-,h⟩:=Prod.mk.inj h
 unfold goF at h
 split at h
 ·unfold eD at h
  split at h;· cases h
  split at h;· cases h
  cases h;simp only;omega
 ·split at h;· cases h
  cases h;exact hl
theorem jX {pp st:Oid} {N:List Oid} {F F':Oid→aj} {L:PL} (hs:aN ltB L) (hlk:jr L) (hL:∀ n,(aI L n).l.length≤4000000) (path cwd:Str) (um:Int) (fol:Bool) (hpN:pp ∉ N) (hc:cwd.length≤1000000) (hpath:path.length≤4000000000)
  (hA:RP st N L (findF L cwd path fol).1 F F') (p:Oid) (hp:p.mono=false) (hpp:¬ Oid.under p pp) (hO:aZ p N) :
  db 53 [.ptr pp 0,.str path,.bool fol] (Oid.under p) ((pp,prC st cwd um)::bk (N,F)) (fdR (findF L cwd path fol).2) (sb N F'):=by
 by_cases c1:path=[]
 ·have hF:findF L cwd path fol=([],.err 10):=by simp only [findF,if_pos c1]
  rw [hF] at hA ⊢
  obtain rfl:F=F':=hA
  unfold prC
  refine fZ (n:=73) (rs:=[.tmp 6,.cell 7 86]) Tryz.func53 rfl rfl (by decide) rfl rfl rfl ?_;rintro x rfl hrd hng
  rw [dV]
  refine kr0 ?_
  refine ay nmd [] hng (by kernel_rfl) fun hf C S K hC1 hC hS hK=>?_;simp (disch:=first|omega|assumption) only [go_sem,Oid.ab hpp,Oid.aa hpp,hpN,hO,c1,decide_true,decide_false,ne_eq,not_true_eq_false,not_false_eq_true]
  refine hC _ _ _ (bQ 10 _) (fun _ h=>by cases h) (fun _ _ h=>h.elim) ?_
  rintro _ _ ⟨rfl,rfl⟩
  exact bZ rfl (gK (by show _=some _;simp (disch:=first|omega|assumption) only [go_sem,Oid.ab hpp,Oid.aa hpp,hpN,hO]) (by first|exact nbu _|exact nbA (by simp [hpN,hO.mem]) _))
 by_cases c2:200 < path.length
 ·have hF:findF L cwd path fol=([],.err 2):=by simp only [findF,if_neg c1,if_pos c2]
  rw [hF] at hA ⊢
  obtain rfl:F=F':=hA
  have e2:¬ (path.length:Int)≤200:=by omega
  unfold prC
  refine fZ (n:=73) (rs:=[.tmp 6,.cell 7 86]) Tryz.func53 rfl rfl (by decide) rfl rfl rfl ?_;rintro x rfl hrd hng
  rw [dV]
  refine kr0 ?_
  refine kr .o c1 (cq (bw 10 _) trivial) ?_
  refine ay nmd [] hng (by kernel_rfl) fun hf C S K hC1 hC hS hK=>?_;simp (disch:=first|omega|assumption) only [go_sem,Oid.ab hpp,Oid.aa hpp,hpN,hO,e2,decide_true,decide_false,ne_eq,not_true_eq_false,not_false_eq_true]
  refine hC _ _ _ (bQ 2 _) (fun _ h=>by cases h) (fun _ _ h=>h.elim) ?_
  rintro _ _ ⟨rfl,rfl⟩
  exact bZ rfl (gK (by show _=some _;simp (disch:=first|omega|assumption) only [go_sem,Oid.ab hpp,Oid.aa hpp,hpN,hO]) (by first|exact nbu _|exact nbA (by simp [hpN,hO.mem]) _))
 have hF:findF L cwd path fol=gJ L (cS L fol (wkW (aP cwd path)) (aP cwd path)):=by simp only [findF,if_neg c1,if_neg c2]
 rw [hF] at hA ⊢
 have e2:(path.length:Int)≤200:=by omega
 obtain ⟨s1,s2⟩:=mF cwd path (by omega)
 have hpc:=fun p=>nZ path (by omega) p
 have hsf:=fun p=>eR path (by omega) p
 have h0l:0 < path.length:=List.length_pos_iff.2 c1
 have hrun:∃ F1,RP st N L (cS L fol (wkW (aP cwd path)) (aP cwd path)).1 F F1 ∧
   match (cS L fol (wkW (aP cwd path)) (aP cwd path)).2 with
   | .err e=>F1=F'∧gJ L (cS L fol (wkW (aP cwd path)) (aP cwd path))=((cS L fol (wkW (aP cwd path)) (aP cwd path)).1,.err e)
   | .go w=>RP st N L [(w.pl,false)] F1 F':=by
  generalize cS L fol (wkW (aP cwd path)) (aP cwd path)=y at hA
  obtain ⟨rd,r⟩:=y
  cases r with
  | err e=>exact ⟨F',hA,rfl,rfl⟩
  | go w=>exact cU hA
 obtain ⟨F1,hrq,hlast⟩:=hrun
 obtain ⟨res,hres⟩:∃ res,(cS L fol (wkW (aP cwd path)) (aP cwd path)).2=res:=⟨_,rfl⟩
 have hfin:(gJ L (cS L fol (wkW (aP cwd path)) (aP cwd path))).2=(gJ L ([],res)).2:=by
  rw [← hres]
  generalize cS L fol (wkW (aP cwd path)) (aP cwd path)=y
  obtain ⟨rd,r⟩:=y
  cases r<;>rfl
 rw [hres] at hlast
 rw [hfin]
 have hw0:(aP cwd path).pl.length+wkW (aP cwd path)≤cwd.length+2617:=by omega
 have hst:aP cwd path=⟨if path.getD 0 0=47 then [] else cwd,cu path,0,fj path⟩:=rfl
 generalize hK:wkW (aP cwd path)=K at hres hrq s2 hfin
 have hKle:wkW (aP cwd path)≤K:=by omega
 clear hfin hF hA
 unfold prC
 refine fZ (n:=73) (rs:=[.tmp 6,.cell 7 86]) Tryz.func53 rfl rfl (by decide) rfl rfl rfl ?_;rintro x rfl hrd hng
 rw [dV]
 refine kr0 ?_
 refine kr .o c1 (cq (bw 10 _) trivial) ?_
 refine kr .o e2 (cq (bw 2 _) trivial) ?_
 have hpp2:¬ Oid.under (.sub 1 1 (.sub 3 6 x.p)) pp:=fun h=>hpp (Oid.ae (Oid.ae h))
 refine kd (.d [(4,6),(4,9)] [] [0,1,7,8]) (uu hpp2) (cq (hpc _) (cq (hsf _) trivial)) ?_
 have hO3:aZ (.sub 1 1 (.sub 3 6 x.p)) N:=(hO.sub 3 6).sub 1 1
 refine xf (.sub 0 0 (.sub 1 1 (.sub 3 6 x.p))) (.sub 3 11 x.p) 1 ((cu path).map AV.str) _ [.ptr pp 0,.str cwd,.list 1 ((cu path).map AV.str),.int .i64 0,.bool fol,.bool (fj path)]
  (ks (uu hpp2)) ks0 (by simp) (.keep (.keep (.fS (n:=(cu path).length) (by simp) (.keep (.keep (.keep .nil)))))) ?_
 simp (disch:=first|omega|assumption) only [go_sem,Oid.ab hpp,Oid.aa hpp,hpN,hO,hO3,Oid.ab hpp2,Oid.aa hpp2]
 refine kr0 ?_
 refine dE [0,7,8] (fun s'=>∃ c':Nat,s' = ⟨[(0,.ptr pp 0),(7,.ptr (.sub 0 1 x.p) 0),(8,.ptr (.sub 3 11 x.p) 0)],Mem.blk [(pp,.cells [.ptr st 0,.str cwd,.int .i64 um]),(.sub 0 1 x.p,.cells [.int .i64 0,.int .i64 0,.str []]),(.sub 3 11 x.p,wkC pp fol (aP cwd path))] [(N,F)],c',[]⟩∧3 < c') ?_ ?_
 ·rw [hst]
  simp only [wkC]
  refine bs rfl rfl (fun hb=>?_) (fun hb=>?_)
  ·rw [if_pos (UInt8.toNat_inj.1 (by show _=47;omega):path.getD 0 0=47)]
   refine kw0 ?_
   exact aR ⟨_,rfl,by omega⟩
  ·rw [if_neg (fun e:path.getD 0 0=47=>hb (by rw [e];rfl))]
   refine qw0 ?_
   exact aR ⟨_,rfl,by omega⟩
 rintro s' ⟨c,rfl,hc3⟩
 (try ((first|refine zn ?_|refine ze ?_|refine zk ?_);with_reducible (constructor;repeat constructor));try refine zl ?_)
 have hwp:¬ Oid.sub 3 11 x.p=pp:=by rw [Oid.aa hpp];exact not_false
 have hwn:Oid.sub 3 11 x.p ∉ N:=hO.mem
 have hl0:(aP cwd path).links≤8:=by rw [hst];exact Nat.zero_le _
 clear hst hpc hsf
 generalize aP cwd path=w0 at hKle hw0 hrq hres hl0
 refine cE [0,7,8] (fun k s'=>∃ (w:Wk) (c:Nat) (G:Oid→aj),s' = ⟨[(0,.ptr pp 0),(7,.ptr (.sub 0 1 x.p) 0),(8,.ptr (.sub 3 11 x.p) 0)],Mem.blk [(pp,.cells [.ptr st 0,.str cwd,.int .i64 um]),(.sub 0 1 x.p,.cells [.int .i64 0,.int .i64 0,.str []]),(.sub 3 11 x.p,wkC pp fol w)] [(N,G)],c,[]⟩∧3 < c∧wkW w≤k∧w.links≤8∧w.pl.length+wkW w≤cwd.length+2617∧(cS L fol k w).2=res∧RP st N L (cS L fol k w).1 G F1) _ ⟨w0,_,_,rfl,hc3,hKle,hl0,hw0,hres,hrq⟩ ?_
 clear hrq hres hw0 hKle hl0 hc3 hK
 rintro k s' ⟨⟨pl,todo,l,dir⟩,c,G,rfl,hc3,hKle,hl0,hw0,hres,hrq⟩
 simp only at hl0 hw0
 simp only [wkC]
 cases todo with
 | nil =>
  have hrn:cS L fol k ⟨pl,[],l,dir⟩=([],.go ⟨pl,[],l,dir⟩):=by cases k<;>rfl
  rw [hrn] at hres hrq
  obtain rfl:G=F1:=hrq
  subst hres
  simp only at hlast
  obtain ⟨_,hat,rfl⟩:=hlast
  rename_i F2
  have hat':∀ p,p.mono=false→aZ p N→aq Tryz.prog 64 [.ptr st 0,.str pl] (Oid.under p) ⟨bk (N,G),(aI L pl).av,sb N F2⟩:=hat
  simp only [gJ]
  generalize aI L pl=B at hat' ⊢
  obtain ⟨ek,em,el⟩:=B
  simp only [Bits.av] at hat' ⊢
  refine kw0 ?_
  refine kd (.d [(3,9),(7,9),(8,9)] [] [0,7,8,9]) trivial (cq hat' trivial) ?_
  by_cases c4:dir=true∧¬ ek=0∧¬ ek=2
  ·rw [if_pos c4]
   obtain ⟨rfl,c5,c6⟩:=c4
   (try ((first|refine zn ?_|refine ze ?_|refine zk ?_);with_reducible (constructor;repeat constructor));try refine zl ?_)
   refine ay nmd [(5,57),(10,62)] hng (by kernel_rfl) fun hf C S K hC1 hC hS hK=>?_;simp (disch:=first|omega|assumption) only [go_sem,Oid.ab hpp,Oid.aa hpp,hpN,hO,c5,c6,decide_true,decide_false,ne_eq,not_true_eq_false,not_false_eq_true]
   refine hC _ _ _ (bQ 15 _) (fun _ h=>by cases h) (fun _ _ h=>h.elim) ?_
   rintro _ _ ⟨rfl,rfl⟩
   exact bZ rfl (gK (by show _=some _;simp (disch:=first|omega|assumption) only [go_sem,Oid.ab hpp,Oid.aa hpp,hpN,hO]) (by first|exact nbu _|exact nbA (by simp [hpN,hO.mem]) _))
  ·rw [if_neg c4]
   (try ((first|refine zn ?_|refine ze ?_|refine zk ?_);with_reducible (constructor;repeat constructor));try refine zl ?_)
   refine dE [0,7,8,9] (fun s'=>∃ c':Nat,s' = ⟨[(0,.ptr pp 0),(7,.ptr (.sub 0 1 x.p) 0),(8,.ptr (.sub 3 11 x.p) 0),(9,.ptr (.sub (c+1) 9 x.p) 0)],Mem.blk [(pp,.cells [.ptr st 0,.str cwd,.int .i64 um]),(.sub 0 1 x.p,.cells [.int .i64 0,.int .i64 0,.str []]),(.sub 3 11 x.p,.cells [.ptr pp 0,.str pl,.list 1 [],.int .i64 l,.bool fol,.bool dir]),(.sub (c+1) 9 x.p,.cells [.int .i64 ek,.int .i64 em,.str el])] [(N,F2)],c',[]⟩) ?_ ?_
   ·cases dir with
    | false =>
     refine kr (.d [] [(5,57),(10,62)] []) trivial (cq (bw 15 _) trivial) ?_
     exact aR ⟨_,rfl⟩
    | true =>
     by_cases c5:ek=0
     ·refine ay nmd [(5,57),(10,62)] hng (by kernel_rfl) fun hf C S K hC1 hC hS hK=>?_;simp (disch:=first|omega|assumption) only [go_sem,Oid.ab hpp,Oid.aa hpp,hpN,hO,c5,decide_true,decide_false,ne_eq,not_true_eq_false,not_false_eq_true]
      refine hC1 _ (bw 15 _) (fun _ h=>by cases h) ?_
      simp (disch:=first|omega|assumption) only [go_sem,Oid.ab hpp,Oid.aa hpp,hpN,hO]
      refine hK ?_;clear hK hS hC hC1 K S C hf
      exact aR ⟨_,by rw [c5];rfl⟩
     ·have c6:ek=2:=Decidable.of_not_not fun h=>c4 ⟨rfl,c5,h⟩
      have h20:¬ (2:Int)=0:=by decide
      refine kr (.d [] [(5,57),(10,62)] []) (ai c6 h20) (cq (bw 15 _) trivial) ?_
      exact aR ⟨_,by rw [c6];rfl⟩
   rintro s' ⟨c',rfl⟩
   refine kd (.d [] [] [6,7]) hc3 trivial ?_
   refine aE (pF (v:=.tuple [.str pl,.agg [.int .i64 ek,.int .i64 em,.str el]]) ks0 rfl (gK (by show _=some _;simp (disch:=first|omega|assumption) only [go_sem,Oid.ab hpp,Oid.aa hpp,hpN,hO]) (by first|exact nbu _|exact nbA (by simp [hpN,hO.mem]) _)))
 | cons n t =>
  have hap:∀ c i,3 < c→¬ Oid.under (.sub c i x.p) (.sub 3 11 x.p):=fun c i h hu=>by
   have:=(Oid.apart hu (Oid.az _)).1
   omega
  have hwk:wkW ⟨pl,n::t,l,dir⟩=n.length+1+wtF t+(8 - l) * 302:=rfl
  obtain ⟨k,rfl⟩:∃ k',k=k' + 1:=⟨k - 1,by omega⟩
  have htl:=Bq t
  have hrn:cS L fol (k+1) ⟨pl,n::t,l,dir⟩=match bT L fol ⟨pl,n::t,l,dir⟩ n t with
   | (rd,.err e)=>(rd,.err e)
   | (rd,.go w')=>(rd++(cS L fol k w').1,(cS L fol k w').2):=rfl
  have hgo:=fun w' rd (h:bT L fol ⟨pl,n::t,l,dir⟩ n t=(rd,.go w'))=>And.intro (rB hs hlk h) (rG h hl0)
  have hstp:=fun F2 h p hp hw hpp hO=>Sa (wk:=.sub 3 11 x.p) (pp:=pp) (st:=st) (N:=N) (F:=G) (F':=F2) hL fol pl n t l dir cwd um hwp hwn hpN hl0 (by omega) (by omega) (by omega) h p hp hw hpp hO
  rw [hrn] at hres hrq
  generalize bT L fol ⟨pl,n::t,l,dir⟩ n t=y at hres hrq hgo hstp
  obtain ⟨rd,r⟩:=y
  simp only [wkC,prC] at hstp
  have hwt:wtF (n::t)=n.length+1+wtF t:=rfl
  cases r with
  | err e =>
   subst hres
   obtain ⟨rfl,hle⟩:=hlast
   have hst2:=hstp _ hrq
   refine kw0 ?_
   refine bs rfl rfl (fun hb=>?_) (fun hb=>?_)
   case refine_2=>exact absurd (by omega) hb
   refine qw0 ?_
   refine ay nmd [] hng (by kernel_rfl) fun hf C S K hC1 hC hS hK=>?_;simp (disch:=first|omega|assumption) only [go_sem,Oid.ab hpp,Oid.aa hpp,hpN,hO]
   refine hC _ _ _ (db.pn (hst2 _ (ar rfl hp) (hap _ _ (by omega)) (fun h=>hpp (Oid.ae h)) (hO.sub _ _)) rfl) (by simp only [List.mem_cons,forall_eq_or_imp];exact ⟨by simp (disch:=first|omega|assumption) only [go_sem,Oid.ab hpp,Oid.aa hpp,hpN,hO],by simp (disch:=first|omega|assumption) only [go_sem,Oid.ab hpp,Oid.aa hpp,hpN,hO],(by first|exact nbu _|exact nbA (by simp [hpN,hO.mem]) _)⟩) (fun _ _ h=>h.elim) ?_
   rintro _ _ ⟨rfl,rfl⟩
   simp only [stM,stU]
   refine bZ rfl (gK ?_ ?_)
   ·simp (disch:=first|omega|assumption) only [go_sem,Oid.ab hpp,Oid.aa hpp,hpN,hO,cC]
   ·rw [cC];exact nbu _
  | go w' =>
   obtain ⟨G2,hq1,hq2⟩:=cU hrq
   have hst2:=hstp _ hq1
   obtain ⟨⟨g1,g2⟩,g3⟩:=hgo w' rd rfl
   have hwk':wkW w' = wtF w'.todo+(8 - w'.links) * 302:=rfl
   simp only at g1 g2
   refine kw0 ?_
   refine bs rfl rfl (fun hb=>?_) (fun hb=>?_)
   case refine_2=>exact absurd (by omega) hb
   refine qw0 ?_
   refine ay nmd [] hng (by kernel_rfl) fun hf C S K hC1 hC hS hK=>?_;simp (disch:=first|omega|assumption) only [go_sem,Oid.ab hpp,Oid.aa hpp,hpN,hO]
   refine hC1 _ (db.ok (hst2 _ (ar rfl hp) (hap _ _ (by omega)) (fun h=>hpp (Oid.ae h)) (hO.sub _ _)) rfl) (by simp only [List.mem_cons,forall_eq_or_imp];exact ⟨by simp (disch:=first|omega|assumption) only [go_sem,Oid.ab hpp,Oid.aa hpp,hpN,hO],by simp (disch:=first|omega|assumption) only [go_sem,Oid.ab hpp,Oid.aa hpp,hpN,hO],(by first|exact nbu _|exact nbA (by simp [hpN,hO.mem]) _)⟩) ?_
   simp only [stM,stU]
   simp (disch:=first|omega|assumption) only [go_sem,Oid.ab hpp,Oid.aa hpp,hpN,hO,cC]
   refine hK ?_;clear hK hS hC hC1 K S C hf
   (try ((first|refine zn ?_|refine ze ?_|refine zk ?_);with_reducible (constructor;repeat constructor));try refine zl ?_)
   exact ⟨_,_,by omega,fun _ _ h=>h,w',_,_,rfl,by omega,by omega,g3,by omega,hres,hq2⟩
end Go.Proofs.YtngffmnomciogaaGreatDoor
namespace Go.Proofs.YtngffmnomciogaaGreatDoor
open Go Go.Ab
set_option maxRecDepth 20000
set_option maxHeartbeats 4000000
theorem ik {α β:Type} (r:Rds) (a:α) (f:α→Rds × Rs β):cH (r,.go a) f=(r++(f a).1,(f a).2):=rfl
theorem mI {β:Type} {L:PL} {place:Str} {f:Unit→Rds × Rs β} (h:dO place (aI L (bg place))=0):cH (eE L place ()) f=([(bg place,false)]++(f ()).1,(f ()).2):=by
 simp only [eE,h,not_true_eq_false,if_false];rfl
theorem mJ {β:Type} {L:PL} {place:Str} {f:Unit→Rds × Rs β} (h:¬ dO place (aI L (bg place))=0):cH (eE L place ()) f=([(bg place,false)],.err (dO place (aI L (bg place)))):=by
 simp only [eE,h,not_false_eq_true,if_true];rfl
structure KL (L:PL):Prop where
 so:aN ltB L
 lk:jr L
 da:∀ n,(aI L n).l.length≤4000000
def aav (fP:FuncId) (o:Oid) (N:List Oid):Pts→(Oid→aj)→(Oid→aj)→Prop
 | [],F,F'=>F=F'
 | q::l,F,F'=>∃ F1,(∀ p,p.mono=false→aZ p N→aq Tryz.prog fP [.ptr o 0,.str q.1,q.2.av] (Oid.under p) ⟨bk (N,F),.tuple [],sb N F1⟩)∧aav fP o N l F1 F'
abbrev PP (st:Oid) (N:List Oid):=aav 57 st N
abbrev PR (r:Oid) (M:List Oid):=aav 60 r M
section
variable {pp st:Oid} {N:List Oid} {F F1 F2:Oid→aj} {L:PL} (hK:KL L) {cwd:Str} (hc:cwd.length≤1000000) (um:Int) (hpN:pp ∉ N) {p:Oid} (hp:p.mono=false) (hpp:¬ Oid.under p pp) (hO:aZ p N)
include hK hc hpN hp hpp hO
theorem rH (path:Str) (hpath:path.length≤4000000000) (fol:Bool) (hA:RP st N L (fk L cwd path fol).1 F F1) :
  db 91 [.ptr pp 0,.str path,.bool fol] (Oid.under p) ((pp,prC st cwd um)::bk (N,F)) (fdR (fk L cwd path fol).2) (sb N F1):=by
 have hf:=fun F' h p hp hpp hO=>jX (pp:=pp) (st:=st) (N:=N) (F:=F) (F':=F') hK.so hK.lk hK.da path cwd um fol hpN hc hpath h p hp hpp hO
 unfold fk at hA ⊢
 generalize findF L cwd path fol=y at hf hA ⊢
 obtain ⟨rd,r⟩:=y
 unfold prC at hf ⊢
 cases r with
 | err e =>
  have hf':=hf _ hA
  refine fZ (n:=23) (rs:=[.tmp 6,.cell 7 86]) Tryz.func91 rfl rfl (by decide) rfl rfl rfl ?_;rintro x rfl hrd hng
  rw [dV]
  refine kr0 ?_
  refine ay nmd [] hng (by kernel_rfl) fun hf C S K hC1 hC hS hK=>?_;simp (disch:=first|omega|assumption) only [go_sem,Oid.ab hpp,Oid.aa hpp,hpN,hO]
  refine hC _ _ _ (db.pn (hf' _ (ar rfl hp) (fun h=>hpp (Oid.ae h)) (hO.sub _ _)) rfl) (by simp only [List.mem_cons,forall_eq_or_imp];exact ⟨by simp (disch:=first|omega|assumption) only [go_sem,Oid.ab hpp,Oid.aa hpp,hpN,hO],(by first|exact nbu _|exact nbA (by simp [hpN,hO.mem]) _)⟩) (fun _ _ h=>h.elim) ?_
  rintro _ _ ⟨rfl,rfl⟩
  exact bZ rfl (gK ks0 (by first|exact nbu _|exact nbA (by simp [hpN,hO.mem]) _))
 | go a =>
  obtain ⟨F0,hA1,hA2⟩:=cU hA
  obtain rfl:F0=F1:=hA2
  have hf':=hf _ hA1
  obtain ⟨pl,ek,em,el⟩:=a
  simp only [cH,fdR,Bits.av] at hf' ⊢
  refine fZ (n:=23) (rs:=[.tmp 6,.cell 7 86]) Tryz.func91 rfl rfl (by decide) rfl rfl rfl ?_;rintro x rfl hrd hng
  rw [dV]
  refine kr0 ?_
  refine kr1 hf' ?_
  by_cases c1:ek=0
  ·refine ay nmd [] hng (by kernel_rfl) fun hf C S K hC1 hC hS hK=>?_;simp (disch:=first|omega|assumption) only [go_sem,Oid.ab hpp,Oid.aa hpp,hpN,hO,c1,decide_true,decide_false,ne_eq,not_true_eq_false,not_false_eq_true]
   refine hC _ _ _ (bQ 10 _) (fun _ h=>by cases h) (fun _ _ h=>h.elim) ?_
   rintro _ _ ⟨rfl,rfl⟩
   exact bZ (by simp only [c1,if_true]) (gK (by show _=some _;simp (disch:=first|omega|assumption) only [go_sem,Oid.ab hpp,Oid.aa hpp,hpN,hO]) (by first|exact nbu _|exact nbA (by simp [hpN,hO.mem]) _))
  ·refine kr .o c1 (cq (bw 10 _) trivial) ?_
   refine kd (.d [] [] [6,7]) trivial trivial ?_
   refine aE (pF (v:=.tuple [.str pl,.agg [.int .i64 ek,.int .i64 em,.str el]]) ks0 (by simp only [c1,if_false]) (gK (by show _=some _;simp (disch:=first|omega|assumption) only [go_sem,Oid.ab hpp,Oid.aa hpp,hpN,hO]) (by first|exact nbu _|exact nbA (by simp [hpN,hO.mem]) _)))
omit hK hc in
theorem ky (place:Str) (hpl:place.length≤4000000000) (hA:RP st N L [(bg place,false)] F F1) :
  db 56 [.ptr pp 0,.str place] (Oid.under p) ((pp,prC st cwd um)::bk (N,F)) (if dO place (aI L (bg place))=0 then .go (.tuple []) else .err (dO place (aI L (bg place)))) (sb N F1):=by
 obtain ⟨_,hA,rfl⟩:=hA
 rename_i F1
 have hA':∀ p,p.mono=false→aZ p N→aq Tryz.prog 64 [.ptr st 0,.str (bg place)] (Oid.under p) ⟨bk (N,F),(aI L (bg place)).av,sb N F1⟩:=hA
 have hab:=fun p=>rE place hpl p
 generalize aI L (bg place)=B at hA' ⊢
 generalize bg place=A at hA' hab
 obtain ⟨ek,em,el⟩:=B
 simp only [Bits.av] at hA'
 unfold prC
 refine fZ (n:=24) (rs:=[]) Tryz.func56 rfl rfl (by decide) rfl rfl rfl ?_;rintro x rfl hrd hng
 rw [dV]
 refine kd (.d [(3,5),(3,7),(5,7),(6,7)] [] [1,4]) trivial (cq (hab _) (cq hA' trivial)) ?_
 by_cases c1:place=[]
 ·refine ay nmd [] hng (by kernel_rfl) fun hf C S K hC1 hC hS hK=>?_;simp (disch:=first|omega|assumption) only [go_sem,Oid.ab hpp,Oid.aa hpp,hpN,hO,c1,decide_true,decide_false,ne_eq,not_true_eq_false,not_false_eq_true]
  refine hC _ _ _ (bQ 18 _) (fun _ h=>by cases h) (fun _ _ h=>h.elim) ?_
  rintro _ _ ⟨rfl,rfl⟩
  exact bZ (by simp [dO,c1]) (gK (by show _=some _;simp (disch:=first|omega|assumption) only [go_sem,Oid.ab hpp,Oid.aa hpp,hpN,hO]) (by first|exact nbu _|exact nbA (by simp [hpN,hO.mem]) _))
 refine kr .o c1 (cq (bw 18 _) trivial) ?_
 by_cases c2:ek=2
 case neg =>
  refine ay nmd [] hng (by kernel_rfl) fun hf C S K hC1 hC hS hK=>?_;simp (disch:=first|omega|assumption) only [go_sem,Oid.ab hpp,Oid.aa hpp,hpN,hO,c2,decide_true,decide_false,ne_eq,not_true_eq_false,not_false_eq_true]
  refine hC _ _ _ (bQ 10 _) (fun _ h=>by cases h) (fun _ _ h=>h.elim) ?_
  rintro _ _ ⟨rfl,rfl⟩
  exact bZ (by simp [dO,c1,c2]) (gK (by show _=some _;simp (disch:=first|omega|assumption) only [go_sem,Oid.ab hpp,Oid.aa hpp,hpN,hO]) (by first|exact nbu _|exact nbA (by simp [hpN,hO.mem]) _))
 refine kr .o c2 (cq (bw 10 _) trivial) ?_
 by_cases c3:gz em 3=3
 case neg =>
  refine ay nmd [] hng (by kernel_rfl) fun hf C S K hC1 hC hS hK=>?_;simp (disch:=first|omega|assumption) only [go_sem,Oid.ab hpp,Oid.aa hpp,hpN,hO,c3,decide_true,decide_false,ne_eq,not_true_eq_false,not_false_eq_true]
  refine hC _ _ _ (bQ 18 _) (fun _ h=>by cases h) (fun _ _ h=>h.elim) ?_
  rintro _ _ ⟨rfl,rfl⟩
  exact bZ (by simp [dO,c1,c2,c3]) (gK (by show _=some _;simp (disch:=first|omega|assumption) only [go_sem,Oid.ab hpp,Oid.aa hpp,hpN,hO]) (by first|exact nbu _|exact nbA (by simp [hpN,hO.mem]) _))
 refine kr .o c3 (cq (bw 18 _) trivial) ?_
 exact bC (jW (v:=.tuple []) rfl (by simp [dO,c1,c2,c3]) (gK (by show _=some _;simp (disch:=first|omega|assumption) only [go_sem,Oid.ab hpp,Oid.aa hpp,hpN,hO]) (by first|exact nbu _|exact nbA (by simp [hpN,hO.mem]) _)))
end
end Go.Proofs.YtngffmnomciogaaGreatDoor
namespace Go.Proofs.YtngffmnomciogaaGreatDoor
open Go Go.Ab
set_option maxRecDepth 20000
set_option maxHeartbeats 4000000
def rdS:Rs Str→Str
 | .err _=>[]
 | .go s=>s
def rdL:Rs (List Str)→List Str
 | .err _=>[]
 | .go l=>l
def rdB:Rs (Str × Bits)→Str × Bits
 | .err _=>([],Bits.no)
 | .go a=>a
def rdV (r:Rs Str):AV:=.tuple [.str (rdS r),.int .i64 (bj r)]
def lsV (r:Rs (List Str)):AV:=.tuple [.list 1 ((rdL r).map AV.str),.int .i64 (bj r)]
def fnV (r:Rs (Str × Bits)):AV:=.tuple [.str (rdB r).1,.agg [.int .i64 (rdB r).2.k,.int .i64 (rdB r).2.m,.str (rdB r).2.l],.int .i64 (bj r)]
def cdN (cwd:Str):Rs Str→Str
 | .err _=>cwd
 | .go a=>a
section
variable {pp st:Oid} {N:List Oid} {F F1 F2:Oid→aj} {L:PL} (hK:KL L) {cwd:Str} (hc:cwd.length≤1000000) (um:Int) (hpN:pp ∉ N) {p:Oid} (hp:p.mono=false) (hpp:¬ Oid.under p pp) (hO:aZ p N)
include hK hc in
theorem il (path:Str) (fol:Bool):∀ a,(findF L cwd path fol).2 = .go a→a.1.length≤4000000000:=fun a h=>by
 have:=((kq hK.so hK.lk cwd path fol).2.2 a h).1;omega
include hK hc in
theorem oh (path:Str) (fol:Bool):∀ a,(fk L cwd path fol).2 = .go a→a.1.length≤4000000000:=fun a h=>by
 have hb:=il hK hc path fol
 unfold fk at h
 generalize findF L cwd path fol=y at hb h
 obtain ⟨rd,r⟩:=y
 cases r with
 | err e=>cases h
 | go b =>
  simp only [cH] at h
  split at h
  ·cases h
  ·cases h;exact hb _ rfl
include hK hc hpN hp hpp hO
end
end Go.Proofs.YtngffmnomciogaaGreatDoor
namespace Go.Proofs.YtngffmnomciogaaGreatDoor
open Go Go.Ab
set_option maxRecDepth 20000
set_option maxHeartbeats 4000000
section
variable {pp st:Oid} {N:List Oid} {F F1 F2:Oid→aj} {L:PL} (hK:KL L) {cwd:Str} (hc:cwd.length≤1000000) (um:Int) (hpN:pp ∉ N) {p:Oid} (hp:p.mono=false) (hpp:¬ Oid.under p pp) (hO:aZ p N)
include hK hc hpN hp hpp hO
theorem mK (path:Str) (hpath:path.length≤4000000000) (hA:RP st N L (a6 L cwd path).1 F F1) :
  aq Tryz.prog 30 [.ptr pp 0,.str path] (Oid.under p) ⟨(pp,prC st cwd um)::bk (N,F),rdV (a6 L cwd path).2,sb N F1⟩:=by
 have hf:=fun F' h p hp hpp hO=>rH (pp:=pp) (st:=st) (N:=N) (F:=F) (F1:=F') hK hc um hpN (p:=p) hp hpp hO path hpath true h
 have hlen:=oh hK hc path true
 unfold a6 at hA ⊢
 generalize fk L cwd path true=y at hf hlen hA ⊢
 obtain ⟨rd,r⟩:=y
 unfold prC at hf ⊢
 refine Bh (n:=25) (rs:=[.tmp 4,.cell 5 45]) Tryz.func30 rfl rfl (by decide) rfl rfl rfl ?_;rintro x rfl hrd hng
 rw [dV]
 refine kr0 ?_
 refine jV hng hrd rfl rfl rfl (by kernel_rfl) (show after _ _ _ _ _ _ ⟨_,_,_,[.call (.func 52) [] [.ptr (.sub 0 1 x.p) 0]]⟩ from ?_)
 (try ((first|refine zn ?_|refine ze ?_|refine zk ?_);with_reducible (constructor;repeat constructor));try refine zl ?_)
 cases r with
 | err e =>
  have hf':=hf _ hA
  exact kp1 trivial trivial hf'
 | go a =>
  obtain ⟨F0,hA1,hA2⟩:=cU hA
  have hf':=hf _ hA1
  obtain ⟨pl,ek,em,el⟩:=a
  have hpl:=hlen _ rfl
  simp only [ik,fdR,Bits.av] at hf' hA2 hpl ⊢
  generalize hX:((if ek=2 then .err 14 else if gz em 4=0 then .err 18 else .go el):Rs Str)=X at ⊢
  refine kr1 hf' ?_
  obtain rfl:F0=F1:=hA2
  have hA2:F0=F0:=rfl
  by_cases c1:ek=2
  ·rw [if_pos c1] at hX
   subst hX
   exact kp1 c1 trivial (bQ 14 _)
  rw [if_neg c1] at hX
  refine kr .o c1 (cq (bw 14 _) trivial) ?_
  by_cases c2:gz em 4=0
  ·rw [if_pos c2] at hX
   subst hX
   exact kp1 c2 trivial (bQ 18 _)
  rw [if_neg c2] at hX
  subst hX
  refine kr .o c2 (cq (bw 18 _) trivial) ?_
  refine kw0 ?_
  exact kz1
theorem SJ (path:Str) (hpath:path.length≤4000000000) (fol:Bool) (hA:RP st N L (findF L cwd path fol).1 F F1) :
  aq Tryz.prog 97 [.ptr pp 0,.str path,.bool fol] (Oid.under p) ⟨(pp,prC st cwd um)::bk (N,F),fnV (findF L cwd path fol).2,sb N F1⟩:=by
 have hf:=fun F' h p hp hpp hO=>jX (pp:=pp) (st:=st) (N:=N) (F:=F) (F':=F') hK.so hK.lk hK.da path cwd um fol hpN hc hpath h p hp hpp hO
 have hlen:=il hK hc path fol
 generalize findF L cwd path fol=y at hf hlen hA ⊢
 obtain ⟨rd,r⟩:=y
 unfold prC at hf ⊢
 refine Bh (n:=18) (rs:=[.tmp 6,.cell 7 86,.cell 8 45]) Tryz.func97 rfl rfl (by decide) rfl rfl rfl ?_;rintro x rfl hrd hng
 rw [dV]
 refine kr0 ?_
 refine jV hng hrd rfl rfl rfl (by kernel_rfl) (show after _ _ _ _ _ _ ⟨_,_,_,[.call (.func 52) [] [.ptr (.sub 0 2 x.p) 0]]⟩ from ?_)
 (try ((first|refine zn ?_|refine ze ?_|refine zk ?_);with_reducible (constructor;repeat constructor));try refine zl ?_)
 cases r with
 | err e =>
  have hf':=hf _ hA
  refine ay nmd [] hng (by kernel_rfl) fun hf C S K hC1 hC hS hK=>?_;simp (disch:=first|omega|assumption) only [go_sem,Oid.ab hpp,Oid.aa hpp,hpN,hO]
  refine hC _ _ _ (db.pn (hf' _ (ar rfl hp) (fun h=>hpp (Oid.ae h)) (hO.sub _ _)) rfl) (by simp only [List.mem_cons,forall_eq_or_imp];exact ⟨by simp (disch:=first|omega|assumption) only [go_sem,Oid.ab hpp,Oid.aa hpp,hpN,hO],(by first|exact nbu _|exact nbA (by simp [hpN,hO.mem]) _)⟩) (fun _ _ h=>h.elim) ?_
  rintro _ _ ⟨rfl,rfl⟩
  simp only [fnV,rdB,Bits.no]
  exact kx2
 | go a =>
  have hf':=hf _ hA
  obtain ⟨pl,ek,em,el⟩:=a
  simp only [fdR,Bits.av] at hf'
  refine kr1 hf' ?_
  refine kd (.d [] [] [0,6,7,8]) trivial trivial ?_
  refine kw0 ?_
  exact kz2
end
end Go.Proofs.YtngffmnomciogaaGreatDoor
namespace Go.Proofs.YtngffmnomciogaaGreatDoor
open Go Go.Ab
set_option maxRecDepth 20000
set_option maxHeartbeats 4000000
section
variable {pp st:Oid} {N:List Oid} {F F1 F2:Oid→aj} {L:PL} (hK:KL L) {cwd:Str} (hc:cwd.length≤1000000) (um:Int) (hpN:pp ∉ N) {p:Oid} (hp:p.mono=false) (hpp:¬ Oid.under p pp) (hO:aZ p N)
include hK hc hpN hp hpp hO
theorem aaw (path:Str) (hpath:path.length≤4000000000) (e:Bits) (hA:RP st N L (jU L cwd path e).1 F F1) (hP:PP st N (cO (jU L cwd path e).2) F1 F2) :
  aq Tryz.prog 147 [.ptr pp 0,.str path,e.av] (Oid.under p) ⟨(pp,prC st cwd um)::bk (N,F),.int .i64 (bj (jU L cwd path e).2),sb N F2⟩:=by
 have hf:=fun F' h p hp hpp hO=>jX (pp:=pp) (st:=st) (N:=N) (F:=F) (F':=F') hK.so hK.lk hK.da path cwd um false hpN hc hpath h p hp hpp hO
 have hlen:=il hK hc path false
 obtain ⟨ak,am,al⟩:=e
 unfold jU at hA hP ⊢
 generalize findF L cwd path false=y at hf hlen hA hP ⊢
 obtain ⟨rd,r⟩:=y
 unfold prC at hf ⊢
 simp only [Bits.av]
 refine Bh (n:=29) (rs:=[.cell 6 45]) Tryz.func147 rfl rfl (by decide) rfl rfl rfl ?_;rintro x rfl hrd hng
 rw [dV]
 refine kr0 ?_
 refine jV hng hrd rfl rfl rfl (by kernel_rfl) (show after _ _ _ _ _ _ ⟨_,_,_,[.call (.func 52) [] [.ptr (.sub 0 1 x.p) 0]]⟩ from ?_)
 (try ((first|refine zn ?_|refine ze ?_|refine zk ?_);with_reducible (constructor;repeat constructor));try refine zl ?_)
 cases r with
 | err e =>
  obtain rfl:F1=F2:=hP
  have hf':=hf _ hA
  exact kp1 trivial trivial hf'
 | go a =>
  obtain ⟨F0,hA1,hA2⟩:=cU hA
  have hf':=hf _ hA1
  obtain ⟨pl,ek,em,el⟩:=a
  have hpl:=hlen _ rfl
  simp only [ik,fdR,Bits.av] at hf' hA2 hP hpl ⊢
  generalize hX:(if ¬ ek=0 then (([],.err 11):Rds × Rs Pts) else eE L pl [(pl,⟨ak,am,al⟩)])=X at hA2 hP ⊢
  refine kr1 hf' ?_
  by_cases c1:ek=0
  case neg =>
   rw [if_pos c1] at hX
   subst hX
   obtain rfl:F0=F1:=hA2
   obtain rfl:F0=F2:=hP
   exact kp1 c1 trivial (bQ 11 _)
  rw [if_neg (fun h=>h c1)] at hX
  subst hX
  refine kr .o c1 (cq (bw 11 _) trivial) ?_
  have hr:=fun p hp hpp hO=>ky (pp:=pp) (st:=st) (N:=N) (F:=F0) (F1:=F1) (L:=L) (cwd:=cwd) um hpN (p:=p) hp hpp hO pl hpl hA2
  simp only [eE] at hP ⊢
  generalize dO pl (aI L (bg pl))=re at hr hP ⊢
  unfold prC at hr
  by_cases c2:re=0
  case neg =>
   rw [if_pos c2] at hP ⊢
   simp only [if_neg c2] at hr
   obtain rfl:F1=F2:=hP
   exact kp1 trivial trivial hr
  rw [if_neg (fun h=>h c2)] at hP ⊢
  simp only [if_pos c2] at hr
  obtain ⟨_,hput,rfl⟩:=hP
  simp only [Bits.av] at hput
  refine kr1 hr ?_
  refine kd (.d [] [] [0,6]) trivial (cq hput trivial) ?_
  refine kw0 ?_
  exact kz1
end
end Go.Proofs.YtngffmnomciogaaGreatDoor
