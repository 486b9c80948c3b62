/- A part of the proof: the texts E5, E6, E7, E8, E9, MX, one behind the other. -/
import Derived.Test.YtpficjpdfbiedaaGreatDoorPMd
set_option linter.unusedVariables false
set_option linter.unusedSimpArgs false
set_option linter.unusedSectionVars false
namespace Go.Proofs.YtpficjpdfbiedaaGreatDoor
open Go Go.Ab
set_option maxRecDepth 20000
set_option maxHeartbeats 4000000
def okF (b:Str):Prop:=b=[48]∨b=[49]
instance (b:Str):Decidable (okF b):=by unfold okF;infer_instance
theorem dB (a b c:Str) (l:List Str):eU (a::b::c::l)=if okF b then (eU l).map (((a,decide (b=[49])),c)::·) else none:=rfl
theorem lf (x y z:Str):∀ (a:List Str) (ts:List Tch),eU a=some ts→eU (a++[x,y,z])=if okF y then some (ts++[((x,decide (y=[49])),z)]) else none
 | [],ts,h=>by
  obtain rfl:=Option.some.inj h
  rw [List.nil_append,dB]
  split<;>rfl
 | [_],_,h=>by cases h
 | [_,_],_,h=>by cases h
 | a::b::c::l,ts,h=>by
  rw [dB] at h
  rw [List.cons_append,List.cons_append,List.cons_append,dB]
  split at h
  ·rename_i hb
   rw [Option.map_eq_some_iff] at h
   obtain ⟨u,hu,rfl⟩:=h
   rw [if_pos hb,lf x y z l u hu]
   split<;>rfl
  ·cases h
theorem nM (x y z:Str) (r:List Str) (hy:¬ okF y):∀ (k:Nat) (a:List Str),a.length=3 * k→eU (a++x::y::z::r)=none
 | 0,a,h=>by
  obtain rfl:=List.eq_nil_of_length_eq_zero (by omega:a.length=0)
  rw [List.nil_append,dB,if_neg hy]
 | k+1,a,h=>by
  match a,h with
  | a::b::c::l,h =>
   rw [List.cons_append,List.cons_append,List.cons_append,dB,nM x y z r hy k l (by simp only [List.length_cons] at h;omega)]
   split<;>rfl
theorem kh:∀ (l:List Str) (ts:List Tch),eU l=some ts→l.length=3 * ts.length
 | [],ts,h=>by obtain rfl:=Option.some.inj h;rfl
 | [_],_,h=>by cases h
 | [_,_],_,h=>by cases h
 | a::b::c::l,ts,h=>by
  rw [dB] at h
  split at h
  ·rw [Option.map_eq_some_iff] at h
   obtain ⟨u,hu,rfl⟩:=h
   have:=kh l u hu
   simp only [List.length_cons];omega
  ·cases h
def yT (l:List Tch) (v:AV) (L:List (Oid × af)) (sp:Oid→Prop):Prop :=
 (l=[]∧v = .nilSl∧L=[])∨(¬ l=[]∧∃ id,v = .sl id 3 l.length∧L=[(id,.arr 3 (l.map tchAV))]∧sp id)
theorem v8 {ts:List Tch} {v:AV} {L1:List (Oid × af)} {p:Oid} (hr:yT ts v L1 (fun id=>¬ id = .sub 0 0 p∧¬ id = .sub 0 1 p)):∀ q ∈ [(Oid.sub 0 0 p,af.cells [v]),(Oid.sub 0 1 p,af.cells [.bool false])]++L1,Mem.of ([(Oid.sub 0 0 p,af.cells [v]),(Oid.sub 0 1 p,af.cells [.bool false])]++L1) q.1=some q.2:=by
 rcases hr with ⟨_,_,rfl⟩|⟨_,id,_,rfl,h0,h1⟩
 ·simp only [aW,bf,Mem.ak,Mem.aH,Mem.aJ,Mem.aN,bD,bN,List.cons_append,List.nil_append,List.append_nil,↓reduceIte,eq_self,and_true,true_and,and_self,and_false,false_and,reduceCtorEq,Oid.sub.injEq,Nat.reduceEqDiff]
 ·simp only [aW,bf,Mem.ak,Mem.aH,Mem.aJ,Mem.aN,bD,bN,List.cons_append,List.nil_append,List.append_nil,↓reduceIte,eq_self,and_true,true_and,and_self,and_false,false_and,reduceCtorEq,Oid.sub.injEq,Nat.reduceEqDiff,h0,h1]
theorem wu {l:List Str} {k:Nat} (h:3 * k+3≤l.length):l.take (3 * (k+1))=l.take (3 * k)++[l.getD (3 * k) default,l.getD (3 * k+1) default,l.getD (3 * k+2) default]:=by
 have e:3 * (k+1)=3 * k+1+1+1:=by omega
 rw [e,List.take_add_one,List.take_add_one,List.take_add_one]
 simp only [List.getD_eq_getElem?_getD,List.getElem?_eq_getElem (show 3 * k < l.length by omega),List.getElem?_eq_getElem (show 3 * k+1 < l.length by omega),List.getElem?_eq_getElem (show 3 * k+1+1 < l.length by omega),Option.toList,Option.getD_some,List.append_assoc,List.cons_append,List.nil_append]
theorem yf {l:List Str} {k:Nat} (h:3 * k+3≤l.length):l=l.take (3 * k)++l.getD (3 * k) default::l.getD (3 * k+1) default::l.getD (3 * k+2) default::l.drop (3 * k+3):=by
 have h1:=List.take_append_drop (3 * (k+1)) l
 rw [wu h] at h1
 conv=>lhs;rw [← h1]
 simp [show 3 * (k+1)=3 * k+3 by omega]
def uy (o:Option (List Tch)):AV:=match o with
 | some l=>.tuple [.list 3 (l.map tchAV),.bool true]
 | none=>.tuple [.nilSl,.bool false]
theorem uz (l:List Str) (p:Oid):ao Tryz.prog 76 [.list 1 (l.map AV.str),.int .i64 3] (Oid.under p) ⟨[],.fn (.func 118) [] [.ptr (.sub 0 0 p) 0,.ptr (.sub 0 1 p) 0],[(.sub 0 0 p,some (.cells [.list 1 (l.map AV.str)])),(.sub 0 1 p,some (.cells [.int .i64 3]))]⟩:=by
 refine aY (n:=9) (rs:=[.tmp 4]) Tryz.func76 rfl rfl (by decide) rfl rfl rfl ?_;rintro x rfl hrd hng
 refine qw0 ?_
 refine ax (aU rfl ?_ ?_)
 ·simp (disch:=first|omega|assumption) only [go_sem]
  exact ⟨fun o h=>h,fun o h=>h⟩
 ·simp (disch:=first|omega|assumption) only [go_sem]
theorem nN (s:Str) (hl:s.length≤4000000000) (p:Oid) (hp:p.mono=false):ao Tryz.prog 30 [.str s] (Oid.under p) ⟨[],uy (eS s),[]⟩:=by
 have hD:=fun p hp=>kX s hl p hp
 unfold eS
 cases hd:dY s with
 | none =>
  rw [hd] at hD
  refine aY (n:=48) (rs:=[.cell 2 27,.cell 3 4]) Tryz.func30 rfl rfl (by decide) rfl rfl rfl ?_;rintro x rfl hrd hng
  refine qr0 ?_
  simp only [tn] at hD
  refine qw0 ?_
  refine qr1 (hD _) ?_
  have h20:¬ (20:Int)=0:=by decide
  refine qr (.d [] [(2,14)] []) h20 trivial ?_
  refine qw0 ?_
  exact ax (ay (by simp (disch:=first|omega|assumption) only [go_sem];rfl))
 | some l =>
  rw [hd] at hD
  have hml:=nu hd
  have hll:l.length≤s.length:=by
   have:=congrArg List.length (j4 hd)
   have h2:∀ q:List Str,q.length≤(aI q).length:=fun q=>by
    induction q with
    | nil=>exact Nat.zero_le _
    | cons a q ih =>
     have:=bJ a
     rw [aI,List.length_append,List.length_cons];omega
   have:=h2 l
   omega
  have e3:((l.length:Int)).tmod 3=((l.length % 3:Nat):Int):=gH _ 3
  show ao _ _ _ _ ⟨[],uy (eU l),[]⟩
  simp only [tn] at hD
  by_cases h3:l.length % 3=0
  case neg =>
   have hnn:eU l=none:=by
    cases ht:eU l with
    | none=>rfl
    | some ts=>have:=kh l ts ht;omega
   rw [hnn]
   have h3':¬ ((l.length % 3:Nat):Int)=0:=by omega
   refine aY (n:=48) (rs:=[.cell 2 27,.cell 3 4]) Tryz.func30 rfl rfl (by decide) rfl rfl rfl ?_;rintro x rfl hrd hng
   refine qw0 ?_
   refine qr1 (hD _) ?_
   refine qr (.d [] [(2,14)] []) (ai e3 h3') trivial ?_
   refine qw0 ?_
   exact ax (ay (by simp (disch:=first|omega|assumption) only [go_sem];rfl))
  obtain ⟨n,hn⟩:∃ n,l.length=3 * n:=⟨l.length / 3,by omega⟩
  have hCh:=fun p=>uz l p
  have h3':((l.length % 3:Nat):Int)=0:=by omega
  refine aY (n:=48) (rs:=[.cell 2 27,.cell 3 4]) Tryz.func30 rfl rfl (by decide) rfl rfl rfl ?_;rintro x rfl hrd hng
  refine qw0 ?_
  refine qr1 (hD _) ?_
  refine qr (.d [] [(2,14)] []) (ai e3 h3') trivial ?_
  refine qw0 ?_
  refine qr1 (hCh _) ?_
  refine gX (need:=[(Oid.sub 0 0 (.sub 3 1 x.p),.cells [.list 1 (l.map AV.str)]),(Oid.sub 0 1 (.sub 3 1 x.p),.cells [.int .i64 3])]) hrd hng (by decide) rfl rfl (qV (.sub 0 0 (.sub 3 1 x.p)) (.sub 0 1 (.sub 3 1 x.p)) l n hn (by omega) _ (aw rfl hp) (by simp) (fun hu=>by have:=(Oid.apart hu (Oid.aj (Oid.ah _))).1;omega) (fun hu=>by have:=(Oid.apart hu (Oid.aj (Oid.ah _))).1;omega)) ?_
   (fun jump pre L=>∃ k,k≤n∧pre=iA l k∧((jump=none∧∃ ts v L1,eU (l.take (3 * k))=some ts∧yT ts v L1 (fun id=>¬ id = .sub 0 0 x.p∧¬ id = .sub 0 1 x.p)∧L=[(Oid.sub 0 0 x.p,af.cells [v]),(Oid.sub 0 1 x.p,af.cells [.bool false])]++L1)∨(jump=some .ret∧eU l=none∧L=[(Oid.sub 0 0 x.p,af.cells [.nilSl]),(Oid.sub 0 1 x.p,af.cells [.bool false])])))
   [(Oid.sub 0 0 x.p,af.cells [.nilSl]),(Oid.sub 0 1 x.p,af.cells [.bool false])] ⟨0,Nat.zero_le _,rfl,.inl ⟨rfl,[],.nilSl,[],rfl,.inl ⟨rfl,rfl,rfl⟩,rfl⟩⟩ ?_ ?_
   (fun pre xs L1 p' s=>F s.fr 6 = .list 1 (chk l pre.length)∧F s.fr 2 = .ptr (.sub 0 0 x.p) 0∧F s.fr 3 = .ptr (.sub 0 1 x.p) 0∧(∀ q,q ∈ L1→s.mem q.1=some q.2)∧s.ds=[]∧0 < s.c) ?_ ?_ ?_ ?_
  ·intro q hq
   simp only [List.mem_cons,List.not_mem_nil,or_false] at hq
   rcases hq with rfl|rfl<;>simp (disch:=first|omega|assumption) only [go_sem]
  ·intro q hq
   simp only [List.mem_cons,List.not_mem_nil,or_false] at hq
   rcases hq with rfl|rfl<;>simp (disch:=first|omega|assumption) only [go_sem]
  ·intro q hq q' hq' e
   simp only [List.mem_cons,List.not_mem_nil,or_false] at hq hq'
   rcases hq with rfl|rfl<;>rcases hq' with rfl|rfl<;>(have:=congrArg Oid.depth e;simp only [Oid.depth] at this;omega)
  ·rintro y l0 pre xs L1 ⟨k,hk,rfl,hj⟩ _ ⟨hlen,rfl⟩ hyr hyg hpm
   refine kZ ?_
   replace hng:=hyg
   generalize chk l (iA l k).length=CH
   rcases hj with ⟨-,ts,v,L2,ht,hr,rfl⟩|⟨hj,_⟩
   rotate_left
   ·cases hj
   have hcon:=v8 hr
   generalize ([(Oid.sub 0 0 x.p,af.cells [v]),(Oid.sub 0 1 x.p,af.cells [.bool false])]++L2)=LL at hcon
   refine aA nmd [] hng (by kernel_rfl) fun hf C S K hC1 hC hS hK=>?_;simp (disch:=first|omega|assumption) only [go_sem,kY]
   refine hK ?_;clear hK hS hC hC1 K S C hf
   exact dL ⟨rfl,rfl,rfl,rfl,hcon,rfl,by show 0 < 0+1;omega⟩
  ·rintro y l0 pre xs L1 ⟨fr,m,c,ds⟩ ⟨k,hk,rfl,hj⟩ _ ⟨hlen,rfl⟩ hyr hyg hpm ⟨h6,h2,h3,hm,rfl,hc⟩
   rcases hj with ⟨-,ts,v,L2,ht,hr,rfl⟩|⟨hj,_⟩
   rotate_left
   ·cases hj
   have hbl:(iA l k).length=k:=by simp [iA]
   have hbs:=lb l k
   rw [hbl] at hlen h6 ⊢
   rw [← hbs]
   simp only at h6 h2 h3 hm hc
   have ht3:=wu (l:=l) (k:=k) (by omega)
   have hs3:=yf (l:=l) (k:=k) (by omega)
   unfold chk at h6
   generalize l.getD (3 * k) default=a at h6 ht3 hs3
   generalize l.getD (3 * k+1) default=b at h6 ht3 hs3
   generalize l.getD (3 * k+2) default=d at h6 ht3 hs3
   refine kZ (wL [(2,.ptr (.sub 0 0 x.p) 0),(3,.ptr (.sub 0 1 x.p) 0),(6,.list 1 [.str a,.str b,.str d])] rfl (by simp [h6,h2,h3]) (eR _ hm (gS fun hf2=>?_)))
   replace hng:=hyg
   by_cases hok:okF b
   case neg =>
    have n0:¬ b=[48]:=fun e=>hok (.inl e)
    have n1:¬ b=[49]:=fun e=>hok (.inr e)
    have hbad:eU l=none:=by rw [hs3];exact nM a b d _ hok k _ (by rw [List.length_take];omega)
    generalize L2=rest
    (repeat (first|(refine aE rfl rfl ?_)|(refine aF rfl rfl ?_)|(refine aA nmd [] hng (by kernel_rfl) fun hf C S K hC1 hC hS hK=>?_;simp (disch:=first|omega|assumption) only [go_sem];refine hK ?_;clear hK hS hC hC1 K S C hf)|((first|refine zv ?_|refine zw ?_|refine zu ?_);with_reducible (constructor;repeat constructor);try refine zl ?_)))
    refine dt ?_
    (repeat (first|(refine aE rfl rfl ?_)|(refine aF rfl rfl ?_)|(refine aA nmd [] hng (by kernel_rfl) fun hf C S K hC1 hC hS hK=>?_;simp (disch:=first|omega|assumption) only [go_sem];refine hK ?_;clear hK hS hC hC1 K S C hf)|((first|refine zv ?_|refine zw ?_|refine zu ?_);with_reducible (constructor;repeat constructor);try refine zl ?_)))
    refine qr (.d [] [(4,27)] []) (ai n0 n1) trivial ?_
    refine qw0 ?_
    refine ax ⟨_,⟨k+1,by omega,rfl,.inr ⟨rfl,hbad,rfl⟩⟩,fun q hq=>?_,fun q hq=>?_⟩
    ·simp only [List.mem_cons,List.not_mem_nil,or_false] at hq
     rcases hq with rfl|rfl<;>simp (disch:=first|omega|assumption) only [go_sem]
    ·simp only [List.mem_cons,List.not_mem_nil,or_false] at hq
     rcases hq with rfl|rfl
     ·exact .inl ⟨_,List.mem_cons_self,rfl⟩
     ·exact .inl ⟨_,List.mem_cons_of_mem _ List.mem_cons_self,rfl⟩
   have hsn:=lf a b d _ ts ht
   rw [if_pos hok,← ht3] at hsn
   have htl:ts.length=k:=by have:=kh _ _ ht;rw [List.length_take] at this;omega
   have e01:¬ ([48]:Str)=[49]:=by decide
   have e10:¬ ([49]:Str)=[48]:=by decide
   rcases hok with rfl|rfl
   ·rcases hr with ⟨rfl,rfl,rfl⟩|⟨hl0,id,rfl,rfl,hid0,hid1⟩
    ·(repeat (first|(refine aE rfl rfl ?_)|(refine aF rfl rfl ?_)|(refine aA nmd [] hng (by kernel_rfl) fun hf C S K hC1 hC hS hK=>?_;simp (disch:=first|omega|assumption) only [go_sem];refine hK ?_;clear hK hS hC hC1 K S C hf)|((first|refine zv ?_|refine zw ?_|refine zu ?_);with_reducible (constructor;repeat constructor);try refine zl ?_)))
     refine dt ?_
     (repeat (first|(refine aE rfl rfl ?_)|(refine aF rfl rfl ?_)|(refine aA nmd [] hng (by kernel_rfl) fun hf C S K hC1 hC hS hK=>?_;simp (disch:=first|omega|assumption) only [go_sem];refine hK ?_;clear hK hS hC hC1 K S C hf)|((first|refine zv ?_|refine zw ?_|refine zu ?_);with_reducible (constructor;repeat constructor);try refine zl ?_)))
     refine qr (.d [] [(4,27)] []) (ai e01 e10) trivial ?_
     refine qw (ai e01 e10) ?_
     refine qd (.d [(0,12)] [] [2]) (ai e01 e10) trivial ?_
     refine dL ⟨_,⟨k+1,by omega,rfl,.inl ⟨rfl,_,.sl (.sub (c+1) 13 y.p) 3 1,[(.sub (c+1) 13 y.p,.arr 3 _)],hsn,.inr ⟨by simp,_,rfl,rfl,by simp,by simp⟩,rfl⟩⟩,fun q hq=>?_,fun q hq=>?_⟩
     ·simp only [List.mem_cons,List.not_mem_nil,or_false,List.cons_append,List.nil_append] at hq
      rcases hq with rfl|rfl|rfl
      ·simp (disch:=first|omega|assumption) only [go_sem]
      ·simp (disch:=first|omega|assumption) only [go_sem]
      ·simp (disch:=first|omega|assumption) only [go_sem]
       rfl
     ·simp only [List.mem_cons,List.not_mem_nil,or_false,List.cons_append,List.nil_append] at hq
      rcases hq with rfl|rfl|rfl
      ·exact .inl ⟨_,List.mem_cons_self,rfl⟩
      ·exact .inl ⟨_,List.mem_cons_of_mem _ List.mem_cons_self,rfl⟩
      ·exact .inr (Oid.aj (Oid.ah _))
    ·have hi1:¬ Oid.sub (c+1) 13 y.p=id:=fun e=>by
      have:=hf2 (.sub (c+1) 13 y.p) ⟨c+1,13,by omega,Oid.ah _⟩
      rw [e] at this
      simp only [List.cons_append,List.nil_append,Mem.ak,if_neg hid0,if_neg hid1] at this
      simp at this
     have hi2:¬ id=Oid.sub (c+1) 13 y.p:=fun e=>hi1 e.symm
     (repeat (first|(refine aE rfl rfl ?_)|(refine aF rfl rfl ?_)|(refine aA nmd [] hng (by kernel_rfl) fun hf C S K hC1 hC hS hK=>?_;simp (disch:=first|omega|assumption) only [go_sem];refine hK ?_;clear hK hS hC hC1 K S C hf)|((first|refine zv ?_|refine zw ?_|refine zu ?_);with_reducible (constructor;repeat constructor);try refine zl ?_)))
     refine dt ?_
     (repeat (first|(refine aE rfl rfl ?_)|(refine aF rfl rfl ?_)|(refine aA nmd [] hng (by kernel_rfl) fun hf C S K hC1 hC hS hK=>?_;simp (disch:=first|omega|assumption) only [go_sem];refine hK ?_;clear hK hS hC hC1 K S C hf)|((first|refine zv ?_|refine zw ?_|refine zu ?_);with_reducible (constructor;repeat constructor);try refine zl ?_)))
     refine qr (.d [] [(4,27)] []) (ai e01 e10) trivial ?_
     refine qw (ai e01 (ai e10 (ai hid0 (ai hid1 (ai hi1 hi2))))) ?_
     have hs0:¬ Oid.sub 0 0 x.p=id:=fun e=>hid0 e.symm
     refine db nmd [] [(0,12)] mixed hng (by kernel_rfl) [2] fun hf C S K hC hS hK=>?_;simp (disch:=first|omega|assumption) only [go_sem,e01,e10,hid0,hid1,hi1,hi2,List.length_map]
     refine hK (by simp (disch:=first|omega|assumption) only [go_sem,List.reverse_cons,List.reverse_nil,ne_eq,not_false_eq_true,implies_true,hid0,hid1,hi1,hi2,hs0]) ?_;clear hK hS hC K S C hf
     (try ((first|refine zn ?_|refine ze ?_|refine zk ?_);with_reducible (constructor;repeat constructor));try refine zl ?_)
     refine dL ⟨_,⟨k+1,by omega,rfl,.inl ⟨rfl,_,.sl (.sub (c+1) 13 y.p) 3 (ts.length+1),[(.sub (c+1) 13 y.p,.arr 3 _)],hsn,.inr ⟨by simp,_,by simp,rfl,by simp,by simp⟩,rfl⟩⟩,fun q hq=>?_,fun q hq=>?_⟩
     ·simp only [List.mem_cons,List.not_mem_nil,or_false,List.cons_append,List.nil_append] at hq
      rcases hq with rfl|rfl|rfl
      ·simp (disch:=first|omega|assumption) only [go_sem,hid0,hid1,hi1,hi2]
      ·simp (disch:=first|omega|assumption) only [go_sem,hid0,hid1,hi1,hi2]
      ·simp (disch:=first|omega|assumption) only [go_sem,hid0,hid1,hi1,hi2,List.map_append]
       rfl
     ·simp only [List.mem_cons,List.not_mem_nil,or_false,List.cons_append,List.nil_append] at hq
      rcases hq with rfl|rfl|rfl
      ·exact .inl ⟨_,List.mem_cons_self,rfl⟩
      ·exact .inl ⟨_,List.mem_cons_of_mem _ List.mem_cons_self,rfl⟩
      ·exact .inr (Oid.aj (Oid.ah _))
   ·rcases hr with ⟨rfl,rfl,rfl⟩|⟨hl0,id,rfl,rfl,hid0,hid1⟩
    ·(repeat (first|(refine aE rfl rfl ?_)|(refine aF rfl rfl ?_)|(refine aA nmd [] hng (by kernel_rfl) fun hf C S K hC1 hC hS hK=>?_;simp (disch:=first|omega|assumption) only [go_sem];refine hK ?_;clear hK hS hC hC1 K S C hf)|((first|refine zv ?_|refine zw ?_|refine zu ?_);with_reducible (constructor;repeat constructor);try refine zl ?_)))
     refine dt ?_
     (repeat (first|(refine aE rfl rfl ?_)|(refine aF rfl rfl ?_)|(refine aA nmd [] hng (by kernel_rfl) fun hf C S K hC1 hC hS hK=>?_;simp (disch:=first|omega|assumption) only [go_sem];refine hK ?_;clear hK hS hC hC1 K S C hf)|((first|refine zv ?_|refine zw ?_|refine zu ?_);with_reducible (constructor;repeat constructor);try refine zl ?_)))
     refine qr (.d [] [(4,27)] []) (ai e01 e10) trivial ?_
     refine qw (ai e01 e10) ?_
     refine qd (.d [(0,12)] [] [2]) (ai e01 e10) trivial ?_
     refine dL ⟨_,⟨k+1,by omega,rfl,.inl ⟨rfl,_,.sl (.sub (c+1) 13 y.p) 3 1,[(.sub (c+1) 13 y.p,.arr 3 _)],hsn,.inr ⟨by simp,_,rfl,rfl,by simp,by simp⟩,rfl⟩⟩,fun q hq=>?_,fun q hq=>?_⟩
     ·simp only [List.mem_cons,List.not_mem_nil,or_false,List.cons_append,List.nil_append] at hq
      rcases hq with rfl|rfl|rfl
      ·simp (disch:=first|omega|assumption) only [go_sem]
      ·simp (disch:=first|omega|assumption) only [go_sem]
      ·simp (disch:=first|omega|assumption) only [go_sem]
       rfl
     ·simp only [List.mem_cons,List.not_mem_nil,or_false,List.cons_append,List.nil_append] at hq
      rcases hq with rfl|rfl|rfl
      ·exact .inl ⟨_,List.mem_cons_self,rfl⟩
      ·exact .inl ⟨_,List.mem_cons_of_mem _ List.mem_cons_self,rfl⟩
      ·exact .inr (Oid.aj (Oid.ah _))
    ·have hi1:¬ Oid.sub (c+1) 13 y.p=id:=fun e=>by
      have:=hf2 (.sub (c+1) 13 y.p) ⟨c+1,13,by omega,Oid.ah _⟩
      rw [e] at this
      simp only [List.cons_append,List.nil_append,Mem.ak,if_neg hid0,if_neg hid1] at this
      simp at this
     have hi2:¬ id=Oid.sub (c+1) 13 y.p:=fun e=>hi1 e.symm
     (repeat (first|(refine aE rfl rfl ?_)|(refine aF rfl rfl ?_)|(refine aA nmd [] hng (by kernel_rfl) fun hf C S K hC1 hC hS hK=>?_;simp (disch:=first|omega|assumption) only [go_sem];refine hK ?_;clear hK hS hC hC1 K S C hf)|((first|refine zv ?_|refine zw ?_|refine zu ?_);with_reducible (constructor;repeat constructor);try refine zl ?_)))
     refine dt ?_
     (repeat (first|(refine aE rfl rfl ?_)|(refine aF rfl rfl ?_)|(refine aA nmd [] hng (by kernel_rfl) fun hf C S K hC1 hC hS hK=>?_;simp (disch:=first|omega|assumption) only [go_sem];refine hK ?_;clear hK hS hC hC1 K S C hf)|((first|refine zv ?_|refine zw ?_|refine zu ?_);with_reducible (constructor;repeat constructor);try refine zl ?_)))
     refine qr (.d [] [(4,27)] []) (ai e01 e10) trivial ?_
     refine qw (ai e01 (ai e10 (ai hid0 (ai hid1 (ai hi1 hi2))))) ?_
     have hs0:¬ Oid.sub 0 0 x.p=id:=fun e=>hid0 e.symm
     refine db nmd [] [(0,12)] mixed hng (by kernel_rfl) [2] fun hf C S K hC hS hK=>?_;simp (disch:=first|omega|assumption) only [go_sem,e01,e10,hid0,hid1,hi1,hi2,List.length_map]
     refine hK (by simp (disch:=first|omega|assumption) only [go_sem,List.reverse_cons,List.reverse_nil,ne_eq,not_false_eq_true,implies_true,hid0,hid1,hi1,hi2,hs0]) ?_;clear hK hS hC K S C hf
     (try ((first|refine zn ?_|refine ze ?_|refine zk ?_);with_reducible (constructor;repeat constructor));try refine zl ?_)
     refine dL ⟨_,⟨k+1,by omega,rfl,.inl ⟨rfl,_,.sl (.sub (c+1) 13 y.p) 3 (ts.length+1),[(.sub (c+1) 13 y.p,.arr 3 _)],hsn,.inr ⟨by simp,_,by simp,rfl,by simp,by simp⟩,rfl⟩⟩,fun q hq=>?_,fun q hq=>?_⟩
     ·simp only [List.mem_cons,List.not_mem_nil,or_false,List.cons_append,List.nil_append] at hq
      rcases hq with rfl|rfl|rfl
      ·simp (disch:=first|omega|assumption) only [go_sem,hid0,hid1,hi1,hi2]
      ·simp (disch:=first|omega|assumption) only [go_sem,hid0,hid1,hi1,hi2]
      ·simp (disch:=first|omega|assumption) only [go_sem,hid0,hid1,hi1,hi2,List.map_append]
       rfl
     ·simp only [List.mem_cons,List.not_mem_nil,or_false,List.cons_append,List.nil_append] at hq
      rcases hq with rfl|rfl|rfl
      ·exact .inl ⟨_,List.mem_cons_self,rfl⟩
      ·exact .inl ⟨_,List.mem_cons_of_mem _ List.mem_cons_self,rfl⟩
      ·exact .inr (Oid.aj (Oid.ah _))
  ·rintro pre L' m' ⟨k0,hk0',rfl,hall⟩ ⟨k,hk,hpre,hj⟩ hL' hd hold hnm
   rcases hj with ⟨-,ts,v,L2,ht,hr,rfl⟩|⟨hj,_⟩
   rotate_left
   ·cases hj
   have hkk:k0=k:=by have:=congrArg List.length hpre;simpa [iA] using this
   rw [← hkk,hall rfl,← hn,List.take_length] at ht
   rw [ht]
   have hmm:∀ q ∈ (Oid.sub (0+1+1+1+1) 0 x.p,af.dfr)::([(Oid.sub 0 0 x.p,af.cells [v]),(Oid.sub 0 1 x.p,af.cells [.bool false])]++L2),m' q.1=some q.2:=fun q hq=>(List.mem_cons.1 hq).elim (fun e=>by rw [e];exact hd) (hL' q)
   refine eR _ hmm ?_
   rcases hr with ⟨rfl,rfl,rfl⟩|⟨hl0,id,rfl,rfl,hid0,hid1⟩
   ·refine vI (.sub 0 0 x.p) [.nilSl] [.list 3 []] qs0 (.cons (.vK 3) .nil) ?_
    refine qw0 ?_
    refine ax ⟨by simp (disch:=first|omega|assumption) only [go_sem],.tuple [.list 3 [],.bool true],[],by simp (disch:=first|omega|assumption) only [go_sem],⟨rfl,rfl⟩,fun i o h=>by cases h⟩
   ·have hidc:¬ id=Oid.sub (0+1+1+1+1) 0 x.p:=fun e=>by
     have h1:=hL' (id,.arr 3 (ts.map tchAV)) (by simp)
     simp only at h1
     rw [e,hd] at h1;cases h1
    have hs0:¬ Oid.sub 0 0 x.p=id:=fun e=>hid0 e.symm
    have hs1:¬ Oid.sub 0 1 x.p=id:=fun e=>hid1 e.symm
    refine qI id (.sub 0 0 x.p) 3 (ts.map tchAV) [.sl id 3 ts.length] [.list 3 (ts.map tchAV)] (qs (ai hid0 (ai hid1 hidc))) (qs (ai hid0 (ai hid1 hidc))) hs0 (.gi (by simp) .nil) ?_
    simp (disch:=first|omega|assumption) only [go_sem,hid0,hid1,hidc,hs0,hs1]
    refine qw (ai hid0 (ai hid1 (ai hidc (ai hs0 hs1)))) ?_
    refine ax ⟨by simp (disch:=first|omega|assumption) only [go_sem,hid0,hid1,hidc,hs0,hs1],.tuple [.list 3 (ts.map tchAV),.bool true],[],by simp (disch:=first|omega|assumption) only [go_sem,hid0,hid1,hidc,hs0,hs1],⟨rfl,rfl⟩,fun i o h=>by cases h⟩
  ·rintro pre L' m' cd ⟨k0,hk0',rfl,hall⟩ ⟨k,hk,hpre,hj⟩ hL' hd hold hnm
   rcases hj with ⟨hj,_⟩|⟨hcd,hnn,rfl⟩
   ·cases hj
   obtain rfl:=Option.some.inj hcd
   rw [hnn]
   refine eR ((Oid.sub (0+1+1+1+1) 0 x.p,af.dfr)::[(Oid.sub 0 0 x.p,af.cells [.nilSl]),(Oid.sub 0 1 x.p,af.cells [.bool false])]) (fun q hq=>(List.mem_cons.1 hq).elim (fun e=>by rw [e];exact hd) (hL' q)) ?_
   refine ax ⟨by simp (disch:=first|omega|assumption) only [go_sem],.tuple [.nilSl,.bool false],[],by simp (disch:=first|omega|assumption) only [go_sem],⟨rfl,rfl⟩,fun i o h=>by cases h⟩
end Go.Proofs.YtpficjpdfbiedaaGreatDoor
namespace Go.Proofs.YtpficjpdfbiedaaGreatDoor
open Go Go.Ab
set_option maxRecDepth 20000
set_option maxHeartbeats 4000000
def yg:AV:=.agg [.str [],.nilSl,.nilSl,.int .i64 0,.str [],.str []]
def uA (o:Option Mm):AV:=match o with
 | some m=>.tuple [m.av,.int .i64 0]
 | none=>.tuple [yg,.int .i64 20]
theorem yU:∀ {l:List Str},l.length=6→∃ k r w n o e,l=[k,r,w,n,o,e]
 | [k,r,w,n,o,e],_=>⟨k,r,w,n,o,e,rfl⟩
theorem ga (s:Str) (hl:s.length≤4000000000) (p:Oid) (hp:p.mono=false):ao Tryz.prog 13 [.str s] (Oid.under p) ⟨[],uA (fW s),[]⟩:=by
 have hD:=fun p hp=>kX s hl p hp
 have h20:¬ (20:Int)=0:=by decide
 cases hd:dY s with
 | none =>
  have hdm:fW s=none:=by unfold fW;rw [hd]
  rw [hdm]
  rw [hd] at hD
  simp only [tn] at hD
  refine aY (n:=70) (rs:=[.cell 2 31,.tmp 3]) Tryz.func13 rfl rfl (by decide) rfl rfl rfl ?_;rintro x rfl hrd hng
  refine qw0 ?_
  refine qr1 (hD _) ?_
  refine qr (.d [] [(2,18)] []) h20 trivial ?_
  refine qw0 ?_
  exact ax (ay (by simp (disch:=first|omega|assumption) only [go_sem];rfl))
 | some l =>
  rw [hd] at hD
  simp only [tn] at hD
  have hml:=nu hd
  by_cases h6:l.length=6
  case neg =>
   have h6':¬ (l.length:Int)=6:=by omega
   have hnn:fW s=none:=by
    unfold fW
    rw [hd]
    split
    ·rename_i k r w n o e he;rw [Option.some.inj he] at h6;exact absurd rfl h6
    ·rfl
   rw [hnn]
   refine aY (n:=70) (rs:=[.cell 2 31,.tmp 3]) Tryz.func13 rfl rfl (by decide) rfl rfl rfl ?_;rintro x rfl hrd hng
   refine qw0 ?_
   refine qr1 (hD _) ?_
   refine qr (.d [] [(2,18)] []) h6' trivial ?_
   refine qw0 ?_
   exact ax (ay (by simp (disch:=first|omega|assumption) only [go_sem];rfl))
  obtain ⟨k,r,w,n,o,e,rfl⟩:=yU h6
  have hR1:=fun p hp=>nN r (Nat.le_trans (hml r (by simp)) hl) p hp
  have hR2:=fun p hp=>nN w (Nat.le_trans (hml w (by simp)) hl) p hp
  have hN:=fun p hp=>fq n (by have:=hml n (by simp);omega) p hp
  have hdm:fW s=mk6 k (eS r) (eS w) n o e:=by unfold fW;rw [hd]
  rw [hdm]
  simp only [List.map_cons,List.map_nil] at hD
  clear hml hd h6 hdm
  unfold mk6
  generalize cL n=g at hN ⊢
  generalize aP n=z at hN ⊢
  generalize eS r=rr at hR1 ⊢
  generalize eS w=ww at hR2 ⊢
  cases rr<;>cases ww<;>cases g
  all_goals
   simp only [uy] at hR1 hR2
   refine aY (n:=70) (rs:=[.cell 2 31,.tmp 3]) Tryz.func13 rfl rfl (by decide) rfl rfl rfl ?_;rintro x rfl hrd hng
   refine qw0 ?_
   refine qr1 (hD _) ?_
   refine qr (.d [] [(2,18)] []) trivial trivial ?_
   refine qw0 ?_
   refine qr1 (hR1 _) ?_
   refine qr1 (hR2 _) ?_
   refine qr1 (hN _) ?_
   refine qr (.d [] [(2,47),(6,51)] []) trivial trivial ?_
   refine qw0 ?_
   first
   | exact ax (ay (by simp (disch:=first|omega|assumption) only [go_sem];rfl))
   | (refine db nmd [] [] mixed hng (by kernel_rfl) [2,3] fun hf C S K hC hS hK=>?_;simp (disch:=first|omega|assumption) only [go_sem]
      (first|refine hK (aQ rfl) ?_|refine hK (by simp (disch:=first|omega|assumption) only [go_sem,List.reverse_cons,List.reverse_nil,ne_eq,not_false_eq_true,implies_true]) ?_);clear hK hS hC K S C hf
      refine qw0 ?_
      exact ax (ay (by simp (disch:=first|omega|assumption) only [go_sem];rfl)))
end Go.Proofs.YtpficjpdfbiedaaGreatDoor
namespace Go.Proofs.YtpficjpdfbiedaaGreatDoor
open Go Go.Ab
set_option maxRecDepth 20000
set_option maxHeartbeats 4000000
def dw:List Tch→Nat
 | []=>0
 | t::l=>t.1.1.length+t.2.length+1+dw l
theorem iV (a b:List Tch):dw (a++b)=dw a+dw b:=by
 induction a with
 | nil=>simp [dw]
 | cons t a ih=>simp only [List.cons_append,dw,ih];omega
theorem lh {l:List Tch} {i:Nat} (h:i < l.length):dw (l.take (i+1))=dw (l.take i)+((l.getD i default).1.1.length+(l.getD i default).2.length+1):=by
 rw [List.take_add_one,List.getElem?_eq_getElem h,List.getD_eq_getElem?_getD,List.getElem?_eq_getElem h,iV]
 simp [dw]
theorem pN (l:List Tch) (i:Nat):dw (l.take i)≤dw l:=by
 conv=>rhs;rw [← List.take_append_drop i l,iV]
 omega
theorem ki:∀ (l:List Tch),l.length≤dw l∧∀ t ∈ l,t.1.1.length≤dw l∧t.2.length≤dw l
 | []=>⟨Nat.le_refl _,fun t h=>by cases h⟩
 | t::l=>by
  obtain ⟨h1,h2⟩:=ki l
  refine ⟨by simp only [List.length_cons,dw];omega,fun u hu=>?_⟩
  simp only [dw]
  rcases List.mem_cons.1 hu with rfl|hu
  ·omega
  ·have:=h2 u hu;omega
def kj (m:Mm):Nat:=m.key.length+m.out.length+m.err.length+dw m.rd+dw m.wr
theorem uB {m:Mm} (h:kj m≤500):Mm.small m 500:=by
 unfold kj at h
 obtain ⟨a1,a2⟩:=ki m.rd
 obtain ⟨b1,b2⟩:=ki m.wr
 exact ⟨by omega,by omega,by omega,fun t ht=>by have:=a2 t ht;omega,fun t ht=>by have:=b2 t ht;omega,by omega,by omega⟩
theorem rb (m:Mm) (hk:m.key.length≤140737488355328) (ho:m.out.length≤140737488355328) (he:m.err.length≤140737488355328) (hr:m.rd.length≤140737488355328) (hw:m.wr.length≤140737488355328) (hrt:∀ t ∈ m.rd,t.1.1.length≤140737488355328∧t.2.length≤140737488355328) (hwt:∀ t ∈ m.wr,t.1.1.length≤140737488355328∧t.2.length≤140737488355328) (p:Oid) :
  ao Tryz.prog 12 [m.av] (Oid.under p) ⟨[],.bool (decide (kj m≤500)),[]⟩:=by
 unfold kj
 obtain ⟨mk,mr,mw,ms,mo,me⟩:=m
 simp only [Mm.av] at hk ho he hr hw hrt hwt ⊢
 refine aY (n:=79) (rs:=[.tmp 2]) Tryz.func12 rfl rfl (by decide) rfl rfl rfl ?_;rintro x rfl hrd hng
 refine qw0 ?_
 refine bM [1,3,4] (fun q s'=>∃ (c i:Nat) (n:Int),s' = ⟨[(1,.ptr (.sub 0 0 x.p) 0),(3,.int .i64 n),(4,.int .i64 i)],Mem.of [(.sub 0 0 x.p,.cells [.str mk,.list 3 (mr.map tchAV),.list 3 (mw.map tchAV),.int .i64 ms,.str mo,.str me])],c,[]⟩∧q=mr.length - i∧i≤mr.length∧n=((mk.length+mo.length+me.length+dw (mr.take i):Nat):Int)∧n≤1000000000000000) _ ⟨_,0,_,rfl,rfl,Nat.zero_le _,by simp only [List.take_zero,dw];omega,by omega⟩ ?_
 rintro q s' ⟨c,i,n,rfl,rfl,hi,hn,hn4⟩
 have hlm:(mr.map tchAV).length=mr.length:=List.length_map ..
 by_cases hc:i < mr.length∧n≤500
 ·obtain ⟨hlt,h500⟩:=hc
  have hlt':(i:Int) < (mr.length:Int):=by omega
  (try ((first|refine zn ?_|refine ze ?_|refine zk ?_);with_reducible (constructor;repeat constructor));try refine zl ?_)
  refine qr (.d [] [(5,24)] []) (ai hlt' hlm) trivial ?_
  (try ((first|refine zn ?_|refine ze ?_|refine zk ?_);with_reducible (constructor;repeat constructor));try refine zl ?_)
  refine bX rfl rfl (fun hb=>?_) (fun hb=>?_)
  ·have ht:=lh hlt
   have hgm:mr.getD i default ∈ mr:=by rw [je hlt];exact List.getElem_mem _
   have hgl:=hrt _ hgm
   generalize hg:mr.getD i default=g at ht hgl
   obtain ⟨⟨gp,gf⟩,gv⟩:=g
   simp only at ht hgl
   (try ((first|refine zn ?_|refine ze ?_|refine zk ?_);with_reducible (constructor;repeat constructor));try refine zl ?_)
   refine db nmd [] [] mixed hng (by kernel_rfl) [1,3,4] fun hf C S K hC hS hK=>?_;simp (disch:=first|omega|assumption) only [go_sem,hg,tchAV,AV.cells,List.length_map]
   (first|refine hK (aQ rfl) ?_|refine hK (by simp (disch:=first|omega|assumption) only [go_sem,List.reverse_cons,List.reverse_nil,ne_eq,not_false_eq_true,implies_true]) ?_);clear hK hS hC K S C hf
   refine qw0 ?_
   exact ⟨_,_,by omega,fun _ _ h=>h,_,i+1,_,rfl,rfl,by omega,by omega,by omega⟩
  ·exact absurd h500 (by omega)
 have hsm:=pN mr i
 have hx:n≤500→i=mr.length:=by omega
 by_cases hlt:i < mr.length
 case' pos =>
  have hlt':(i:Int) < (mr.length:Int):=by omega
  (try ((first|refine zn ?_|refine ze ?_|refine zk ?_);with_reducible (constructor;repeat constructor));try refine zl ?_)
  refine qr (.d [] [(5,24)] []) (ai hlt' hlm) trivial ?_
  (try ((first|refine zn ?_|refine ze ?_|refine zk ?_);with_reducible (constructor;repeat constructor));try refine zl ?_)
  refine bX rfl rfl (fun hb=>absurd hb (by omega)) (fun hb=>?_)
 case' neg =>
  have hlt':¬ (i:Int) < (mr.length:Int):=by omega
  (try ((first|refine zn ?_|refine ze ?_|refine zk ?_);with_reducible (constructor;repeat constructor));try refine zl ?_)
  refine qr (.d [] [(5,24)] []) (ai hlt' hlm) trivial ?_
  (try ((first|refine zn ?_|refine ze ?_|refine zk ?_);with_reducible (constructor;repeat constructor));try refine zl ?_)
 all_goals
  clear hlm hlt hlt' hc
  generalize hA:mk.length+mo.length+me.length+dw mr=A
  have hxA:n≤A∧(n≤500→n=A):=by
   refine ⟨by omega,fun h=>?_⟩
   obtain rfl:=hx h
   rw [List.take_length] at hn
   omega
  clear hx hsm hn
  refine qw0 ?_
  refine bM [1,3,5] (fun q s'=>∃ (c i:Nat) (v:Int),s' = ⟨[(1,.ptr (.sub 0 0 x.p) 0),(3,.int .i64 v),(5,.int .i64 i)],Mem.of [(.sub 0 0 x.p,.cells [.str mk,.list 3 (mr.map tchAV),.list 3 (mw.map tchAV),.int .i64 ms,.str mo,.str me])],c,[]⟩∧q=mw.length - i∧i≤mw.length∧v=n+((dw (mw.take i):Nat):Int)∧v≤2000000000000000) _ ⟨_,0,_,rfl,rfl,Nat.zero_le _,by simp only [List.take_zero,dw];omega,by omega⟩ ?_
  rintro q s' ⟨c,i,v,rfl,rfl,hi,hv,hv4⟩
  have hlm:(mw.map tchAV).length=mw.length:=List.length_map ..
  by_cases hc:i < mw.length∧v≤500
  ·obtain ⟨hlt,h500⟩:=hc
   have hlt':(i:Int) < (mw.length:Int):=by omega
   (try ((first|refine zn ?_|refine ze ?_|refine zk ?_);with_reducible (constructor;repeat constructor));try refine zl ?_)
   refine qr (.d [] [(5,53)] []) (ai hlt' hlm) trivial ?_
   (try ((first|refine zn ?_|refine ze ?_|refine zk ?_);with_reducible (constructor;repeat constructor));try refine zl ?_)
   refine bX rfl rfl (fun hb=>?_) (fun hb=>?_)
   ·have ht:=lh hlt
    have hgm:mw.getD i default ∈ mw:=by rw [je hlt];exact List.getElem_mem _
    have hgl:=hwt _ hgm
    generalize hg:mw.getD i default=g at ht hgl
    obtain ⟨⟨gp,gf⟩,gv⟩:=g
    simp only at ht hgl
    (try ((first|refine zn ?_|refine ze ?_|refine zk ?_);with_reducible (constructor;repeat constructor));try refine zl ?_)
    refine db nmd [] [] mixed hng (by kernel_rfl) [1,3,5] fun hf C S K hC hS hK=>?_;simp (disch:=first|omega|assumption) only [go_sem,hg,tchAV,AV.cells,List.length_map]
    (first|refine hK (aQ rfl) ?_|refine hK (by simp (disch:=first|omega|assumption) only [go_sem,List.reverse_cons,List.reverse_nil,ne_eq,not_false_eq_true,implies_true]) ?_);clear hK hS hC K S C hf
    refine qw0 ?_
    exact ⟨_,_,by omega,fun _ _ h=>h,_,i+1,_,rfl,rfl,by omega,by omega,by omega⟩
   ·exact absurd h500 (by omega)
  have hsm:=pN mw i
  have hx:v≤500→i=mw.length:=by omega
  have hz:decide (v≤500)=decide (A+dw mw≤500):=by
   refine decide_eq_decide.2 ⟨fun h=>?_,fun h=>by omega⟩
   obtain rfl:=hx h
   rw [List.take_length] at hv
   have:=hxA.2 (by omega)
   omega
  by_cases hlt:i < mw.length
  case' pos =>
   have hlt':(i:Int) < (mw.length:Int):=by omega
   (try ((first|refine zn ?_|refine ze ?_|refine zk ?_);with_reducible (constructor;repeat constructor));try refine zl ?_)
   refine qr (.d [] [(5,53)] []) (ai hlt' hlm) trivial ?_
   (try ((first|refine zn ?_|refine ze ?_|refine zk ?_);with_reducible (constructor;repeat constructor));try refine zl ?_)
   refine bX rfl rfl (fun hb=>absurd hb (by omega)) (fun hb=>?_)
  case' neg =>
   have hlt':¬ (i:Int) < (mw.length:Int):=by omega
   (try ((first|refine zn ?_|refine ze ?_|refine zk ?_);with_reducible (constructor;repeat constructor));try refine zl ?_)
   refine qr (.d [] [(5,53)] []) (ai hlt' hlm) trivial ?_
   (try ((first|refine zn ?_|refine ze ?_|refine zk ?_);with_reducible (constructor;repeat constructor));try refine zl ?_)
  all_goals
   rw [← hz]
   refine qw0 ?_
   exact ax (cG rfl)
theorem uC (m:Mm) (hr:m.rd.length≤1000000) (hw:m.wr.length≤1000000) (p:Oid) (hp:p.mono=false) :
  ao Tryz.prog 17 [m.av,m.av] (Oid.under p) ⟨[],.bool true,[]⟩:=by
 obtain ⟨mk,mr,mw,ms,mo,me⟩:=m
 simp only [Mm.av] at hr hw ⊢
 refine aY (n:=31) (rs:=[.tmp 4]) Tryz.func17 rfl rfl (by decide) rfl rfl rfl ?_;rintro x rfl hrd hng
 have h1:=fun p=>kf mr (by omega) p
 have h2:=fun p=>kf mw (by omega) p
 refine qw0 ?_
 refine qr (.d [] [(5,10),(12,17),(19,24)] []) trivial (cq (h1 _) (cq (h2 _) trivial)) ?_
 refine qw0 ?_
 exact ax (ay qs0)
end Go.Proofs.YtpficjpdfbiedaaGreatDoor
namespace Go.Proofs.YtpficjpdfbiedaaGreatDoor
open Go Go.Ab
set_option maxRecDepth 20000
set_option maxHeartbeats 4000000
def mK:Mm:=⟨[107],[],[],0,[],[]⟩
def mJ:Mm:=⟨[106],[],[],0,[],[]⟩
theorem pO:fV mK=[49,58,107,44,48,58,44,48,58,44,49,58,48,44,48,58,44,48,58,44]:=by kernel_rfl
theorem yh:fW [120]=none:=by kernel_rfl
theorem wa:uw [] [mK,mJ] [107]=0:=by kernel_rfl
theorem yi (k:Str):dX (.agg [.str k,.nilSl,.nilSl,.int .i64 0,.str [],.str []]) (Mm.av ⟨k,[],[],0,[],[]⟩) :=
 dX.agg (.cons (.refl _) (.cons (dX.nil 3) (.cons (dX.nil 3) (.cons (.refl _) (.cons (.refl _) (.cons (.refl _) .nil))))))
theorem pP (k:Str):qj (.agg [.str k,.nilSl,.nilSl,.int .i64 0,.str [],.str []]) (Mm.av ⟨k,[],[],0,[],[]⟩) :=
 qj.agg (.cons (.refl _) (.cons (dX.nil 3) (.cons (dX.nil 3) (.cons (.refl _) (.cons (.refl _) (.cons (.refl _) .nil))))))
theorem oY (p:Oid) (hp:p.mono=false):ao Tryz.prog 9 [] (Oid.under p) ⟨[],.bool true,[]⟩:=by
 have hD:=fun p hp=>ga [120] (by decide) p hp
 rw [yh] at hD
 simp only [uA,yg] at hD
 have hE:=fun p hp=>(fZ mK (by decide) (by decide) (by decide) (by decide) (by decide) (by rw [pO];decide) p hp).oq (.cons (yi _) .nil)
 rw [pO] at hE
 have hK:=fun p hp=>(yb [] [] [] 0 [] (by decide) (by decide) (by decide) (by decide) (by decide) (by decide) (by decide) p hp).oq (.cons (dX.nil 1) (.cons (dX.nil 1) (.cons (.refl _) (.cons (.refl _) (.cons (.refl _) .nil)))))
 have hL:(nD (aI [aI [],aI [],[],Lib.itoa 0,[]])).length=64:=tR _
 generalize nD (aI [aI [],aI [],[],Lib.itoa 0,[]])=ky at hK hL
 refine aY (n:=33) (rs:=[.tmp 0]) Tryz.func9 rfl rfl (by decide) rfl rfl rfl ?_;rintro x rfl hrd hng
 (repeat (first|(refine aE rfl rfl ?_)|(refine aF rfl rfl ?_)|(refine aA nmd [] hng (by kernel_rfl) fun hf C S K hC1 hC hS hK=>?_;simp (disch:=first|omega|assumption) only [go_sem];(repeat ((first|refine hC1 _ (x0 _) (by simp (disch:=first|omega|assumption) only [go_sem]) ?_);simp (disch:=first|omega|assumption) only [go_sem]));refine hK ?_;clear hK hS hC hC1 K S C hf)|((first|refine zn ?_|refine ze ?_|refine zk ?_);with_reducible (constructor;repeat constructor);try refine zl ?_)))
 have hab:¬ Oid.sub 1 0 (.sub 1 0 x.p)=Oid.sub 1 2 (.sub 1 0 x.p):=by simp
 rw [x7,q8 _ _ hab]
 have hS:=ur hab
 have hOA:kD x.p 2 [Oid.sub 1 2 (.sub 1 0 x.p),Oid.sub 1 0 (.sub 1 0 x.p)]:=fun j hj ⟨c',i',hc',hu⟩=>by
  simp only [List.mem_cons,List.not_mem_nil,or_false] at hj
  rcases hj with rfl|rfl
  all_goals have:=(Oid.apart hu (Oid.aj (Oid.ah _))).1;omega
 have hO:∀ c i,2≤c→gV (.sub c i x.p) [Oid.sub 1 2 (.sub 1 0 x.p),Oid.sub 1 0 (.sub 1 0 x.p)]:=fun c i h=>hOA.sub h i
 clear hOA
 have hx:Oid.sub 2 4 x.p ∉ [Oid.sub 1 2 (.sub 1 0 x.p),Oid.sub 1 0 (.sub 1 0 x.p)]:=by simp
 generalize two (Oid.sub 1 2 (.sub 1 0 x.p)) (.cells [.map (Oid.sub 1 0 (.sub 1 0 x.p)),.nilPtr]) (.map [.ss] false [] 0)=F at hS ⊢
 generalize [Oid.sub 1 2 (.sub 1 0 x.p),Oid.sub 1 0 (.sub 1 0 x.p)]=N at hS hO hx ⊢
 generalize Oid.sub 1 2 (.sub 1 0 x.p)=st at hS ⊢
 have hF:=fun p hp ho=>(ux hS v7 [mK,mJ] [107] (by decide) (fun m hm=>by
  simp only [List.mem_cons,List.not_mem_nil,or_false] at hm
  rcases hm with rfl|rfl<;>exact ⟨by decide,fun h hh=>by cases hh⟩) p hp ho).oq (.cons (dX.list (.cons (pP _) (.cons (pP _) .nil))) (.cons (.refl _) (.cons (.refl _) .nil)))
 rw [wa] at hF
 refine qr1 (hD _) ?_
 refine aA nmd [(2,11),(7,16),(11,20),(19,28)] hng (by kernel_rfl) fun hf C S K hC1 hC hS hK'=>?_;refine qt hL ?_
 refine hC1 _ (hE _ (aw rfl hp)) (fun _ h=>by cases h) ?_;refine qt hL ?_
 refine hC1 _ (hF _ (aw rfl hp) (hO _ _ (by omega))) (by show ∀ q,q ∈ bk _→_;rw [x5 hx,tV];trivial) ?_;refine qt hL ?_
 refine hC1 _ (hK _ (aw rfl hp)) (fun _ h=>by cases h) ?_;refine qt hL ?_
 refine hK' ?_;clear hK' hS hC hC1 K S C hf
 refine qw0 ?_
 exact ax (ay (by simp (disch:=first|omega|assumption) only [go_sem];rfl))
end Go.Proofs.YtpficjpdfbiedaaGreatDoor
namespace Go.Proofs.YtpficjpdfbiedaaGreatDoor
open Go Go.Ab
set_option maxRecDepth 20000
set_option maxHeartbeats 4000000
def l5 (a:Int):Int:=IntKind.i64.wrap (BitVec.ofInt IntKind.i64.bits a &&& BitVec.ofInt IntKind.i64.bits 255).toNat
theorem uD (a:Int):b5 .and .i64 a 255=some (.int .i64 (l5 a)):=rfl
attribute [go_sem high] uD
theorem wb (a:Int):0≤l5 a∧l5 a≤255:=by
 unfold l5
 have h:(BitVec.ofInt IntKind.i64.bits a &&& BitVec.ofInt IntKind.i64.bits 255).toNat≤255:=by
  rw [BitVec.toNat_and]
  exact Nat.and_le_right
 generalize (BitVec.ofInt IntKind.i64.bits a &&& BitVec.ofInt IntKind.i64.bits 255).toNat=k at h
 have e:=sN (UInt8.ofNat k)
 rw [show (UInt8.ofNat k).toNat=k by rw [UInt8.toNat_ofNat'];omega] at e
 omega
theorem gZ:∀ {l:List Str},(l.length≤(aI l).length)∧∀ s ∈ l,s.length≤(aI l).length
 | []=>⟨Nat.le_refl _,fun s h=>by cases h⟩
 | a::l=>by
  obtain ⟨h1,h2⟩:=gZ (l:=l)
  have hc:=bJ a
  refine ⟨by simp only [List.length_cons,aI,List.length_append];omega,fun s hs=>?_⟩
  simp only [aI,List.length_append]
  rcases List.mem_cons.1 hs with rfl|hs
  ·omega
  ·have:=h2 s hs;omega
theorem wc {s:Str} {m:Mm} (h:fW s=some m):-9223372036854775808≤m.st∧m.st≤9223372036854775807:=by
 unfold fW at h
 split at h
 ·unfold mk6 at h
  split at h
  ·split at h
   ·obtain rfl:=Option.some.inj h
    exact gM _
   ·cases h
  ·cases h
 ·cases h
structure za (m:Mm) (c:Nat):Prop where
 rd:m.rd.length≤c
 wr:m.wr.length≤c
 lr:(aR m.rd).length≤c
 lw:(aR m.wr).length≤c
theorem yj (m:Mm):za m (fV m).length:=by
 have h:=(gZ (l:=[m.key,aR m.rd,aR m.wr,Lib.itoa m.st,m.out,m.err])).2
 have h1:=h (aR m.rd) (by simp)
 have h2:=h (aR m.wr) (by simp)
 have r1:=(gZ (l:=spT m.rd)).1
 have r2:=(gZ (l:=spT m.wr)).1
 rw [gT] at r1 r2
 have e1:(aR m.rd).length=(aI (spT m.rd)).length:=rfl
 have e2:(aR m.wr).length=(aI (spT m.wr)).length:=rfl
 rw [show aI [m.key,aR m.rd,aR m.wr,Lib.itoa m.st,m.out,m.err]=fV m from rfl] at h1 h2
 exact ⟨by omega,by omega,h1,h2⟩
theorem oZ {m:Mm} (h:Mm.small m 500) (hs:0≤m.st∧m.st≤255):m.rd.length≤1000000∧m.wr.length≤1000000∧(aR m.rd).length≤20000000∧(aR m.wr).length≤20000000∧(fV m).length≤1000000000:=by
 have a1:=iP h.rl h.r (by omega) (by omega)
 have a2:=iP h.wl h.w (by omega) (by omega)
 have n1:=h.rl
 have n2:=h.wl
 have k1:=h.k
 have k2:=h.o
 have k3:=h.e
 have hii:=Lib.itoa_length_le m.st (by omega) (by omega)
 have one:∀ s:Str,s.length≤100000000→(chunk s).length≤100000100:=fun s h=>by
  have h1:=bJ s
  have h2:=Lib.itoa_length_le s.length (by omega) (by omega)
  omega
 have c1:=one m.key (by omega)
 have c2:=one m.out (by omega)
 have c3:=one m.err (by omega)
 have c4:=one (Lib.itoa m.st) (by omega)
 have c5:=one _ (Nat.le_trans a1 (by omega))
 have c6:=one _ (Nat.le_trans a2 (by omega))
 refine ⟨by omega,by omega,a1,a2,?_⟩
 simp only [fV,aI,List.length_append,List.length_nil];omega
structure Mm.in (m:Mm):Prop where
 k:m.key.length≤140737488355328
 o:m.out.length≤140737488355328
 e:m.err.length≤140737488355328
 rl:m.rd.length≤140737488355328
 wl:m.wr.length≤140737488355328
 r:∀ t ∈ m.rd,t.1.1.length≤140737488355328∧t.2.length≤140737488355328
 w:∀ t ∈ m.wr,t.1.1.length≤140737488355328∧t.2.length≤140737488355328
theorem back_ok (m:Mm) (hm:m.in) (s:Str) (hs:s.length≤140737488355328) (p:Oid) (hp:p.mono=false) :
  ao Tryz.prog 5 [m.av,.str s] (Oid.under p) ⟨[],.bool true,[]⟩:=by
 have hA:=fun p hp=>oY p hp
 have hS:=fun p (_:p.mono=false)=>rb m hm.k hm.o hm.e hm.rl hm.wl hm.r hm.w p
 by_cases h5:kj m≤500
 case neg =>
  rw [decide_eq_false h5] at hS
  clear h5 hm
  obtain ⟨mk,mr,mw,ms,mo,me⟩:=m
  simp only [Mm.av] at hS ⊢
  refine aY (n:=59) (rs:=[.tmp 4]) Tryz.func5 rfl rfl (by decide) rfl rfl rfl ?_;rintro x rfl hrd hng
  (repeat (first|(refine aE rfl rfl ?_)|(refine aF rfl rfl ?_)|(refine aA nmd [] hng (by kernel_rfl) fun hf C S K hC1 hC hS hK=>?_;simp (disch:=first|omega|assumption) only [go_sem];(repeat ((first|refine hC1 _ (hA _ (aw rfl hp)) (by simp (disch:=first|omega|assumption) only [go_sem]) ?_);simp (disch:=first|omega|assumption) only [go_sem]));refine hK ?_;clear hK hS hC hC1 K S C hf)|((first|refine zn ?_|refine ze ?_|refine zk ?_);with_reducible (constructor;repeat constructor);try refine zl ?_)))
  refine qr (.d [] [(3,16)] []) trivial (cq (hS _) trivial) ?_
  refine qw0 ?_
  exact ax (cG rfl)
 rw [decide_eq_true h5] at hS
 have hsm:=uB h5
 clear h5
 by_cases hl:s.length≤500
 case neg =>
  have hl':(s.length:Int) > 500:=by omega
  clear hm hsm
  obtain ⟨mk,mr,mw,ms,mo,me⟩:=m
  simp only [Mm.av] at hS ⊢
  refine aY (n:=59) (rs:=[.tmp 4]) Tryz.func5 rfl rfl (by decide) rfl rfl rfl ?_;rintro x rfl hrd hng
  (repeat (first|(refine aE rfl rfl ?_)|(refine aF rfl rfl ?_)|(refine aA nmd [] hng (by kernel_rfl) fun hf C S K hC1 hC hS hK=>?_;simp (disch:=first|omega|assumption) only [go_sem];(repeat ((first|refine hC1 _ (hA _ (aw rfl hp)) (by simp (disch:=first|omega|assumption) only [go_sem]) ?_);simp (disch:=first|omega|assumption) only [go_sem]));refine hK ?_;clear hK hS hC hC1 K S C hf)|((first|refine zn ?_|refine ze ?_|refine zk ?_);with_reducible (constructor;repeat constructor);try refine zl ?_)))
  refine qr (.d [] [(3,16)] []) hl' (cq (hS _) trivial) ?_
  refine qw0 ?_
  exact ax (cG rfl)
 have hl':¬ (s.length:Int) > 500:=by omega
 clear hm
 obtain ⟨mk,mr,mw,ms,mo,me⟩:=m
 have hb:=wb ms
 have hsm':Mm.small ⟨mk,mr,mw,l5 ms,mo,me⟩ 500:=⟨hsm.k,hsm.o,hsm.e,hsm.r,hsm.w,hsm.rl,hsm.wl⟩
 obtain ⟨r1,r2,l1,l2,le⟩:=oZ hsm' hb
 have hE:=fun p hp=>fZ ⟨mk,mr,mw,l5 ms,mo,me⟩ r1 r2 (by omega) (by omega) (by constructor<;>simp only<;>omega) (by omega) p hp
 have hD:=fun p hp=>ga (fV ⟨mk,mr,mw,l5 ms,mo,me⟩) (by omega) p hp
 have q1:=hsm'.k
 have q2:=hsm'.o
 have q3:=hsm'.e
 rw [tN (fun t h=>by have:=hsm'.r t h;omega) (fun t h=>by have:=hsm'.w t h;omega) (by omega) (by omega) (by omega) (by omega) (by omega) hb.1 (by simp only;omega)] at hD
 have hQ:=fun p (hp:p.mono=false)=>uC ⟨mk,mr,mw,l5 ms,mo,me⟩ r1 r2 p hp
 have hT:=fun p hp=>ga s (by omega) p hp
 generalize fV ⟨mk,mr,mw,l5 ms,mo,me⟩=E at hE hD
 clear hsm hsm' r1 r2 l1 l2 le q1 q2 q3
 simp only [Mm.av,uA] at hS hE hD hQ ⊢
 cases hd:fW s with
 | none =>
  have h20:¬ (20:Int)=0:=by decide
  rw [hd] at hT
  simp only [uA,yg] at hT
  refine aY (n:=59) (rs:=[.tmp 4]) Tryz.func5 rfl rfl (by decide) rfl rfl rfl ?_;rintro x rfl hrd hng
  (repeat (first|(refine aE rfl rfl ?_)|(refine aF rfl rfl ?_)|(refine aA nmd [] hng (by kernel_rfl) fun hf C S K hC1 hC hS hK=>?_;simp (disch:=first|omega|assumption) only [go_sem];(repeat ((first|refine hC1 _ (hA _ (aw rfl hp)) (by simp (disch:=first|omega|assumption) only [go_sem]) ?_);simp (disch:=first|omega|assumption) only [go_sem]));refine hK ?_;clear hK hS hC hC1 K S C hf)|((first|refine zn ?_|refine ze ?_|refine zk ?_);with_reducible (constructor;repeat constructor);try refine zl ?_)))
  refine qr (.d [] [(3,16)] []) hl' (cq (hS _) trivial) ?_
  refine qw0 ?_
  refine qr .o trivial (cq (hE _) (cq (hD _) trivial)) ?_
  refine qr1 (hT _) ?_
  refine aA nmd [(1,40),(5,44),(10,49),(13,52)] hng (by kernel_rfl) fun hf C S K hC1 hC hS hK=>?_;refine qt h20 ?_
  refine hC1 _ (hQ _ (aw rfl hp)) (fun _ h=>by cases h) ?_;refine qt h20 ?_
  refine hK ?_;clear hK hS hC hC1 K S C hf
  refine qw0 ?_
  exact ax (cG rfl)
 | some b =>
  have hbs:=tO hd
  have hbb:=yj b
  rw [hbs] at hbb
  have hB:=fun p hp=>fZ b (Nat.le_trans hbb.rd (by omega)) (Nat.le_trans hbb.wr (by omega)) (Nat.le_trans hbb.lr (by omega)) (Nat.le_trans hbb.lw (by omega)) (wc hd) (by rw [hbs];omega) p hp
  rw [hbs] at hB
  rw [hd] at hT
  clear hd hbs hbb
  obtain ⟨bk',br,bw,bs,bo,be⟩:=b
  simp only [uA,Mm.av] at hT hB
  refine aY (n:=59) (rs:=[.tmp 4]) Tryz.func5 rfl rfl (by decide) rfl rfl rfl ?_;rintro x rfl hrd hng
  (repeat (first|(refine aE rfl rfl ?_)|(refine aF rfl rfl ?_)|(refine aA nmd [] hng (by kernel_rfl) fun hf C S K hC1 hC hS hK=>?_;simp (disch:=first|omega|assumption) only [go_sem];(repeat ((first|refine hC1 _ (hA _ (aw rfl hp)) (by simp (disch:=first|omega|assumption) only [go_sem]) ?_);simp (disch:=first|omega|assumption) only [go_sem]));refine hK ?_;clear hK hS hC hC1 K S C hf)|((first|refine zn ?_|refine ze ?_|refine zk ?_);with_reducible (constructor;repeat constructor);try refine zl ?_)))
  refine qr (.d [] [(3,16)] []) hl' (cq (hS _) trivial) ?_
  refine qw0 ?_
  refine qr .o trivial (cq (hE _) (cq (hD _) trivial)) ?_
  refine qr1 (hT _) ?_
  refine aA nmd [(1,40),(5,44),(10,49),(13,52)] hng (by kernel_rfl) fun hf C S K hC1 hC hS hK=>?_;refine qt0 ?_
  refine hC1 _ (hQ _ (aw rfl hp)) (fun _ h=>by cases h) ?_;refine qt0 ?_
  refine hC1 _ (hB _ (aw rfl hp)) (fun _ h=>by cases h) ?_;refine qt0 ?_
  refine hK ?_;clear hK hS hC hC1 K S C hf
  refine qw0 ?_
  exact ax (cG rfl)
end Go.Proofs.YtpficjpdfbiedaaGreatDoor
namespace Go.Proofs.YtpficjpdfbiedaaGreatDoor
open Go Go.Ab
set_option maxRecDepth 100000
theorem c_str:Tryz.prog.cellsOf 9=1:=by kernel_rfl
theorem uE:Tryz.prog.cellsOf 4=1:=by kernel_rfl
theorem uF:Tryz.prog.cellsOf 3=1:=by kernel_rfl
theorem uG:Tryz.prog.cellsOf 57=3:=by kernel_rfl
theorem yV:Tryz.prog.bytesOf 57=40:=by kernel_rfl
theorem yk:Rd Tryz.prog 57 tchAV (fun t=>t.1.1.length≤reachBytes∧t.2.length≤reachBytes) :=
 (iu Tryz.underlying57 (by kernel_rfl) (b7 rfl (rd_str Tryz.underlying9 c_str) (b7 (by rw [c_str]) (vd Tryz.underlying4 uE) (b7 (by rw [c_str,uE]) (rd_str Tryz.underlying9 c_str) (lG _))))).map
  (fun p=>((p.1,p.2.1),p.2.2.1)) (fun _ _=>rfl) (fun _=>uG.symm) (fun _ h=>⟨h.1,h.2.2.1⟩)
theorem l6:Tryz.prog.cellsOf 27=1:=by kernel_rfl
theorem pQ:Rd Tryz.prog 27 (fun l:List Tch=>.list 3 (l.map tchAV)) (fun l=>l.length≤140737488355328∧∀ t ∈ l,t.1.1.length≤140737488355328∧t.2.length≤140737488355328) :=
 (sP Tryz.underlying27 l6 (by rw [uG];decide) yk).map id (fun _ _=>by rw [uG];rfl) (fun _=>l6.symm) (fun l h=>by
  have h1:=h.1
  rw [yV] at h1
  have h2:=h.2
  unfold reachBytes at h1 h2
  refine ⟨?_,fun t ht=>?_⟩
  ·show l.length≤_;omega
  ·have:=h2 t ht;omega)
theorem yW:Tryz.prog.cellsOf 29=3:=by kernel_rfl
theorem yl:Rd Tryz.prog 29 (fun r:Int × Str × Str=>.agg [.int .i64 r.1,.str r.2.1,.str r.2.2]) (fun r=>(Lit.int IntKind.i64 r.1).wf=true∧r.2.1.length≤reachBytes∧r.2.2.length≤reachBytes) :=
 (iu Tryz.underlying29 (by kernel_rfl) (b7 rfl (wT Tryz.underlying3 uF) (b7 (by rw [uF]) (rd_str Tryz.underlying9 c_str) (b7 (by rw [uF,c_str]) (rd_str Tryz.underlying9 c_str) (lG _))))).map
  (fun p=>(p.1,p.2.1,p.2.2.1)) (fun _ _=>rfl) (fun _=>yW.symm) (fun _ h=>⟨h.1,h.2.1,h.2.2.1⟩)
theorem zb:Tryz.prog.cellsOf 31=6:=by kernel_rfl
theorem rd_mm:Rd Tryz.prog 31 Mm.av (fun m=>m.in∧(Lit.int IntKind.i64 m.st).wf=true) :=
 (iu Tryz.underlying31 (by kernel_rfl) (b7 rfl (rd_str Tryz.underlying9 c_str) (b7 (by rw [c_str]) pQ (b7 (by rw [c_str,l6]) pQ (b7 (by rw [c_str,l6]) yl (lG _)))))).map
  (fun p=>⟨p.1,p.2.1,p.2.2.1,p.2.2.2.1.1,p.2.2.2.1.2.1,p.2.2.2.1.2.2⟩) (fun _ _=>rfl) (fun _=>zb.symm) (fun _ h=>by
   obtain ⟨h1,⟨h2,h3⟩,⟨h4,h5⟩,⟨h6,h7,h8⟩,_⟩:=h
   unfold reachBytes at h1 h7 h8
   exact ⟨⟨Nat.le_trans h1 (by decide),Nat.le_trans h7 (by decide),Nat.le_trans h8 (by decide),h2,h4,h3,h5⟩,h6⟩)
end Go.Proofs.YtpficjpdfbiedaaGreatDoor
