/- A part of the proof: the texts Y12, Y13, Y14, Y15, Y16, Y17, Y18, Y19, Y20, Y21, Y22, Gro, Y36, Y34, Y35, Y37, Y38, Y39, Y40, Y41, Y42, Y43, Y44, Y46, Y47, Y48, Y49, one behind the other. -/
import Derived.Test.YtlfeacmbhldjcaaGreatDoorPFf
import Derived.Shelf.Spec.SlicesGrow
import Derived.Test.YtlfeacmbhldjcaaGreatDoorProg
set_option linter.unusedVariables false
set_option linter.unusedSimpArgs false
set_option linter.unusedSectionVars false
namespace Go.Proofs.YtlfeacmbhldjcaaGreatDoor
open Go Go.Ab
set_option maxRecDepth 20000
set_option maxHeartbeats 4000000
theorem b7 {M:List (Oid × ar)} (hf:sv M):∀ e,e ∈ M→Mem.of M e.1=some e.2:=by
 have key:∀ (L:List (Oid × ar)),∀ e,e ∈ L→∃ e',e' ∈ L∧e'.1=e.1∧Mem.of L e.1=some e'.2:=by
  intro L
  induction L with
  | nil=>intro e he;cases he
  | cons a L ih =>
   intro e he
   by_cases h:e.1=a.1
   ·exact ⟨a,List.mem_cons_self ..,h.symm,by rw [Mem.ae,if_pos h]⟩
   ·rcases List.mem_cons.1 he with rfl|he
    ·exact absurd rfl h
    ·obtain ⟨e',k1,k2,k3⟩:=ih e he
     exact ⟨e',List.mem_cons_of_mem _ k1,k2,by rw [Mem.ae,if_neg h];exact k3⟩
 intro e he
 obtain ⟨e',k1,k2,k3⟩:=key M e he
 rw [k3,hf e' k1 e he k2]
theorem Rep.cons {q:Oid} {J:Oid→Prop} {ifs:Str} {S:Spl} {M:List (Oid × ar)} (h:Rep q J ifs S M):∃ ov X Y rest,M=(.ty 133 q,.cells [.str ifs,ov,X,Y,.bool S.b,.bool S.g])::rest:=by
 obtain ⟨ov,X,Y,ro,rf,_,_,rfl⟩:=h;exact ⟨_,_,_,_,rfl⟩
theorem Rep.gap {q:Oid} {J:Oid→Prop} {ifs:Str} {S:Spl} {ov X Y:AV} {b g:Bool} {rest:List (Oid × ar)} (h:Rep q J ifs S ((.ty 133 q,.cells [.str ifs,ov,X,Y,.bool b,.bool g])::rest)) (g':Bool):Rep q J ifs { S with g:=g' } ((.ty 133 q,.cells [.str ifs,ov,X,Y,.bool b,.bool g'])::rest):=by
 obtain ⟨ov',X',Y',ro,rf,hO,hF,e⟩:=h
 injection e with e1 e2
 injection e1 with _ e3
 injection e3 with e4
 simp only [List.cons.injEq,AV.bool.injEq,and_true,true_and] at e4
 obtain ⟨rfl,rfl,rfl,rfl,rfl⟩:=e4
 subst e2
 exact ⟨_,_,_,_,_,hO,hF,rfl⟩
theorem zA (q:Oid) (J:Oid→Prop) (ifs s:Str) (S:Spl) (M:List (Oid × ar)) (hs:s.length≤100000) (hf:S.fld.length≤100000000) (hn:S.out.length≤100000) (p:Oid) (hp:p.mono=false) (hq:¬ Oid.under p (.ty 133 q)) (hJ:∀ i,J i→¬ Oid.under p i) (hM:Rep q J ifs S M) :
  aX Tryz.prog 121 [.ptr (.ty 133 q) 0,.str s] (Oid.under p) M (fun v u=>v = .tuple []∧Leaves q (fun i=>J i∨Oid.under p i) ifs (s.foldl (splitB ifs) S) M u) (fun _ _=>False):=by
 refine ma (n:=56) (rs:=[]) Tryz.func121 rfl rfl (by decide) rfl rfl rfl ?_;rintro x rfl hrd hng
 (repeat (first|(refine ah rfl rfl ?_)|(refine aj rfl rfl ?_)|(refine af nmd [] hng (by kernel_rfl) fun hf C S K hC1 hC hS hK=>?_;simp (disch:=first|omega|assumption) only [go_sem];refine hK ?_;clear hK hS hC hC1 K S C hf)|((first|refine zn ?_|refine ze ?_|refine zk ?_);with_reducible (constructor;repeat constructor);try refine zl ?_)))
 have hR0:Rep q (fun i=>(J i∨Oid.under x.p i)∧Old x.p 1 i) ifs S M:=hM.mono fun i h=>⟨.inl h,fun c' j _ k=>hJ i h (Oid.ay k)⟩
 refine a6 [0,1,7,8] (fun k s'=>∃ (i c:Nat) (M1:List (Oid × ar)) (T:Spl),s' = ⟨[(0,.ptr (.ty 133 q) 0),(1,.str s),(7,.int .i64 s.length),(8,.int .i64 i)],Mem.of M1,c,[]⟩∧k=s.length - i∧i≤s.length ∧
  Rep q (fun i=>(J i∨Oid.under x.p i)∧Old x.p c i) ifs T M1∧T=(s.take i).foldl (splitB ifs) S∧T.fld.length≤100000000+2 * i∧T.out.length≤100000+i) _ ⟨0,_,M,S,rfl,rfl,Nat.zero_le _,hR0,rfl,by omega,by omega⟩ ?_
 rintro k s' ⟨i,c,M1,T0,rfl,rfl,hi,hR,hT,hb1,hb2⟩
 (repeat (first|(refine ah rfl rfl ?_)|(refine aj rfl rfl ?_)|(refine af nmd [] hng (by kernel_rfl) fun hf C S K hC1 hC hS hK=>?_;simp (disch:=first|omega|assumption) only [go_sem];refine hK ?_;clear hK hS hC hC1 K S C hf)|((first|refine zn ?_|refine ze ?_|refine zk ?_);with_reducible (constructor;repeat constructor);try refine zl ?_)))
 refine bD rfl rfl (fun hb=>?_) (fun hb=>?_)
 ·have hlt:i < s.length:=by omega
  have htk:s.take (i+1)=s.take i++[s.getD i 0]:=by
   rw [List.take_add_one,List.getElem?_eq_getElem hlt,List.getD_eq_getElem?_getD,List.getElem?_eq_getElem hlt];rfl
  have hsl:(s.take (i+1)).drop i=[s.getD i 0]:=by
   rw [htk,List.drop_append_of_le_length (by rw [List.length_take];omega),List.drop_of_length_le (by rw [List.length_take];omega)];rfl
  have hT':splitB ifs T0 (s.getD i 0)=(s.take (i+1)).foldl (splitB ifs) S:=by rw [htk,List.foldl_append,← hT];rfl
  generalize s.getD i 0=b at hsl hT'
  have hi1:i+1≤s.length:=hlt
  have hii:i≤i+1:=Nat.le_succ i
  have hc1:((i:Int)+1).toNat=i+1:=by omega
  have hA:=fun p hp=>kE [b] (by simp) p hp
  have hC1':=fun sp=>fv ifs b sp
  have hC2':=fun sp=>fv [32,9,10] b sp
  have hP:=sy b
  obtain ⟨out,fld,tb,tg⟩:=T0
  simp only at hb1 hb2
  unfold splitB hasB at hT'
  have hput:=fun (p:Oid) hq' hJ'=>va q (fun i=>(J i∨Oid.under x.p i)∧Old x.p c i) ifs (gR [b]) ⟨out,fld,tb,tg⟩ M1 (by simp only;omega) p hq' hJ' hR
  have hend:=fun (p:Oid) hp' hq' hJ'=>tP q (fun i=>(J i∨Oid.under x.p i)∧Old x.p c i) ifs ⟨out,fld,tb,tg⟩ M1 (by simp only;omega) (by simp only;omega) p hp' hq' hJ' hR
  have hmem:=b7 hR.func
  obtain ⟨ov,X,Y,rest,rfl⟩:=hR.cons
  simp only at hmem
  generalize decide (0≤Lib.indexByte ifs b)=a1 at hT' hC1'
  generalize decide (0≤Lib.indexByte [32,9,10] b)=a2 at hT' hC2'
  cases a1
  ·simp only [if_true] at hT'
   (repeat (first|(refine ah rfl rfl ?_)|(refine aj rfl rfl ?_)|(refine af nmd [] hng (by kernel_rfl) fun hf C S K hC1 hC hS hK=>?_;simp (disch:=first|omega|assumption) only [go_sem,hi1,hii,hsl,hc1];refine hK ?_;clear hK hS hC hC1 K S C hf)|((first|refine zn ?_|refine ze ?_|refine zk ?_);with_reducible (constructor;repeat constructor);try refine zl ?_)))
   refine af nmd [] hng (by kernel_rfl) fun hf C S K hC1 hC hS hK=>?_;simp (disch:=first|omega|assumption) only [go_sem]
   refine hC1 _ (hC1' _) (fun _ h=>by cases h) ?_
   simp (disch:=first|omega|assumption) only [go_sem]
   refine hK ?_;clear hK hS hC hC1 K S C hf
   (repeat (first|(refine ah rfl rfl ?_)|(refine aj rfl rfl ?_)|(refine af nmd [] hng (by kernel_rfl) fun hf C S K hC1 hC hS hK=>?_;simp (disch:=first|omega|assumption) only [go_sem];refine hK ?_;clear hK hS hC hC1 K S C hf)|((first|refine zn ?_|refine ze ?_|refine zk ?_);with_reducible (constructor;repeat constructor);try refine zl ?_)))
   refine af nmd [] hng (by kernel_rfl) fun hf C S K hC1 hC hS hK=>?_;simp (disch:=first|omega|assumption) only [go_sem]
   refine hC1 _ (hA _ (aH rfl hp)) (fun _ h=>by cases h) ?_
   simp (disch:=first|omega|assumption) only [go_sem]
   refine hC _ _ _ (hput _ (bM _ _ hq) (fun i h=>h.2 _ _ (by omega))) hmem ?_ (fun _ _ h=>h.elim)
   rintro _ u ⟨rfl,M2,hR2,hM2⟩
   have hM2:=hM2 _ hmem
   generalize (Mem.of ((.ty 133 q,ar.cells [AV.str ifs,ov,X,Y,AV.bool tb,AV.bool tg])::rest)).aF u=m2 at hM2 ⊢
   simp (disch:=first|omega|assumption) only [go_sem]
   refine hK ?_;clear hK hS hC hC1 K S C hf
   refine bq M2 hM2 ?_
   (repeat (first|(refine ah rfl rfl ?_)|(refine aj rfl rfl ?_)|(refine af nmd [] hng (by kernel_rfl) fun hf C S K hC1 hC hS hK=>?_;simp (disch:=first|omega|assumption) only [go_sem];refine hK ?_;clear hK hS hC hC1 K S C hf)|((first|refine zn ?_|refine ze ?_|refine zk ?_);with_reducible (constructor;repeat constructor);try refine zl ?_)))
   (repeat (first|(show Nat.beq _ _=false;rfl)|with_reducible constructor));(try refine zl ?_)
   (repeat (first|(refine ah rfl rfl ?_)|(refine aj rfl rfl ?_)|(refine af nmd [] hng (by kernel_rfl) fun hf C S K hC1 hC hS hK=>?_;simp (disch:=first|omega|assumption) only [go_sem];refine hK ?_;clear hK hS hC hC1 K S C hf)|((first|refine zn ?_|refine ze ?_|refine zk ?_);with_reducible (constructor;repeat constructor);try refine zl ?_)))
   exact ⟨_,_,by omega,fun _ _ h=>h,i+1,_,M2,_,rfl,rfl,by omega,hR2.mono (fun i h=>h.elim (fun h=>⟨h.1,h.2.mono (by omega)⟩) (fun h=>⟨.inr (Oid.ay h),(Old.made h).mono (by omega)⟩)),hT',by simp only [kC,List.length_append];omega,by simp only [kC];omega⟩
  ·simp only [reduceCtorEq,if_false] at hT'
   cases a2
   ·simp only [reduceCtorEq,if_false] at hT'
    (repeat (first|(refine ah rfl rfl ?_)|(refine aj rfl rfl ?_)|(refine af nmd [] hng (by kernel_rfl) fun hf C S K hC1 hC hS hK=>?_;simp (disch:=first|omega|assumption) only [go_sem,hi1,hii,hsl,hc1];refine hK ?_;clear hK hS hC hC1 K S C hf)|((first|refine zn ?_|refine ze ?_|refine zk ?_);with_reducible (constructor;repeat constructor);try refine zl ?_)))
    refine af nmd [] hng (by kernel_rfl) fun hf C S K hC1 hC hS hK=>?_;simp (disch:=first|omega|assumption) only [go_sem]
    refine hC1 _ (hC1' _) (fun _ h=>by cases h) ?_
    simp (disch:=first|omega|assumption) only [go_sem]
    refine hK ?_;clear hK hS hC hC1 K S C hf
    (repeat (first|(refine ah rfl rfl ?_)|(refine aj rfl rfl ?_)|(refine af nmd [] hng (by kernel_rfl) fun hf C S K hC1 hC hS hK=>?_;simp (disch:=first|omega|assumption) only [go_sem];refine hK ?_;clear hK hS hC hC1 K S C hf)|((first|refine zn ?_|refine ze ?_|refine zk ?_);with_reducible (constructor;repeat constructor);try refine zl ?_)))
    refine af nmd [] hng (by kernel_rfl) fun hf C S K hC1 hC hS hK=>?_;simp (disch:=first|omega|assumption) only [go_sem]
    refine hC1 _ (hC2' _) (fun _ h=>by cases h) ?_
    simp (disch:=first|omega|assumption) only [go_sem]
    refine hK ?_;clear hK hS hC hC1 K S C hf
    (repeat (first|(refine ah rfl rfl ?_)|(refine aj rfl rfl ?_)|(refine af nmd [] hng (by kernel_rfl) fun hf C S K hC1 hC hS hK=>?_;simp (disch:=first|omega|assumption) only [go_sem];refine hK ?_;clear hK hS hC hC1 K S C hf)|((first|refine zn ?_|refine ze ?_|refine zk ?_);with_reducible (constructor;repeat constructor);try refine zl ?_)))
    (repeat (first|(show Nat.beq _ _=false;rfl)|with_reducible constructor));(try refine zl ?_)
    (repeat (first|(refine ah rfl rfl ?_)|(refine aj rfl rfl ?_)|(refine af nmd [] hng (by kernel_rfl) fun hf C S K hC1 hC hS hK=>?_;simp (disch:=first|omega|assumption) only [go_sem];refine hK ?_;clear hK hS hC hC1 K S C hf)|((first|refine zn ?_|refine ze ?_|refine zk ?_);with_reducible (constructor;repeat constructor);try refine zl ?_)))
    cases tb
    ·cases tg
     ·simp only [reduceCtorEq,false_or,if_true] at hT'
      (repeat (first|(refine ah rfl rfl ?_)|(refine aj rfl rfl ?_)|(refine af nmd [] hng (by kernel_rfl) fun hf C S K hC1 hC hS hK=>?_;simp (disch:=first|omega|assumption) only [go_sem];refine hK ?_;clear hK hS hC hC1 K S C hf)|((first|refine zn ?_|refine ze ?_|refine zk ?_);with_reducible (constructor;repeat constructor);try refine zl ?_)))
      (repeat (first|(show Nat.beq _ _=false;rfl)|with_reducible constructor));(try refine zl ?_)
      (repeat (first|(refine ah rfl rfl ?_)|(refine aj rfl rfl ?_)|(refine af nmd [] hng (by kernel_rfl) fun hf C S K hC1 hC hS hK=>?_;simp (disch:=first|omega|assumption) only [go_sem];refine hK ?_;clear hK hS hC hC1 K S C hf)|((first|refine zn ?_|refine ze ?_|refine zk ?_);with_reducible (constructor;repeat constructor);try refine zl ?_)))
      refine af nmd [] hng (by kernel_rfl) fun hf C S K hC1 hC hS hK=>?_;simp (disch:=first|omega|assumption) only [go_sem]
      refine hC _ _ _ (hend _ (aH rfl hp) (bM _ _ hq) (fun i h=>h.2 _ _ (by omega))) hmem ?_ (fun _ _ h=>h.elim)
      rintro _ u ⟨rfl,M2,hR2,hM2⟩
      have hM2:=hM2 _ hmem
      generalize Mem.aF _ u=m2 at hM2 ⊢
      simp (disch:=first|omega|assumption) only [go_sem]
      refine hK ?_;clear hK hS hC hC1 K S C hf
      refine bq M2 hM2 ?_
      obtain ⟨ov2,X2,Y2,rest2,rfl⟩:=hR2.cons
      (repeat (first|(refine ah rfl rfl ?_)|(refine aj rfl rfl ?_)|(refine af nmd [] hng (by kernel_rfl) fun hf C S K hC1 hC hS hK=>?_;simp (disch:=first|omega|assumption) only [go_sem];refine hK ?_;clear hK hS hC hC1 K S C hf)|((first|refine zn ?_|refine ze ?_|refine zk ?_);with_reducible (constructor;repeat constructor);try refine zl ?_)))
      exact ⟨_,_,by omega,fun _ _ h=>h,i+1,_,_,_,rfl,rfl,by omega,(hR2.gap false).mono (fun i h=>h.elim (fun h=>⟨h.1,h.2.mono (by omega)⟩) (fun h=>⟨.inr (Oid.ay h),(Old.made h).mono (by omega)⟩)),hT',by simp only [gM,List.length_nil];omega,by simp only [gM,List.length_append,List.length_singleton];omega⟩
     ·simp only [reduceCtorEq,false_or,if_false] at hT'
      (repeat (first|(refine ah rfl rfl ?_)|(refine aj rfl rfl ?_)|(refine af nmd [] hng (by kernel_rfl) fun hf C S K hC1 hC hS hK=>?_;simp (disch:=first|omega|assumption) only [go_sem];refine hK ?_;clear hK hS hC hC1 K S C hf)|((first|refine zn ?_|refine ze ?_|refine zk ?_);with_reducible (constructor;repeat constructor);try refine zl ?_)))
      (repeat (first|(show Nat.beq _ _=false;rfl)|with_reducible constructor));(try refine zl ?_)
      (repeat (first|(refine ah rfl rfl ?_)|(refine aj rfl rfl ?_)|(refine af nmd [] hng (by kernel_rfl) fun hf C S K hC1 hC hS hK=>?_;simp (disch:=first|omega|assumption) only [go_sem];refine hK ?_;clear hK hS hC hC1 K S C hf)|((first|refine zn ?_|refine ze ?_|refine zk ?_);with_reducible (constructor;repeat constructor);try refine zl ?_)))
      exact ⟨_,_,by omega,fun _ _ h=>h,i+1,_,_,_,rfl,rfl,by omega,(hR.gap false).mono (fun i h=>⟨h.1,h.2.mono (by omega)⟩),hT',by simp only;omega,by simp only;omega⟩
    ·simp only [true_or,if_true] at hT'
     (repeat (first|(refine ah rfl rfl ?_)|(refine aj rfl rfl ?_)|(refine af nmd [] hng (by kernel_rfl) fun hf C S K hC1 hC hS hK=>?_;simp (disch:=first|omega|assumption) only [go_sem];refine hK ?_;clear hK hS hC hC1 K S C hf)|((first|refine zn ?_|refine ze ?_|refine zk ?_);with_reducible (constructor;repeat constructor);try refine zl ?_)))
     (repeat (first|(show Nat.beq _ _=false;rfl)|with_reducible constructor));(try refine zl ?_)
     (repeat (first|(refine ah rfl rfl ?_)|(refine aj rfl rfl ?_)|(refine af nmd [] hng (by kernel_rfl) fun hf C S K hC1 hC hS hK=>?_;simp (disch:=first|omega|assumption) only [go_sem];refine hK ?_;clear hK hS hC hC1 K S C hf)|((first|refine zn ?_|refine ze ?_|refine zk ?_);with_reducible (constructor;repeat constructor);try refine zl ?_)))
     refine af nmd [] hng (by kernel_rfl) fun hf C S K hC1 hC hS hK=>?_;simp (disch:=first|omega|assumption) only [go_sem]
     refine hC _ _ _ (hend _ (aH rfl hp) (bM _ _ hq) (fun i h=>h.2 _ _ (by omega))) hmem ?_ (fun _ _ h=>h.elim)
     rintro _ u ⟨rfl,M2,hR2,hM2⟩
     have hM2:=hM2 _ hmem
     generalize Mem.aF _ u=m2 at hM2 ⊢
     simp (disch:=first|omega|assumption) only [go_sem]
     refine hK ?_;clear hK hS hC hC1 K S C hf
     refine bq M2 hM2 ?_
     obtain ⟨ov2,X2,Y2,rest2,rfl⟩:=hR2.cons
     (repeat (first|(refine ah rfl rfl ?_)|(refine aj rfl rfl ?_)|(refine af nmd [] hng (by kernel_rfl) fun hf C S K hC1 hC hS hK=>?_;simp (disch:=first|omega|assumption) only [go_sem];refine hK ?_;clear hK hS hC hC1 K S C hf)|((first|refine zn ?_|refine ze ?_|refine zk ?_);with_reducible (constructor;repeat constructor);try refine zl ?_)))
     exact ⟨_,_,by omega,fun _ _ h=>h,i+1,_,_,_,rfl,rfl,by omega,(hR2.gap false).mono (fun i h=>h.elim (fun h=>⟨h.1,h.2.mono (by omega)⟩) (fun h=>⟨.inr (Oid.ay h),(Old.made h).mono (by omega)⟩)),hT',by simp only [gM,List.length_nil];omega,by simp only [gM,List.length_append,List.length_singleton];omega⟩
   ·simp only [if_true] at hT'
    (repeat (first|(refine ah rfl rfl ?_)|(refine aj rfl rfl ?_)|(refine af nmd [] hng (by kernel_rfl) fun hf C S K hC1 hC hS hK=>?_;simp (disch:=first|omega|assumption) only [go_sem,hi1,hii,hsl,hc1];refine hK ?_;clear hK hS hC hC1 K S C hf)|((first|refine zn ?_|refine ze ?_|refine zk ?_);with_reducible (constructor;repeat constructor);try refine zl ?_)))
    refine af nmd [] hng (by kernel_rfl) fun hf C S K hC1 hC hS hK=>?_;simp (disch:=first|omega|assumption) only [go_sem]
    refine hC1 _ (hC1' _) (fun _ h=>by cases h) ?_
    simp (disch:=first|omega|assumption) only [go_sem]
    refine hK ?_;clear hK hS hC hC1 K S C hf
    (repeat (first|(refine ah rfl rfl ?_)|(refine aj rfl rfl ?_)|(refine af nmd [] hng (by kernel_rfl) fun hf C S K hC1 hC hS hK=>?_;simp (disch:=first|omega|assumption) only [go_sem];refine hK ?_;clear hK hS hC hC1 K S C hf)|((first|refine zn ?_|refine ze ?_|refine zk ?_);with_reducible (constructor;repeat constructor);try refine zl ?_)))
    refine af nmd [] hng (by kernel_rfl) fun hf C S K hC1 hC hS hK=>?_;simp (disch:=first|omega|assumption) only [go_sem]
    refine hC1 _ (hC2' _) (fun _ h=>by cases h) ?_
    simp (disch:=first|omega|assumption) only [go_sem]
    refine hK ?_;clear hK hS hC hC1 K S C hf
    (repeat (first|(refine ah rfl rfl ?_)|(refine aj rfl rfl ?_)|(refine af nmd [] hng (by kernel_rfl) fun hf C S K hC1 hC hS hK=>?_;simp (disch:=first|omega|assumption) only [go_sem];refine hK ?_;clear hK hS hC hC1 K S C hf)|((first|refine zn ?_|refine ze ?_|refine zk ?_);with_reducible (constructor;repeat constructor);try refine zl ?_)))
    (repeat (first|(show Nat.beq _ _=false;rfl)|with_reducible constructor));(try refine zl ?_)
    (repeat (first|(refine ah rfl rfl ?_)|(refine aj rfl rfl ?_)|(refine af nmd [] hng (by kernel_rfl) fun hf C S K hC1 hC hS hK=>?_;simp (disch:=first|omega|assumption) only [go_sem];refine hK ?_;clear hK hS hC hC1 K S C hf)|((first|refine zn ?_|refine ze ?_|refine zk ?_);with_reducible (constructor;repeat constructor);try refine zl ?_)))
    cases tb
    ·simp only [reduceCtorEq,if_false] at hT'
     (repeat (first|(refine ah rfl rfl ?_)|(refine aj rfl rfl ?_)|(refine af nmd [] hng (by kernel_rfl) fun hf C S K hC1 hC hS hK=>?_;simp (disch:=first|omega|assumption) only [go_sem];refine hK ?_;clear hK hS hC hC1 K S C hf)|((first|refine zn ?_|refine ze ?_|refine zk ?_);with_reducible (constructor;repeat constructor);try refine zl ?_)))
     (repeat (first|(show Nat.beq _ _=false;rfl)|with_reducible constructor));(try refine zl ?_)
     (repeat (first|(refine ah rfl rfl ?_)|(refine aj rfl rfl ?_)|(refine af nmd [] hng (by kernel_rfl) fun hf C S K hC1 hC hS hK=>?_;simp (disch:=first|omega|assumption) only [go_sem];refine hK ?_;clear hK hS hC hC1 K S C hf)|((first|refine zn ?_|refine ze ?_|refine zk ?_);with_reducible (constructor;repeat constructor);try refine zl ?_)))
     exact ⟨_,_,by omega,fun _ _ h=>h,i+1,_,_,_,rfl,rfl,by omega,hR.mono (fun i h=>⟨h.1,h.2.mono (by omega)⟩),hT',by simp only;omega,by simp only;omega⟩
    ·simp only [if_true] at hT'
     (repeat (first|(refine ah rfl rfl ?_)|(refine aj rfl rfl ?_)|(refine af nmd [] hng (by kernel_rfl) fun hf C S K hC1 hC hS hK=>?_;simp (disch:=first|omega|assumption) only [go_sem];refine hK ?_;clear hK hS hC hC1 K S C hf)|((first|refine zn ?_|refine ze ?_|refine zk ?_);with_reducible (constructor;repeat constructor);try refine zl ?_)))
     (repeat (first|(show Nat.beq _ _=false;rfl)|with_reducible constructor));(try refine zl ?_)
     (repeat (first|(refine ah rfl rfl ?_)|(refine aj rfl rfl ?_)|(refine af nmd [] hng (by kernel_rfl) fun hf C S K hC1 hC hS hK=>?_;simp (disch:=first|omega|assumption) only [go_sem];refine hK ?_;clear hK hS hC hC1 K S C hf)|((first|refine zn ?_|refine ze ?_|refine zk ?_);with_reducible (constructor;repeat constructor);try refine zl ?_)))
     refine af nmd [] hng (by kernel_rfl) fun hf C S K hC1 hC hS hK=>?_;simp (disch:=first|omega|assumption) only [go_sem]
     refine hC _ _ _ (hend _ (aH rfl hp) (bM _ _ hq) (fun i h=>h.2 _ _ (by omega))) hmem ?_ (fun _ _ h=>h.elim)
     rintro _ u ⟨rfl,M2,hR2,hM2⟩
     have hM2:=hM2 _ hmem
     generalize Mem.aF _ u=m2 at hM2 ⊢
     simp (disch:=first|omega|assumption) only [go_sem]
     refine hK ?_;clear hK hS hC hC1 K S C hf
     refine bq M2 hM2 ?_
     obtain ⟨ov2,X2,Y2,rest2,rfl⟩:=hR2.cons
     (repeat (first|(refine ah rfl rfl ?_)|(refine aj rfl rfl ?_)|(refine af nmd [] hng (by kernel_rfl) fun hf C S K hC1 hC hS hK=>?_;simp (disch:=first|omega|assumption) only [go_sem];refine hK ?_;clear hK hS hC hC1 K S C hf)|((first|refine zn ?_|refine ze ?_|refine zk ?_);with_reducible (constructor;repeat constructor);try refine zl ?_)))
     (repeat (first|(show Nat.beq _ _=false;rfl)|with_reducible constructor));(try refine zl ?_)
     (repeat (first|(refine ah rfl rfl ?_)|(refine aj rfl rfl ?_)|(refine af nmd [] hng (by kernel_rfl) fun hf C S K hC1 hC hS hK=>?_;simp (disch:=first|omega|assumption) only [go_sem];refine hK ?_;clear hK hS hC hC1 K S C hf)|((first|refine zn ?_|refine ze ?_|refine zk ?_);with_reducible (constructor;repeat constructor);try refine zl ?_)))
     exact ⟨_,_,by omega,fun _ _ h=>h,i+1,_,_,_,rfl,rfl,by omega,(hR2.gap true).mono (fun i h=>h.elim (fun h=>⟨h.1,h.2.mono (by omega)⟩) (fun h=>⟨.inr (Oid.ay h),(Old.made h).mono (by omega)⟩)),hT',by simp only [gM,List.length_nil];omega,by simp only [gM,List.length_append,List.length_singleton];omega⟩
 ·obtain rfl:i=s.length:=by omega
  rw [List.take_length] at hT
  subst hT
  (repeat (first|(refine ah rfl rfl ?_)|(refine aj rfl rfl ?_)|(refine af nmd [] hng (by kernel_rfl) fun hf C S K hC1 hC hS hK=>?_;simp (disch:=first|omega|assumption) only [go_sem];refine hK ?_;clear hK hS hC hC1 K S C hf)|((first|refine zn ?_|refine ze ?_|refine zk ?_);with_reducible (constructor;repeat constructor);try refine zl ?_)))
  exact br (bA (.tuple []) rfl ⟨rfl,(hR.mono fun i h=>h.1).leaves⟩ (b7 hR.func))
end Go.Proofs.YtlfeacmbhldjcaaGreatDoor
namespace Go.Proofs.YtlfeacmbhldjcaaGreatDoor
open Go Go.Ab
set_option maxRecDepth 20000
set_option maxHeartbeats 4000000
def cf (ifs:Str) (x:Spl) (e:Nat × Str):Spl :=
 if e.1=0 then (if e.2=[] then x else kC (gR e.2) x)
 else if e.1=1 then kC (e8 e.2) x
 else if e.1=2 then e.2.foldl (splitB ifs) x
 else if e.1=3 then (if x.b=true then { gM x with g:=false } else { x with g:=false })
 else x
theorem Rep.names {q:Oid} {J:Oid→Prop} {ifs:Str} {S:Spl} {M:List (Oid × ar)} (h:Rep q J ifs S M):∀ e,e ∈ M→e.1 = .ty 133 q∨J e.1:=by
 obtain ⟨ov,X,Y,ro,rf,h1,h2,rfl⟩:=h
 intro e he
 rcases List.mem_cons.1 he with rfl|he
 ·exact .inl rfl
 ·rcases List.mem_append.1 he with he|he
  ·rcases h2 with ⟨_,_,_,rfl⟩|⟨r,hr,_,_,rfl⟩
   ·cases he
   ·rw [List.mem_singleton.1 he];exact .inr hr
  ·rcases h1 with ⟨_,_,rfl⟩|⟨r,hr,_,_,rfl⟩
   ·cases he
   ·rw [List.mem_singleton.1 he];exact .inr hr
theorem XJ (q:Oid) (J:Oid→Prop) (ifs t:Str) (k:Nat) (hk:k≤3) (S:Spl) (M:List (Oid × ar)) (ht:t.length≤100000) (ha:(gR t).length≤1000000) (hf:S.fld.length≤100000000) (hn:S.out.length≤100000) (p:Oid) (hp:p.mono=false) (hq:¬ Oid.under p (.ty 133 q)) (hJ:∀ i,J i→¬ Oid.under p i) (hM:Rep q J ifs S M) :
  aX Tryz.prog 75 [.ptr (.ty 133 q) 0,.agg [.int .i64 k,.str t]] (Oid.under p) M (fun v u=>v = .tuple []∧Leaves q (fun i=>J i∨Oid.under p i) ifs (cf ifs S (k,t)) M u) (fun _ _=>False):=by
 have hput:=fun (s:Str) (hs:s.length≤1000000) (p:Oid) hq' hJ'=>va q J ifs s S M (by omega) p hq' hJ' hM
 have hend:=fun (p:Oid) hp' hq' hJ'=>tP q J ifs S M (by omega) (by omega) p hp' hq' hJ' hM
 have hspl:=fun (p:Oid) hp' hq' hJ'=>zA q J ifs t S M ht hf hn p hp' hq' hJ' hM
 have hA:=fun p hp=>kE t (by omega) p hp
 have hE:=fun p=>oK t (by omega) p
 have hel:=gj t
 have hfn:=hM.func
 have hnm:∀ e,e ∈ M→¬ Oid.under p e.1:=fun e he=>(hM.names e he).elim (fun h=>by rw [h];exact hq) (hJ _)
 have hM':=hM
 obtain ⟨ov,X,Y,rest,rfl⟩:=hM.cons
 obtain ⟨out,fld,tb,tg⟩:=S
 simp only at hfn hnm hM' hput hend hspl
 refine ma (n:=40) (rs:=[]) Tryz.func75 rfl rfl (by decide) rfl rfl rfl ?_;rintro x rfl hrd hng
 (repeat (first|(refine ah rfl rfl ?_)|(refine aj rfl rfl ?_)|(refine af nmd [] hng (by kernel_rfl) fun hf C S K hC1 hC hS hK=>?_;simp (disch:=first|omega|assumption) only [go_sem];refine hK ?_;clear hK hS hC hC1 K S C hf)|((first|refine zn ?_|refine ze ?_|refine zk ?_);with_reducible (constructor;repeat constructor);try refine zl ?_)))
 have hne:∀ e,e ∈ (.ty 133 q,ar.cells [AV.str ifs,ov,X,Y,AV.bool tb,AV.bool tg])::rest→¬ e.1=Oid.sub 0 0 x.p:=fun e he k=>hnm e he (by rw [k];exact Oid.ay (Oid.az _))
 have hold:=b7 hfn
 have hmem:∀ e,e ∈ (.ty 133 q,ar.cells [AV.str ifs,ov,X,Y,AV.bool tb,AV.bool tg])::rest→Mem.of ((Oid.sub 0 0 x.p,ar.cells [AV.int .i64 k,AV.str t])::(.ty 133 q,ar.cells [AV.str ifs,ov,X,Y,AV.bool tb,AV.bool tg])::rest) e.1=some e.2:=fun e he=>by
  rw [Mem.ae,if_neg (hne e he)];exact hold e he
 refine bq ((Oid.sub 0 0 x.p,ar.cells [AV.int .i64 k,AV.str t])::(.ty 133 q,ar.cells [AV.str ifs,ov,X,Y,AV.bool tb,AV.bool tg])::rest) ?_ ?_
 ·intro e he
  rcases List.mem_cons.1 he with rfl|he
  ·rw [Mem.ae,if_neg (by simp),aJ,if_pos rfl]
  ·have h1:=hold e he
   rw [Mem.ae] at h1 ⊢
   rw [aJ,if_neg (hne e he)];exact h1
 rcases (show k=0∨k=1∨k=2∨k=3 by omega) with rfl|rfl|rfl|rfl
 ·by_cases h0:t=[]
  ·subst h0
   (repeat (first|(refine ah rfl rfl ?_)|(refine aj rfl rfl ?_)|(refine af nmd [] hng (by kernel_rfl) fun hf C S K hC1 hC hS hK=>?_;simp (disch:=first|omega|assumption) only [go_sem,eq_self,decide_true,decide_false,ne_eq,not_true_eq_false,not_false_eq_true];refine hK ?_;clear hK hS hC hC1 K S C hf)|((first|refine zn ?_|refine ze ?_|refine zk ?_);with_reducible (constructor;repeat constructor);try refine zl ?_)))
   exact br (bA (.tuple []) rfl ⟨rfl,(hM'.mono fun i h=>.inl h).leaves⟩ hmem)
  ·(repeat (first|(refine ah rfl rfl ?_)|(refine aj rfl rfl ?_)|(refine af nmd [] hng (by kernel_rfl) fun hf C S K hC1 hC hS hK=>?_;simp (disch:=first|omega|assumption) only [go_sem,h0,decide_true,decide_false,ne_eq,not_true_eq_false,not_false_eq_true];refine hK ?_;clear hK hS hC hC1 K S C hf)|((first|refine zn ?_|refine ze ?_|refine zk ?_);with_reducible (constructor;repeat constructor);try refine zl ?_)))
   refine af nmd [] hng (by kernel_rfl) fun hf C S K hC1 hC hS hK=>?_;simp (disch:=first|omega|assumption) only [go_sem]
   refine hC1 _ (hA _ (aH rfl hp)) (fun _ h=>by cases h) ?_
   simp (disch:=first|omega|assumption) only [go_sem]
   refine hC _ _ _ (hput (gR t) ha _ (bM _ _ hq) (fun i h k=>hJ i h (Oid.ay k))) hmem ?_ (fun _ _ h=>h.elim)
   rintro _ u ⟨rfl,M2,hR2,hM2⟩
   have hM2:=hM2 _ hmem
   generalize Mem.aF _ u=m2 at hM2 ⊢
   simp (disch:=first|omega|assumption) only [go_sem]
   refine hK ?_;clear hK hS hC hC1 K S C hf
   (repeat (first|(refine ah rfl rfl ?_)|(refine aj rfl rfl ?_)|(refine af nmd [] hng (by kernel_rfl) fun hf C S K hC1 hC hS hK=>?_;simp (disch:=first|omega|assumption) only [go_sem];refine hK ?_;clear hK hS hC hC1 K S C hf)|((first|refine zn ?_|refine ze ?_|refine zk ?_);with_reducible (constructor;repeat constructor);try refine zl ?_)))
   exact br (bA (.tuple []) rfl ⟨rfl,by rw [show cf ifs ⟨out,fld,tb,tg⟩ (0,t)=kC (gR t) ⟨out,fld,tb,tg⟩ from by simp [cf,h0]];exact (hR2.mono (fun i h=>h.elim .inl (fun h=>.inr (Oid.ay h)))).leaves⟩ hM2)
 ·(repeat (first|(refine ah rfl rfl ?_)|(refine aj rfl rfl ?_)|(refine af nmd [] hng (by kernel_rfl) fun hf C S K hC1 hC hS hK=>?_;simp (disch:=first|omega|assumption) only [go_sem];refine hK ?_;clear hK hS hC hC1 K S C hf)|((first|refine zn ?_|refine ze ?_|refine zk ?_);with_reducible (constructor;repeat constructor);try refine zl ?_)))
  refine af nmd [] hng (by kernel_rfl) fun hf C S K hC1 hC hS hK=>?_;simp (disch:=first|omega|assumption) only [go_sem]
  refine hC1 _ (hE _) (fun _ h=>by cases h) ?_
  simp (disch:=first|omega|assumption) only [go_sem]
  refine hC _ _ _ (hput (e8 t) (by omega) _ (bM _ _ hq) (fun i h k=>hJ i h (Oid.ay k))) hmem ?_ (fun _ _ h=>h.elim)
  rintro _ u ⟨rfl,M2,hR2,hM2⟩
  have hM2:=hM2 _ hmem
  generalize Mem.aF _ u=m2 at hM2 ⊢
  simp (disch:=first|omega|assumption) only [go_sem]
  refine hK ?_;clear hK hS hC hC1 K S C hf
  (repeat (first|(refine ah rfl rfl ?_)|(refine aj rfl rfl ?_)|(refine af nmd [] hng (by kernel_rfl) fun hf C S K hC1 hC hS hK=>?_;simp (disch:=first|omega|assumption) only [go_sem];refine hK ?_;clear hK hS hC hC1 K S C hf)|((first|refine zn ?_|refine ze ?_|refine zk ?_);with_reducible (constructor;repeat constructor);try refine zl ?_)))
  exact br (bA (.tuple []) rfl ⟨rfl,by rw [show cf ifs ⟨out,fld,tb,tg⟩ (1,t)=kC (e8 t) ⟨out,fld,tb,tg⟩ from by simp [cf]];exact (hR2.mono (fun i h=>h.elim .inl (fun h=>.inr (Oid.ay h)))).leaves⟩ hM2)
 ·(repeat (first|(refine ah rfl rfl ?_)|(refine aj rfl rfl ?_)|(refine af nmd [] hng (by kernel_rfl) fun hf C S K hC1 hC hS hK=>?_;simp (disch:=first|omega|assumption) only [go_sem];refine hK ?_;clear hK hS hC hC1 K S C hf)|((first|refine zn ?_|refine ze ?_|refine zk ?_);with_reducible (constructor;repeat constructor);try refine zl ?_)))
  refine af nmd [] hng (by kernel_rfl) fun hf C S K hC1 hC hS hK=>?_;simp (disch:=first|omega|assumption) only [go_sem]
  refine hC _ _ _ (hspl _ (aH rfl hp) (bM _ _ hq) (fun i h k=>hJ i h (Oid.ay k))) hmem ?_ (fun _ _ h=>h.elim)
  rintro _ u ⟨rfl,M2,hR2,hM2⟩
  have hM2:=hM2 _ hmem
  generalize Mem.aF _ u=m2 at hM2 ⊢
  simp (disch:=first|omega|assumption) only [go_sem]
  refine hK ?_;clear hK hS hC hC1 K S C hf
  (repeat (first|(refine ah rfl rfl ?_)|(refine aj rfl rfl ?_)|(refine af nmd [] hng (by kernel_rfl) fun hf C S K hC1 hC hS hK=>?_;simp (disch:=first|omega|assumption) only [go_sem];refine hK ?_;clear hK hS hC hC1 K S C hf)|((first|refine zn ?_|refine ze ?_|refine zk ?_);with_reducible (constructor;repeat constructor);try refine zl ?_)))
  exact br (bA (.tuple []) rfl ⟨rfl,by rw [show cf ifs ⟨out,fld,tb,tg⟩ (2,t)=t.foldl (splitB ifs) ⟨out,fld,tb,tg⟩ from by simp [cf]];exact (hR2.mono (fun i h=>h.elim .inl (fun h=>.inr (Oid.ay h)))).leaves⟩ hM2)
 ·cases tb
  ·(repeat (first|(refine ah rfl rfl ?_)|(refine aj rfl rfl ?_)|(refine af nmd [] hng (by kernel_rfl) fun hf C S K hC1 hC hS hK=>?_;simp (disch:=first|omega|assumption) only [go_sem];refine hK ?_;clear hK hS hC hC1 K S C hf)|((first|refine zn ?_|refine ze ?_|refine zk ?_);with_reducible (constructor;repeat constructor);try refine zl ?_)))
   exact br (bA (.tuple []) rfl ⟨rfl,by rw [show cf ifs ⟨out,fld,false,tg⟩ (3,t)=⟨out,fld,false,false⟩ from by simp [cf]];exact ((hM'.gap false).mono fun i h=>.inl h).leaves⟩ fun e he=>by
    have hne':¬ e.1=Oid.sub 0 0 x.p:=by
     rcases List.mem_cons.1 he with rfl|he
     ·simp
     ·exact hne e (List.mem_cons_of_mem _ he)
    rw [Mem.ae,if_neg hne'];exact b7 (hM'.gap false).func e he)
  ·(repeat (first|(refine ah rfl rfl ?_)|(refine aj rfl rfl ?_)|(refine af nmd [] hng (by kernel_rfl) fun hf C S K hC1 hC hS hK=>?_;simp (disch:=first|omega|assumption) only [go_sem];refine hK ?_;clear hK hS hC hC1 K S C hf)|((first|refine zn ?_|refine ze ?_|refine zk ?_);with_reducible (constructor;repeat constructor);try refine zl ?_)))
   refine af nmd [] hng (by kernel_rfl) fun hf C S K hC1 hC hS hK=>?_;simp (disch:=first|omega|assumption) only [go_sem]
   refine hC _ _ _ (hend _ (aH rfl hp) (bM _ _ hq) (fun i h k=>hJ i h (Oid.ay k))) hmem ?_ (fun _ _ h=>h.elim)
   rintro _ u ⟨rfl,M2,hR2,hM2⟩
   have hM2:=hM2 _ hmem
   generalize Mem.aF _ u=m2 at hM2 ⊢
   simp (disch:=first|omega|assumption) only [go_sem]
   refine hK ?_;clear hK hS hC hC1 K S C hf
   refine bq M2 hM2 ?_
   obtain ⟨ov2,X2,Y2,rest2,rfl⟩:=hR2.cons
   (repeat (first|(refine ah rfl rfl ?_)|(refine aj rfl rfl ?_)|(refine af nmd [] hng (by kernel_rfl) fun hf C S K hC1 hC hS hK=>?_;simp (disch:=first|omega|assumption) only [go_sem];refine hK ?_;clear hK hS hC hC1 K S C hf)|((first|refine zn ?_|refine ze ?_|refine zk ?_);with_reducible (constructor;repeat constructor);try refine zl ?_)))
   exact br (bA (.tuple []) rfl ⟨rfl,by rw [show cf ifs ⟨out,fld,true,tg⟩ (3,t)={ gM ⟨out,fld,true,tg⟩ with g:=false } from by simp [cf]];exact ((hR2.gap false).mono (fun i h=>h.elim .inl (fun h=>.inr (Oid.ay h)))).leaves⟩ (b7 (hR2.gap false).func))
end Go.Proofs.YtlfeacmbhldjcaaGreatDoor
namespace Go.Proofs.YtlfeacmbhldjcaaGreatDoor
open Go Go.Ab
set_option maxRecDepth 20000
set_option maxHeartbeats 4000000
def bI (e:Nat × Str):AV:=.agg [.int .i64 e.1,.str e.2]
def kF:Spl:=⟨[],[],false,false⟩
def iJ (l:List (Nat × Str)) (ifs:Str):List Str:=if (l.foldl (cf ifs) kF).b=true then (gM (l.foldl (cf ifs) kF)).out else (l.foldl (cf ifs) kF).out
theorem Rep.iM {q:Oid} {J:Oid→Prop} {ifs:Str} {S:Spl} {M:List (Oid × ar)} (h:Rep q J ifs S M):(S.out=[]∧∃ X Y rest,M=(.ty 133 q,.cells [.str ifs,.nilSl,X,Y,.bool S.b,.bool S.g])::rest) ∨
  ∃ r X Y rest,M=(.ty 133 q,.cells [.str ifs,.sl r 1 S.out.length,X,Y,.bool S.b,.bool S.g])::rest∧(r,ar.arr 1 (S.out.map AV.str)) ∈ rest:=by
 obtain ⟨ov,X,Y,ro,rf,h1,h2,rfl⟩:=h
 rcases h1 with ⟨h1,rfl,rfl⟩|⟨r,_,_,rfl,rfl⟩
 ·exact .inl ⟨h1,_,_,_,rfl⟩
 ·exact .inr ⟨r,_,_,_,rfl,List.mem_append_right _ (List.mem_cons_self ..)⟩
theorem zB (l:List (Nat × Str)) (ifs:Str) (hn:l.length≤1000000) (hl:∀ e,e ∈ l→e.1≤3∧e.2.length≤100000∧(gR e.2).length≤1000000)
  (hb:∀ i,((l.take i).foldl (cf ifs) kF).fld.length≤100000000∧((l.take i).foldl (cf ifs) kF).out.length≤100000) (p:Oid) (hp:p.mono=false) :
  aA Tryz.prog 32 [.list 2 (l.map bI),.str ifs] (Oid.under p) ⟨[],.list 1 ((iJ l ifs).map .str),[]⟩:=by
 refine aN (n:=31) (rs:=[.tmp 4]) Tryz.func32 rfl rfl (by decide) rfl rfl rfl ?_;rintro x rfl hrd hng
 (repeat (first|(refine ah rfl rfl ?_)|(refine aj rfl rfl ?_)|(refine af nmd [] hng (by kernel_rfl) fun hf C S K hC1 hC hS hK=>?_;simp (disch:=first|omega|assumption) only [go_sem,List.length_map];refine hK ?_;clear hK hS hC hC1 K S C hf)|((first|refine zn ?_|refine ze ?_|refine zk ?_);with_reducible (constructor;repeat constructor);try refine zl ?_)))
 have hq:∀ c j,1 < c→¬ Oid.under (.sub c j x.p) (.ty 133 (.sub 1 2 x.p)):=fun c j h=>lE h
 refine a6 [5,11,12,13] (fun k s'=>∃ (i c:Nat) (M1:List (Oid × ar)),s' = ⟨[(5,.ptr (.ty 133 (.sub 1 2 x.p)) 0),(11,.list 2 (l.map bI)),(12,.int .i64 l.length),(13,.int .i64 i)],Mem.of M1,c,[]⟩∧k=l.length - i∧i≤l.length∧1 < c ∧
  Rep (.sub 1 2 x.p) (Old x.p c) ifs ((l.take i).foldl (cf ifs) kF) M1) _ ⟨0,_,_,rfl,rfl,Nat.zero_le _,by omega,⟨.nilSl,.nilPtr,.nilSl,[],[],.inl ⟨rfl,rfl,rfl⟩,.inl ⟨rfl,rfl,rfl,rfl⟩,rfl⟩⟩ ?_
 rintro k s' ⟨i,c,M1,rfl,rfl,hi,hc,hR⟩
 obtain ⟨hb1,hb2⟩:=hb i
 have hnm:=hR.names
 have hfn:=b7 hR.func
 (repeat (first|(refine ah rfl rfl ?_)|(refine aj rfl rfl ?_)|(refine af nmd [] hng (by kernel_rfl) fun hf C S K hC1 hC hS hK=>?_;simp (disch:=first|omega|assumption) only [go_sem,List.length_map];refine hK ?_;clear hK hS hC hC1 K S C hf)|((first|refine zn ?_|refine ze ?_|refine zk ?_);with_reducible (constructor;repeat constructor);try refine zl ?_)))
 refine bD rfl rfl (fun hb=>?_) (fun hb=>?_)
 ·have hlt:i < l.length:=by omega
  have htk:l.take (i+1)=l.take i++[l.getD i default]:=by
   rw [List.take_add_one,List.getElem?_eq_getElem hlt,List.getD_eq_getElem?_getD,List.getElem?_eq_getElem hlt];rfl
  have hmemE:l.getD i default ∈ l:=by rw [List.getD_eq_getElem?_getD,List.getElem?_eq_getElem hlt];exact List.getElem_mem _
  obtain ⟨hk3,ht,ha⟩:=hl _ hmemE
  have hT:(l.take (i+1)).foldl (cf ifs) kF=cf ifs ((l.take i).foldl (cf ifs) kF) (l.getD i default):=by rw [htk,List.foldl_append];rfl
  generalize hg:l.getD i default=g at hk3 ht ha hT
  obtain ⟨gk,gt⟩:=g
  generalize (l.take i).foldl (cf ifs) kF=S at hR hb1 hb2 hT
  have hR0:=hR
  obtain ⟨ov,X,Y,rest,rfl⟩:=hR.cons
  (repeat (first|(refine ah rfl rfl ?_)|(refine aj rfl rfl ?_)|(refine af nmd [] hng (by kernel_rfl) fun hf C S K hC1 hC hS hK=>?_;simp (disch:=first|omega|assumption) only [go_sem,hg,bI,AV.cells,List.length_map,hlt];refine hK ?_;clear hK hS hC hC1 K S C hf)|((first|refine zn ?_|refine ze ?_|refine zk ?_);with_reducible (constructor;repeat constructor);try refine zl ?_)))
  refine af nmd [] hng (by kernel_rfl) fun hf C S K hC1 hC hS hK=>?_;simp (disch:=first|omega|assumption) only [go_sem,hg,bI,AV.cells,List.length_map,hlt,aJ]
  refine hK ?_;clear hK hS hC hC1 K S C hf
  have hne:∀ e,e ∈ (.ty 133 (.sub 1 2 x.p),ar.cells [AV.str ifs,ov,X,Y,AV.bool S.b,AV.bool S.g])::rest→¬ e.1=Oid.sub (c+1) 2 x.p:=fun e he k=>(hnm e he).elim (fun h=>by rw [k] at h;cases h) (fun h=>h (c+1) 2 (by omega) (by rw [k];exact Oid.az _))
  have hmem:∀ e,e ∈ (.ty 133 (.sub 1 2 x.p),ar.cells [AV.str ifs,ov,X,Y,AV.bool S.b,AV.bool S.g])::rest→Mem.of ((Oid.sub (c+1) 2 x.p,ar.cells [AV.int .i64 gk,AV.str gt])::(.ty 133 (.sub 1 2 x.p),ar.cells [AV.str ifs,ov,X,Y,AV.bool S.b,AV.bool S.g])::rest) e.1=some e.2:=fun e he=>by
   rw [Mem.ae,if_neg (hne e he)];exact hfn e he
  refine bq ((Oid.sub (c+1) 2 x.p,ar.cells [AV.int .i64 gk,AV.str gt])::(.ty 133 (.sub 1 2 x.p),ar.cells [AV.str ifs,ov,X,Y,AV.bool S.b,AV.bool S.g])::rest) ?_ ?_
  ·intro e he
   rcases List.mem_cons.1 he with rfl|he
   ·rw [Mem.ae,if_neg (by simp),aJ,if_pos rfl]
   ·have h1:=hfn e he
    rw [Mem.ae] at h1 ⊢
    rw [aJ,if_neg (hne e he),aJ,if_neg (hne e he)];exact h1
  have htk2:=fun (p:Oid) hp' hq' hJ'=>XJ (.sub 1 2 x.p) (Old x.p (c+1+1)) ifs gt gk hk3 S _ ht ha hb1 hb2 p hp' hq' hJ' (hR0.mono fun i h=>h.mono (by omega))
  (repeat (first|(refine ah rfl rfl ?_)|(refine aj rfl rfl ?_)|(refine af nmd [] hng (by kernel_rfl) fun hf C S K hC1 hC hS hK=>?_;simp (disch:=first|omega|assumption) only [go_sem];refine hK ?_;clear hK hS hC hC1 K S C hf)|((first|refine zn ?_|refine ze ?_|refine zk ?_);with_reducible (constructor;repeat constructor);try refine zl ?_)))
  refine af nmd [] hng (by kernel_rfl) fun hf C S K hC1 hC hS hK=>?_;simp (disch:=first|omega|assumption) only [go_sem]
  refine hC _ _ _ (htk2 _ (aH rfl hp) (hq _ _ (by omega)) (fun i h=>h _ _ (by omega))) hmem ?_ (fun _ _ h=>h.elim)
  rintro _ u ⟨rfl,M2,hR2,hM2⟩
  have hM2:=hM2 _ hmem
  generalize Mem.aF _ u=m2 at hM2 ⊢
  simp (disch:=first|omega|assumption) only [go_sem]
  refine hK ?_;clear hK hS hC hC1 K S C hf
  refine bq M2 hM2 ?_
  (repeat (first|(refine ah rfl rfl ?_)|(refine aj rfl rfl ?_)|(refine af nmd [] hng (by kernel_rfl) fun hf C S K hC1 hC hS hK=>?_;simp (disch:=first|omega|assumption) only [go_sem];refine hK ?_;clear hK hS hC hC1 K S C hf)|((first|refine zn ?_|refine ze ?_|refine zk ?_);with_reducible (constructor;repeat constructor);try refine zl ?_)))
  exact ⟨_,_,by omega,fun _ _ h=>h,i+1,_,M2,rfl,rfl,by omega,by omega,by rw [hT];exact hR2.mono (fun i h=>h.elim (fun h=>h.mono (by omega)) (fun h=>(Old.made h).mono (by omega)))⟩
 ·obtain rfl:i=l.length:=by omega
  rw [List.take_length] at hR hb1 hb2
  have hR0:=hR
  generalize hS:l.foldl (cf ifs) kF=S at hR hb1 hb2 hR0
  have hfun:=b7 hR.func
  have hend:=fun (p:Oid) hp' hq' hJ'=>tP (.sub 1 2 x.p) (Old x.p (c+1+1)) ifs S M1 (by omega) (by omega) p hp' hq' hJ' (hR.mono fun i h=>h.mono (by omega))
  have hres:iJ l ifs=if S.b=true then (gM S).out else S.out:=by rw [iJ,hS]
  rw [hres]
  obtain ⟨out,fld,tb,tg⟩:=S
  cases tb
  ·simp only [reduceCtorEq,if_false]
   rcases hR.iM with ⟨h0,X,Y,rest,rfl⟩|⟨r,X,Y,rest,rfl,hr⟩
   ·simp only at h0
    subst h0
    (repeat (first|(refine ah rfl rfl ?_)|(refine aj rfl rfl ?_)|(refine af nmd [] hng (by kernel_rfl) fun hf C S K hC1 hC hS hK=>?_;simp (disch:=first|omega|assumption) only [go_sem];refine hK ?_;clear hK hS hC hC1 K S C hf)|((first|refine zn ?_|refine ze ?_|refine zk ?_);with_reducible (constructor;repeat constructor);try refine zl ?_)))
    refine bq [] (fun _ h=>by cases h) ?_
    exact pa 4 1 rfl (fF (xs:=[]) rfl (by simp (disch:=first|omega|assumption) only [go_sem]) rfl rfl)
   ·(repeat (first|(refine ah rfl rfl ?_)|(refine aj rfl rfl ?_)|(refine af nmd [] hng (by kernel_rfl) fun hf C S K hC1 hC hS hK=>?_;simp (disch:=first|omega|assumption) only [go_sem];refine hK ?_;clear hK hS hC hC1 K S C hf)|((first|refine zn ?_|refine ze ?_|refine zk ?_);with_reducible (constructor;repeat constructor);try refine zl ?_)))
    refine bq [(r,ar.arr 1 (out.map AV.str))] (fun e he=>by rw [List.mem_singleton.1 he];exact hfun _ (List.mem_cons_of_mem _ hr)) ?_
    exact fF rfl (by simp (disch:=first|omega|assumption) only [go_sem]) (List.length_map _).symm rfl
  ·simp only [if_true]
   obtain ⟨ov,X,Y,rest,rfl⟩:=hR.cons
   (repeat (first|(refine ah rfl rfl ?_)|(refine aj rfl rfl ?_)|(refine af nmd [] hng (by kernel_rfl) fun hf C S K hC1 hC hS hK=>?_;simp (disch:=first|omega|assumption) only [go_sem];refine hK ?_;clear hK hS hC hC1 K S C hf)|((first|refine zn ?_|refine ze ?_|refine zk ?_);with_reducible (constructor;repeat constructor);try refine zl ?_)))
   refine af nmd [] hng (by kernel_rfl) fun hf C S K hC1 hC hS hK=>?_;simp (disch:=first|omega|assumption) only [go_sem]
   refine hC _ _ _ (hend _ (aH rfl hp) (hq _ _ (by omega)) (fun i h=>h _ _ (by omega))) hfun ?_ (fun _ _ h=>h.elim)
   rintro _ u ⟨rfl,M2,hR2,hM2⟩
   have hM2:=hM2 _ hfun
   generalize Mem.aF _ u=m2 at hM2 ⊢
   simp (disch:=first|omega|assumption) only [go_sem]
   refine hK ?_;clear hK hS hC hC1 K S C hf
   refine bq M2 hM2 ?_
   have hfun2:=b7 hR2.func
   rcases hR2.iM with ⟨h0,_⟩|⟨r,X2,Y2,rest2,rfl,hr⟩
   ·simp [gM] at h0
   ·(repeat (first|(refine ah rfl rfl ?_)|(refine aj rfl rfl ?_)|(refine af nmd [] hng (by kernel_rfl) fun hf C S K hC1 hC hS hK=>?_;simp (disch:=first|omega|assumption) only [go_sem];refine hK ?_;clear hK hS hC hC1 K S C hf)|((first|refine zn ?_|refine ze ?_|refine zk ?_);with_reducible (constructor;repeat constructor);try refine zl ?_)))
    refine bq [(r,ar.arr 1 ((gM ⟨out,fld,true,tg⟩).out.map AV.str))] (fun e he=>by rw [List.mem_singleton.1 he];exact hfun2 _ (List.mem_cons_of_mem _ hr)) ?_
    exact fF rfl (by simp (disch:=first|omega|assumption) only [go_sem]) (List.length_map _).symm rfl
end Go.Proofs.YtlfeacmbhldjcaaGreatDoor
namespace Go.Proofs.YtlfeacmbhldjcaaGreatDoor
open Go Go.Ab Go.RowKit
set_option maxRecDepth 100000
set_option maxHeartbeats 1000000
theorem kG (b:Nat) (w:World) (a:Addr) (c:Nat) (hc:c≠0) (h0:w.cell? ⟨b,1,none⟩=some (.slice (some a) 0 c)) :
  Calls Tryz.prog 72 #[.pointer (some ⟨b,0,none⟩)] w fun e w'=>e = .returned (.string ⟨#[]⟩)∧Below w.heap.size w w':=by
 have hUS:=fun (W:World) (q:Option Addr)=>Lib.run_unsafeString_none (P:=Tryz.prog) W 165 3 9 q
 have c1:w.drew.cell? ⟨b,1,none⟩=some (.slice (some a) 0 c):=h0
 have hSD:(Builtin.unsafeSliceData_ #[115] 165 #[.slice (some a) 0 c]).run Tryz.prog w.drew = .ok (.pointer (some a)) w.drew:=Lib.run_unsafeSliceData_row _ _ _ _ _ _ hc
 have mixed:Tryz.prog.follows .mixedOrders=true:=by kernel_rfl
 go_enter Tryz.func72,Tryz.ntmps72
 go_wp2
 go_region_o
 all_goals (go_wp2;go_ret;exact ⟨rfl,Below.drew (Below.refl w.heap.size w)⟩)
theorem j0 (b:Nat) (w:World) (a:Addr) (sh:TypeId × Nat) (hsh:w.shape? a.block=some sh) (h0:w.cell? ⟨b,1,none⟩=some (.slice (some a) 0 0)) :
  Calls Tryz.prog 72 #[.pointer (some ⟨b,0,none⟩)] w fun e w'=>e = .returned (.string ⟨#[]⟩)∧Below w.heap.size w w':=by
 have hUS:=fun (W:World) (q:Option Addr)=>Lib.run_unsafeString_none (P:=Tryz.prog) W 165 3 9 q
 have c1:w.drew.cell? ⟨b,1,none⟩=some (.slice (some a) 0 0):=h0
 have hSD:(Builtin.unsafeSliceData_ #[115] 165 #[.slice (some a) 0 0]).run Tryz.prog w.drew = .ok (.pointer (some ⟨w.drew.heap.size,0,none⟩)) (w.drew.alloc (.view a 5)):=Lib.run_unsafeSliceData_zero _ _ _ 5 (by kernel_rfl) a 0 sh hsh
 have c2:(w.drew.alloc (.view a 5)).cell? ⟨b,1,none⟩=some (.slice (some a) 0 0):=gL _ _ _ _ _ c1
 have c3:(w.alloc (.view a 5)).cell? ⟨b,1,none⟩=some (.slice (some a) 0 0):=gL _ _ _ _ _ h0
 have mixed:Tryz.prog.follows .mixedOrders=true:=by kernel_rfl
 go_enter Tryz.func72,Tryz.ntmps72
 go_wp2
 go_region_o
 all_goals (go_wp2;go_ret;first|exact ⟨rfl,Below.alloc (Below.drew (Below.refl _ w)) (Nat.le_refl _) _⟩|exact ⟨rfl,Below.drew (Below.alloc (Below.refl _ w) (Nat.le_refl _) _)⟩)
theorem kH (b:Nat) (w:World) (h0:w.cell? ⟨b,1,none⟩=some (.slice none 0 0)) :
  Calls Tryz.prog 72 #[.pointer (some ⟨b,0,none⟩)] w fun e w'=>e = .returned (.string ⟨#[]⟩)∧Below w.heap.size w w':=by
 have hUS:=fun (W:World) (q:Option Addr)=>Lib.run_unsafeString_none (P:=Tryz.prog) W 165 3 9 q
 have c1:w.drew.cell? ⟨b,1,none⟩=some (.slice none 0 0):=h0
 have hSD:(Builtin.unsafeSliceData_ #[115] 165 #[.slice none 0 0]).run Tryz.prog w.drew = .ok (.pointer none) w.drew:=rfl
 have mixed:Tryz.prog.follows .mixedOrders=true:=by kernel_rfl
 go_enter Tryz.func72,Tryz.ntmps72
 go_wp2
 go_region_o
 all_goals (go_wp2;go_ret;exact ⟨rfl,Below.drew (Below.refl w.heap.size w)⟩)
theorem p8 (q r:Oid) (X:AV) (p:Oid) (hp:p.mono=false) :
  aA Tryz.prog 72 [.ptr q 0] (Oid.under p) ⟨[(q,.cells [X,.sl r 1 0])],.str [],[]⟩ :=
 ⟨by kernel_rfl,fun x g args w m hm hn ha hs hx=>by
  obtain ⟨u,rfl,hu⟩:=ha.one
  obtain ⟨b,rfl,hb⟩:=hu.cA
  have hmid:=hn (q,.cells [X,.sl r 1 0]) (by simp)
  obtain ⟨b',h1,h2,h3,h4⟩:=hm.fO hmid hb
  rw [hb] at h1;simp only [Option.some.injEq] at h1;subst h1
  obtain ⟨c,t,fz,c1,c2,c3,c4⟩:=h4
  have hsz:c.size=2:=c2
  have k0:=c4 1 (by simp)
  simp only [List.getD_cons_zero,List.getD_cons_succ] at k0
  have at3:∀ v,c.getD 1 undef=v→w.cell? ⟨b,1,none⟩=some v:=fun v h=>by
   rw [Array.getD_eq_getD_getElem?,Array.getElem?_eq_getElem (by omega)] at h
   simp only [Option.getD_some] at h
   simp [World.cell?,c1,Array.getElem?_eq_getElem (show 1 < c.size by omega),h]
  rcases k0.dq with ⟨_,hv,_⟩|⟨b2,cap,hv,hb2,_,hrow⟩
  ·exact (kH b w (at3 _ hv)).mono fun _ _ h=>⟨g,_,h.1,Gh.le_refl g,fun _ _=>rfl,.str _ _ rfl,hm.below h.2 (cU (hs p (Oid.az p)).2 hp)⟩
  ·by_cases h0:cap=0
   ·subst h0
    obtain ⟨c',t',fz',h6,h7⟩:=hm.rows b2 _ hrow
    exact (j0 b w ⟨b2,0,none⟩ _ (by simp [World.shape?,h6];rfl) (at3 _ hv)).mono fun _ _ h=>⟨g,_,h.1,Gh.le_refl g,fun _ _=>rfl,.str _ _ rfl,hm.below h.2 (cU (hs p (Oid.az p)).2 hp)⟩
   ·exact (kG b w _ cap h0 (at3 _ hv)).mono fun _ _ h=>⟨g,_,h.1,Gh.le_refl g,fun _ _=>rfl,.str _ _ rfl,hm.below h.2 (cU (hs p (Oid.az p)).2 hp)⟩⟩
end Go.Proofs.YtlfeacmbhldjcaaGreatDoor
namespace Go.Proofs.YtlfeacmbhldjcaaGreatDoor
open Go Go.Ab
set_option maxRecDepth 20000
set_option maxHeartbeats 1000000
def BR (q:Oid) (J:Oid→Prop) (d:Str) (M:List (Oid × ar)):Prop :=
 (d=[]∧M=[(.ty 117 q,.cells [.nilPtr,.nilSl])])∨∃ r,J (.ty 5 r)∧M=[(.ty 117 q,.cells [.ptr (.ty 117 q) 0,.sl (.ty 5 r) 1 d.length]),(.ty 5 r,.arr 1 (d.map byA))]
def vb (q:Oid) (J:Oid→Prop) (d:Str) (M:List (Oid × ar)) (u:List (Oid × Option ar)):Prop :=
 ∃ M',BR q J d M'∧∀ m:Mem,(∀ e,e ∈ M→m e.1=some e.2)→∀ e,e ∈ M'→(m.aF u) e.1=some e.2
theorem BR.mono {q:Oid} {J J':Oid→Prop} {d:Str} {M:List (Oid × ar)} (h:BR q J d M) (hJ:∀ i,J i→J' i):BR q J' d M:=h.imp id fun ⟨r,k,k'⟩=>⟨r,hJ _ k,k'⟩
theorem vc {q r2:Oid} {m:Mem} {o:ar} {l:List UInt8} {pre:List (Oid × Option ar)} (h:¬ Oid.ty 5 r2 = .ty 117 q) (hp:∀ m':Mem,((m'.set (.ty 117 q) (some o)).aF pre) (.ty 117 q)=some o) :
  ∀ e,e ∈ [(.ty 117 q,o),(Oid.ty 5 r2,ar.arr 1 (l.map byA))]→(m.aF ((.ty 117 q,some o)::(pre++[(Oid.ty 5 r2,some (ar.arr 1 (l.map byA)))]))) e.1=some e.2:=by
 intro e he
 simp only [List.mem_cons,List.not_mem_nil,or_false] at he
 rcases he with rfl|rfl
 ·simp only [Mem.aF,bZ,Mem.set,Ne.symm h,if_false];exact hp m
 ·simp only [Mem.aF,bZ,Mem.set,if_true]
theorem wsB (q:Oid) (J:Oid→Prop) (d s:Str) (M:List (Oid × ar)) (hl:d.length+s.length≤140737488355328) (p:Oid) (hq:¬ Oid.under p (.ty 117 q)) (hJ:∀ i,J i→¬ Oid.under p i) (hM:BR q J d M) :
  aX Tryz.prog 79 [.ptr (.ty 117 q) 0,.str s] (Oid.under p) M (fun v u=>v = .tuple [.int .i64 s.length,.nilIface]∧vb q (fun i=>J i∨Oid.under p i) (d++s) M u) (fun _ _=>False):=by
 have hyou:Oid.under p (.ty 5 (.sub 2 6 p)):=Oid.bY (Oid.ay (Oid.az _)) (Oid.fM _ _)
 have hq5:¬ Oid.ty 5 (.sub 2 6 p) = .ty 117 q:=fun e=>hq (by rw [← e];exact hyou)
 rcases hM with ⟨rfl,rfl⟩|⟨r,hr,rfl⟩
 ·refine (rv q s (by simpa using hl) p hq).nd.weaken ?_ (fun _ _ h=>h)
  rintro v u ⟨rfl,rfl⟩
  exact ⟨rfl,_,.inr ⟨_,.inr hyou,rfl⟩,fun m _=>vc (pre:=[]) hq5 fun m'=>by simp only [Mem.aF,Mem.set,if_true]⟩
 ·have h5:¬ .ty 117 q=Oid.ty 5 r:=fun e=>by injection e with e1 _;exact absurd e1 (by decide)
  refine (uC q r d s hl p hq (hJ _ hr)).nd.weaken ?_ (fun _ _ h=>h)
  rintro v u ⟨rfl,rfl⟩
  exact ⟨rfl,_,.inr ⟨_,.inr hyou,rfl⟩,fun m _=>vc (pre:=[(.ty 5 r,none)]) hq5 fun m'=>by simp only [Mem.aF,Mem.set,h5,if_true,if_false]⟩
theorem wbB (q:Oid) (J:Oid→Prop) (d:Str) (b:UInt8) (M:List (Oid × ar)) (hl:d.length+1≤140737488355328) (p:Oid) (hq:¬ Oid.under p (.ty 117 q)) (hJ:∀ i,J i→¬ Oid.under p i) (hM:BR q J d M) :
  aX Tryz.prog 71 [.ptr (.ty 117 q) 0,.int .u8 b.toNat] (Oid.under p) M (fun v u=>v = .nilIface∧vb q (fun i=>J i∨Oid.under p i) (d++[b]) M u) (fun _ _=>False):=by
 have hyou:Oid.under p (.ty 5 (.sub 2 7 p)):=Oid.bY (Oid.ay (Oid.az _)) (Oid.fM _ _)
 have hq5:¬ Oid.ty 5 (.sub 2 7 p) = .ty 117 q:=fun e=>hq (by rw [← e];exact hyou)
 rcases hM with ⟨rfl,rfl⟩|⟨r,hr,rfl⟩
 ·refine (sq q b p hq).nd.weaken ?_ (fun _ _ h=>h)
  rintro v u ⟨rfl,rfl⟩
  exact ⟨rfl,_,.inr ⟨_,.inr hyou,rfl⟩,fun m _=>vc (pre:=[]) hq5 fun m'=>by simp only [Mem.aF,Mem.set,if_true]⟩
 ·have h5:¬ .ty 117 q=Oid.ty 5 r:=fun e=>by injection e with e1 _;exact absurd e1 (by decide)
  refine (u9 q r d b hl p hq (hJ _ hr)).nd.weaken ?_ (fun _ _ h=>h)
  rintro v u ⟨rfl,rfl⟩
  exact ⟨rfl,_,.inr ⟨_,.inr hyou,rfl⟩,fun m _=>vc (pre:=[(.ty 5 r,none)]) hq5 fun m'=>by simp only [Mem.aF,Mem.set,h5,if_true,if_false]⟩
theorem ahA (q:Oid) (J:Oid→Prop) (d:Str) (M:List (Oid × ar)) (hl:d.length≤140737488355328) (p:Oid) (hp:p.mono=false) (hM:BR q J d M) :
  aX Tryz.prog 72 [.ptr (.ty 117 q) 0] (Oid.under p) M (fun v _=>v = .str d) (fun _ _=>False):=by
 rcases hM with ⟨rfl,rfl⟩|⟨r,hr,rfl⟩
 ·exact (jj q p).nd.weaken (fun _ _ h=>h.1) (fun _ _ h=>h)
 ·by_cases h0:d=[]
  ·subst h0
   exact (gP (p8 (.ty 117 q) (.ty 5 r) (.ptr (.ty 117 q) 0) p hp) (fun e he=>by rw [List.mem_singleton.1 he];exact List.mem_cons_self ..)).weaken (fun _ _ h=>h.1) (fun _ _ h=>h)
  ·exact (kg q r d (List.length_pos_iff.2 h0) hl p).nd.weaken (fun _ _ h=>h.1) (fun _ _ h=>h)
end Go.Proofs.YtlfeacmbhldjcaaGreatDoor
namespace Go.Proofs.YtlfeacmbhldjcaaGreatDoor
open Go Go.Ab
set_option maxRecDepth 20000
set_option maxHeartbeats 4000000
def cI (pat:Bool) (e:Nat × Str):Str:=if e.1=3 then [32] else if pat=true then (if e.1=1 then e8 e.2 else gR e.2) else e.2
theorem BR.func {q:Oid} {J:Oid→Prop} {d:Str} {M:List (Oid × ar)} (h:BR q J d M):sv M:=by
 rcases h with ⟨_,rfl⟩|⟨r,_,rfl⟩
 ·intro e he e' he' _
  rw [List.mem_singleton.1 he,List.mem_singleton.1 he']
 ·have h5:¬ (.ty 117 q)=Oid.ty 5 r:=fun e=>by injection e with e1 _;exact absurd e1 (by decide)
  intro e he e' he' k
  simp only [List.mem_cons,List.not_mem_nil,or_false] at he he'
  rcases he with rfl|rfl<;>rcases he' with rfl|rfl
  ·rfl
  ·exact absurd k h5
  ·exact absurd k.symm h5
  ·rfl
theorem BR.names {q:Oid} {J:Oid→Prop} {d:Str} {M:List (Oid × ar)} (h:BR q J d M):∀ e,e ∈ M→∃ t r,e.1 = .ty t r:=by
 rcases h with ⟨_,rfl⟩|⟨r,_,rfl⟩
 ·intro e he;rw [List.mem_singleton.1 he];exact ⟨_,_,rfl⟩
 ·intro e he
  simp only [List.mem_cons,List.not_mem_nil,or_false] at he
  rcases he with rfl|rfl<;>exact ⟨_,_,rfl⟩
theorem tQ (l:List (Nat × Str)) (pat:Bool) (hn:l.length≤1000000) (hl:∀ e,e ∈ l→e.1≤3∧e.2.length≤1000000)
  (hb:∀ i,((l.take i).flatMap (cI pat)).length≤100000000000) (ha:∀ e,e ∈ l→(cI pat e).length≤100000000) (p:Oid) (hp:p.mono=false) :
  aA Tryz.prog 35 [.list 2 (l.map bI),.bool pat] (Oid.under p) ⟨[],.str (l.flatMap (cI pat)),[]⟩:=by
 refine aN (n:=41) (rs:=[.tmp 4]) Tryz.func35 rfl rfl (by decide) rfl rfl rfl ?_;rintro x rfl hrd hng
 (repeat (first|(refine ah rfl rfl ?_)|(refine aj rfl rfl ?_)|(refine af nmd [] hng (by kernel_rfl) fun hf C S K hC1 hC hS hK=>?_;simp (disch:=first|omega|assumption) only [go_sem,List.length_map];refine hK ?_;clear hK hS hC hC1 K S C hf)|((first|refine zn ?_|refine ze ?_|refine zk ?_);with_reducible (constructor;repeat constructor);try refine zl ?_)))
 have hq:∀ c j,1 < c→¬ Oid.under (.sub c j x.p) (.ty 117 (.sub 1 0 x.p)):=fun c j h=>lE h
 refine a6 [1,5,8,9,10] (fun k s'=>∃ (i c:Nat) (M1:List (Oid × ar)),s' = ⟨[(1,.bool pat),(5,.ptr (.ty 117 (.sub 1 0 x.p)) 0),(8,.list 2 (l.map bI)),(9,.int .i64 l.length),(10,.int .i64 i)],Mem.of M1,c,[]⟩∧k=l.length - i∧i≤l.length∧1 < c ∧
  BR (.sub 1 0 x.p) (Old x.p c) ((l.take i).flatMap (cI pat)) M1) _ ⟨0,3,_,rfl,rfl,Nat.zero_le _,by omega,.inl ⟨rfl,rfl⟩⟩ ?_
 rintro k s' ⟨i,c,M1,rfl,rfl,hi,hc,hR⟩
 have hbi:=hb i
 have hbi1:=hb (i+1)
 have hnm:=hR.names
 have hfn:=b7 hR.func
 (repeat (first|(refine ah rfl rfl ?_)|(refine aj rfl rfl ?_)|(refine af nmd [] hng (by kernel_rfl) fun hf C S K hC1 hC hS hK=>?_;simp (disch:=first|omega|assumption) only [go_sem,List.length_map];refine hK ?_;clear hK hS hC hC1 K S C hf)|((first|refine zn ?_|refine ze ?_|refine zk ?_);with_reducible (constructor;repeat constructor);try refine zl ?_)))
 refine bD rfl rfl (fun hb=>?_) (fun hb=>?_)
 ·have hlt:i < l.length:=by omega
  have htk:l.take (i+1)=l.take i++[l.getD i default]:=by
   rw [List.take_add_one,List.getElem?_eq_getElem hlt,List.getD_eq_getElem?_getD,List.getElem?_eq_getElem hlt];rfl
  have hmemE:l.getD i default ∈ l:=by rw [List.getD_eq_getElem?_getD,List.getElem?_eq_getElem hlt];exact List.getElem_mem _
  obtain ⟨hk3,ht⟩:=hl _ hmemE
  have hai:=ha _ hmemE
  have hT:(l.take (i+1)).flatMap (cI pat)=(l.take i).flatMap (cI pat)++cI pat (l.getD i default):=by rw [htk,List.flatMap_append];simp
  generalize hg:l.getD i default=g at hk3 ht hai hT
  obtain ⟨gk,gt⟩:=g
  generalize (l.take i).flatMap (cI pat)=D at hR hbi hT
  have hA:=fun p hp=>kE gt (by simpa using ht) p hp
  have hE:=fun p=>oK gt (by simp only at ht;omega) p
  (repeat (first|(refine ah rfl rfl ?_)|(refine aj rfl rfl ?_)|(refine af nmd [] hng (by kernel_rfl) fun hf C S K hC1 hC hS hK=>?_;simp (disch:=first|omega|assumption) only [go_sem,hg,bI,AV.cells,List.length_map,hlt];refine hK ?_;clear hK hS hC hC1 K S C hf)|((first|refine zn ?_|refine ze ?_|refine zk ?_);with_reducible (constructor;repeat constructor);try refine zl ?_)))
  refine af nmd [] hng (by kernel_rfl) fun hf C S K hC1 hC hS hK=>?_;simp (disch:=first|omega|assumption) only [go_sem,hg,bI,AV.cells,List.length_map,hlt,aJ]
  refine hK ?_;clear hK hS hC hC1 K S C hf
  have hne:∀ e,e ∈ M1→¬ e.1=Oid.sub (c+1) 2 x.p:=fun e he k=>by obtain ⟨t,r,h⟩:=hnm e he;rw [h] at k;cases k
  have hmem:∀ e,e ∈ M1→Mem.of ((Oid.sub (c+1) 2 x.p,ar.cells [AV.int .i64 gk,AV.str gt])::M1) e.1=some e.2:=fun e he=>by
   rw [Mem.ae,if_neg (hne e he)];exact hfn e he
  refine bq ((Oid.sub (c+1) 2 x.p,ar.cells [AV.int .i64 gk,AV.str gt])::M1) ?_ ?_
  ·intro e he
   rcases List.mem_cons.1 he with rfl|he
   ·rw [aJ,if_pos rfl]
   ·rw [aJ,if_neg (hne e he),aJ,if_neg (hne e he)];exact hfn e he
  have hW:=fun (s:Str) (hs:s.length≤100000000) (p:Oid) hq' hJ'=>wsB (.sub 1 0 x.p) (Old x.p (c+1+1)) D s M1 (by omega) p hq' hJ' (hR.mono fun i h=>h.mono (by omega))
  have hB:=fun (p:Oid) hq' hJ'=>wbB (.sub 1 0 x.p) (Old x.p (c+1+1)) D 32 M1 (by omega) p hq' hJ' (hR.mono fun i h=>h.mono (by omega))
  by_cases h3:gk=3
  ·subst h3
   rw [show cI pat (3,gt)=[32] from by simp [cI]] at hT
   (repeat (first|(refine ah rfl rfl ?_)|(refine aj rfl rfl ?_)|(refine af nmd [] hng (by kernel_rfl) fun hf C S K hC1 hC hS hK=>?_;simp (disch:=first|omega|assumption) only [go_sem];refine hK ?_;clear hK hS hC hC1 K S C hf)|((first|refine zn ?_|refine ze ?_|refine zk ?_);with_reducible (constructor;repeat constructor);try refine zl ?_)))
   refine af nmd [] hng (by kernel_rfl) fun hf C S K hC1 hC hS hK=>?_;simp (disch:=first|omega|assumption) only [go_sem]
   refine hC _ _ _ (hB _ (hq _ _ (by omega)) (fun i h=>h _ _ (by omega))) hmem ?_ (fun _ _ h=>h.elim)
   rintro _ u ⟨rfl,M2,hR2,hM2⟩
   have hM2:=hM2 _ hmem
   generalize Mem.aF _ u=m2 at hM2 ⊢
   simp (disch:=first|omega|assumption) only [go_sem]
   refine hK ?_;clear hK hS hC hC1 K S C hf
   refine bq M2 hM2 ?_
   (repeat (first|(refine ah rfl rfl ?_)|(refine aj rfl rfl ?_)|(refine af nmd [] hng (by kernel_rfl) fun hf C S K hC1 hC hS hK=>?_;simp (disch:=first|omega|assumption) only [go_sem];refine hK ?_;clear hK hS hC hC1 K S C hf)|((first|refine zn ?_|refine ze ?_|refine zk ?_);with_reducible (constructor;repeat constructor);try refine zl ?_)))
   exact ⟨_,_,by omega,fun _ _ h=>h,i+1,_,M2,rfl,rfl,by omega,by omega,by rw [hT];exact hR2.mono (fun i h=>h.elim (fun h=>h.mono (by omega)) (fun h=>(Old.made h).mono (by omega)))⟩
  ·have h3i:¬ ((gk:Int)=3):=by omega
   cases pat
   ·rw [show cI false (gk,gt)=gt from by simp [cI,h3]] at hT
    (repeat (first|(refine ah rfl rfl ?_)|(refine aj rfl rfl ?_)|(refine af nmd [] hng (by kernel_rfl) fun hf C S K hC1 hC hS hK=>?_;simp (disch:=first|omega|assumption) only [go_sem,h3i,decide_true,decide_false,ne_eq,not_true_eq_false,not_false_eq_true];refine hK ?_;clear hK hS hC hC1 K S C hf)|((first|refine zn ?_|refine ze ?_|refine zk ?_);with_reducible (constructor;repeat constructor);try refine zl ?_)))
    refine af nmd [(1,24)] hng (by kernel_rfl) fun hf C S K hC1 hC hS hK=>?_;simp (disch:=first|omega|assumption) only [go_sem,h3i,decide_true,decide_false,ne_eq,not_true_eq_false,not_false_eq_true]
    refine hK ?_;clear hK hS hC hC1 K S C hf
    (repeat (first|(refine ah rfl rfl ?_)|(refine aj rfl rfl ?_)|(refine af nmd [] hng (by kernel_rfl) fun hf C S K hC1 hC hS hK=>?_;simp (disch:=first|omega|assumption) only [go_sem];refine hK ?_;clear hK hS hC hC1 K S C hf)|((first|refine zn ?_|refine ze ?_|refine zk ?_);with_reducible (constructor;repeat constructor);try refine zl ?_)))
    refine af nmd [] hng (by kernel_rfl) fun hf C S K hC1 hC hS hK=>?_;simp (disch:=first|omega|assumption) only [go_sem]
    refine hC _ _ _ (hW gt (by simp only at ht;omega) _ (hq _ _ (by omega)) (fun i h=>h _ _ (by omega))) hmem ?_ (fun _ _ h=>h.elim)
    rintro _ u ⟨rfl,M2,hR2,hM2⟩
    have hM2:=hM2 _ hmem
    generalize Mem.aF _ u=m2 at hM2 ⊢
    simp (disch:=first|omega|assumption) only [go_sem]
    refine hK ?_;clear hK hS hC hC1 K S C hf
    refine bq M2 hM2 ?_
    (repeat (first|(refine ah rfl rfl ?_)|(refine aj rfl rfl ?_)|(refine af nmd [] hng (by kernel_rfl) fun hf C S K hC1 hC hS hK=>?_;simp (disch:=first|omega|assumption) only [go_sem];refine hK ?_;clear hK hS hC hC1 K S C hf)|((first|refine zn ?_|refine ze ?_|refine zk ?_);with_reducible (constructor;repeat constructor);try refine zl ?_)))
    exact ⟨_,_,by omega,fun _ _ h=>h,i+1,_,M2,rfl,rfl,by omega,by omega,by rw [hT];exact hR2.mono (fun i h=>h.elim (fun h=>h.mono (by omega)) (fun h=>(Old.made h).mono (by omega)))⟩
   ·by_cases h1:gk=1
    ·subst h1
     rw [show cI true (1,gt)=e8 gt from by simp [cI]] at hT hai
     (repeat (first|(refine ah rfl rfl ?_)|(refine aj rfl rfl ?_)|(refine af nmd [] hng (by kernel_rfl) fun hf C S K hC1 hC hS hK=>?_;simp (disch:=first|omega|assumption) only [go_sem,h3i,decide_true,decide_false,ne_eq,not_true_eq_false,not_false_eq_true];refine hK ?_;clear hK hS hC hC1 K S C hf)|((first|refine zn ?_|refine ze ?_|refine zk ?_);with_reducible (constructor;repeat constructor);try refine zl ?_)))
     refine af nmd [(1,24)] hng (by kernel_rfl) fun hf C S K hC1 hC hS hK=>?_;simp (disch:=first|omega|assumption) only [go_sem,h3i,decide_true,decide_false,ne_eq,not_true_eq_false,not_false_eq_true]
     refine hK ?_;clear hK hS hC hC1 K S C hf
     (repeat (first|(refine ah rfl rfl ?_)|(refine aj rfl rfl ?_)|(refine af nmd [] hng (by kernel_rfl) fun hf C S K hC1 hC hS hK=>?_;simp (disch:=first|omega|assumption) only [go_sem];refine hK ?_;clear hK hS hC hC1 K S C hf)|((first|refine zn ?_|refine ze ?_|refine zk ?_);with_reducible (constructor;repeat constructor);try refine zl ?_)))
     refine af nmd [] hng (by kernel_rfl) fun hf C S K hC1 hC hS hK=>?_;simp (disch:=first|omega|assumption) only [go_sem]
     refine hC1 _ (hE _) (fun _ h=>by cases h) ?_
     simp (disch:=first|omega|assumption) only [go_sem]
     refine hC _ _ _ (hW (e8 gt) hai _ (hq _ _ (by omega)) (fun i h=>h _ _ (by omega))) hmem ?_ (fun _ _ h=>h.elim)
     rintro _ u ⟨rfl,M2,hR2,hM2⟩
     have hM2:=hM2 _ hmem
     generalize Mem.aF _ u=m2 at hM2 ⊢
     simp (disch:=first|omega|assumption) only [go_sem]
     refine hK ?_;clear hK hS hC hC1 K S C hf
     refine bq M2 hM2 ?_
     (repeat (first|(refine ah rfl rfl ?_)|(refine aj rfl rfl ?_)|(refine af nmd [] hng (by kernel_rfl) fun hf C S K hC1 hC hS hK=>?_;simp (disch:=first|omega|assumption) only [go_sem];refine hK ?_;clear hK hS hC hC1 K S C hf)|((first|refine zn ?_|refine ze ?_|refine zk ?_);with_reducible (constructor;repeat constructor);try refine zl ?_)))
     exact ⟨_,_,by omega,fun _ _ h=>h,i+1,_,M2,rfl,rfl,by omega,by omega,by rw [hT];exact hR2.mono (fun i h=>h.elim (fun h=>h.mono (by omega)) (fun h=>(Old.made h).mono (by omega)))⟩
    ·have h1i:¬ ((gk:Int)=1):=by omega
     rw [show cI true (gk,gt)=gR gt from by simp [cI,h3,h1]] at hT hai
     (repeat (first|(refine ah rfl rfl ?_)|(refine aj rfl rfl ?_)|(refine af nmd [] hng (by kernel_rfl) fun hf C S K hC1 hC hS hK=>?_;simp (disch:=first|omega|assumption) only [go_sem,h3i,h1i,decide_true,decide_false,ne_eq,not_true_eq_false,not_false_eq_true];refine hK ?_;clear hK hS hC hC1 K S C hf)|((first|refine zn ?_|refine ze ?_|refine zk ?_);with_reducible (constructor;repeat constructor);try refine zl ?_)))
     refine af nmd [(1,24)] hng (by kernel_rfl) fun hf C S K hC1 hC hS hK=>?_;simp (disch:=first|omega|assumption) only [go_sem,h3i,h1i,decide_true,decide_false,ne_eq,not_true_eq_false,not_false_eq_true]
     refine hK ?_;clear hK hS hC hC1 K S C hf
     (repeat (first|(refine ah rfl rfl ?_)|(refine aj rfl rfl ?_)|(refine af nmd [] hng (by kernel_rfl) fun hf C S K hC1 hC hS hK=>?_;simp (disch:=first|omega|assumption) only [go_sem];refine hK ?_;clear hK hS hC hC1 K S C hf)|((first|refine zn ?_|refine ze ?_|refine zk ?_);with_reducible (constructor;repeat constructor);try refine zl ?_)))
     refine af nmd [] hng (by kernel_rfl) fun hf C S K hC1 hC hS hK=>?_;simp (disch:=first|omega|assumption) only [go_sem]
     refine hC1 _ (hA _ (aH rfl hp)) (fun _ h=>by cases h) ?_
     simp (disch:=first|omega|assumption) only [go_sem]
     refine hC _ _ _ (hW (gR gt) hai _ (hq _ _ (by omega)) (fun i h=>h _ _ (by omega))) hmem ?_ (fun _ _ h=>h.elim)
     rintro _ u ⟨rfl,M2,hR2,hM2⟩
     have hM2:=hM2 _ hmem
     generalize Mem.aF _ u=m2 at hM2 ⊢
     simp (disch:=first|omega|assumption) only [go_sem]
     refine hK ?_;clear hK hS hC hC1 K S C hf
     refine bq M2 hM2 ?_
     (repeat (first|(refine ah rfl rfl ?_)|(refine aj rfl rfl ?_)|(refine af nmd [] hng (by kernel_rfl) fun hf C S K hC1 hC hS hK=>?_;simp (disch:=first|omega|assumption) only [go_sem];refine hK ?_;clear hK hS hC hC1 K S C hf)|((first|refine zn ?_|refine ze ?_|refine zk ?_);with_reducible (constructor;repeat constructor);try refine zl ?_)))
     exact ⟨_,_,by omega,fun _ _ h=>h,i+1,_,M2,rfl,rfl,by omega,by omega,by rw [hT];exact hR2.mono (fun i h=>h.elim (fun h=>h.mono (by omega)) (fun h=>(Old.made h).mono (by omega)))⟩
 ·obtain rfl:i=l.length:=by omega
  rw [List.take_length] at hR hbi
  have hStr:=fun p hp=>ahA (.sub 1 0 x.p) (Old x.p c) _ M1 (by omega) p hp hR
  (repeat (first|(refine ah rfl rfl ?_)|(refine aj rfl rfl ?_)|(refine af nmd [] hng (by kernel_rfl) fun hf C S K hC1 hC hS hK=>?_;simp (disch:=first|omega|assumption) only [go_sem];refine hK ?_;clear hK hS hC hC1 K S C hf)|((first|refine zn ?_|refine ze ?_|refine zk ?_);with_reducible (constructor;repeat constructor);try refine zl ?_)))
  refine af nmd [] hng (by kernel_rfl) fun hf C S K hC1 hC hS hK=>?_;simp (disch:=first|omega|assumption) only [go_sem]
  refine hC _ _ _ (hStr _ (aH rfl hp)) hfn ?_ (fun _ _ h=>h.elim)
  rintro _ u rfl
  generalize Mem.aF _ u=m2
  simp (disch:=first|omega|assumption) only [go_sem]
  refine hK ?_;clear hK hS hC hC1 K S C hf
  (repeat (first|(refine ah rfl rfl ?_)|(refine aj rfl rfl ?_)|(refine af nmd [] hng (by kernel_rfl) fun hf C S K hC1 hC hS hK=>?_;simp (disch:=first|omega|assumption) only [go_sem];refine hK ?_;clear hK hS hC hC1 K S C hf)|((first|refine zn ?_|refine ze ?_|refine zk ?_);with_reducible (constructor;repeat constructor);try refine zl ?_)))
  refine bq [] (fun _ h=>by cases h) ?_
  exact aC (aT rfl)
end Go.Proofs.YtlfeacmbhldjcaaGreatDoor
namespace Go.Proofs.YtlfeacmbhldjcaaGreatDoor
open Go Go.Ab
set_option maxRecDepth 20000
set_option maxHeartbeats 1000000
theorem tR (ifs:Str) (S:Spl) (c:UInt8):(splitB ifs S c).fld.length≤S.fld.length+2∧(splitB ifs S c).out.length≤S.out.length+1:=by
 have h:=sy c
 obtain ⟨out,fld,b,g⟩:=S
 unfold splitB kC gM
 repeat' split
 all_goals simp only [List.length_append,List.length_nil,List.length_singleton]
 all_goals constructor<;>omega
theorem tS (ifs:Str) (s:Str):∀ S:Spl,(s.foldl (splitB ifs) S).fld.length≤S.fld.length+2 * s.length∧(s.foldl (splitB ifs) S).out.length≤S.out.length+s.length:=by
 induction s with
 | nil=>intro S;exact ⟨Nat.le_refl _,Nat.le_refl _⟩
 | cons c s ih =>
  intro S
  have h1:=tR ifs S c
  have h2:=ih (splitB ifs S c)
  simp only [List.foldl_cons,List.length_cons]
  constructor<;>omega
theorem zC (ifs:Str) (S:Spl) (e:Nat × Str) (ha:(gR e.2).length≤2 * e.2.length):(cf ifs S e).fld.length≤S.fld.length+2 * e.2.length∧(cf ifs S e).out.length≤S.out.length+e.2.length+1:=by
 have h1:=tS ifs e.2 S
 have h2:=gj e.2
 obtain ⟨out,fld,b,g⟩:=S
 unfold cf
 repeat' split
 all_goals simp only [kC,gM,List.length_append,List.length_nil,List.length_singleton]
 all_goals first|(constructor<;>omega)|exact ⟨h1.1,Nat.le_succ_of_le h1.2⟩
theorem zD (ifs:Str) (l:List (Nat × Str)) (ha:∀ e,e ∈ l→(gR e.2).length≤2 * e.2.length):∀ S:Spl,(l.foldl (cf ifs) S).fld.length≤S.fld.length+2 * (l.map fun e=>e.2.length).sum∧(l.foldl (cf ifs) S).out.length≤S.out.length+(l.map fun e=>e.2.length).sum+l.length:=by
 induction l with
 | nil=>intro S;exact ⟨Nat.le_refl _,Nat.le_refl _⟩
 | cons e l ih =>
  intro S
  have h1:=zC ifs S e (ha e (List.mem_cons_self ..))
  have h2:=ih (fun e he=>ha e (List.mem_cons_of_mem _ he)) (cf ifs S e)
  simp only [List.foldl_cons,List.length_cons,List.map_cons,List.sum_cons]
  constructor<;>omega
theorem j4 (s:Str) (p:Oid):aA Tryz.prog 180 [.str s] (Oid.under p) ⟨[],.bool (decide (s=[64]) || decide (s=[42])),[]⟩:=by
 by_cases h1:s=[64]
 ·subst h1
  refine aN (n:=9) (rs:=[.tmp 2]) Tryz.func180 rfl rfl (by decide) rfl rfl rfl ?_;rintro x rfl hrd hng
  (repeat (first|(refine ah rfl rfl ?_)|(refine aj rfl rfl ?_)|(refine af nmd [] hng (by kernel_rfl) fun hf C S K hC1 hC hS hK=>?_;simp (disch:=first|omega|assumption) only [go_sem];refine hK ?_;clear hK hS hC hC1 K S C hf)|((first|refine zn ?_|refine ze ?_|refine zk ?_);with_reducible (constructor;repeat constructor);try refine zl ?_)))
  refine af nmd [(2,5)] hng (by kernel_rfl) fun hf C S K hC1 hC hS hK=>?_;simp (disch:=first|omega|assumption) only [go_sem,eq_self,decide_true,decide_false,ne_eq,not_true_eq_false,not_false_eq_true]
  refine hK ?_;clear hK hS hC hC1 K S C hf
  (repeat (first|(refine ah rfl rfl ?_)|(refine aj rfl rfl ?_)|(refine af nmd [] hng (by kernel_rfl) fun hf C S K hC1 hC hS hK=>?_;simp (disch:=first|omega|assumption) only [go_sem];refine hK ?_;clear hK hS hC hC1 K S C hf)|((first|refine zn ?_|refine ze ?_|refine zk ?_);with_reducible (constructor;repeat constructor);try refine zl ?_)))
  exact aC (aT rfl)
 ·by_cases h2:s=[42]
  ·subst h2
   have hx:¬ ([42]:Str)=[64]:=by decide
   refine aN (n:=9) (rs:=[.tmp 2]) Tryz.func180 rfl rfl (by decide) rfl rfl rfl ?_;rintro x rfl hrd hng
   (repeat (first|(refine ah rfl rfl ?_)|(refine aj rfl rfl ?_)|(refine af nmd [] hng (by kernel_rfl) fun hf C S K hC1 hC hS hK=>?_;simp (disch:=first|omega|assumption) only [go_sem];refine hK ?_;clear hK hS hC hC1 K S C hf)|((first|refine zn ?_|refine ze ?_|refine zk ?_);with_reducible (constructor;repeat constructor);try refine zl ?_)))
   refine af nmd [(2,5)] hng (by kernel_rfl) fun hf C S K hC1 hC hS hK=>?_;simp (disch:=first|omega|assumption) only [go_sem,hx,eq_self,decide_true,decide_false,ne_eq,not_true_eq_false,not_false_eq_true,Bool.not_false]
   refine hK ?_;clear hK hS hC hC1 K S C hf
   (repeat (first|(refine ah rfl rfl ?_)|(refine aj rfl rfl ?_)|(refine af nmd [] hng (by kernel_rfl) fun hf C S K hC1 hC hS hK=>?_;simp (disch:=first|omega|assumption) only [go_sem];refine hK ?_;clear hK hS hC hC1 K S C hf)|((first|refine zn ?_|refine ze ?_|refine zk ?_);with_reducible (constructor;repeat constructor);try refine zl ?_)))
   exact aC (aT rfl)
  ·rw [decide_eq_false h1,decide_eq_false h2]
   refine aN (n:=9) (rs:=[.tmp 2]) Tryz.func180 rfl rfl (by decide) rfl rfl rfl ?_;rintro x rfl hrd hng
   (repeat (first|(refine ah rfl rfl ?_)|(refine aj rfl rfl ?_)|(refine af nmd [] hng (by kernel_rfl) fun hf C S K hC1 hC hS hK=>?_;simp (disch:=first|omega|assumption) only [go_sem];refine hK ?_;clear hK hS hC hC1 K S C hf)|((first|refine zn ?_|refine ze ?_|refine zk ?_);with_reducible (constructor;repeat constructor);try refine zl ?_)))
   refine af nmd [(2,5)] hng (by kernel_rfl) fun hf C S K hC1 hC hS hK=>?_;simp (disch:=first|omega|assumption) only [go_sem,h1,h2,decide_true,decide_false,ne_eq,not_true_eq_false,not_false_eq_true]
   refine hK ?_;clear hK hS hC hC1 K S C hf
   (repeat (first|(refine ah rfl rfl ?_)|(refine aj rfl rfl ?_)|(refine af nmd [] hng (by kernel_rfl) fun hf C S K hC1 hC hS hK=>?_;simp (disch:=first|omega|assumption) only [go_sem];refine hK ?_;clear hK hS hC hC1 K S C hf)|((first|refine zn ?_|refine ze ?_|refine zk ?_);with_reducible (constructor;repeat constructor);try refine zl ?_)))
   exact aC (aT rfl)
end Go.Proofs.YtlfeacmbhldjcaaGreatDoor
namespace Go.Proofs.YtlfeacmbhldjcaaGreatDoor
open Go Go.Ab
theorem sA:∀ (k:Nat) (s:Str),(Lib.replaceK [92] [92,92] k s).length≤s.length+k
 | 0,s=>Nat.le_refl _
 | k+1,s=>by
  rw [Lib.replaceK]
  split
  ·omega
  ·rename_i h
   have hge:=Lib.index_ge s [92]
   have h0:0≤Lib.index s [92]:=by
    have:¬ Lib.index s [92] = -1:=fun e=>h (by rw [e];rfl)
    omega
   have hr:=Lib.index_room s [92] h0
   have ih:=sA k (s.drop ((Lib.index s [92]).toNat+([92]:Str).length))
   simp only [List.length_append,List.length_take,List.length_drop,List.length_cons,List.length_nil] at ih hr ⊢
   omega
theorem mW (s:Str):(gR s).length≤2 * s.length:=by
 have hc:=Lib.countB_mul_le ⟨#[92]⟩ (by decide) s.length ⟨s.toArray⟩ (Nat.le_refl _)
 have h1:(ByteArray.mk #[92]).size=1:=rfl
 have h2:(ByteArray.mk s.toArray).size=s.length:=rfl
 rw [h1,h2] at hc
 have h3:Lib.count s [92]≤s.length:=by
  have:Lib.countB ⟨s.toArray⟩ ⟨#[92]⟩=Lib.count s [92]:=rfl
  omega
 have h4:Lib.replaceNum s [92] (-1)=Lib.count s [92]:=by unfold Lib.replaceNum;rw [if_pos (.inl (by decide))]
 unfold gR Lib.replaceAll Lib.replace
 rw [h4]
 split
 ·omega
 ·have:=sA (Lib.count s [92]) s
  omega
theorem tT (l:List (Nat × Str)) (ifs:Str) (hn:l.length≤10000) (hk:∀ e,e ∈ l→e.1≤3) (hs:(l.map fun e=>e.2.length).sum≤50000) (p:Oid) (hp:p.mono=false) :
  aA Tryz.prog 32 [.list 2 (l.map bI),.str ifs] (Oid.under p) ⟨[],.list 1 ((iJ l ifs).map .str),[]⟩:=by
 have hle:∀ (L:List (Nat × Str)),∀ e,e ∈ L→e.2.length≤(L.map fun e=>e.2.length).sum:=by
  intro L
  induction L with
  | nil=>intro e he;cases he
  | cons a L ih =>
   intro e he
   simp only [List.map_cons,List.sum_cons]
   rcases List.mem_cons.1 he with rfl|he
   ·omega
   ·have:=ih e he;omega
 have htk:∀ (L:List (Nat × Str)) (i:Nat),((L.take i).map fun e=>e.2.length).sum≤(L.map fun e=>e.2.length).sum:=by
  intro L i
  conv=>rhs;rw [← List.take_append_drop i L,List.map_append,List.sum_append]
  omega
 refine zB l ifs (by omega) (fun e he=>?_) (fun i=>?_) p hp
 ·have h1:=hle l e he
  have h2:=mW e.2
  exact ⟨hk e he,by omega,by omega⟩
 ·have h1:=zD ifs (l.take i) (fun e _=>mW e.2) kF
  have h2:=htk l i
  have h3:(l.take i).length≤l.length:=by rw [List.length_take];omega
  have h4:kF.fld.length=0:=rfl
  have h5:kF.out.length=0:=rfl
  exact ⟨by omega,by omega⟩
end Go.Proofs.YtlfeacmbhldjcaaGreatDoor
namespace Go.Proofs.YtlfeacmbhldjcaaGreatDoor
open Go Go.Ab
def cN:List Str→List (Nat × Str)
 | []=>[]
 | [a]=>[(1,a)]
 | a::b::l=>(1,a)::(3,[])::cN (b::l)
end Go.Proofs.YtlfeacmbhldjcaaGreatDoor
namespace Go.Proofs.YtlfeacmbhldjcaaGreatDoor
open Go Go.Ab
set_option maxRecDepth 20000
set_option maxHeartbeats 1000000
theorem tU (r:Oid) (t:Str) (hl:t.length≤140737488355328) (hs:iv t=false) (p:Oid):aA Tryz.prog 9 [.ptr r 0,.str t] (Oid.under p) ⟨[],.list 1 [.str (b8 t)],[]⟩:=by
 have hS1:=fun p=>tO t hl p
 have hP:=fun p=>Dg t hl p
 rw [hs] at hS1
 refine aN (n:=26) (rs:=[.tmp 4]) Tryz.func9 rfl rfl (by decide) rfl rfl rfl ?_;rintro x rfl hrd hng
 (repeat (first|(refine ah rfl rfl ?_)|(refine aj rfl rfl ?_)|(refine af nmd [] hng (by kernel_rfl) fun hf C S K hC1 hC hS hK=>?_;simp (disch:=first|omega|assumption) only [go_sem];refine hK ?_;clear hK hS hC hC1 K S C hf)|((first|refine zn ?_|refine ze ?_|refine zk ?_);with_reducible (constructor;repeat constructor);try refine zl ?_)))
 refine af nmd [(2,8)] hng (by kernel_rfl) fun hf C S K hC1 hC hS hK=>?_;simp (disch:=first|omega|assumption) only [go_sem,decide_true,decide_false,ne_eq,not_true_eq_false,not_false_eq_true]
 refine hC1 _ (hS1 _) (fun _ h=>by cases h) ?_
 simp (disch:=first|omega|assumption) only [go_sem,decide_true,decide_false,ne_eq,not_true_eq_false,not_false_eq_true]
 refine hK ?_;clear hK hS hC hC1 K S C hf
 (repeat (first|(refine ah rfl rfl ?_)|(refine aj rfl rfl ?_)|(refine af nmd [] hng (by kernel_rfl) fun hf C S K hC1 hC hS hK=>?_;simp (disch:=first|omega|assumption) only [go_sem];refine hK ?_;clear hK hS hC hC1 K S C hf)|((first|refine zn ?_|refine ze ?_|refine zk ?_);with_reducible (constructor;repeat constructor);try refine zl ?_)))
 refine af nmd [] hng (by kernel_rfl) fun hf C S K hC1 hC hS hK=>?_;simp (disch:=first|omega|assumption) only [go_sem]
 refine hC1 _ (hP _) (fun _ h=>by cases h) ?_
 simp (disch:=first|omega|assumption) only [go_sem]
 refine hK ?_;clear hK hS hC hC1 K S C hf
 exact aC (aT rfl)
end Go.Proofs.YtlfeacmbhldjcaaGreatDoor
namespace Go.Proofs.YtlfeacmbhldjcaaGreatDoor
open Go Go.Ab
set_option maxRecDepth 20000
set_option maxHeartbeats 1000000
theorem Dk (q:Oid) (A B F D K G N O W:AV) (s:Str) (p:Oid) (hq:¬ Oid.under p q) :
  aA Tryz.prog 119 [.ptr q 0,.agg [K,.bool true,G,N,O,W],.str s] (Oid.under p) ⟨[(q,.cells [A,B,F,D,.nilSl])],.tuple [],
   [(q,some (.cells [A,B,F,D,.sl (.sub 4 9 p) 2 1])),(.sub 4 9 p,some (.arr 2 [bI (1,s)]))]⟩:=by
 refine aN (n:=21) (rs:=[]) Tryz.func119 rfl rfl (by decide) rfl rfl rfl ?_;rintro x rfl hrd hng
 (repeat (first|(refine ah rfl rfl ?_)|(refine aj rfl rfl ?_)|(refine af nmd [] hng (by kernel_rfl) fun hf C S K hC1 hC hS hK=>?_;simp (disch:=first|omega|assumption) only [go_sem];refine hK ?_;clear hK hS hC hC1 K S C hf)|((first|refine zn ?_|refine ze ?_|refine zk ?_);with_reducible (constructor;repeat constructor);try refine zl ?_)))
 refine af nmd [] hng (by kernel_rfl) fun hf C S K hC1 hC hS hK=>?_;simp (disch:=first|omega|assumption) only [go_sem,Oid.aa hq,Oid.ab hq,AV.cells,List.flatMap_cons,List.flatMap_nil,fq]
 refine hK ?_;clear hK hS hC hC1 K S C hf
 refine br (bc (.tuple []) _ rfl ⟨rfl,rfl⟩ (ck ?_ ?_))
 all_goals simp only [List.mem_cons,List.not_mem_nil,or_false,forall_eq_or_imp,forall_eq,Option.some.injEq,forall_eq',Mem.ae,eq_self,if_true,↓reduceIte,reduceCtorEq,implies_true,not_true_eq_false,false_imp_iff,true_and,and_true,false_and,and_false,imp_self,Oid.aa hq,Oid.ab hq,Oid.sub.injEq,Nat.reduceEqDiff,bI]
 all_goals rfl
theorem zE (q:Oid) (A B F D K G N O W:AV) (s:Str) (p:Oid) (hq:¬ Oid.under p q) :
  aA Tryz.prog 119 [.ptr q 0,.agg [K,.bool false,G,N,O,W],.str s] (Oid.under p) ⟨[(q,.cells [A,B,F,D,.nilSl])],.tuple [],
   [(q,some (.cells [A,B,F,D,.sl (.sub 3 9 p) 2 1])),(.sub 3 9 p,some (.arr 2 [bI (2,s)]))]⟩:=by
 refine aN (n:=21) (rs:=[]) Tryz.func119 rfl rfl (by decide) rfl rfl rfl ?_;rintro x rfl hrd hng
 (repeat (first|(refine ah rfl rfl ?_)|(refine aj rfl rfl ?_)|(refine af nmd [] hng (by kernel_rfl) fun hf C S K hC1 hC hS hK=>?_;simp (disch:=first|omega|assumption) only [go_sem];refine hK ?_;clear hK hS hC hC1 K S C hf)|((first|refine zn ?_|refine ze ?_|refine zk ?_);with_reducible (constructor;repeat constructor);try refine zl ?_)))
 refine af nmd [] hng (by kernel_rfl) fun hf C S K hC1 hC hS hK=>?_;simp (disch:=first|omega|assumption) only [go_sem,Oid.aa hq,Oid.ab hq,AV.cells,List.flatMap_cons,List.flatMap_nil,fq]
 refine hK ?_;clear hK hS hC hC1 K S C hf
 refine br (bc (.tuple []) _ rfl ⟨rfl,rfl⟩ (ck ?_ ?_))
 all_goals simp only [List.mem_cons,List.not_mem_nil,or_false,forall_eq_or_imp,forall_eq,Option.some.injEq,forall_eq',Mem.ae,eq_self,if_true,↓reduceIte,reduceCtorEq,implies_true,not_true_eq_false,false_imp_iff,true_and,and_true,false_and,and_false,imp_self,Oid.aa hq,Oid.ab hq,Oid.sub.injEq,Nat.reduceEqDiff,bI]
 all_goals rfl
theorem zF (q ro:Oid) (l:List (Nat × Str)) (hn:l.length≤1000000) (A B F D K G N O W:AV) (s:Str) (p:Oid) (hq:¬ Oid.under p q) (ho:¬ Oid.under p ro) (hqo:¬ ro=q) :
  aA Tryz.prog 119 [.ptr q 0,.agg [K,.bool true,G,N,O,W],.str s] (Oid.under p) ⟨[(q,.cells [A,B,F,D,.sl ro 2 l.length]),(ro,.arr 2 (l.map bI))],.tuple [],
   [(q,some (.cells [A,B,F,D,.sl (.sub 4 9 p) 2 (l.length+1)])),(ro,none),(.sub 4 9 p,some (.arr 2 ((l++[(1,s)]).map bI)))]⟩:=by
 refine aN (n:=21) (rs:=[]) Tryz.func119 rfl rfl (by decide) rfl rfl rfl ?_;rintro x rfl hrd hng
 (repeat (first|(refine ah rfl rfl ?_)|(refine aj rfl rfl ?_)|(refine af nmd [] hng (by kernel_rfl) fun hf C S K hC1 hC hS hK=>?_;simp (disch:=first|omega|assumption) only [go_sem];refine hK ?_;clear hK hS hC hC1 K S C hf)|((first|refine zn ?_|refine ze ?_|refine zk ?_);with_reducible (constructor;repeat constructor);try refine zl ?_)))
 refine af nmd [] hng (by kernel_rfl) fun hf C S K hC1 hC hS hK=>?_;simp (disch:=first|omega|assumption) only [go_sem,Oid.aa hq,Oid.ab hq,AV.cells,List.flatMap_cons,List.flatMap_nil,fq,List.length_map,hqo,Ne.symm hqo,if_false,↓reduceIte]
 refine hK ?_;clear hK hS hC hC1 K S C hf
 refine br (bc (.tuple []) _ rfl ⟨rfl,rfl⟩ (ck ?_ ?_))
 all_goals simp only [List.mem_cons,List.not_mem_nil,or_false,forall_eq_or_imp,forall_eq,Option.some.injEq,forall_eq',Mem.ae,eq_self,if_true,↓reduceIte,reduceCtorEq,implies_true,not_true_eq_false,false_imp_iff,true_and,and_true,false_and,and_false,imp_self,Oid.aa hq,Oid.ab hq,Oid.aa ho,Oid.ab ho,hqo,Ne.symm hqo,List.map_append,List.map_cons,List.map_nil,Oid.sub.injEq,Nat.reduceEqDiff,bI]
 all_goals rfl
theorem tV (q ro:Oid) (l:List (Nat × Str)) (hn:l.length≤1000000) (A B F D K G N O W:AV) (s:Str) (p:Oid) (hq:¬ Oid.under p q) (ho:¬ Oid.under p ro) (hqo:¬ ro=q) :
  aA Tryz.prog 119 [.ptr q 0,.agg [K,.bool false,G,N,O,W],.str s] (Oid.under p) ⟨[(q,.cells [A,B,F,D,.sl ro 2 l.length]),(ro,.arr 2 (l.map bI))],.tuple [],
   [(q,some (.cells [A,B,F,D,.sl (.sub 3 9 p) 2 (l.length+1)])),(ro,none),(.sub 3 9 p,some (.arr 2 ((l++[(2,s)]).map bI)))]⟩:=by
 refine aN (n:=21) (rs:=[]) Tryz.func119 rfl rfl (by decide) rfl rfl rfl ?_;rintro x rfl hrd hng
 (repeat (first|(refine ah rfl rfl ?_)|(refine aj rfl rfl ?_)|(refine af nmd [] hng (by kernel_rfl) fun hf C S K hC1 hC hS hK=>?_;simp (disch:=first|omega|assumption) only [go_sem];refine hK ?_;clear hK hS hC hC1 K S C hf)|((first|refine zn ?_|refine ze ?_|refine zk ?_);with_reducible (constructor;repeat constructor);try refine zl ?_)))
 refine af nmd [] hng (by kernel_rfl) fun hf C S K hC1 hC hS hK=>?_;simp (disch:=first|omega|assumption) only [go_sem,Oid.aa hq,Oid.ab hq,AV.cells,List.flatMap_cons,List.flatMap_nil,fq,List.length_map,hqo,Ne.symm hqo,if_false,↓reduceIte]
 refine hK ?_;clear hK hS hC hC1 K S C hf
 refine br (bc (.tuple []) _ rfl ⟨rfl,rfl⟩ (ck ?_ ?_))
 all_goals simp only [List.mem_cons,List.not_mem_nil,or_false,forall_eq_or_imp,forall_eq,Option.some.injEq,forall_eq',Mem.ae,eq_self,if_true,↓reduceIte,reduceCtorEq,implies_true,not_true_eq_false,false_imp_iff,true_and,and_true,false_and,and_false,imp_self,Oid.aa hq,Oid.ab hq,Oid.aa ho,Oid.ab ho,hqo,Ne.symm hqo,List.map_append,List.map_cons,List.map_nil,Oid.sub.injEq,Nat.reduceEqDiff,bI]
 all_goals rfl
end Go.Proofs.YtlfeacmbhldjcaaGreatDoor
namespace Go.Proofs
open Go.Shelf
def Tryz.vd:Go.Shelf.Ren:=⟨fun|4=>78|n=>n,fun|22=>27|25=>9|3=>3|4=>4|9=>9|20=>20|0=>0|n=>n,fun|n=>n⟩
theorem Tryz.Gro:Go.Proofs.Lays8.n4 Tryz.prog Tryz.vd:={
 mixed:=by kernel_rfl
 f4:=⟨Tryz.f78.name,by decide,Tryz.func78.trans (congrArg some (by kernel_rfl))⟩
 t0:=Tryz.underlying0
 a0:=Tryz.isAgg0
 z0:=Tryz.sizeOf0
 v0:=Tryz.zeroValue0
 t3:=Tryz.underlying3
 a3:=Tryz.isAgg3
 z3:=Tryz.sizeOf3
 v3:=Tryz.zeroValue3
 t4:=Tryz.underlying4
 a4:=Tryz.isAgg4
 z4:=Tryz.sizeOf4
 v4:=Tryz.zeroValue4
 t9:=Tryz.underlying9
 a9:=Tryz.isAgg9
 z9:=Tryz.sizeOf9
 v9:=Tryz.zeroValue9
 t20:=Tryz.underlying20
 a20:=Tryz.isAgg20
 z20:=Tryz.sizeOf20
 v20:=Tryz.zeroValue20
 t22:=Tryz.underlying27
 a22:=Tryz.isAgg27
 z22:=Tryz.sizeOf27
 v22:=Tryz.zeroValue27 }
end Go.Proofs
namespace Go.Proofs.YtlfeacmbhldjcaaGreatDoor
open Go Go.Ab
set_option maxRecDepth 20000
set_option maxHeartbeats 4000000
theorem XK (n:Nat) (h0:0 < n) (hn:n≤8000000000000) (p:Oid):aA Tryz.prog 78 [.nilSl,.int .i64 n] (Oid.under p) ⟨[],.sl (.sub 0 0 p) 1 0,[(.sub 0 0 p,some (.arr 1 []))]⟩:=by
 have hk:(Tryz.prog.info? 9).map (fun i=>(i.size,i.bytes,i.zero))=some (1,16,some (Value.string ⟨#[]⟩)):=by kernel_rfl
 cases hi:Tryz.prog.info? 9 with
 | none=>rw [hi] at hk;cases hk
 | some i0 =>
 rw [hi] at hk
 simp only [Option.map_some,Option.some.injEq,Prod.mk.injEq] at hk
 obtain ⟨e1,e2,e3⟩:=hk
 refine ⟨by kernel_rfl,fun x g args w m hm _ ha hs hx=>?_⟩
 obtain ⟨v,u,rfl,hv,hu⟩:=ha.two
 rw [hv.bu,hu.aY]
 have h:=Any8.slices_Grow_grow Tryz.Gro i0 (Value.string ⟨#[]⟩) hi e3 (by rw [e1];decide) none 0 0 n [] w (Nat.le_refl _) (by omega) (by rw [e2];omega) (by omega) (by rw [e1];rfl) (fun _=>rfl) (fun a h=>by cases h)
 rw [show (Tryz.vd).t 25=9 from rfl] at h
 have hG:=grownCap_ge w (0+n) 0 9
 generalize grownCap w (0+n) 0 9=G at hG h
 have hsz:((#[]:Array Value)++Builtin.zeroCells (Value.string ⟨#[]⟩).cells (0+n - 0)++Builtin.zeroCells (Value.string ⟨#[]⟩).cells (G - (0+n))).size=G * 1:=by
  simp only [Array.size_append,Builtin.zeroCells,Array.size_map,Array.size_range]
  have:(Value.string ⟨#[]⟩).cells.size=1:=rfl
  rw [this]
  simp;omega
 generalize ((#[]:Array Value)++Builtin.zeroCells (Value.string ⟨#[]⟩).cells (0+n - 0)++Builtin.zeroCells (Value.string ⟨#[]⟩).cells (G - (0+n)))=cs at hsz h
 refine h.mono ?_
 rintro en w' ⟨rfl,rfl⟩
 obtain ⟨hl,hup⟩:=hs (.sub 0 0 p) (Oid.ay (Oid.az _))
 have hrn:g.row w.heap.size=none:=hm.jA (Nat.le_refl _)
 have hd:aD x g m w.drew:=hm.drew _ (Nat.le_succ _)
 have hnew:=hd.new hl hup (o:=.arr 1 []) (ob:=.cells cs 9) ⟨cs,9,(0,0),bC w.drew _,by simp,fun j _ hj=>by omega,fun i hi=>absurd hi (Nat.not_lt_zero _),fun j hj=>by simp at hj,fun i j hi _=>absurd hi (Nat.not_lt_zero _)⟩ (fun t ht=>by cases ht)
 refine ⟨(g.bind (.sub 0 0 p) w.heap.size).measure w.heap.size (G * 1),_,rfl,Gh.le_trans (Gh.bs hl) (Gh.dw (.inl hrn)),fun j hj=>?_,?_,hnew.measure ⟨cs,9,(0,0),bC w.drew _,hsz⟩ (.inl hrn)⟩
 ·have hne:¬ j = .sub 0 0 p:=fun e=>by subst e;exact hj (Oid.ay (Oid.az (.sub 0 0 p)))
  simp only [Gh.bind,Gh.measure];rw [if_neg hne]
 ·exact .sl _ _ _ _ _ (by simp [Gh.bind,Gh.measure]) (by omega) (by simp [Gh.measure])
def gS (l:List (List Str)):Nat:=(l.map List.length).sum
theorem oL (l:List (List Str)) {i:Nat} (h:i < l.length):gS (l.take (i+1))=gS (l.take i)+(l.getD i []).length:=by
 unfold gS
 rw [List.take_add_one,List.getElem?_eq_getElem h,List.getD_eq_getElem?_getD,List.getElem?_eq_getElem h,List.map_append,List.sum_append]
 simp only [Option.toList,List.map_cons,List.map_nil,List.sum_cons,List.sum_nil,Option.getD_some,Nat.add_zero]
theorem vf (l:List (List Str)) (i:Nat):gS (l.take i)≤gS l:=by
 unfold gS
 conv=>rhs;rw [← List.take_append_drop i l,List.map_append,List.sum_append]
 omega
theorem zG (l:List (List Str)) (h0:0 < gS l) (hn:gS l≤1000000000) (hl:l.length≤1000000000) (p:Oid):aA Tryz.prog 34 [.list 1 (l.map fun a=>.list 1 (a.map AV.str))] (Oid.under p) ⟨[],.list 1 (l.flatten.map AV.str),[]⟩:=by
 refine aN (n:=36) (rs:=[.tmp 2]) Tryz.func34 rfl rfl (by decide) rfl rfl rfl ?_;rintro x rfl hrd hng
 (repeat (first|(refine ah rfl rfl ?_)|(refine aj rfl rfl ?_)|(refine af nmd [] hng (by kernel_rfl) fun hf C S K hC1 hC hS hK=>?_;simp (disch:=first|omega|assumption) only [go_sem,List.length_map];refine hK ?_;clear hK hS hC hC1 K S C hf)|((first|refine zn ?_|refine ze ?_|refine zk ?_);with_reducible (constructor;repeat constructor);try refine zl ?_)))
 refine Dc [0,3] (fun s'=>∃ c,s' = ⟨[(0,.list 1 (l.map fun a=>.list 1 (a.map AV.str))),(3,.int .i64 (gS l))],Mem.of [],c,[]⟩) ?_ ?_
 ·refine a6 [0,3,9,10,11] (fun k s'=>∃ (i c:Nat),s' = ⟨[(0,.list 1 (l.map fun a=>.list 1 (a.map AV.str))),(3,.int .i64 (gS (l.take i))),(9,.list 1 (l.map fun a=>.list 1 (a.map AV.str))),(10,.int .i64 l.length),(11,.int .i64 i)],Mem.of [],c,[]⟩∧k=l.length - i∧i≤l.length) _ ⟨0,_,rfl,rfl,Nat.zero_le _⟩ ?_
  rintro k s' ⟨i,c,rfl,rfl,hi⟩
  by_cases hlt:i < l.length
  ·have hI:(i:Int) < l.length:=by omega
   have hlx:i < (l.map fun a=>AV.list 1 (a.map AV.str)).length:=by rw [List.length_map];exact hlt
   have hg:(l.map fun a=>AV.list 1 (a.map AV.str)).getD i .undef = .list 1 ((l.getD i []).map AV.str):=by
    rw [List.getD_eq_getElem?_getD,List.getElem?_map,List.getElem?_eq_getElem hlt,List.getD_eq_getElem?_getD,List.getElem?_eq_getElem hlt];rfl
   have hs:=oL l hlt
   have hle:=vf l (i+1)
   generalize l.getD i []=a at hg hs
   have hneg:¬ ((gS (l.take i):Int)+(a.length:Int) < 0):=by omega
   (repeat (first|(refine ah rfl rfl ?_)|(refine aj rfl rfl ?_)|(refine af nmd [] hng (by kernel_rfl) fun hf C S K hC1 hC hS hK=>?_;simp (disch:=first|omega|assumption) only [go_sem,hI,hlx,hg,hneg,List.length_map,decide_true,decide_false,ne_eq,not_true_eq_false,not_false_eq_true];refine hK ?_;clear hK hS hC hC1 K S C hf)|((first|refine zn ?_|refine ze ?_|refine zk ?_);with_reducible (constructor;repeat constructor);try refine zl ?_)))
   exact ⟨_,_,by omega,fun _ _ h=>h,i+1,_,by rw [hs];rfl,rfl,by omega⟩
  ·obtain rfl:i=l.length:=by omega
   have hI:¬ (l.length:Int) < l.length:=by omega
   rw [List.take_length]
   (repeat (first|(refine ah rfl rfl ?_)|(refine aj rfl rfl ?_)|(refine af nmd [] hng (by kernel_rfl) fun hf C S K hC1 hC hS hK=>?_;simp (disch:=first|omega|assumption) only [go_sem,hI,decide_true,decide_false,ne_eq,not_true_eq_false,not_false_eq_true];refine hK ?_;clear hK hS hC hC1 K S C hf)|((first|refine zn ?_|refine ze ?_|refine zk ?_);with_reducible (constructor;repeat constructor);try refine zl ?_)))
   exact aR ⟨_,rfl⟩
 rintro s' ⟨c,rfl⟩
 have hG:=fun p=>XK (gS l) h0 (by omega) p
 have hsl:(l.flatten.map AV.str).length=gS l:=by rw [List.length_map,List.length_flatten];rfl
 (repeat (first|(refine ah rfl rfl ?_)|(refine aj rfl rfl ?_)|(refine af nmd [] hng (by kernel_rfl) fun hf C S K hC1 hC hS hK=>?_;simp (disch:=first|omega|assumption) only [go_sem,List.length_map];(repeat ((first|refine hC1 _ (hG _) (by simp (disch:=first|omega|assumption) only [go_sem]) ?_);simp (disch:=first|omega|assumption) only [go_sem]));refine hK ?_;clear hK hS hC hC1 K S C hf)|((first|refine zn ?_|refine ze ?_|refine zk ?_);with_reducible (constructor;repeat constructor);try refine zl ?_)))
 refine a6 [6,25,26,27] (fun k s'=>∃ (i c:Nat) (r:Oid),s' = ⟨[(6,.sl r 1 (gS (l.take i))),(25,.list 1 (l.map fun a=>.list 1 (a.map AV.str))),(26,.int .i64 l.length),(27,.int .i64 i)],Mem.of [(r,.arr 1 ((l.take i).flatten.map AV.str))],c,[]⟩∧k=l.length - i∧i≤l.length∧Old x.p c r) _ ⟨0,_,_,rfl,rfl,Nat.zero_le _,Old.mono (Old.made (Oid.ay (Oid.az _))) (by omega)⟩ ?_
 rintro k s' ⟨i,c,r,rfl,rfl,hi,hr⟩
 by_cases hlt:i < l.length
 ·have hI:(i:Int) < l.length:=by omega
  have hlx:i < (l.map fun a=>AV.list 1 (a.map AV.str)).length:=by rw [List.length_map];exact hlt
  have hg:(l.map fun a=>AV.list 1 (a.map AV.str)).getD i .undef = .list 1 ((l.getD i []).map AV.str):=by
   rw [List.getD_eq_getElem?_getD,List.getElem?_map,List.getElem?_eq_getElem hlt,List.getD_eq_getElem?_getD,List.getElem?_eq_getElem hlt];rfl
  have hs:=oL l hlt
  have hle:=vf l (i+1)
  have hfl:(l.take (i+1)).flatten.map AV.str=(l.take i).flatten.map AV.str++(l.getD i []).map AV.str:=by
   rw [List.take_add_one,List.getElem?_eq_getElem hlt,List.flatten_append,List.map_append,List.getD_eq_getElem?_getD,List.getElem?_eq_getElem hlt]
   simp [Option.toList]
  generalize l.getD i []=a at hg hs hfl
  have hn1:¬ Oid.sub (c+1+1) 2 x.p=r:=fun e=>hr (c+1+1) 2 (by omega) (by rw [← e];exact Oid.az _)
  have hn2:¬ r=Oid.sub (c+1+1) 2 x.p:=fun e=>hn1 e.symm
  have hfn:((l.take i).flatten).length=gS (l.take i):=List.length_flatten
  have hbd:(gS (l.take i)+a.length) * 16≤140737488355328:=by omega
  (repeat (first|(refine ah rfl rfl ?_)|(refine aj rfl rfl ?_)|(refine af nmd [] hng (by kernel_rfl) fun hf C S K hC1 hC hS hK=>?_;simp (disch:=first|omega|assumption) only [go_sem,hI,hlx,hg,hn1,hn2,fq,List.length_map,if_false,hfn,hbd,and_self,decide_true,decide_false,ne_eq,not_true_eq_false,not_false_eq_true];refine hK ?_;clear hK hS hC hC1 K S C hf)|((first|refine zn ?_|refine ze ?_|refine zk ?_);with_reducible (constructor;repeat constructor);try refine zl ?_)))
  exact ⟨_,_,by omega,fun _ _ h=>h,i+1,_,_,by rw [hs,hfl];rfl,rfl,by omega,Old.mono (Old.made (Oid.az _)) (by omega)⟩
 ·obtain rfl:i=l.length:=by omega
  have hI:¬ (l.length:Int) < l.length:=by omega
  rw [List.take_length]
  (repeat (first|(refine ah rfl rfl ?_)|(refine aj rfl rfl ?_)|(refine af nmd [] hng (by kernel_rfl) fun hf C S K hC1 hC hS hK=>?_;simp (disch:=first|omega|assumption) only [go_sem,hI,decide_true,decide_false,ne_eq,not_true_eq_false,not_false_eq_true];refine hK ?_;clear hK hS hC hC1 K S C hf)|((first|refine zn ?_|refine ze ?_|refine zk ?_);with_reducible (constructor;repeat constructor);try refine zl ?_)))
  exact fF rfl (by simp (disch:=first|omega|assumption) only [go_sem]) hsl.symm rfl
end Go.Proofs.YtlfeacmbhldjcaaGreatDoor
namespace Go.Proofs.YtlfeacmbhldjcaaGreatDoor
open Go Go.Ab
set_option maxRecDepth 20000
set_option maxHeartbeats 4000000
theorem tW (a b:Str) (sp:Oid→Prop):aA Tryz.prog 163 [.str a,.str b] sp ⟨[],.int .i64 (Lib.compareBytes a b),[]⟩ :=
 fp (by kernel_rfl) fun g args w ha _=>by
  obtain ⟨v,u,rfl,hv,hu⟩:=ha.two
  obtain ⟨x,rfl,hx⟩:=hv.bf
  obtain ⟨y,rfl,hy⟩:=hu.bf
  refine (Tryz.strings_Compare x y w).mono ?_
  rintro e w' ⟨rfl,rfl⟩
  exact ⟨_,rfl,by rw [hx,hy];exact .int _ _,rfl⟩
theorem XL (l:List Str) (h0:l≠[]) (sep:Str) (hl:l.length≤140737488355328) (hj:(Lib.join l sep).length≤140737488355328) (p:Oid) (hp:p.mono=false) :
  aA Tryz.prog 179 [.list 1 (l.map AV.str),.str sep] (Oid.under p) ⟨[],.str (Lib.join l sep),[]⟩ :=
 gz (by kernel_rfl) hp fun g args w ha hw=>by
  obtain ⟨v,u,rfl,hv,hu⟩:=ha.two
  obtain ⟨sb,rfl,hsb⟩:=hu.bf
  rcases hv.dH with ⟨h,_⟩|⟨b,o,cap,cs,rfl,hcap,hlen,hc,hvv⟩
  ·exact absurd (List.map_eq_nil_iff.1 h) h0
  ·rw [List.length_map] at hcap hlen hc hvv ⊢
   have hcell:∀ (j:Nat) x,(l.map fun s=>(⟨s.toArray⟩:ByteArray))[j]? = some x→w.cell? ⟨b,o+j,none⟩=some (.string x):=fun j x hx=>by
    rw [List.getElem?_map] at hx
    cases hg:l[j]? with
    | none=>rw [hg] at hx;cases hx
    | some s =>
     rw [hg] at hx
     simp only [Option.map_some,Option.some.injEq] at hx
     subst hx
     have hlt:j < l.length:=(List.getElem?_eq_some_iff.1 hg).1
     have h1:=hvv j 0 hlt (by decide)
     have h2:=hw.com _ _ _ (hc j 0 hlt (by decide))
     have h3:(l.map AV.str).getD j .undef = .str s:=by
      rw [List.getD_eq_getElem?_getD,List.getElem?_map,hg];rfl
     rw [h3] at h1
     change VR g (.str s) _ at h1
     obtain ⟨x,e1,e2⟩:=h1.bf
     rw [e1] at h2
     rw [show o+j * 1+0=o+j from by omega] at h2
     rw [h2,← e2]
   have hpos:=List.length_pos_iff.2 h0
   have hbk:b < w.heap.size:=by
    have h:=hcell 0 _ (by rw [List.getElem?_map,List.getElem?_eq_getElem hpos];rfl)
    rcases Nat.lt_or_ge b w.heap.size with h2|h2
    ·exact h2
    ·simp [World.cell?,Array.getElem?_eq_none h2] at h
   have hmm:(l.map fun s=>(⟨s.toArray⟩:ByteArray)).map (·.data.toList)=l:=by
    rw [List.map_map]
    conv=>rhs;rw [← List.map_id l]
    exact List.map_congr_left fun s _=>rfl
   have h:=Tryz.strings_Join b o cap (l.map fun s=>⟨s.toArray⟩) sb w hcell hbk (by rw [List.length_map];exact hl) (by rw [List.length_map];exact hcap) (by rw [hmm,hsb];exact hj)
   rw [hmm,hsb,List.length_map] at h
   refine h.mono ?_
   rintro e w' ⟨rfl,hB⟩
   exact ⟨_,rfl,.str _ _ rfl,hB⟩
theorem sB (sep:Str) (p:Oid):aA Tryz.prog 179 [.list 1 [],.str sep] (Oid.under p) ⟨[],.str [],[]⟩:=by
 refine aN (n:=75) (rs:=[.tmp 4]) Tryz.func179 rfl rfl (by decide) rfl rfl rfl ?_;rintro x rfl hrd hng
 (repeat (first|(refine ah rfl rfl ?_)|(refine aj rfl rfl ?_)|(refine af nmd [] hng (by kernel_rfl) fun hf C S K hC1 hC hS hK=>?_;simp (disch:=first|omega|assumption) only [go_sem];refine hK ?_;clear hK hS hC hC1 K S C hf)|((first|refine zn ?_|refine ze ?_|refine zk ?_);with_reducible (constructor;repeat constructor);try refine zl ?_)))
 exact aC (aT rfl)
structure Vr where
 n:Str
 v:Str
 ex:Bool
 ro:Bool
def Vr.av (x:Vr):AV:=.agg [.str x.n,.str x.v,.bool x.ex,.bool x.ro]
def vr0:Vr:=⟨[],[],false,false⟩
def dR:List Vr→Str→Nat × Bool
 | [],_=>(0,false)
 | v::_,nm=>if Lib.compareBytes v.n nm < 0 then (1,false) else (0,decide (Lib.compareBytes v.n nm=0))
def p9 (vs:List Vr) (nm:Str):Vr:=if (dR vs nm).2=true then vs.getD 0 vr0 else vr0
theorem XM (v:Vr) (nm:Str) (p:Oid):aA Tryz.prog 162 [v.av,.str nm] (Oid.under p) ⟨[],.int .i64 (Lib.compareBytes v.n nm),[]⟩:=by
 obtain ⟨vn,vv,ve,vo⟩:=v
 rw [Vr.av]
 have h:=fun sp=>tW vn nm sp
 refine aN (n:=9) (rs:=[.tmp 4]) Tryz.func162 rfl rfl (by decide) rfl rfl rfl ?_;rintro x rfl hrd hng
 (repeat (first|(refine ah rfl rfl ?_)|(refine aj rfl rfl ?_)|(refine af nmd [] hng (by kernel_rfl) fun hf C S K hC1 hC hS hK=>?_;simp (disch:=first|omega|assumption) only [go_sem];(repeat ((first|refine hC1 _ (h _) (by simp (disch:=first|omega|assumption) only [go_sem]) ?_);simp (disch:=first|omega|assumption) only [go_sem]));refine hK ?_;clear hK hS hC hC1 K S C hf)|((first|refine zn ?_|refine ze ?_|refine zk ?_);with_reducible (constructor;repeat constructor);try refine zl ?_)))
 exact aC (aT rfl)
theorem tX (nm:Str) (p:Oid):aA Tryz.prog 161 [.list 4 [],.str nm,.fn (.func 162) [] []] (Oid.under p) ⟨[],.tuple [.int .i64 0,.bool false],[]⟩:=by
 refine aN (n:=49) (rs:=[.tmp 6,.tmp 7]) Tryz.func161 rfl rfl (by decide) rfl rfl rfl ?_;rintro x rfl hrd hng
 (repeat (first|(refine ah rfl rfl ?_)|(refine aj rfl rfl ?_)|(refine af nmd [] hng (by kernel_rfl) fun hf C S K hC1 hC hS hK=>?_;simp (disch:=first|omega|assumption) only [go_sem];refine hK ?_;clear hK hS hC hC1 K S C hf)|((first|refine zn ?_|refine ze ?_|refine zk ?_);with_reducible (constructor;repeat constructor);try refine zl ?_)))
 refine a6 [0,1,2,8,9,10] (fun k s'=>∃ (c:Nat),s' = ⟨[(0,.list 4 []),(1,.str nm),(2,.fn (.func 162) [] []),(8,.int .i64 0),(9,.int .i64 0),(10,.int .i64 0)],Mem.of [],c,[]⟩∧k=0) _ ⟨_,rfl,rfl⟩ ?_
 rintro k s' ⟨c,rfl,rfl⟩
 have h0:¬ (0:Int) < 0:=by decide
 (repeat (first|(refine ah rfl rfl ?_)|(refine aj rfl rfl ?_)|(refine af nmd [] hng (by kernel_rfl) fun hf C S K hC1 hC hS hK=>?_;simp (disch:=first|omega|assumption) only [go_sem,h0,decide_true,decide_false,ne_eq,not_true_eq_false,not_false_eq_true];refine hK ?_;clear hK hS hC hC1 K S C hf)|((first|refine zn ?_|refine ze ?_|refine zk ?_);with_reducible (constructor;repeat constructor);try refine zl ?_)))
 refine af nmd [(4,39)] hng (by kernel_rfl) fun hf C S K hC1 hC hS hK=>?_;simp (disch:=first|omega|assumption) only [go_sem,h0,decide_true,decide_false,ne_eq,not_true_eq_false,not_false_eq_true]
 refine hK ?_;clear hK hS hC hC1 K S C hf
 (repeat (first|(refine ah rfl rfl ?_)|(refine aj rfl rfl ?_)|(refine af nmd [] hng (by kernel_rfl) fun hf C S K hC1 hC hS hK=>?_;simp (disch:=first|omega|assumption) only [go_sem];refine hK ?_;clear hK hS hC hC1 K S C hf)|((first|refine zn ?_|refine ze ?_|refine zk ?_);with_reducible (constructor;repeat constructor);try refine zl ?_)))
 exact aC (aE (by simp (disch:=first|omega|assumption) only [go_sem]))
theorem tY (v:Vr) (nm:Str) (p:Oid):aA Tryz.prog 161 [.list 4 [v.av],.str nm,.fn (.func 162) [] []] (Oid.under p) ⟨[],.tuple [.int .i64 (dR [v] nm).1,.bool (dR [v] nm).2],[]⟩:=by
 have hC':=fun p=>XM v nm p
 have hg:[v.av].getD 0 .undef=v.av:=rfl
 rw [dR]
 have h01:(0:Int) < 1:=by decide
 have hm1:IntKind.i64.wrap ((IntKind.u64.wrap (((0:Nat):Int)+1)).fdiv ((2:Int) ^ (min 1 64:Nat)))=0:=by kernel_rfl
 have hm2:IntKind.i64.wrap ((IntKind.u64.wrap (0+((1:Nat):Int))).fdiv ((2:Int) ^ (min 1 64:Nat)))=0:=by kernel_rfl
 generalize Lib.compareBytes v.n nm=r at hC'
 obtain ⟨vn,vv,ve,vo⟩:=v
 rw [Vr.av] at hC' hg ⊢
 by_cases hr:r < 0
 ·rw [if_pos hr]
  refine aN (n:=49) (rs:=[.tmp 6,.tmp 7]) Tryz.func161 rfl rfl (by decide) rfl rfl rfl ?_;rintro x rfl hrd hng
  (repeat (first|(refine ah rfl rfl ?_)|(refine aj rfl rfl ?_)|(refine af nmd [] hng (by kernel_rfl) fun hf C S K hC1 hC hS hK=>?_;simp (disch:=first|omega|assumption) only [go_sem];refine hK ?_;clear hK hS hC hC1 K S C hf)|((first|refine zn ?_|refine ze ?_|refine zk ?_);with_reducible (constructor;repeat constructor);try refine zl ?_)))
  refine a6 [0,1,2,8,9,10] (fun k s'=>∃ (i c:Nat),s' = ⟨[(0,.list 4 [.agg [.str vn,.str vv,.bool ve,.bool vo]]),(1,.str nm),(2,.fn (.func 162) [] []),(8,.int .i64 1),(9,.int .i64 i),(10,.int .i64 1)],Mem.of [],c,[]⟩∧k=1 - i∧i≤1) _ ⟨0,_,rfl,rfl,Nat.zero_le _⟩ ?_
  rintro k s' ⟨i,c,rfl,rfl,hi⟩
  have hi2:i=0∨i=1:=by omega
  rcases hi2 with rfl|rfl
  ·(repeat (first|(refine ah rfl rfl ?_)|(refine aj rfl rfl ?_)|(refine af nmd [] hng (by kernel_rfl) fun hf C S K hC1 hC hS hK=>?_;simp (disch:=first|omega|assumption) only [go_sem,h01,hr,hm1,hm2,hg,decide_true,decide_false,ne_eq,not_true_eq_false,not_false_eq_true];(repeat ((first|refine hC1 _ (hC' _) (by simp (disch:=first|omega|assumption) only [go_sem]) ?_);simp (disch:=first|omega|assumption) only [go_sem]));refine hK ?_;clear hK hS hC hC1 K S C hf)|((first|refine zn ?_|refine ze ?_|refine zk ?_);with_reducible (constructor;repeat constructor);try refine zl ?_)))
   refine bD rfl rfl (fun _=>?_) (fun hb=>absurd hr hb)
   (repeat (first|(refine ah rfl rfl ?_)|(refine aj rfl rfl ?_)|(refine af nmd [] hng (by kernel_rfl) fun hf C S K hC1 hC hS hK=>?_;simp (disch:=first|omega|assumption) only [go_sem];refine hK ?_;clear hK hS hC hC1 K S C hf)|((first|refine zn ?_|refine ze ?_|refine zk ?_);with_reducible (constructor;repeat constructor);try refine zl ?_)))
   exact ⟨_,_,by decide,fun _ _ h=>h,1,_,rfl,rfl,Nat.le_refl _⟩
  ·have h11':¬ (((1:Nat):Int) < 1):=by decide
   (repeat (first|(refine ah rfl rfl ?_)|(refine aj rfl rfl ?_)|(refine af nmd [] hng (by kernel_rfl) fun hf C S K hC1 hC hS hK=>?_;simp (disch:=first|omega|assumption) only [go_sem,h11',decide_true,decide_false,ne_eq,not_true_eq_false,not_false_eq_true];refine hK ?_;clear hK hS hC hC1 K S C hf)|((first|refine zn ?_|refine ze ?_|refine zk ?_);with_reducible (constructor;repeat constructor);try refine zl ?_)))
   refine af nmd [(4,39)] hng (by kernel_rfl) fun hf C S K hC1 hC hS hK=>?_;simp (disch:=first|omega|assumption) only [go_sem,h11',decide_true,decide_false,ne_eq,not_true_eq_false,not_false_eq_true]
   refine hK ?_;clear hK hS hC hC1 K S C hf
   (repeat (first|(refine ah rfl rfl ?_)|(refine aj rfl rfl ?_)|(refine af nmd [] hng (by kernel_rfl) fun hf C S K hC1 hC hS hK=>?_;simp (disch:=first|omega|assumption) only [go_sem];refine hK ?_;clear hK hS hC hC1 K S C hf)|((first|refine zn ?_|refine ze ?_|refine zk ?_);with_reducible (constructor;repeat constructor);try refine zl ?_)))
   exact aC (aE (by simp (disch:=first|omega|assumption) only [go_sem]))
 ·rw [if_neg hr]
  refine aN (n:=49) (rs:=[.tmp 6,.tmp 7]) Tryz.func161 rfl rfl (by decide) rfl rfl rfl ?_;rintro x rfl hrd hng
  (repeat (first|(refine ah rfl rfl ?_)|(refine aj rfl rfl ?_)|(refine af nmd [] hng (by kernel_rfl) fun hf C S K hC1 hC hS hK=>?_;simp (disch:=first|omega|assumption) only [go_sem];refine hK ?_;clear hK hS hC hC1 K S C hf)|((first|refine zn ?_|refine ze ?_|refine zk ?_);with_reducible (constructor;repeat constructor);try refine zl ?_)))
  refine a6 [0,1,2,8,9,10] (fun k s'=>∃ (j c:Nat),s' = ⟨[(0,.list 4 [.agg [.str vn,.str vv,.bool ve,.bool vo]]),(1,.str nm),(2,.fn (.func 162) [] []),(8,.int .i64 1),(9,.int .i64 0),(10,.int .i64 j)],Mem.of [],c,[]⟩∧k=j∧j≤1) _ ⟨1,_,rfl,rfl,Nat.le_refl _⟩ ?_
  rintro k s' ⟨j,c,rfl,rfl,hj⟩
  have hj2:k=1∨k=0:=by omega
  rcases hj2 with rfl|rfl
  ·(repeat (first|(refine ah rfl rfl ?_)|(refine aj rfl rfl ?_)|(refine af nmd [] hng (by kernel_rfl) fun hf C S K hC1 hC hS hK=>?_;simp (disch:=first|omega|assumption) only [go_sem,h01,hr,hm1,hm2,hg,decide_true,decide_false,ne_eq,not_true_eq_false,not_false_eq_true];(repeat ((first|refine hC1 _ (hC' _) (by simp (disch:=first|omega|assumption) only [go_sem]) ?_);simp (disch:=first|omega|assumption) only [go_sem]));refine hK ?_;clear hK hS hC hC1 K S C hf)|((first|refine zn ?_|refine ze ?_|refine zk ?_);with_reducible (constructor;repeat constructor);try refine zl ?_)))
   refine bD rfl rfl (fun hb=>absurd hb hr) (fun _=>?_)
   (repeat (first|(refine ah rfl rfl ?_)|(refine aj rfl rfl ?_)|(refine af nmd [] hng (by kernel_rfl) fun hf C S K hC1 hC hS hK=>?_;simp (disch:=first|omega|assumption) only [go_sem];refine hK ?_;clear hK hS hC hC1 K S C hf)|((first|refine zn ?_|refine ze ?_|refine zk ?_);with_reducible (constructor;repeat constructor);try refine zl ?_)))
   exact ⟨_,_,by decide,fun _ _ h=>h,0,_,rfl,rfl,Nat.zero_le _⟩
  ·have h00':¬ ((0:Int) < ((0:Nat):Int)):=by decide
   (repeat (first|(refine ah rfl rfl ?_)|(refine aj rfl rfl ?_)|(refine af nmd [] hng (by kernel_rfl) fun hf C S K hC1 hC hS hK=>?_;simp (disch:=first|omega|assumption) only [go_sem,h00',decide_true,decide_false,ne_eq,not_true_eq_false,not_false_eq_true];refine hK ?_;clear hK hS hC hC1 K S C hf)|((first|refine zn ?_|refine ze ?_|refine zk ?_);with_reducible (constructor;repeat constructor);try refine zl ?_)))
   refine af nmd [(4,39)] hng (by kernel_rfl) fun hf C S K hC1 hC hS hK=>?_;simp (disch:=first|omega|assumption) only [go_sem,h01,hg,decide_true,decide_false,ne_eq,not_true_eq_false,not_false_eq_true]
   refine hC1 _ (hC' _) (fun _ h=>by cases h) ?_
   simp (disch:=first|omega|assumption) only [go_sem]
   refine hK ?_;clear hK hS hC hC1 K S C hf
   (repeat (first|(refine ah rfl rfl ?_)|(refine aj rfl rfl ?_)|(refine af nmd [] hng (by kernel_rfl) fun hf C S K hC1 hC hS hK=>?_;simp (disch:=first|omega|assumption) only [go_sem];refine hK ?_;clear hK hS hC hC1 K S C hf)|((first|refine zn ?_|refine ze ?_|refine zk ?_);with_reducible (constructor;repeat constructor);try refine zl ?_)))
   exact aC (aE (by simp (disch:=first|omega|assumption) only [go_sem];rfl))
theorem Dl (vs:List Vr) (hv:vs.length≤1) (nm:Str) (p:Oid):aA Tryz.prog 123 [.list 4 (vs.map Vr.av),.str nm] (Oid.under p) ⟨[],.tuple [.int .i64 (dR vs nm).1,.bool (dR vs nm).2],[]⟩:=by
 have hS':∀ p:Oid,aA Tryz.prog 161 [.list 4 (vs.map Vr.av),.str nm,.fn (.func 162) [] []] (Oid.under p) ⟨[],.tuple [.int .i64 (dR vs nm).1,.bool (dR vs nm).2],[]⟩:=by
  match vs,hv with
  | [],_=>exact fun p=>tX nm p
  | [v],_=>exact fun p=>tY v nm p
 refine aN (n:=11) (rs:=[.tmp 4,.tmp 5]) Tryz.func123 rfl rfl (by decide) rfl rfl rfl ?_;rintro x rfl hrd hng
 (repeat (first|(refine ah rfl rfl ?_)|(refine aj rfl rfl ?_)|(refine af nmd [] hng (by kernel_rfl) fun hf C S K hC1 hC hS hK=>?_;simp (disch:=first|omega|assumption) only [go_sem];(repeat ((first|refine hC1 _ (hS' _) (by simp (disch:=first|omega|assumption) only [go_sem]) ?_);simp (disch:=first|omega|assumption) only [go_sem]));refine hK ?_;clear hK hS hC hC1 K S C hf)|((first|refine zn ?_|refine ze ?_|refine zk ?_);with_reducible (constructor;repeat constructor);try refine zl ?_)))
 exact aC (aE (by simp (disch:=first|omega|assumption) only [go_sem]))
theorem vg (vs:List Vr) (hv:vs.length≤1) (nm:Str) (p:Oid):aA Tryz.prog 77 [.list 4 (vs.map Vr.av),.str nm] (Oid.under p) ⟨[],.tuple [(p9 vs nm).av,.bool (dR vs nm).2],[]⟩:=by
 have hF:=fun p=>Dl vs hv nm p
 match vs,hv with
 | [],_ =>
  refine aN (n:=20) (rs:=[.cell 4 39,.tmp 5]) Tryz.func77 rfl rfl (by decide) rfl rfl rfl ?_;rintro x rfl hrd hng
  (repeat (first|(refine ah rfl rfl ?_)|(refine aj rfl rfl ?_)|(refine af nmd [] hng (by kernel_rfl) fun hf C S K hC1 hC hS hK=>?_;simp (disch:=first|omega|assumption) only [go_sem];(repeat ((first|refine hC1 _ (hF _) (by simp (disch:=first|omega|assumption) only [go_sem]) ?_);simp (disch:=first|omega|assumption) only [go_sem]));refine hK ?_;clear hK hS hC hC1 K S C hf)|((first|refine zn ?_|refine ze ?_|refine zk ?_);with_reducible (constructor;repeat constructor);try refine zl ?_)))
  exact aC (aE (by first|(simp (disch:=first|omega|assumption) only [go_sem];done)|(simp (disch:=first|omega|assumption) only [go_sem];rfl)))
 | [v],_ =>
  have hk:(dR [v] nm).2=true→(dR [v] nm).1=0:=fun h=>by
   by_cases h1:Lib.compareBytes v.n nm < 0
   ·rw [dR,if_pos h1] at h;cases h
   ·rw [dR,if_neg h1]
  unfold p9
  generalize dR [v] nm=r at hF hk ⊢
  obtain ⟨k,b⟩:=r
  simp only at hF hk ⊢
  have hg:([v].map Vr.av).getD 0 .undef=v.av:=rfl
  obtain ⟨vn,vv,ve,vo⟩:=v
  simp only [List.map_cons,List.map_nil,Vr.av] at hF hg ⊢
  cases b
  ·rw [if_neg Bool.false_ne_true]
   refine aN (n:=20) (rs:=[.cell 4 39,.tmp 5]) Tryz.func77 rfl rfl (by decide) rfl rfl rfl ?_;rintro x rfl hrd hng
   (repeat (first|(refine ah rfl rfl ?_)|(refine aj rfl rfl ?_)|(refine af nmd [] hng (by kernel_rfl) fun hf C S K hC1 hC hS hK=>?_;simp (disch:=first|omega|assumption) only [go_sem];(repeat ((first|refine hC1 _ (hF _) (by simp (disch:=first|omega|assumption) only [go_sem]) ?_);simp (disch:=first|omega|assumption) only [go_sem]));refine hK ?_;clear hK hS hC hC1 K S C hf)|((first|refine zn ?_|refine ze ?_|refine zk ?_);with_reducible (constructor;repeat constructor);try refine zl ?_)))
   exact aC (aE (by first|(simp (disch:=first|omega|assumption) only [go_sem];done)|(simp (disch:=first|omega|assumption) only [go_sem];rfl)))
  ·rw [if_pos rfl]
   obtain rfl:=hk rfl
   have hlt:(0:Nat) < 1:=by decide
   refine aN (n:=20) (rs:=[.cell 4 39,.tmp 5]) Tryz.func77 rfl rfl (by decide) rfl rfl rfl ?_;rintro x rfl hrd hng
   (repeat (first|(refine ah rfl rfl ?_)|(refine aj rfl rfl ?_)|(refine af nmd [] hng (by kernel_rfl) fun hf C S K hC1 hC hS hK=>?_;simp (disch:=first|omega|assumption) only [go_sem,hlt,hg];(repeat ((first|refine hC1 _ (hF _) (by simp (disch:=first|omega|assumption) only [go_sem]) ?_);simp (disch:=first|omega|assumption) only [go_sem]));refine hK ?_;clear hK hS hC hC1 K S C hf)|((first|refine zn ?_|refine ze ?_|refine zk ?_);with_reducible (constructor;repeat constructor);try refine zl ?_)))
   exact aC (aE (by first|(simp (disch:=first|omega|assumption) only [go_sem];done)|(simp (disch:=first|omega|assumption) only [go_sem];rfl)))
def Dm (vs:List Vr):Str:=if (dR vs [73,70,83]).2=true then (p9 vs [73,70,83]).v else [32,9,10]
theorem XN (vs:List Vr) (hv:vs.length≤1) (q:Oid) (B F D O:AV) (p:Oid) (hq:¬ Oid.under p q) :
  aA Tryz.prog 33 [.ptr q 0] (Oid.under p) ⟨[(q,.cells [.list 4 (vs.map Vr.av),B,F,D,O])],.str (Dm vs),[]⟩:=by
 have hG:=fun p=>vg vs hv [73,70,83] p
 unfold Dm
 generalize (dR vs [73,70,83]).2=b at hG ⊢
 generalize p9 vs [73,70,83]=v at hG ⊢
 obtain ⟨vn,vv,ve,vo⟩:=v
 rw [Vr.av] at hG
 cases b
 ·rw [if_neg Bool.false_ne_true]
  refine aN (n:=17) (rs:=[.tmp 2]) Tryz.func33 rfl rfl (by decide) rfl rfl rfl ?_;rintro x rfl hrd hng
  (repeat (first|(refine ah rfl rfl ?_)|(refine aj rfl rfl ?_)|(refine af nmd [] hng (by kernel_rfl) fun hf C S K hC1 hC hS hK=>?_;simp (disch:=first|omega|assumption) only [go_sem,Oid.aa hq,Oid.ab hq];(repeat ((first|refine hC1 _ (hG _) (by simp (disch:=first|omega|assumption) only [go_sem]) ?_);simp (disch:=first|omega|assumption) only [go_sem]));refine hK ?_;clear hK hS hC hC1 K S C hf)|((first|refine zn ?_|refine ze ?_|refine zk ?_);with_reducible (constructor;repeat constructor);try refine zl ?_)))
  exact aC (aP (by simp (disch:=first|omega|assumption) only [go_sem]) (fun _ h=>by cases h) (fun q' h' _=>by rw [List.mem_singleton.1 h',Mem.ae,if_pos rfl]))
 ·rw [if_pos rfl]
  refine aN (n:=17) (rs:=[.tmp 2]) Tryz.func33 rfl rfl (by decide) rfl rfl rfl ?_;rintro x rfl hrd hng
  (repeat (first|(refine ah rfl rfl ?_)|(refine aj rfl rfl ?_)|(refine af nmd [] hng (by kernel_rfl) fun hf C S K hC1 hC hS hK=>?_;simp (disch:=first|omega|assumption) only [go_sem,Oid.aa hq,Oid.ab hq];(repeat ((first|refine hC1 _ (hG _) (by simp (disch:=first|omega|assumption) only [go_sem]) ?_);simp (disch:=first|omega|assumption) only [go_sem]));refine hK ?_;clear hK hS hC hC1 K S C hf)|((first|refine zn ?_|refine ze ?_|refine zk ?_);with_reducible (constructor;repeat constructor);try refine zl ?_)))
  exact aC (aP (by simp (disch:=first|omega|assumption) only [go_sem]) (fun _ h=>by cases h) (fun q' h' _=>by rw [List.mem_singleton.1 h',Mem.ae,if_pos rfl]))
end Go.Proofs.YtlfeacmbhldjcaaGreatDoor
namespace Go.Ab
theorem zH {P:Program} [Laid P] {o:Oper} {ρ:Operand→AV} {sp:Oid→Prop} {y:Operand} {it:Oid} {s:List UInt8} {pos:Nat} (ho:o.op = .next y true) (hy:ρ y = .iter it) (hp:pos < s.length) (ha:(s.getD pos 0).toNat < 128) :
  aG P o ρ sp ⟨[(it,.siter s pos)],.tuple [.bool true,.int .i64 pos,.int .i32 (s.getD pos 0).toNat],[(it,some (.siter s (pos+1)))]⟩:=by
 obtain ⟨c,n,h,h2⟩:=zg (P:=P) (o:=o) (ρ:=ρ) (sp:=sp) ho hy hp
 obtain ⟨rfl,rfl⟩:=h ha
 exact h2
end Go.Ab
namespace Go.Proofs.YtlfeacmbhldjcaaGreatDoor
open Go Go.Ab
set_option maxRecDepth 20000
set_option maxHeartbeats 4000000
theorem tZ (c:UInt8) (sp:Oid):aA Tryz.prog 213 [.int .i32 c.toNat] (Oid.under sp) ⟨[],.bool (nmC c),[]⟩:=by
 rw [pW]
 refine aN (n:=21) (rs:=[.tmp 2]) Tryz.func213 rfl rfl (by decide) rfl rfl rfl ?_;rintro x rfl hrd hng
 (repeat (first|(refine ah rfl rfl ?_)|(refine aj rfl rfl ?_)|(refine af nmd [] hng (by kernel_rfl) fun hf C S K hC1 hC hS hK=>?_;simp (disch:=first|omega|assumption) only [go_sem];refine hK ?_;clear hK hS hC hC1 K S C hf)|((first|refine zn ?_|refine ze ?_|refine zk ?_);with_reducible (constructor;repeat constructor);try refine zl ?_)))
 refine af nmd [(2,5),(6,9),(9,12),(14,17)] hng (by kernel_rfl) fun hf C S K hC1 hC hS hK=>?_;simp (disch:=first|omega|assumption) only [go_sem,decide_true,decide_false,ne_eq,not_true_eq_false,not_false_eq_true]
 (repeat' (first|(refine bm (fun hv=>?_) (fun hv=>?_)<;>(try simp only [zb1,zb2,zb3,zb4,zb5] at hv)<;>simp (disch:=first|omega|assumption) only [go_sem,hv,decide_true,decide_false,ne_eq,not_true_eq_false,not_false_eq_true])|(refine hK ?_;clear hK hS hC hC1 K S C hf)))
 all_goals ((repeat (first|(refine ah rfl rfl ?_)|(refine aj rfl rfl ?_)|(refine af nmd [] hng (by kernel_rfl) fun hf C S K hC1 hC hS hK=>?_;simp (disch:=first|omega|assumption) only [go_sem];refine hK ?_;clear hK hS hC hC1 K S C hf)|((first|refine zn ?_|refine ze ?_|refine zk ?_);with_reducible (constructor;repeat constructor);try refine zl ?_)));refine aC (aT ?_);refine (congrArg AV.bool ?_:AV.bool _=_);first|exact (decide_eq_true (by omega)).symm|exact (decide_eq_false (by omega)).symm|exact decide_eq_decide.2 (by omega))
theorem zI (c:UInt8) (hc:nmC c=true) (p:Oid):aA Tryz.prog 184 [.str [c]] (Oid.under p) ⟨[],.str [c],[]⟩:=by
 have hL:=fun p=>tZ c p
 rw [hc] at hL
 have ha:c.toNat < 128:=by rw [pW] at hc;have:=of_decide_eq_true hc;omega
 refine aN (n:=27) (rs:=[.tmp 2]) Tryz.func184 rfl rfl (by decide) rfl rfl rfl ?_;rintro x rfl hrd hng
 (repeat (first|(refine ah rfl rfl ?_)|(refine aj rfl rfl ?_)|(refine af nmd [] hng (by kernel_rfl) fun hf C S K hC1 hC hS hK=>?_;simp (disch:=first|omega|assumption) only [go_sem];refine hK ?_;clear hK hS hC hC1 K S C hf)|((first|refine zn ?_|refine ze ?_|refine zk ?_);with_reducible (constructor;repeat constructor);try refine zl ?_)))
 refine a6 [0,6] (fun k s'=>∃ (i d:Nat),s' = ⟨[(0,.str [c]),(6,.iter (.sub 1 1 x.p))],Mem.of [(.sub 1 1 x.p,.siter [c] i)],d,[]⟩∧k=1 - i∧i≤1) _ ⟨0,_,rfl,rfl,Nat.zero_le _⟩ ?_
 rintro k s' ⟨i,d,rfl,rfl,hi⟩
 have hi2:i=0∨i=1:=by omega
 rcases hi2 with rfl|rfl
 ·(repeat (first|(refine ah rfl rfl ?_)|(refine aj rfl rfl ?_)|(refine af nmd [] hng (by kernel_rfl) fun hf C S K hC1 hC hS hK=>?_;simp (disch:=first|omega|assumption) only [go_sem];refine hK ?_;clear hK hS hC hC1 K S C hf)|((first|refine zn ?_|refine ze ?_|refine zk ?_);with_reducible (constructor;repeat constructor);try refine zl ?_)))
  refine af nmd [] hng (by kernel_rfl) fun hf C S K hC1 hC hS hK=>?_;simp (disch:=first|omega|assumption) only [go_sem]
  refine hS _ _ _ (fun o' hd ho'=>(zH (s:=[c]) (pos:=0) ho' rfl (Nat.lt_succ_self 0) ha).nd) (by simp (disch:=first|omega|assumption) only [go_sem]) ?_ (fun _ _ h=>h.elim)
  rintro _ _ ⟨rfl,rfl⟩
  simp (disch:=first|omega|assumption) only [go_sem]
  refine hK ?_;clear hK hS hC hC1 K S C hf
  (repeat (first|(refine ah rfl rfl ?_)|(refine aj rfl rfl ?_)|(refine af nmd [] hng (by kernel_rfl) fun hf C S K hC1 hC hS hK=>?_;simp (disch:=first|omega|assumption) only [go_sem];refine hK ?_;clear hK hS hC hC1 K S C hf)|((first|refine zn ?_|refine ze ?_|refine zk ?_);with_reducible (constructor;repeat constructor);try refine zl ?_)))
  refine af nmd [(3,14),(6,17)] hng (by kernel_rfl) fun hf C S K hC1 hC hS hK=>?_;simp (disch:=first|omega|assumption) only [go_sem,decide_true,decide_false,ne_eq,not_true_eq_false,not_false_eq_true,Bool.not_true]
  refine hC1 _ (hL _) (fun _ h=>by cases h) ?_
  simp (disch:=first|omega|assumption) only [go_sem,decide_true,decide_false,ne_eq,not_true_eq_false,not_false_eq_true,Bool.not_true]
  refine hK ?_;clear hK hS hC hC1 K S C hf
  (repeat (first|(refine ah rfl rfl ?_)|(refine aj rfl rfl ?_)|(refine af nmd [] hng (by kernel_rfl) fun hf C S K hC1 hC hS hK=>?_;simp (disch:=first|omega|assumption) only [go_sem];refine hK ?_;clear hK hS hC hC1 K S C hf)|((first|refine zn ?_|refine ze ?_|refine zk ?_);with_reducible (constructor;repeat constructor);try refine zl ?_)))
  exact ⟨_,_,by decide,fun _ _ h=>h,1,_,rfl,rfl,Nat.le_refl _⟩
 ·(repeat (first|(refine ah rfl rfl ?_)|(refine aj rfl rfl ?_)|(refine af nmd [] hng (by kernel_rfl) fun hf C S K hC1 hC hS hK=>?_;simp (disch:=first|omega|assumption) only [go_sem];refine hK ?_;clear hK hS hC hC1 K S C hf)|((first|refine zn ?_|refine ze ?_|refine zk ?_);with_reducible (constructor;repeat constructor);try refine zl ?_)))
  refine af nmd [] hng (by kernel_rfl) fun hf C S K hC1 hC hS hK=>?_;simp (disch:=first|omega|assumption) only [go_sem]
  refine hS _ _ _ (fun o' hd ho'=>(zh (s:=[c]) (pos:=1) ho' rfl (Nat.lt_irrefl 1)).nd) (by simp (disch:=first|omega|assumption) only [go_sem]) ?_ (fun _ _ h=>h.elim)
  rintro _ _ ⟨rfl,rfl⟩
  simp (disch:=first|omega|assumption) only [go_sem]
  refine hK ?_;clear hK hS hC hC1 K S C hf
  (repeat (first|(refine ah rfl rfl ?_)|(refine aj rfl rfl ?_)|(refine af nmd [] hng (by kernel_rfl) fun hf C S K hC1 hC hS hK=>?_;simp (disch:=first|omega|assumption) only [go_sem];refine hK ?_;clear hK hS hC hC1 K S C hf)|((first|refine zn ?_|refine ze ?_|refine zk ?_);with_reducible (constructor;repeat constructor);try refine zl ?_)))
  exact aC (aT rfl)
theorem Dn (p:Oid):aA Tryz.prog 154 [.str [],.str [58]] (Oid.under p) ⟨[],.tuple [.str [],.bool false],[]⟩:=by
 have hH:=fun p=>jQ [] [58] (by decide) (by decide) p
 rw [show gB [] [58]=false from rfl] at hH
 have h2:∀ p:Oid,aA Tryz.prog 187 [.str [],.str [58]] (Oid.under p) ⟨[],.tuple [.str [],.bool false],[]⟩:=fun p=>by
  refine aN (n:=15) (rs:=[.tmp 4,.tmp 5]) Tryz.func187 rfl rfl (by decide) rfl rfl rfl ?_;rintro x rfl hrd hng
  (repeat (first|(refine ah rfl rfl ?_)|(refine aj rfl rfl ?_)|(refine af nmd [] hng (by kernel_rfl) fun hf C S K hC1 hC hS hK=>?_;simp (disch:=first|omega|assumption) only [go_sem];(repeat ((first|refine hC1 _ (hH _) (by simp (disch:=first|omega|assumption) only [go_sem]) ?_);simp (disch:=first|omega|assumption) only [go_sem]));refine hK ?_;clear hK hS hC hC1 K S C hf)|((first|refine zn ?_|refine ze ?_|refine zk ?_);with_reducible (constructor;repeat constructor);try refine zl ?_)))
  exact aC (aE (by simp (disch:=first|omega|assumption) only [go_sem]))
 refine aN (n:=11) (rs:=[.tmp 4,.tmp 5]) Tryz.func154 rfl rfl (by decide) rfl rfl rfl ?_;rintro x rfl hrd hng
 (repeat (first|(refine ah rfl rfl ?_)|(refine aj rfl rfl ?_)|(refine af nmd [] hng (by kernel_rfl) fun hf C S K hC1 hC hS hK=>?_;simp (disch:=first|omega|assumption) only [go_sem];(repeat ((first|refine hC1 _ (h2 _) (by simp (disch:=first|omega|assumption) only [go_sem]) ?_);simp (disch:=first|omega|assumption) only [go_sem]));refine hK ?_;clear hK hS hC hC1 K S C hf)|((first|refine zn ?_|refine ze ?_|refine zk ?_);with_reducible (constructor;repeat constructor);try refine zl ?_)))
 exact aC (aE (by simp (disch:=first|omega|assumption) only [go_sem]))
end Go.Proofs.YtlfeacmbhldjcaaGreatDoor
namespace Go.Proofs.YtlfeacmbhldjcaaGreatDoor
open Go Go.Ab
set_option maxRecDepth 20000
set_option maxHeartbeats 4000000
def ER (q:Oid) (J:Oid→Prop) (A B F D:AV) (acc:List (Nat × Str)) (M:List (Oid × ar)):Prop :=
 (acc=[]∧M=[(q,.cells [A,B,F,D,.nilSl])])∨∃ ro,J ro∧ro.tyd=none∧¬ ro=q∧M=[(q,.cells [A,B,F,D,.sl ro 2 acc.length]),(ro,.arr 2 (acc.map bI))]
theorem ER.mono {q:Oid} {J J':Oid→Prop} {A B F D:AV} {acc:List (Nat × Str)} {M:List (Oid × ar)} (h:ER q J A B F D acc M) (hJ:∀ i,J i→J' i):ER q J' A B F D acc M:=h.imp id fun ⟨r,k,k'⟩=>⟨r,hJ _ k,k'⟩
def dr (q:Oid) (J:Oid→Prop) (p:Oid) (A B F D:AV) (acc:List (Nat × Str)) (M:List (Oid × ar)) (u:List (Oid × Option ar)):Prop :=
 (∃ M',ER q (fun i=>J i∨Oid.under p i) A B F D acc M'∧∀ m:Mem,(∀ e,e ∈ M→m e.1=some e.2)→∀ e,e ∈ M'→(m.aF u) e.1=some e.2)∧∀ e,e ∈ u→e.1=q∨J e.1∨Oid.under p e.1
theorem dr.same {q:Oid} {J:Oid→Prop} {p:Oid} {A B F D:AV} {acc:List (Nat × Str)} {M:List (Oid × ar)} {u:List (Oid × Option ar)} (h:dr q J p A B F D acc M u) {m:Mem} {i:Oid} (h1:¬ i=q) (h2:¬ J i) (h3:¬ Oid.under p i):(m.aF u) i=m i :=
 aU fun e he k=>by
  rcases h.2 e he with h|h|h
  ·exact h1 (k ▸ h)
  ·exact h2 (k ▸ h)
  ·exact h3 (k ▸ h)
theorem ER.names {q:Oid} {J:Oid→Prop} {A B F D:AV} {acc:List (Nat × Str)} {M:List (Oid × ar)} (h:ER q J A B F D acc M):∀ e,e ∈ M→e.1=q∨J e.1:=by
 rcases h with ⟨_,rfl⟩|⟨r,hr,_,_,rfl⟩
 ·intro e he;rw [List.mem_singleton.1 he];exact .inl rfl
 ·intro e he
  simp only [List.mem_cons,List.not_mem_nil,or_false] at he
  rcases he with rfl|rfl
  ·exact .inl rfl
  ·exact .inr hr
theorem ER.func {q:Oid} {J:Oid→Prop} {A B F D:AV} {acc:List (Nat × Str)} {M:List (Oid × ar)} (h:ER q J A B F D acc M):sv M:=by
 rcases h with ⟨_,rfl⟩|⟨r,_,_,hq,rfl⟩
 ·intro e he e' he' _
  rw [List.mem_singleton.1 he,List.mem_singleton.1 he']
 ·intro e he e' he' k
  simp only [List.mem_cons,List.not_mem_nil,or_false] at he he'
  rcases he with rfl|rfl<;>rcases he' with rfl|rfl
  ·rfl
  ·exact absurd k.symm hq
  ·exact absurd k hq
  ·rfl
theorem ER.cons {q:Oid} {J:Oid→Prop} {A B F D:AV} {acc:List (Nat × Str)} {M:List (Oid × ar)} (h:ER q J A B F D acc M):∃ O rest,M=(q,.cells [A,B,F,D,O])::rest:=by
 rcases h with ⟨_,rfl⟩|⟨r,_,_,_,rfl⟩<;>exact ⟨_,_,rfl⟩
theorem XO (q:Oid) (J:Oid→Prop) (A B F D:AV) (acc:List (Nat × Str)) (M:List (Oid × ar)) (hn:acc.length≤1000000) (K G N O W:AV) (qd:Bool) (s:Str) (p:Oid) (hq:¬ Oid.under p q) (hJ:∀ i,J i→¬ Oid.under p i) (hM:ER q J A B F D acc M) :
  aX Tryz.prog 119 [.ptr q 0,.agg [K,.bool qd,G,N,O,W],.str s] (Oid.under p) M (fun v u=>v = .tuple []∧dr q J p A B F D (acc++[(if qd=true then 1 else 2,s)]) M u) (fun _ _=>False):=by
 have key:∀ (j:Nat) (k:Nat),¬ Oid.sub j k p=q:=fun j k e=>hq (by rw [← e];exact Oid.ay (Oid.az _))
 rcases hM with ⟨rfl,rfl⟩|⟨r,hr,hrt,hrq,rfl⟩
 ·have go:∀ (j k:Nat) (a:Nat) (u:List (Oid × Option ar)),u=[(q,some (.cells [A,B,F,D,.sl (.sub j k p) 2 1])),(.sub j k p,some (.arr 2 [bI (a,s)]))]→dr q J p A B F D ([]++[(a,s)]) [(q,.cells [A,B,F,D,.nilSl])] u:=fun j k a u hu=>by
   subst hu
   refine ⟨⟨_,.inr ⟨.sub j k p,.inr (Oid.ay (Oid.az _)),rfl,key j k,rfl⟩,fun m _ e he=>?_⟩,fun e he=>?_⟩
   ·simp only [List.mem_cons,List.not_mem_nil,or_false] at he
    rcases he with rfl|rfl
    ·simp only [Mem.aF,Mem.set,Ne.symm (key j k),if_true,if_false];rfl
    ·simp only [Mem.aF,Mem.set,if_true];rfl
   ·simp only [List.mem_cons,List.not_mem_nil,or_false] at he
    rcases he with rfl|rfl
    ·exact .inl rfl
    ·exact .inr (.inr (Oid.ay (Oid.az _)))
  cases qd
  ·refine (zE q A B F D K G N O W s p hq).nd.weaken ?_ (fun _ _ h=>h)
   rintro v u ⟨rfl,rfl⟩
   exact ⟨rfl,go _ _ _ _ rfl⟩
  ·refine (Dk q A B F D K G N O W s p hq).nd.weaken ?_ (fun _ _ h=>h)
   rintro v u ⟨rfl,rfl⟩
   exact ⟨rfl,go _ _ _ _ rfl⟩
 ·have go:∀ (j k:Nat) (a:Nat) (u:List (Oid × Option ar)),u=[(q,some (.cells [A,B,F,D,.sl (.sub j k p) 2 (acc.length+1)])),(r,none),(.sub j k p,some (.arr 2 ((acc++[(a,s)]).map bI)))]→dr q J p A B F D (acc++[(a,s)]) [(q,.cells [A,B,F,D,.sl r 2 acc.length]),(r,.arr 2 (acc.map bI))] u:=fun j k a u hu=>by
   subst hu
   refine ⟨⟨_,.inr ⟨.sub j k p,.inr (Oid.ay (Oid.az _)),rfl,key j k,rfl⟩,fun m _ e he=>?_⟩,fun e he=>?_⟩
   ·simp only [List.mem_cons,List.not_mem_nil,or_false] at he
    rcases he with rfl|rfl
    ·simp only [Mem.aF,Mem.set,Ne.symm (key j k),Ne.symm hrq,if_true,if_false,List.length_append,List.length_singleton]
    ·simp only [Mem.aF,Mem.set,if_true]
   ·simp only [List.mem_cons,List.not_mem_nil,or_false] at he
    rcases he with rfl|rfl|rfl
    ·exact .inl rfl
    ·exact .inr (.inl hr)
    ·exact .inr (.inr (Oid.ay (Oid.az _)))
  cases qd
  ·refine (tV q r acc hn A B F D K G N O W s p hq (hJ _ hr) hrq).nd.weaken ?_ (fun _ _ h=>h)
   rintro v u ⟨rfl,rfl⟩
   exact ⟨rfl,go _ _ _ _ rfl⟩
  ·refine (zF q r acc hn A B F D K G N O W s p hq (hJ _ hr) hrq).nd.weaken ?_ (fun _ _ h=>h)
   rintro v u ⟨rfl,rfl⟩
   exact ⟨rfl,go _ _ _ _ rfl⟩
theorem ER.leaves {q:Oid} {J:Oid→Prop} {p:Oid} {A0 B0 F0 D0 A B F D:AV} {acc0 acc:List (Nat × Str)} {M M':List (Oid × ar)} (hM:ER q J A0 B0 F0 D0 acc0 M) (h:ER q (fun i=>J i∨Oid.under p i) A B F D acc M'):dr q J p A B F D acc M (nI M M') :=
 ⟨⟨M',h,fun m _ e he=>p7 h.func m e he⟩,fun e he=>by
  rw [nI] at he
  rcases List.mem_append.1 he with he|he
  ·obtain ⟨a,ha,rfl⟩:=List.mem_map.1 he
   exact (hM.names a ha).imp id .inl
  ·obtain ⟨a,ha,rfl⟩:=List.mem_map.1 he
   exact h.names a ha⟩
theorem ER.qa {q:Oid} {J:Oid→Prop} {A B F D:AV} {acc:List (Nat × Str)} {M:List (Oid × ar)} (h:ER q J A B F D acc M) {i:Oid} (hq:¬ i=q) (hJ:¬ J i):∀ e,e ∈ M→¬ e.1=i:=fun e he k=>(h.names e he).elim (fun h=>hq (k ▸ h)) (fun h=>hJ (k ▸ h))
end Go.Proofs.YtlfeacmbhldjcaaGreatDoor
namespace Go.Proofs.YtlfeacmbhldjcaaGreatDoor
open Go Go.Ab
set_option maxRecDepth 20000
set_option maxHeartbeats 4000000
theorem Dp (q:Oid) (J:Oid→Prop) (A B F D:AV) (acc:List (Nat × Str)) (M:List (Oid × ar)) (hn:acc.length≤1000000) (Kd G O W:AV) (qd:Bool) (nm v:Str) (b:Bool) (h1:¬ nm=[42]) (h2:¬ nm=[64]) (p:Oid) (hq:¬ Oid.under p q) (hJ:∀ i,J i→¬ Oid.under p i) (hM:ER q J A B F D acc M) :
  aX Tryz.prog 147 [.ptr q 0,AV.agg [Kd,.bool qd,G,.str nm,O,W],.str v,.bool b] (Oid.under p) M (fun v' u=>v' = .tuple []∧(dr q J p A B F D (acc++[(if qd=true then 1 else 2,v)]) M u)) (fun _ _=>False):=by
 have hev:=fun p=>j4 nm p
 rw [decide_eq_false h1,decide_eq_false h2] at hev
 refine ma (n:=71) (rs:=[]) Tryz.func147 rfl rfl (by decide) rfl rfl rfl ?_;rintro x rfl hrd hng
 (try ((first|refine zn ?_|refine ze ?_|refine zk ?_);with_reducible (constructor;repeat constructor));try refine zl ?_)
 refine af nmd [] hng (by kernel_rfl) fun hf C S K hC1 hC hS hK=>?_;simp (disch:=first|omega|assumption) only [go_sem]
 refine hK ?_;clear hK hS hC hC1 K S C hf
 (try ((first|refine zn ?_|refine ze ?_|refine zk ?_);with_reducible (constructor;repeat constructor));try refine zl ?_)
 have hnm:=hM.qa (i:=.sub 0 0 x.p) (fun e=>hq (by rw [← e];exact Oid.ay (Oid.az _))) (fun h=>hJ _ h (Oid.ay (Oid.az _)))
 have hfn:=b7 hM.func
 refine bq ((.sub 0 0 x.p,.cells [Kd,.bool qd,G,.str nm,O,W])::M) ?_ ?_
 ·intro e he
  rcases List.mem_cons.1 he with rfl|he
  ·rw [aJ,if_pos rfl]
  ·rw [aJ,if_neg (hnm e he)];exact hfn e he
 refine af nmd [(3,19)] hng (by kernel_rfl) fun hf C S K hC1 hC hS hK=>?_;simp (disch:=first|omega|assumption) only [go_sem,h1,decide_true,decide_false,ne_eq,not_true_eq_false,not_false_eq_true]
 refine hK ?_;clear hK hS hC hC1 K S C hf
 (repeat (first|(refine ah rfl rfl ?_)|(refine aj rfl rfl ?_)|(refine af nmd [] hng (by kernel_rfl) fun hf C S K hC1 hC hS hK=>?_;simp (disch:=first|omega|assumption) only [go_sem];(repeat ((first|refine hC1 _ (hev _) (by simp (disch:=first|omega|assumption) only [go_sem]) ?_);simp (disch:=first|omega|assumption) only [go_sem]));refine hK ?_;clear hK hS hC hC1 K S C hf)|((first|refine zn ?_|refine ze ?_|refine zk ?_);with_reducible (constructor;repeat constructor);try refine zl ?_)))
 have hmem:∀ e,e ∈ M→Mem.of ((Oid.sub 0 0 x.p,ar.cells [Kd,.bool qd,G,.str nm,O,W])::M) e.1=some e.2:=fun e he=>by
  rw [Mem.ae,if_neg (hnm e he)];exact hfn e he
 have hP:=fun (p:Oid) hq' hJ'=>XO q J A B F D acc M hn Kd G (.str nm) O W qd v p hq' hJ' hM
 refine af nmd [] hng (by kernel_rfl) fun hf C S K hC1 hC hS hK=>?_;simp (disch:=first|omega|assumption) only [go_sem]
 refine hC _ _ _ (hP _ (bM _ _ hq) (fun i h h'=>hJ i h (Oid.ay h'))) hmem ?_ (fun _ _ h=>h.elim)
 rintro _ u ⟨rfl,⟨M2,hR2,hM2⟩,_⟩
 have hM2:=hM2 _ hmem
 generalize Mem.aF _ u=m2 at hM2 ⊢
 simp (disch:=first|omega|assumption) only [go_sem]
 refine hK ?_;clear hK hS hC hC1 K S C hf
 refine e7 ?_
 exact br (bA (.tuple []) rfl ⟨rfl,hM.leaves (hR2.mono fun i h=>h.imp id (fun h=>Oid.ay h))⟩ hM2)
theorem mX:∀ (l:List Str) (a:Str),l≠[]→cN (l++[a])=cN l++[(3,[]),(1,a)]
 | [b],a,_=>rfl
 | b::c::l,a,_=>by
  have ih:=mX (c::l) a (by simp)
  show (1,b)::(3,[])::cN (c::(l++[a]))=_
  rw [List.cons_append] at ih
  rw [ih];rfl
theorem kI:∀ l:List Str,(cN l).length≤2 * l.length
 | []=>Nat.le_refl _
 | [a]=>by simp [cN]
 | a::b::l=>by
  have:=kI (b::l)
  simp only [cN,List.length_cons] at this ⊢;omega
theorem Dq (q:Oid) (J:Oid→Prop) (A F D:AV) (args:List Str) (hal:args.length≤1000) (acc:List (Nat × Str)) (M:List (Oid × ar)) (hn:acc.length≤100000) (Kd G O W:AV) (v:Str) (b:Bool) (p:Oid) (hq:¬ Oid.under p q) (hJ:∀ i,J i→¬ Oid.under p i) (hM:ER q J A (.list 1 (args.map AV.str)) F D acc M) :
  aX Tryz.prog 147 [.ptr q 0,AV.agg [Kd,.bool true,G,.str [64],O,W],.str v,.bool b] (Oid.under p) M (fun v' u=>v' = .tuple []∧(dr q J p A (.list 1 (args.map AV.str)) F D (acc++cN args) M u)) (fun _ _=>False):=by
 have hev:=fun p=>j4 [64] p
 rw [decide_eq_true rfl,Bool.true_or] at hev
 have hx0:¬ ([64]:Str)=[42]:=by decide
 refine ma (n:=71) (rs:=[]) Tryz.func147 rfl rfl (by decide) rfl rfl rfl ?_;rintro x rfl hrd hng
 (try ((first|refine zn ?_|refine ze ?_|refine zk ?_);with_reducible (constructor;repeat constructor));try refine zl ?_)
 refine af nmd [] hng (by kernel_rfl) fun hf C S K hC1 hC hS hK=>?_;simp (disch:=first|omega|assumption) only [go_sem]
 refine hK ?_;clear hK hS hC hC1 K S C hf
 (try ((first|refine zn ?_|refine ze ?_|refine zk ?_);with_reducible (constructor;repeat constructor));try refine zl ?_)
 have hnq:¬ Oid.sub 0 0 x.p=q:=fun e=>hq (by rw [← e];exact Oid.ay (Oid.az _))
 have hnJ:¬ J (Oid.sub 0 0 x.p):=fun h=>hJ _ h (Oid.ay (Oid.az _))
 have hnm:=hM.qa hnq hnJ
 have hfn:=b7 hM.func
 refine bq ((Oid.sub 0 0 x.p,ar.cells [Kd,.bool true,G,.str [64],O,W])::M) ?_ ?_
 ·intro e he
  rcases List.mem_cons.1 he with rfl|he
  ·rw [aJ,if_pos rfl]
  ·rw [aJ,if_neg (hnm e he)];exact hfn e he
 obtain ⟨O1,rest1,rfl⟩:=hM.cons
 refine af nmd [(3,19)] hng (by kernel_rfl) fun hf C S K hC1 hC hS hK=>?_;simp (disch:=first|omega|assumption) only [go_sem,hx0,decide_true,decide_false,ne_eq,not_true_eq_false,not_false_eq_true]
 refine hK ?_;clear hK hS hC hC1 K S C hf
 (repeat (first|(refine ah rfl rfl ?_)|(refine aj rfl rfl ?_)|(refine af nmd [] hng (by kernel_rfl) fun hf C S K hC1 hC hS hK=>?_;simp (disch:=first|omega|assumption) only [go_sem,hnq,Ne.symm hnq,if_false,List.length_map];(repeat ((first|refine hC1 _ (hev _) (by simp (disch:=first|omega|assumption) only [go_sem]) ?_);simp (disch:=first|omega|assumption) only [go_sem]));refine hK ?_;clear hK hS hC hC1 K S C hf)|((first|refine zn ?_|refine ze ?_|refine zk ?_);with_reducible (constructor;repeat constructor);try refine zl ?_)))
 have hJ0:∀ c i,J i→(fun (c:Nat) (i:Oid)=>(J i∨Oid.under x.p i)∧Old x.p c i∧¬ i = .sub 0 0 x.p) c i:=fun c i h=>⟨.inl h,fun c' j _ k=>hJ i h (Oid.ay k),fun e=>hnJ (e ▸ h)⟩
 have hJm:∀ c d i,c≤d→(fun (c:Nat) (i:Oid)=>(J i∨Oid.under x.p i)∧Old x.p c i∧¬ i = .sub 0 0 x.p) c i→(fun (c:Nat) (i:Oid)=>(J i∨Oid.under x.p i)∧Old x.p c i∧¬ i = .sub 0 0 x.p) d i:=fun c d i hc h=>⟨h.1,h.2.1.mono hc,h.2.2⟩
 have hJn:∀ c d j i,0 < c→c < d→Oid.under (.sub c j x.p) i→(fun (c:Nat) (i:Oid)=>(J i∨Oid.under x.p i)∧Old x.p c i∧¬ i = .sub 0 0 x.p) d i:=fun c d j i h0 hc h=>⟨.inr (Oid.bY (Oid.ay (Oid.az _)) h),(Old.made h).mono hc,fun e=>by
  subst e
  have:=Oid.cE h (Oid.az _) rfl
  injection this with e1 _ _
  omega⟩
 refine a6 [0,5,47,48,49] (fun k s'=>∃ (i c:Nat) (M1:List (Oid × ar)),s' = ⟨[(0,.ptr q 0),(5,.ptr (.sub 0 0 x.p) 0),(47,.list 1 (args.map AV.str)),(48,.int .i64 args.length),(49,.int .i64 i)],Mem.of ((Oid.sub 0 0 x.p,ar.cells [Kd,.bool true,G,.str [64],O,W])::M1),c,[]⟩∧k=args.length - i∧i≤args.length∧0 < c ∧
  ER q ((fun (c:Nat) (i:Oid)=>(J i∨Oid.under x.p i)∧Old x.p c i∧¬ i = .sub 0 0 x.p) c) A (.list 1 (args.map AV.str)) F D (acc++cN (args.take i)) M1) _ ⟨0,_,_,rfl,rfl,Nat.zero_le _,by omega,by rw [List.take_zero,cN,List.append_nil];exact hM.mono (hJ0 _)⟩ ?_
 clear hnm hfn
 rintro k s' ⟨i,c,M1,rfl,rfl,hi,hc0,hR⟩
 have hnm:=hR.qa (i:=.sub 0 0 x.p) hnq (fun h=>h.2.2 rfl)
 have hfn:=b7 hR.func
 have hmem:∀ e,e ∈ M1→Mem.of ((Oid.sub 0 0 x.p,ar.cells [Kd,.bool true,G,.str [64],O,W])::M1) e.1=some e.2:=fun e he=>by
  rw [Mem.ae,if_neg (hnm e he)];exact hfn e he
 by_cases hlt:i < args.length
 ·have hI:(i:Int) < args.length:=by omega
  have hlx:i < (args.map AV.str).length:=by rw [List.length_map];exact hlt
  have hg:(args.map AV.str).getD i .undef = .str (args.getD i []):=by
   rw [List.getD_eq_getElem?_getD,List.getElem?_map,List.getElem?_eq_getElem hlt,List.getD_eq_getElem?_getD,List.getElem?_eq_getElem hlt];rfl
  have htk:args.take (i+1)=args.take i++[args.getD i []]:=by
   rw [List.take_add_one,List.getElem?_eq_getElem hlt,List.getD_eq_getElem?_getD,List.getElem?_eq_getElem hlt];rfl
  have hal2:=kI (args.take i)
  rw [List.length_take] at hal2
  generalize args.getD i []=a at hg htk
  by_cases h0:i=0
  ·subst h0
   have h0I:¬ (((0:Nat):Int) > 0):=by decide
   have hacc:acc++cN (args.take (0+1))=(acc++cN (args.take 0))++[(if true=true then 1 else 2,a)]:=by
    rw [htk];simp [cN]
   have hP:=fun (p:Oid) hq' hJ'=>XO q ((fun (c:Nat) (i:Oid)=>(J i∨Oid.under x.p i)∧Old x.p c i∧¬ i = .sub 0 0 x.p) (c+1+1+1)) A (.list 1 (args.map AV.str)) F D _ M1 (by simp [cN];omega) Kd G (.str [64]) O W true a p hq' hJ' (hR.mono (hJm _ _ · (by omega)))
   rw [← hacc] at hP
   (repeat (first|(refine ah rfl rfl ?_)|(refine aj rfl rfl ?_)|(refine af nmd [] hng (by kernel_rfl) fun hf C S K hC1 hC hS hK=>?_;simp (disch:=first|omega|assumption) only [go_sem,hI,hlx,hg,h0I,decide_true,decide_false,ne_eq,not_true_eq_false,not_false_eq_true];refine hK ?_;clear hK hS hC hC1 K S C hf)|((first|refine zn ?_|refine ze ?_|refine zk ?_);with_reducible (constructor;repeat constructor);try refine zl ?_)))
   refine af nmd [] hng (by kernel_rfl) fun hf C S K hC1 hC hS hK=>?_;simp (disch:=first|omega|assumption) only [go_sem]
   refine hC _ _ _ (hP _ (bM _ _ hq) (fun i h=>h.2.1 _ _ (Nat.le_refl _))) hmem ?_ (fun _ _ h=>h.elim)
   rintro _ u ⟨rfl,hL⟩
   have hkeep:=hL.same (m:=Mem.of ((Oid.sub 0 0 x.p,ar.cells [Kd,.bool true,G,.str [64],O,W])::M1)) hnq (fun h=>h.2.2 rfl) (fun h=>by have:=Oid.cE h (Oid.az _) rfl;injection this with e1 _ _;omega)
   rw [Mem.ae,if_pos rfl] at hkeep
   obtain ⟨⟨M2,hR2,hM2⟩,_⟩:=hL
   have hM2:=hM2 _ hmem
   generalize Mem.aF _ u=m2 at hM2 hkeep ⊢
   simp (disch:=first|omega|assumption) only [go_sem]
   refine hK ?_;clear hK hS hC hC1 K S C hf
   refine e7 ?_
   (try ((first|refine zn ?_|refine ze ?_|refine zk ?_);with_reducible (constructor;repeat constructor));try refine zl ?_)
   refine bq ((Oid.sub 0 0 x.p,ar.cells [Kd,.bool true,G,.str [64],O,W])::M2) (fun e he=>by
    rcases List.mem_cons.1 he with rfl|he
    ·exact hkeep
    ·exact hM2 e he) ?_
   (repeat (first|(refine ah rfl rfl ?_)|(refine aj rfl rfl ?_)|(refine af nmd [] hng (by kernel_rfl) fun hf C S K hC1 hC hS hK=>?_;simp (disch:=first|omega|assumption) only [go_sem];refine hK ?_;clear hK hS hC hC1 K S C hf)|((first|refine zn ?_|refine ze ?_|refine zk ?_);with_reducible (constructor;repeat constructor);try refine zl ?_)))
   exact ⟨_,_,by omega,fun _ _ h=>h,0+1,_,M2,rfl,rfl,by omega,by omega,hR2.mono fun i h=>h.elim (hJm _ _ i (by omega)) (hJn _ _ _ i (by omega) (by omega))⟩
  ·have h0I:(i:Int) > 0:=by omega
   have htn:args.take i≠[]:=fun e=>by have:=congrArg List.length e;rw [List.length_take] at this;simp only [List.length_nil] at this;omega
   have hane:∀ l:List Str,l≠[]→cN l≠[]:=fun l hl=>by
    match l,hl with
    | [a],_=>simp [cN]
    | a::b::l,_=>simp [cN]
   have hacc:acc++cN (args.take (i+1))=(acc++cN (args.take i)++[(3,[])])++[(if true=true then 1 else 2,a)]:=by
    rw [htk,mX _ _ htn];simp
   have han:acc++cN (args.take i)≠[]:=fun e=>hane _ htn (List.append_eq_nil_iff.1 e).2
   have hsl:(acc++cN (args.take i)).length≤200000:=by rw [List.length_append];omega
   rcases hR with ⟨h,_⟩|⟨ro,hro,hrt,hrq,rfl⟩
   ·exact absurd h han
   generalize acc++cN (args.take i)=acc1 at hacc han hsl
   have hnr:¬ Oid.sub 0 0 x.p=ro:=fun e=>hro.2.2 e.symm
   have hn1:¬ Oid.sub (c+1+1+1) 7 x.p=ro:=fun e=>hro.2.1 (c+1+1+1) 7 (by omega) (by rw [← e];exact Oid.az _)
   have hn2:¬ Oid.sub (c+1+1+1) 7 x.p=q:=fun e=>hq (by rw [← e];exact Oid.ay (Oid.az _))
   have hR':ER q ((fun (c:Nat) (i:Oid)=>(J i∨Oid.under x.p i)∧Old x.p c i∧¬ i = .sub 0 0 x.p) (c+1+1+1+1)) A (.list 1 (args.map AV.str)) F D (acc1++[(3,[])]) [(q,.cells [A,.list 1 (args.map AV.str),F,D,.sl (.sub (c+1+1+1) 7 x.p) 2 (acc1.length+1)]),(.sub (c+1+1+1) 7 x.p,.arr 2 (acc1.map bI++[.agg [.int .i64 3,.str []]]))] :=
    .inr ⟨_,hJn (c+1+1+1) _ 7 _ (by omega) (by omega) (Oid.az _),rfl,hn2,by rw [List.length_append,List.map_append];rfl⟩
   have hP:=fun (p:Oid) hq' hJ'=>XO q ((fun (c:Nat) (i:Oid)=>(J i∨Oid.under x.p i)∧Old x.p c i∧¬ i = .sub 0 0 x.p) (c+1+1+1+1)) A (.list 1 (args.map AV.str)) F D _ _ (by rw [List.length_append,List.length_singleton];omega) Kd G (.str [64]) O W true a p hq' hJ' hR'
   rw [← hacc] at hP
   (repeat (first|(refine ah rfl rfl ?_)|(refine aj rfl rfl ?_)|(refine af nmd [] hng (by kernel_rfl) fun hf C S K hC1 hC hS hK=>?_;simp (disch:=first|omega|assumption) only [go_sem,hI,hlx,hg,h0I,hnq,hnr,hn1,hn2,hrq,Ne.symm hnq,Ne.symm hnr,Ne.symm hn1,Ne.symm hn2,Ne.symm hrq,if_false,List.length_map,fq,decide_true,decide_false,ne_eq,not_true_eq_false,not_false_eq_true];refine hK ?_;clear hK hS hC hC1 K S C hf)|((first|refine zn ?_|refine ze ?_|refine zk ?_);with_reducible (constructor;repeat constructor);try refine zl ?_)))
   have hmem2:∀ e,e ∈ [(q,ar.cells [A,.list 1 (args.map AV.str),F,D,.sl (.sub (c+1+1+1) 7 x.p) 2 (acc1.length+1)]),(Oid.sub (c+1+1+1) 7 x.p,ar.arr 2 (acc1.map bI++[.agg [.int .i64 3,.str []]]))]→Mem.of ((Oid.sub 0 0 x.p,ar.cells [Kd,.bool true,G,.str [64],O,W])::[(q,ar.cells [A,.list 1 (args.map AV.str),F,D,.sl (.sub (c+1+1+1) 7 x.p) 2 (acc1.length+1)]),(Oid.sub (c+1+1+1) 7 x.p,ar.arr 2 (acc1.map bI++[.agg [.int .i64 3,.str []]]))]) e.1=some e.2:=fun e he=>by
    have h1:=b7 hR'.func e he
    have h2:=hR'.qa (i:=.sub 0 0 x.p) hnq (fun h=>h.2.2 rfl) e he
    rw [Mem.ae,if_neg h2];exact h1
   refine af nmd [] hng (by kernel_rfl) fun hf C S K hC1 hC hS hK=>?_;simp (disch:=first|omega|assumption) only [go_sem]
   refine hC _ _ _ (hP _ (bM _ _ hq) (fun i h=>h.2.1 _ _ (Nat.le_refl _))) hmem2 ?_ (fun _ _ h=>h.elim)
   rintro _ u ⟨rfl,hL⟩
   have hkeep:=hL.same (m:=Mem.of ((Oid.sub 0 0 x.p,ar.cells [Kd,.bool true,G,.str [64],O,W])::[(q,ar.cells [A,.list 1 (args.map AV.str),F,D,.sl (.sub (c+1+1+1) 7 x.p) 2 (acc1.length+1)]),(Oid.sub (c+1+1+1) 7 x.p,ar.arr 2 (acc1.map bI++[.agg [.int .i64 3,.str []]]))])) hnq (fun h=>h.2.2 rfl) (fun h=>by have:=Oid.cE h (Oid.az _) rfl;injection this with e1 _ _;omega)
   rw [Mem.ae,if_pos rfl] at hkeep
   obtain ⟨⟨M2,hR2,hM2⟩,_⟩:=hL
   have hM2:=hM2 _ hmem2
   generalize Mem.aF _ u=m2 at hM2 hkeep ⊢
   simp (disch:=first|omega|assumption) only [go_sem]
   refine hK ?_;clear hK hS hC hC1 K S C hf
   refine e7 ?_
   (try ((first|refine zn ?_|refine ze ?_|refine zk ?_);with_reducible (constructor;repeat constructor));try refine zl ?_)
   refine bq ((Oid.sub 0 0 x.p,ar.cells [Kd,.bool true,G,.str [64],O,W])::M2) (fun e he=>by
    rcases List.mem_cons.1 he with rfl|he
    ·exact hkeep
    ·exact hM2 e he) ?_
   (repeat (first|(refine ah rfl rfl ?_)|(refine aj rfl rfl ?_)|(refine af nmd [] hng (by kernel_rfl) fun hf C S K hC1 hC hS hK=>?_;simp (disch:=first|omega|assumption) only [go_sem];refine hK ?_;clear hK hS hC hC1 K S C hf)|((first|refine zn ?_|refine ze ?_|refine zk ?_);with_reducible (constructor;repeat constructor);try refine zl ?_)))
   exact ⟨_,_,by omega,fun _ _ h=>h,i+1,_,M2,rfl,rfl,by omega,by omega,hR2.mono fun i h=>h.elim (hJm _ _ i (by omega)) (hJn _ _ _ i (by omega) (by omega))⟩
 ·obtain rfl:i=args.length:=by omega
  have hI:¬ (args.length:Int) < args.length:=by omega
  rw [List.take_length] at hR
  (repeat (first|(refine ah rfl rfl ?_)|(refine aj rfl rfl ?_)|(refine af nmd [] hng (by kernel_rfl) fun hf C S K hC1 hC hS hK=>?_;simp (disch:=first|omega|assumption) only [go_sem,hI,decide_true,decide_false,ne_eq,not_true_eq_false,not_false_eq_true];refine hK ?_;clear hK hS hC hC1 K S C hf)|((first|refine zn ?_|refine ze ?_|refine zk ?_);with_reducible (constructor;repeat constructor);try refine zl ?_)))
  exact br (bA (.tuple []) rfl ⟨rfl,hM.leaves (hR.mono fun i h=>h.1)⟩ hmem)
end Go.Proofs.YtlfeacmbhldjcaaGreatDoor
namespace Go.Proofs.YtlfeacmbhldjcaaGreatDoor
open Go Go.Ab
set_option maxRecDepth 20000
set_option maxHeartbeats 4000000
def sC (args:List Str):Str:=if args=[] then [] else Lib.join args [32]
theorem zJ (q:Oid) (A F D O:AV) (args:List Str) (hl:args.length≤1000000) (hj:(Lib.join args [32]).length≤1000000000) (p:Oid) (hp:p.mono=false) (hq:¬ Oid.under p q) :
  aA Tryz.prog 153 [.ptr q 0,.str [64]] (Oid.under p) ⟨[(q,.cells [A,.list 1 (args.map AV.str),F,D,O])],.tuple [.str (sC args),.bool (decide (0 < args.length))],[]⟩:=by
 have hev:=fun p=>j4 [64] p
 rw [decide_eq_true rfl,Bool.true_or] at hev
 have x1:¬ ([64]:Str)=[35]:=by decide
 have x2:¬ ([64]:Str)=[63]:=by decide
 have x3:¬ ([64]:Str)=[48]:=by decide
 have hJn:∀ p:Oid,p.mono=false→aA Tryz.prog 179 [.list 1 (args.map AV.str),.str [32]] (Oid.under p) ⟨[],.str (sC args),[]⟩:=fun p hp=>by
  unfold sC
  by_cases h:args=[]
  ·subst h;rw [if_pos rfl];exact sB [32] p
  ·rw [if_neg h];exact XL args h [32] (by omega) (by omega) p hp
 have hdec:decide ((args.length:Int) > 0)=decide (0 < args.length):=decide_eq_decide.2 (by omega)
 generalize sC args=jv at hJn
 refine aN (n:=99) (rs:=[.tmp 4,.tmp 5]) Tryz.func153 rfl rfl (by decide) rfl rfl rfl ?_;rintro x rfl hrd hng
 (repeat (first|(refine ah rfl rfl ?_)|(refine aj rfl rfl ?_)|(refine af nmd [] hng (by kernel_rfl) fun hf C S K hC1 hC hS hK=>?_;simp (disch:=first|omega|assumption) only [go_sem,x1,x2,x3,decide_true,decide_false,ne_eq,not_true_eq_false,not_false_eq_true];(repeat ((first|refine hC1 _ (hev _) (by simp (disch:=first|omega|assumption) only [go_sem]) ?_);simp (disch:=first|omega|assumption) only [go_sem]));refine hK ?_;clear hK hS hC hC1 K S C hf)|((first|refine zn ?_|refine ze ?_|refine zk ?_);with_reducible (constructor;repeat constructor);try refine zl ?_)))
 refine bE nmd [] [(5,10),(5,11)] mixed hng (by kernel_rfl) [4,5] fun hf C S K hC hS hK=>?_;simp (disch:=first|omega|assumption) only [go_sem,List.length_map]
 refine hC _ (hJn _ (aH rfl hp)) (fun _ h=>by cases h) ?_
 simp (disch:=first|omega|assumption) only [go_sem,List.length_map,hdec]
 (first|refine hK (aK rfl) ?_|refine hK (by simp (disch:=first|omega|assumption) only [go_sem,List.reverse_cons,List.reverse_nil,ne_eq,not_false_eq_true,implies_true]) ?_);clear hK hS hC K S C hf
 (repeat (first|(refine ah rfl rfl ?_)|(refine aj rfl rfl ?_)|(refine af nmd [] hng (by kernel_rfl) fun hf C S K hC1 hC hS hK=>?_;simp (disch:=first|omega|assumption) only [go_sem];refine hK ?_;clear hK hS hC hC1 K S C hf)|((first|refine zn ?_|refine ze ?_|refine zk ?_);with_reducible (constructor;repeat constructor);try refine zl ?_)))
 exact aC (aP (by simp (disch:=first|omega|assumption) only [go_sem]) (fun _ h=>by cases h) (fun q' h' _=>by rw [List.mem_singleton.1 h',Mem.ae,if_pos rfl]))
theorem zK (q:Oid) (vs:List Vr) (hv:vs.length≤1) (B F D O:AV) (c:UInt8) (hc:nmC c=true) (p:Oid) (hq:¬ Oid.under p q) :
  aA Tryz.prog 153 [.ptr q 0,.str [c]] (Oid.under p) ⟨[(q,.cells [.list 4 (vs.map Vr.av),B,F,D,O])],.tuple [.str (p9 vs [c]).v,.bool (dR vs [c]).2],[]⟩:=by
 have hN:=fun p=>zI c hc p
 have hG:=fun p=>vg vs hv [c] p
 have hne:∀ d:UInt8,nmC d=false→¬ ([c]:Str)=[d]:=fun d hd e=>by injection e with e1 _;rw [e1,hd] at hc;cases hc
 have x1:=hne 35 (by decide)
 have x2:=hne 63 (by decide)
 have x3:=hne 48 (by decide)
 have x4:=hne 64 (by decide)
 have x5:=hne 42 (by decide)
 have x6:¬ ([c]:Str)=[]:=by simp
 have hev:=fun p=>j4 [c] p
 rw [decide_eq_false x4,decide_eq_false x5,Bool.or_self] at hev
 generalize (dR vs [c]).2=b at hG ⊢
 generalize p9 vs [c]=v at hG ⊢
 obtain ⟨vn,vv,ve,vo⟩:=v
 rw [Vr.av] at hG
 simp only at hG ⊢
 refine aN (n:=99) (rs:=[.tmp 4,.tmp 5]) Tryz.func153 rfl rfl (by decide) rfl rfl rfl ?_;rintro x rfl hrd hng
 (repeat (first|(refine ah rfl rfl ?_)|(refine aj rfl rfl ?_)|(refine af nmd [] hng (by kernel_rfl) fun hf C S K hC1 hC hS hK=>?_;simp (disch:=first|omega|assumption) only [go_sem,x1,x2,x3,decide_true,decide_false,ne_eq,not_true_eq_false,not_false_eq_true];(repeat ((first|refine hC1 _ (hev _) (by simp (disch:=first|omega|assumption) only [go_sem]) ?_);simp (disch:=first|omega|assumption) only [go_sem]));refine hK ?_;clear hK hS hC hC1 K S C hf)|((first|refine zn ?_|refine ze ?_|refine zk ?_);with_reducible (constructor;repeat constructor);try refine zl ?_)))
 refine af nmd [] hng (by kernel_rfl) fun hf C S K hC1 hC hS hK=>?_;simp (disch:=first|omega|assumption) only [go_sem]
 refine hC1 _ (hN _) (fun _ h=>by cases h) ?_
 simp (disch:=first|omega|assumption) only [go_sem,x6,decide_true,decide_false,ne_eq,not_true_eq_false,not_false_eq_true]
 refine hK ?_;clear hK hS hC hC1 K S C hf
 (repeat (first|(refine ah rfl rfl ?_)|(refine aj rfl rfl ?_)|(refine af nmd [] hng (by kernel_rfl) fun hf C S K hC1 hC hS hK=>?_;simp (disch:=first|omega|assumption) only [go_sem];(repeat ((first|refine hC1 _ (hG _) (by simp (disch:=first|omega|assumption) only [go_sem]) ?_);simp (disch:=first|omega|assumption) only [go_sem]));refine hK ?_;clear hK hS hC hC1 K S C hf)|((first|refine zn ?_|refine ze ?_|refine zk ?_);with_reducible (constructor;repeat constructor);try refine zl ?_)))
 exact aC (aP (by simp (disch:=first|omega|assumption) only [go_sem]) (fun _ h=>by cases h) (fun q' h' _=>by rw [List.mem_singleton.1 h',Mem.ae,if_pos rfl]))
def ahB:List ME:=[⟨.str [],.fn (.func 147) [] [],0⟩,⟨.str [108,101,110],.fn (.func 148) [] [],1⟩,⟨.str [45],.fn (.func 149) [] [],2⟩,⟨.str [61],.fn (.func 150) [] [],3⟩,⟨.str [63],.fn (.func 151) [] [],4⟩,⟨.str [43],.fn (.func 152) [] [],5⟩]
def WM (n:Nat):List ME:=ahB.take n
theorem ag0:dz (.str []) (.fn (.func 147) [] []) 0 []=WM 1:=by kernel_rfl
theorem ag1:cF (.str []) []=false:=by kernel_rfl
theorem ag2:dz (.str [108,101,110]) (.fn (.func 148) [] []) 1 (WM 1)=WM 2:=by kernel_rfl
theorem ag3:cF (.str [108,101,110]) (WM 1)=false:=by kernel_rfl
theorem ag4:dz (.str [45]) (.fn (.func 149) [] []) 2 (WM 2)=WM 3:=by kernel_rfl
theorem ag5:cF (.str [45]) (WM 2)=false:=by kernel_rfl
theorem ag6:dz (.str [61]) (.fn (.func 150) [] []) 3 (WM 3)=WM 4:=by kernel_rfl
theorem ag7:cF (.str [61]) (WM 3)=false:=by kernel_rfl
theorem ag8:dz (.str [63]) (.fn (.func 151) [] []) 4 (WM 4)=WM 5:=by kernel_rfl
theorem ag9:cF (.str [63]) (WM 4)=false:=by kernel_rfl
theorem aha:dz (.str [43]) (.fn (.func 152) [] []) 5 (WM 5)=WM 6:=by kernel_rfl
theorem ahb:cF (.str [43]) (WM 5)=false:=by kernel_rfl
theorem ahc:fC (.str []) .nilFn (WM 6) = .fn (.func 147) [] []:=by kernel_rfl
theorem oM (q:Oid) (J:Oid→Prop) (A B F D:AV) (acc acc':List (Nat × Str)) (M:List (Oid × ar)) (Kd G W:AV) (qd:Bool) (nm v:Str) (ok:Bool)
  (hval:∀ O p,p.mono=false→¬ Oid.under p q→aA Tryz.prog 153 [.ptr q 0,.str nm] (Oid.under p) ⟨[(q,.cells [A,B,F,D,O])],.tuple [.str v,.bool ok],[]⟩)
  (hbare:∀ p,¬ Oid.under p q→(∀ i,J i→¬ Oid.under p i)→aX Tryz.prog 147 [.ptr q 0,AV.agg [Kd,.bool qd,G,.str nm,.str [],W],.str v,.bool ok] (Oid.under p) M (fun v' u=>v' = .tuple []∧dr q J p A B F D acc' M u) (fun _ _=>False))
  (p:Oid) (hp:p.mono=false) (hq:¬ Oid.under p q) (hJ:∀ i,J i→¬ Oid.under p i) (hM:ER q J A B F D acc M) :
  aX Tryz.prog 116 [.ptr q 0,AV.agg [Kd,.bool qd,G,.str nm,.str [],W]] (Oid.under p) M (fun v' u=>v' = .tuple []∧dr q J p A B F D acc' M u) (fun _ _=>False):=by
 refine ma (n:=48) (rs:=[]) Tryz.func116 rfl rfl (by decide) rfl rfl rfl ?_;rintro x rfl hrd hng
 (try ((first|refine zn ?_|refine ze ?_|refine zk ?_);with_reducible (constructor;repeat constructor));try refine zl ?_)
 refine af nmd [] hng (by kernel_rfl) fun hf C S K hC1 hC hS hK=>?_;simp (disch:=first|omega|assumption) only [go_sem]
 refine hK ?_;clear hK hS hC hC1 K S C hf
 (try ((first|refine zn ?_|refine ze ?_|refine zk ?_);with_reducible (constructor;repeat constructor));try refine zl ?_)
 have hnq:¬ Oid.sub 0 0 x.p=q:=fun e=>hq (by rw [← e];exact Oid.ay (Oid.az _))
 have hnJ:¬ J (Oid.sub 0 0 x.p):=fun h=>hJ _ h (Oid.ay (Oid.az _))
 have hnm:=hM.qa hnq hnJ
 have hfn:=b7 hM.func
 refine bq ((Oid.sub 0 0 x.p,ar.cells [Kd,.bool qd,G,.str nm,.str [],W])::M) ?_ ?_
 ·intro e he
  rcases List.mem_cons.1 he with rfl|he
  ·rw [aJ,if_pos rfl]
  ·rw [aJ,if_neg (hnm e he)];exact hfn e he
 refine af nmd [] hng (by kernel_rfl) fun hf C S K hC1 hC hS hK=>?_;simp (disch:=first|omega|assumption) only [go_sem,aJ,if_true,Nat.reduceAdd,Bool.false_eq_true,if_false,ag0,ag1,ag2,ag3,ag4,ag5,ag6,ag7,ag8,ag9,aha,ahb]
 refine hK ?_;clear hK hS hC hC1 K S C hf
 (try ((first|refine zn ?_|refine ze ?_|refine zk ?_);with_reducible (constructor;repeat constructor));try refine zl ?_)
 have hnq1:¬ Oid.sub 1 0 x.p=q:=fun e=>hq (by rw [← e];exact Oid.ay (Oid.az _))
 have hnm1:=hM.qa hnq1 (fun h=>hJ _ h (Oid.ay (Oid.az _)))
 have hmem:∀ e,e ∈ M→Mem.of ((Oid.sub 0 0 x.p,ar.cells [Kd,.bool qd,G,.str nm,.str [],W])::(Oid.sub 1 0 x.p,ar.map [TyS.ss] false (WM 6) 6)::M) e.1=some e.2:=fun e he=>by
  rw [Mem.ae,if_neg (hnm e he),Mem.ae,if_neg (hnm1 e he)];exact hfn e he
 refine bq ((Oid.sub 0 0 x.p,ar.cells [Kd,.bool qd,G,.str nm,.str [],W])::(Oid.sub 1 0 x.p,ar.map [TyS.ss] false (WM 6) 6)::M) ?_ ?_
 ·intro e he
  rcases List.mem_cons.1 he with rfl|he
  ·rw [Mem.ae,if_pos rfl]
  ·rcases List.mem_cons.1 he with rfl|he
   ·rw [Mem.ae,if_neg (by simp),aJ,if_pos rfl]
   ·rw [Mem.ae,if_neg (hnm e he)]
    iterate 7 rw [aJ,if_neg (hnm1 e he)]
    exact hfn e he
 obtain ⟨O1,rest1,rfl⟩:=hM.cons
 have hmq:=hmem _ (List.mem_cons_self ..)
 have hcp:=fun p=>Dn p
 refine af nmd [] hng (by kernel_rfl) fun hf C S K hC1 hC hS hK=>?_;simp (disch:=first|omega|assumption) only [go_sem]
 refine hC1 _ (hval O1 _ (aH rfl hp) (bM _ _ hq)) (fun q' h'=>by rw [List.mem_singleton.1 h'];exact hmq) ?_
 simp (disch:=first|omega|assumption) only [go_sem]
 refine hK ?_;clear hK hS hC hC1 K S C hf
 (repeat (first|(refine ah rfl rfl ?_)|(refine aj rfl rfl ?_)|(refine af nmd [] hng (by kernel_rfl) fun hf C S K hC1 hC hS hK=>?_;simp (disch:=first|omega|assumption) only [go_sem];(repeat ((first|refine hC1 _ (hcp _) (by simp (disch:=first|omega|assumption) only [go_sem]) ?_);simp (disch:=first|omega|assumption) only [go_sem]));refine hK ?_;clear hK hS hC hC1 K S C hf)|((first|refine zn ?_|refine ze ?_|refine zk ?_);with_reducible (constructor;repeat constructor);try refine zl ?_)))
 cases ok
 ·refine af nmd [(5,39),(8,42)] hng (by kernel_rfl) fun hf C S K hC1 hC hS hK=>?_;simp (disch:=first|omega|assumption) only [go_sem,ahc,decide_true,decide_false,ne_eq,not_true_eq_false,not_false_eq_true]
  refine hC _ _ _ (hbare _ (bM _ _ hq) (fun i h h'=>hJ i h (Oid.ay h'))) hmem ?_ (fun _ _ h=>h.elim)
  (rintro _ u ⟨rfl,⟨M2,hR2,hM2⟩,_⟩;have hM2:=hM2 _ hmem;generalize Mem.aF _ u=m2 at hM2 ⊢;simp (disch:=first|omega|assumption) only [go_sem];refine hK ?_;clear hK hS hC hC1 K S C hf;exact br (bA (.tuple []) rfl ⟨rfl,hM.leaves (hR2.mono fun i h=>h.imp id (fun h=>Oid.ay h))⟩ hM2))
 ·refine af nmd [(5,39),(8,42)] hng (by kernel_rfl) fun hf C S K hC1 hC hS hK=>?_;simp (disch:=first|omega|assumption) only [go_sem,ahc,decide_true,decide_false,ne_eq,not_true_eq_false,not_false_eq_true,Bool.not_false]
  refine hC _ _ _ (hbare _ (bM _ _ hq) (fun i h h'=>hJ i h (Oid.ay h'))) hmem ?_ (fun _ _ h=>h.elim)
  (rintro _ u ⟨rfl,⟨M2,hR2,hM2⟩,_⟩;have hM2:=hM2 _ hmem;generalize Mem.aF _ u=m2 at hM2 ⊢;simp (disch:=first|omega|assumption) only [go_sem];refine hK ?_;clear hK hS hC hC1 K S C hf;exact br (bA (.tuple []) rfl ⟨rfl,hM.leaves (hR2.mono fun i h=>h.imp id (fun h=>Oid.ay h))⟩ hM2))
end Go.Proofs.YtlfeacmbhldjcaaGreatDoor
namespace Go.Proofs.YtlfeacmbhldjcaaGreatDoor
open Go Go.Ab
set_option maxRecDepth 20000
set_option maxHeartbeats 4000000
def pcs (vs:List Vr) (args:List Str) (p:Pt):List (Nat × Str) :=
 if p.kind=1 then (if p.name=[64] then cN args else [(if p.quoted=true then 1 else 2,(p9 vs p.name).v)]) else [(if p.quoted=true then 1 else 0,p.text)]
def oN (p:Pt):Prop:=p.kind=0∨(p.kind=1∧p.op=[]∧((p.name=[64]∧p.quoted=true)∨∃ c,nmC c=true∧p.name=[c]))
theorem XP (vs:List Vr) (args:List Str) (p:Pt):(pcs vs args p).length≤2 * args.length+1:=by
 unfold pcs
 have:=kI args
 split
 ·split
  ·omega
  ·simp
 ·simp
theorem sD (vs:List Vr) (args:List Str):∀ l:List Pt,(l.flatMap (pcs vs args)).length≤l.length * (2 * args.length+1)
 | []=>by simp
 | p::l=>by
  have h1:=XP vs args p
  have h2:=sD vs args l
  rw [List.flatMap_cons,List.length_append,List.length_cons,Nat.add_mul];omega
theorem zM (q:Oid) (J:Oid→Prop) (vs:List Vr) (hv:vs.length≤1) (args:List Str) (hal:args.length≤1000) (hj:(Lib.join args [32]).length≤1000000000) (F D:AV) (acc:List (Nat × Str)) (M:List (Oid × ar)) (hn:acc.length≤100000) (pt:Pt) (hk:pt.kind=1) (hs:oN pt) (p:Oid) (hp:p.mono=false) (hq:¬ Oid.under p q) (hJ:∀ i,J i→¬ Oid.under p i) (hM:ER q J (.list 4 (vs.map Vr.av)) (.list 1 (args.map AV.str)) F D acc M) :
  aX Tryz.prog 116 [.ptr q 0,pt.av] (Oid.under p) M (fun v' u=>v' = .tuple []∧dr q J p (.list 4 (vs.map Vr.av)) (.list 1 (args.map AV.str)) F D (acc++pcs vs args pt) M u) (fun _ _=>False):=by
 obtain ⟨pk,pq,pt,pn,po,pw⟩:=pt
 simp only [Pt.kind] at hk
 subst hk
 rcases hs with h|⟨_,h2,h3⟩
 ·cases h
 simp only [Pt.op,Pt.name,Pt.quoted] at h2 h3
 subst h2
 rcases h3 with ⟨rfl,rfl⟩|⟨c,hc,rfl⟩
 ·rw [show pcs vs args (.mk 1 true pt [64] [] pw)=cN args from by simp [pcs,Pt.kind,Pt.name],Pt.av]
  exact oM q J _ _ F D acc _ M _ _ _ true [64] (sC args) (decide (0 < args.length)) (fun O p hp hq=>zJ q _ F D O args (by omega) hj p hp hq) (fun p hq hJ=>Dq q J _ F D args hal acc M hn _ _ _ _ _ _ p hq hJ hM) p hp hq hJ hM
 ·have x4:¬ ([c]:Str)=[64]:=fun e=>by injection e with e1 _;rw [e1] at hc;exact absurd hc (by decide)
  have x5:¬ ([c]:Str)=[42]:=fun e=>by injection e with e1 _;rw [e1] at hc;exact absurd hc (by decide)
  rw [show pcs vs args (.mk 1 pq pt [c] [] pw)=[(if pq=true then 1 else 2,(p9 vs [c]).v)] from (if_pos rfl).trans (if_neg x4),Pt.av]
  exact oM q J _ _ F D acc _ M _ _ _ pq [c] (p9 vs [c]).v (dR vs [c]).2 (fun O p _ hq=>zK q vs hv _ F D O c hc p hq) (fun p hq hJ=>Dp q J _ _ F D acc M (by omega) _ _ _ _ pq [c] _ _ x5 x4 p hq hJ hM) p hp hq hJ hM
theorem afJ (q:Oid) (J:Oid→Prop) (vs:List Vr) (args:List Str) (hal:args.length≤20) (hj:(Lib.join args [32]).length≤1000000000) (F D:AV) (l:List Pt) (hv:vs.length≤1∨∀ p,p ∈ l→p.kind=0) (hl:l.length≤500) (hs:∀ p,p ∈ l→oN p) (M:List (Oid × ar)) (p:Oid) (hp:p.mono=false) (hq:¬ Oid.under p q) (hJ:∀ i,J i→¬ Oid.under p i) (hM:ER q J (.list 4 (vs.map Vr.av)) (.list 1 (args.map AV.str)) F D [] M) :
  aX Tryz.prog 74 [.ptr q 0,.list 6 (Pt.avs l)] (Oid.under p) M (fun v' u=>v' = .tuple []∧dr q J p (.list 4 (vs.map Vr.av)) (.list 1 (args.map AV.str)) F D (l.flatMap (pcs vs args)) M u) (fun _ _=>False):=by
 have hx:=iH l
 refine ma (n:=49) (rs:=[]) Tryz.func74 rfl rfl (by decide) rfl rfl rfl ?_;rintro x rfl hrd hng
 (repeat (first|(refine ah rfl rfl ?_)|(refine aj rfl rfl ?_)|(refine af nmd [] hng (by kernel_rfl) fun hf C S K hC1 hC hS hK=>?_;simp (disch:=first|omega|assumption) only [go_sem,hx];refine hK ?_;clear hK hS hC hC1 K S C hf)|((first|refine zn ?_|refine ze ?_|refine zk ?_);with_reducible (constructor;repeat constructor);try refine zl ?_)))
 refine a6 [0,6,7,8] (fun k s'=>∃ (i c:Nat) (M1:List (Oid × ar)),s' = ⟨[(0,.ptr q 0),(6,.list 6 (Pt.avs l)),(7,.int .i64 l.length),(8,.int .i64 i)],Mem.of M1,c,[]⟩∧k=l.length - i∧i≤l.length ∧
  ER q ((fun (c:Nat) (i:Oid)=>(J i∨Oid.under x.p i)∧Old x.p c i) c) (.list 4 (vs.map Vr.av)) (.list 1 (args.map AV.str)) F D ((l.take i).flatMap (pcs vs args)) M1) _ ⟨0,_,M,rfl,rfl,Nat.zero_le _,hM.mono fun i h=>⟨.inl h,fun c' j _ k=>hJ i h (Oid.ay k)⟩⟩ ?_
 rintro k s' ⟨i,c,M1,rfl,rfl,hi,hR⟩
 by_cases hlt:i < l.length
 ·have hI:(i:Int) < l.length:=by omega
  obtain ⟨pt,hm,hdr,hg⟩:=mS hlt
  have hlx:i < (Pt.avs l).length:=by omega
  have htk:(l.take (i+1)).flatMap (pcs vs args)=(l.take i).flatMap (pcs vs args)++pcs vs args pt:=by
   have:l.take (i+1)=l.take i++[pt]:=by
    have h1:=List.take_append_drop i l
    rw [hdr] at h1
    conv=>lhs;rw [← h1]
    rw [List.take_append,List.length_take,Nat.min_eq_left (by omega),List.take_of_length_le (by rw [List.length_take];omega)]
    simp
   rw [this,List.flatMap_append];simp
  have hsl:=sD vs args (l.take i)
  rw [List.length_take,Nat.min_eq_left (by omega)] at hsl
  have hsl2:i * (2 * args.length+1)≤500 * 41:=Nat.mul_le_mul (by omega) (by omega)
  have hsp:=hs pt hm
  have hnq:¬ Oid.sub (c+1) 2 x.p=q:=fun e=>hq (by rw [← e];exact Oid.ay (Oid.az _))
  have hnJ:¬ (fun (c:Nat) (i:Oid)=>(J i∨Oid.under x.p i)∧Old x.p c i) c (Oid.sub (c+1) 2 x.p):=fun h=>h.2 (c+1) 2 (by omega) (Oid.az _)
  have hnm:=hR.qa hnq hnJ
  have hfn:=b7 hR.func
  generalize (l.take i).flatMap (pcs vs args)=acc1 at hR htk hsl
  obtain ⟨pk,pq,pt,pn,po,pw⟩:=pt
  have hmem:∀ e,e ∈ M1→Mem.of ((Oid.sub (c+1) 2 x.p,ar.cells [.int .i64 pk,.bool pq,.str pt,.str pn,.str po,.list 6 (Pt.avs pw)])::M1) e.1=some e.2:=fun e he=>by
   rw [Mem.ae,if_neg (hnm e he)];exact hfn e he
  simp only [Pt.av] at hg
  (repeat (first|(refine ah rfl rfl ?_)|(refine aj rfl rfl ?_)|(refine af nmd [] hng (by kernel_rfl) fun hf C S K hC1 hC hS hK=>?_;simp (disch:=first|omega|assumption) only [go_sem,hI,hg,hlx,decide_true,decide_false,ne_eq,not_true_eq_false,not_false_eq_true];refine hK ?_;clear hK hS hC hC1 K S C hf)|((first|refine zn ?_|refine ze ?_|refine zk ?_);with_reducible (constructor;repeat constructor);try refine zl ?_)))
  refine af nmd [] hng (by kernel_rfl) fun hf C S K hC1 hC hS hK=>?_;simp (disch:=first|omega|assumption) only [go_sem,hg,hlx,aJ,if_true]
  refine hK ?_;clear hK hS hC hC1 K S C hf
  (try ((first|refine zn ?_|refine ze ?_|refine zk ?_);with_reducible (constructor;repeat constructor));try refine zl ?_)
  refine bq ((Oid.sub (c+1) 2 x.p,ar.cells [.int .i64 pk,.bool pq,.str pt,.str pn,.str po,.list 6 (Pt.avs pw)])::M1) ?_ ?_
  ·intro e he
   rcases List.mem_cons.1 he with rfl|he
   ·rw [aJ,if_pos rfl]
   ·rw [aJ,if_neg (hnm e he)]
    try rw [aJ,if_neg (hnm e he)]
    exact hfn e he
  have fin:∀ (cc d j:Nat) (M2:List (Oid × ar)),c+1≤cc→cc < d→ER q (fun i=>(fun (c:Nat) (i:Oid)=>(J i∨Oid.under x.p i)∧Old x.p c i) (c+1+1) i∨Oid.under (.sub cc j x.p) i) (.list 4 (vs.map Vr.av)) (.list 1 (args.map AV.str)) F D ((l.take (i+1)).flatMap (pcs vs args)) M2→ER q ((fun (c:Nat) (i:Oid)=>(J i∨Oid.under x.p i)∧Old x.p c i) d) (.list 4 (vs.map Vr.av)) (.list 1 (args.map AV.str)) F D ((l.take (i+1)).flatMap (pcs vs args)) M2:=fun cc d j M2 hcc hd h=>h.mono fun i h=>h.elim (fun h=>⟨h.1,h.2.mono (by omega)⟩) (fun h=>⟨.inr (Oid.bY (Oid.ay (Oid.az _)) h),(Old.made h).mono (by omega)⟩)
  rcases hsp with hk0|⟨hk1,ho,hnn⟩
  ·simp only [Pt.kind] at hk0
   subst hk0
   have n1:¬ ((0:Nat):Int)=1:=by decide
   have n2:¬ ((0:Nat):Int)=2:=by decide
   have n3:¬ ((0:Nat):Int)=3:=by decide
   cases pq
   ·have e:∀ a:List (Nat × Str),a=acc1→(l.take (i+1)).flatMap (pcs vs args)=a++[(0,pt)]:=fun a h=>by rw [htk,h];rfl
    have hN1:¬ Oid.sub (c+1+1+1+1+1+1+1) 9 x.p=q:=fun e=>hq (by rw [← e];exact Oid.ay (Oid.az _))
    rcases hR with ⟨h,rfl⟩|⟨ro,hro,hrt,hrq,rfl⟩
    ·have hR':ER q ((fun (c:Nat) (i:Oid)=>(J i∨Oid.under x.p i)∧Old x.p c i) (c+1+1+1+1+1+1+1+1)) (.list 4 (vs.map Vr.av)) (.list 1 (args.map AV.str)) F D ((l.take (i+1)).flatMap (pcs vs args)) [(q,.cells [(.list 4 (vs.map Vr.av)),(.list 1 (args.map AV.str)),F,D,.sl (Oid.sub (c+1+1+1+1+1+1+1) 9 x.p) 2 1]),(Oid.sub (c+1+1+1+1+1+1+1) 9 x.p,.arr 2 [.agg [.int .i64 0,.str pt]])] :=
      .inr ⟨_,⟨.inr (Oid.ay (Oid.az _)),Old.made (Oid.az _)⟩,rfl,hN1,by rw [e acc1 rfl,h];rfl⟩
     (repeat (first|(refine ah rfl rfl ?_)|(refine aj rfl rfl ?_)|(refine af nmd [] hng (by kernel_rfl) fun hf C S K hC1 hC hS hK=>?_;simp (disch:=first|omega|assumption) only [go_sem,n1,n2,n3,decide_true,decide_false,ne_eq,not_true_eq_false,not_false_eq_true];refine hK ?_;clear hK hS hC hC1 K S C hf)|((first|refine zn ?_|refine ze ?_|refine zk ?_);with_reducible (constructor;repeat constructor);try refine zl ?_)))
     refine bE nmd [] [(4,8)] mixed hng (by kernel_rfl) [0,6,7,8] fun hf C S K hC hS hK=>?_;simp (disch:=first|omega|assumption) only [go_sem,hnq,Ne.symm hnq,hN1,Ne.symm hN1,if_false,↓reduceIte,fq]
     (first|refine hK (aK rfl) ?_|refine hK (by simp (disch:=first|omega|assumption) only [go_sem,List.reverse_cons,List.reverse_nil,ne_eq,not_false_eq_true,implies_true]) ?_);clear hK hS hC K S C hf
     refine e7 (e7 ?_)
     (try ((first|refine zn ?_|refine ze ?_|refine zk ?_);with_reducible (constructor;repeat constructor));try refine zl ?_)
     refine bq [(q,.cells [(.list 4 (vs.map Vr.av)),(.list 1 (args.map AV.str)),F,D,.sl (Oid.sub (c+1+1+1+1+1+1+1) 9 x.p) 2 1]),(Oid.sub (c+1+1+1+1+1+1+1) 9 x.p,.arr 2 [.agg [.int .i64 0,.str pt]])] (fun e he=>by simp only [List.mem_cons,List.not_mem_nil,or_false] at he;rcases he with rfl|rfl<;>simp [Mem.ae,hnq,Ne.symm hnq,hN1,Ne.symm hN1]) ?_
     (repeat (first|(refine ah rfl rfl ?_)|(refine aj rfl rfl ?_)|(refine af nmd [] hng (by kernel_rfl) fun hf C S K hC1 hC hS hK=>?_;simp (disch:=first|omega|assumption) only [go_sem];refine hK ?_;clear hK hS hC hC1 K S C hf)|((first|refine zn ?_|refine ze ?_|refine zk ?_);with_reducible (constructor;repeat constructor);try refine zl ?_)))
     exact ⟨_,_,by omega,fun _ _ h=>h,i+1,_,_,rfl,rfl,by omega,hR'.mono fun i h=>⟨h.1,h.2.mono (by omega)⟩⟩
    ·have hN2:¬ Oid.sub (c+1+1+1+1+1+1+1) 9 x.p=ro:=fun e=>hro.2 (c+1+1+1+1+1+1+1) 9 (by omega) (by rw [← e];exact Oid.az _)
     have hN3:¬ Oid.sub (c+1) 2 x.p=ro:=fun e=>hro.2 (c+1) 2 (by omega) (by rw [← e];exact Oid.az _)
     have hR':ER q ((fun (c:Nat) (i:Oid)=>(J i∨Oid.under x.p i)∧Old x.p c i) (c+1+1+1+1+1+1+1+1)) (.list 4 (vs.map Vr.av)) (.list 1 (args.map AV.str)) F D ((l.take (i+1)).flatMap (pcs vs args)) [(q,.cells [(.list 4 (vs.map Vr.av)),(.list 1 (args.map AV.str)),F,D,.sl (Oid.sub (c+1+1+1+1+1+1+1) 9 x.p) 2 (acc1.length+1)]),(Oid.sub (c+1+1+1+1+1+1+1) 9 x.p,.arr 2 (acc1.map bI++[.agg [.int .i64 0,.str pt]]))] :=
      .inr ⟨_,⟨.inr (Oid.ay (Oid.az _)),Old.made (Oid.az _)⟩,rfl,hN1,by rw [e acc1 rfl,List.length_append,List.map_append];rfl⟩
     (repeat (first|(refine ah rfl rfl ?_)|(refine aj rfl rfl ?_)|(refine af nmd [] hng (by kernel_rfl) fun hf C S K hC1 hC hS hK=>?_;simp (disch:=first|omega|assumption) only [go_sem,n1,n2,n3,decide_true,decide_false,ne_eq,not_true_eq_false,not_false_eq_true];refine hK ?_;clear hK hS hC hC1 K S C hf)|((first|refine zn ?_|refine ze ?_|refine zk ?_);with_reducible (constructor;repeat constructor);try refine zl ?_)))
     refine bE nmd [] [(4,8)] mixed hng (by kernel_rfl) [0,6,7,8] fun hf C S K hC hS hK=>?_;simp (disch:=first|omega|assumption) only [go_sem,hnq,Ne.symm hnq,hN1,Ne.symm hN1,hN2,Ne.symm hN2,hN3,Ne.symm hN3,hrq,Ne.symm hrq,if_false,↓reduceIte,List.length_map,fq]
     (first|refine hK (aK rfl) ?_|refine hK (by simp (disch:=first|omega|assumption) only [go_sem,List.reverse_cons,List.reverse_nil,ne_eq,not_false_eq_true,implies_true]) ?_);clear hK hS hC K S C hf
     refine e7 (e7 ?_)
     (try ((first|refine zn ?_|refine ze ?_|refine zk ?_);with_reducible (constructor;repeat constructor));try refine zl ?_)
     refine bq [(q,.cells [(.list 4 (vs.map Vr.av)),(.list 1 (args.map AV.str)),F,D,.sl (Oid.sub (c+1+1+1+1+1+1+1) 9 x.p) 2 (acc1.length+1)]),(Oid.sub (c+1+1+1+1+1+1+1) 9 x.p,.arr 2 (acc1.map bI++[.agg [.int .i64 0,.str pt]]))] (fun e he=>by simp only [List.mem_cons,List.not_mem_nil,or_false] at he;rcases he with rfl|rfl<;>simp [Mem.ae,hnq,Ne.symm hnq,hN1,Ne.symm hN1]) ?_
     (repeat (first|(refine ah rfl rfl ?_)|(refine aj rfl rfl ?_)|(refine af nmd [] hng (by kernel_rfl) fun hf C S K hC1 hC hS hK=>?_;simp (disch:=first|omega|assumption) only [go_sem];refine hK ?_;clear hK hS hC hC1 K S C hf)|((first|refine zn ?_|refine ze ?_|refine zk ?_);with_reducible (constructor;repeat constructor);try refine zl ?_)))
     exact ⟨_,_,by omega,fun _ _ h=>h,i+1,_,_,rfl,rfl,by omega,hR'.mono fun i h=>⟨h.1,h.2.mono (by omega)⟩⟩
   ·(repeat (first|(refine ah rfl rfl ?_)|(refine aj rfl rfl ?_)|(refine af nmd [] hng (by kernel_rfl) fun hf C S K hC1 hC hS hK=>?_;simp (disch:=first|omega|assumption) only [go_sem,n1,n2,n3,decide_true,decide_false,ne_eq,not_true_eq_false,not_false_eq_true];refine hK ?_;clear hK hS hC hC1 K S C hf)|((first|refine zn ?_|refine ze ?_|refine zk ?_);with_reducible (constructor;repeat constructor);try refine zl ?_)))
    have hP:=fun (p:Oid) hq' hJ'=>XO q ((fun (c:Nat) (i:Oid)=>(J i∨Oid.under x.p i)∧Old x.p c i) (c+1+1)) _ _ F D acc1 M1 (by omega) (.int .i64 (0:Nat)) (.str pt) (.str pn) (.str po) (.list 6 (Pt.avs pw)) true pt p hq' hJ' (hR.mono fun i h=>⟨h.1,h.2.mono (by omega)⟩)
    have e:acc1++[(if true=true then 1 else 2,pt)]=(l.take (i+1)).flatMap (pcs vs args):=by rw [htk];rfl
    rw [e] at hP
    refine af nmd [] hng (by kernel_rfl) fun hf C S K hC1 hC hS hK=>?_;simp (disch:=first|omega|assumption) only [go_sem]
    refine hC _ _ _ (hP _ (bM _ _ hq) (fun i h=>h.2 _ _ (by omega))) hmem ?_ (fun _ _ h=>h.elim)
    rintro _ u ⟨rfl,⟨M2,hR2,hM2⟩,_⟩;have hM2:=hM2 _ hmem;generalize Mem.aF _ u=m2 at hM2 ⊢;simp (disch:=first|omega|assumption) only [go_sem];refine hK ?_;clear hK hS hC hC1 K S C hf
    refine e7 (e7 ?_)
    (try ((first|refine zn ?_|refine ze ?_|refine zk ?_);with_reducible (constructor;repeat constructor));try refine zl ?_)
    refine bq M2 hM2 ?_
    (repeat (first|(refine ah rfl rfl ?_)|(refine aj rfl rfl ?_)|(refine af nmd [] hng (by kernel_rfl) fun hf C S K hC1 hC hS hK=>?_;simp (disch:=first|omega|assumption) only [go_sem];refine hK ?_;clear hK hS hC hC1 K S C hf)|((first|refine zn ?_|refine ze ?_|refine zk ?_);with_reducible (constructor;repeat constructor);try refine zl ?_)))
    exact ⟨_,_,by omega,fun _ _ h=>h,i+1,_,M2,rfl,rfl,by omega,fin _ _ _ M2 (by omega) (by omega) hR2⟩
  ·simp only [Pt.kind] at hk1
   subst hk1
   have hv:=hv.resolve_right fun h=>absurd (h _ hm) (by simp only [Pt.kind];decide)
   have n1:(((1:Nat):Int)=1)=True:=eq_true rfl
   have hP:=fun (p:Oid) hp' hq' hJ'=>zM q ((fun (c:Nat) (i:Oid)=>(J i∨Oid.under x.p i)∧Old x.p c i) (c+1+1)) vs hv args (by omega) hj F D acc1 M1 (by omega) (.mk 1 pq pt pn po pw) rfl (.inr ⟨rfl,ho,hnn⟩) p hp' hq' hJ' (hR.mono fun i h=>⟨h.1,h.2.mono (by omega)⟩)
   rw [← htk] at hP
   (repeat (first|(refine ah rfl rfl ?_)|(refine aj rfl rfl ?_)|(refine af nmd [] hng (by kernel_rfl) fun hf C S K hC1 hC hS hK=>?_;simp (disch:=first|omega|assumption) only [go_sem,n1,decide_true,decide_false,ne_eq,not_true_eq_false,not_false_eq_true];refine hK ?_;clear hK hS hC hC1 K S C hf)|((first|refine zn ?_|refine ze ?_|refine zk ?_);with_reducible (constructor;repeat constructor);try refine zl ?_)))
   refine af nmd [] hng (by kernel_rfl) fun hf C S K hC1 hC hS hK=>?_;simp (disch:=first|omega|assumption) only [go_sem]
   refine hC _ _ _ (hP _ (aH rfl hp) (bM _ _ hq) (fun i h=>h.2 _ _ (by omega))) hmem ?_ (fun _ _ h=>h.elim)
   rintro _ u ⟨rfl,⟨M2,hR2,hM2⟩,_⟩;have hM2:=hM2 _ hmem;generalize Mem.aF _ u=m2 at hM2 ⊢;simp (disch:=first|omega|assumption) only [go_sem];refine hK ?_;clear hK hS hC hC1 K S C hf
   refine e7 (e7 ?_)
   (try ((first|refine zn ?_|refine ze ?_|refine zk ?_);with_reducible (constructor;repeat constructor));try refine zl ?_)
   refine bq M2 hM2 ?_
   (repeat (first|(refine ah rfl rfl ?_)|(refine aj rfl rfl ?_)|(refine af nmd [] hng (by kernel_rfl) fun hf C S K hC1 hC hS hK=>?_;simp (disch:=first|omega|assumption) only [go_sem];refine hK ?_;clear hK hS hC hC1 K S C hf)|((first|refine zn ?_|refine ze ?_|refine zk ?_);with_reducible (constructor;repeat constructor);try refine zl ?_)))
   exact ⟨_,_,by omega,fun _ _ h=>h,i+1,_,M2,rfl,rfl,by omega,fin _ _ _ M2 (by omega) (by omega) hR2⟩
 ·obtain rfl:i=l.length:=by omega
  have hI:¬ (l.length:Int) < l.length:=by omega
  rw [List.take_length] at hR
  (repeat (first|(refine ah rfl rfl ?_)|(refine aj rfl rfl ?_)|(refine af nmd [] hng (by kernel_rfl) fun hf C S K hC1 hC hS hK=>?_;simp (disch:=first|omega|assumption) only [go_sem,hI,decide_true,decide_false,ne_eq,not_true_eq_false,not_false_eq_true];refine hK ?_;clear hK hS hC hC1 K S C hf)|((first|refine zn ?_|refine ze ?_|refine zk ?_);with_reducible (constructor;repeat constructor);try refine zl ?_)))
  exact br (bA (.tuple []) rfl ⟨rfl,hM.leaves (hR.mono fun i h=>h.1)⟩ (b7 hR.func))
end Go.Proofs.YtlfeacmbhldjcaaGreatDoor
namespace Go.Ab
theorem Dr {P:Program} [Laid P] {x:Ctx} {n:Nat} {Q:AX→AS→Prop} {id:Nat} {o1 o2:Oper} {k:FuncId} {ys:Array Operand} {ts:Array TypeId} {fr:List (Nat × AV)} {m:Mem} {c t:Nat} {ds:List AD} (hng:Fit P x)
  (hrd:x.rd=none) (ho1:o1.op = .makeFunc (.func k) #[] ys) (hd1:o1.dst=some t) (hg1:o1.guard=none) (ho2:o2.op = .defer ⟨.value (.tmp t),#[],ts⟩) (hd2:o2.dst=none) (hg2:o2.guard=none) (hok:dS n P.globals.size #[o1,o2] o1=true) (ht:(Nat.blt t n)=true)
  (h:Q .normal ⟨(t,.fn (.func k) [] (ys.toList.map (evA fr)))::fr,m,c+1,.call (.func k) (ys.toList.map (evA fr)) []::ds⟩):T P x n (.region id #[o1,o2] false) ⟨fr,m,c,ds⟩ Q:=by
 intro g a w hr
 have ht:t < n:=by simpa using ht
 refine wpIn_region ?_
 have hop:=(RR.of hr).operands hng.1 hok (f':=F fr) (fun _ _=>rfl)
 have hcap:VRs g (ys.toList.map (evA fr)) (ys.map a.eval):=VRs.map fun t ht=>hop t (by
  have:t ∈ ys:=by simpa using ht
  simp [Op.operands,ho1,this])
 have hrun1:(execOp a.eval o1).run P w = .ok (.value (.func (.func k) #[] (ys.map a.eval))) w:=by
  simp [execOp,ho1,Instr.makeFunc]
 have hw1:∀ y,Region.wanted o1 y=true:=fun y=>by simp [Region.wanted,hg1]
 have hw2:∀ y,Region.wanted o2 y=true:=fun y=>by simp [Region.wanted,hg2]
 have hfn:VR g (.fn (.func k) [] (ys.toList.map (evA fr))) (.func (.func k) #[] (ys.map a.eval)):=.fn _ _ _ _ _ rfl hcap.1 (fun j hj=>absurd hj (Nat.not_lt_zero _)) hcap.2
 have hro:(Fc x.rd).round=none:=hrd
 show wpOpsIn (Fc x.rd) 0 P #[o1,o2] _ [0,1] a w
 simp only [wpOpsIn,List.getElem?_toArray,List.getElem?_cons_zero,hw1,if_true]
 refine ⟨fun _ _=>trivial,?_⟩
 rw [hro,Oper.semAt_none,hrun1,Oper.uponIn_value,hd1]
 have h1:=(RR.of hr).put (Gh.le_refl g) hr.mr (some t) hfn
 have hev:(a.put (some t) (.func (.func k) #[] (ys.map a.eval))).eval (.tmp t) = .func (.func k) #[] (ys.map a.eval):=by
  simp only [Act.eval]
  rw [lH (by rw [hr.tm];exact ht),if_pos rfl]
 have hrun2:(execOp (a.put (some t) (.func (.func k) #[] (ys.map a.eval))).eval o2).run P w = .ok (.defer ⟨.fn (.func k) (ys.map a.eval),#[]⟩) w:=by
  simp [execOp,ho2,resolve,hev,Deferred.ofValue]
 have h2o:([o1,o2]:List Oper)[1]? = some o2:=rfl
 simp only [h2o,hw2,if_true]
 refine ⟨fun _ _=>trivial,?_⟩
 rw [hro,Oper.semAt_none,hrun2,Oper.uponIn_defer,hd2]
 rw [← kK] at h1
 exact ⟨g,.normal,⟨(t,.fn (.func k) [] (ys.toList.map (evA fr)))::fr,m,c+1,.call (.func k) (ys.toList.map (evA fr)) []::ds⟩,⟨h1.mr,h1.tm,.cons (.call _ _ _ _ _ hcap ⟨rfl,fun j hj=>absurd hj (Nat.not_lt_zero _)⟩) h1.df,h1.fr,fun i hi=>hr.young i (hi.mono (Nat.le_succ _))⟩,trivial,h⟩
theorem Ds {P:Program} [Laid P] {x:Ctx} {n:Nat} {Q:AX→AS→Prop} {ks:List Pc} {id:Nat} {o1 o2:Oper} {k:FuncId} {ys:Array Operand} {ts:Array TypeId} {fr:List (Nat × AV)} {m:Mem} {c t:Nat} {ds:List AD} (hng:Fit P x)
  (hrd:x.rd=none) (ho1:o1.op = .makeFunc (.func k) #[] ys) (hd1:o1.dst=some t) (hg1:o1.guard=none) (ho2:o2.op = .defer ⟨.value (.tmp t),#[],ts⟩) (hd2:o2.dst=none) (hg2:o2.guard=none) (hok:dS n P.globals.size #[o1,o2] o1=true) (ht:(Nat.blt t n)=true)
  (h:after P x n Q ks .normal ⟨(t,.fn (.func k) [] (ys.toList.map (evA fr)))::fr,m,c+1,.call (.func k) (ys.toList.map (evA fr)) []::ds⟩):T P x n (.region id #[o1,o2] false) ⟨fr,m,c,ds⟩ (after P x n Q ks):=Dr hng hrd ho1 hd1 hg1 ho2 hd2 hg2 hok ht h
end Go.Ab
namespace Go.Proofs.YtlfeacmbhldjcaaGreatDoor
open Go Go.Ab
set_option maxRecDepth 20000
set_option maxHeartbeats 4000000
theorem XQ (a b c:Oid) (p:Oid):CW Tryz.prog 73 [.ptr a 0,.ptr b 0,.ptr c 0] (Oid.under p) [] [] (fun _ _=>False):=by
 refine CY (n:=12) (id:=0) (a:=4) (b:=3) Tryz.func73 rfl rfl (by decide) rfl rfl rfl rfl rfl rfl rfl rfl rfl rfl (fun x hp hrd hng=>?_) (fun pv u h=>h.elim)
 (repeat (first|(refine ah rfl rfl ?_)|(refine aj rfl rfl ?_)|(refine af nmd [] hng (by kernel_rfl) fun hf C S K hC1 hC hS hK=>?_;simp (disch:=first|omega|assumption) only [go_sem];refine hK ?_;clear hK hS hC hC1 K S C hf)|((first|refine zn ?_|refine ze ?_|refine zk ?_);with_reducible (constructor;repeat constructor);try refine zl ?_)))
 exact br ⟨rfl,fun i o h=>h⟩
def ahC (p:Oid) (A B F:AV) (acc:List (Nat × Str)) (v:AV) (u:List (Oid × Option ar)):Prop :=
 ∃ q M',v = .tuple [.ptr q 0,.int .i64 0]∧Oid.under p q∧ER q (Oid.under p) A B F .nilSl acc M'∧(∀ m:Mem,∀ e,e ∈ M'→(m.aF u) e.1=some e.2)∧∀ e,e ∈ u→Oid.under p e.1
theorem Dt (vs:List Vr) (args:List Str) (hal:args.length≤20) (hj:(Lib.join args [32]).length≤1000000000) (F:AV) (l:List Pt) (hv:vs.length≤1∨∀ p,p ∈ l→p.kind=0) (hl:l.length≤500) (hs:∀ p,p ∈ l→oN p) (p:Oid) (hp:p.mono=false) :
  aX Tryz.prog 31 [.list 6 (Pt.avs l),.agg [(.list 4 (vs.map Vr.av)),(.list 1 (args.map AV.str)),F],.nilSl] (Oid.under p) [] (ahC p (.list 4 (vs.map Vr.av)) (.list 1 (args.map AV.str)) F (l.flatMap (pcs vs args))) (fun _ _=>False):=by
 refine kr (n:=17) (rs:=[.cell 6 76,.cell 7 43]) Tryz.func31 rfl rfl (by decide) rfl rfl rfl ?_
 rintro x rfl hrd hng
 (try ((first|refine zn ?_|refine ze ?_|refine zk ?_);with_reducible (constructor;repeat constructor));try refine zl ?_)
 refine af nmd [] hng (by kernel_rfl) fun hf C S K hC1 hC hS hK=>?_;simp (disch:=first|omega|assumption) only [go_sem]
 refine hK ?_;clear hK hS hC hC1 K S C hf
 (try ((first|refine zn ?_|refine ze ?_|refine zk ?_);with_reducible (constructor;repeat constructor));try refine zl ?_)
 refine Ds hng hrd rfl rfl rfl rfl rfl rfl (by kernel_rfl) rfl (show after _ _ _ _ _ _ ⟨_,_,_,[.call (.func 73) [.ptr (.sub 0 0 x.p) 0,.ptr (.sub 0 1 x.p) 0,.ptr (.sub 0 2 x.p) 0] []]⟩ from ?_)
 (try ((first|refine zn ?_|refine ze ?_|refine zk ?_);with_reducible (constructor;repeat constructor));try refine zl ?_)
 refine af nmd [] hng (by kernel_rfl) fun hf C S K hC1 hC hS hK=>?_;simp (disch:=first|omega|assumption) only [go_sem]
 refine hK ?_;clear hK hS hC hC1 K S C hf
 (try ((first|refine zn ?_|refine ze ?_|refine zk ?_);with_reducible (constructor;repeat constructor));try refine zl ?_)
 have hR0:ER (.sub 2 3 x.p) (fun _=>False) (.list 4 (vs.map Vr.av)) (.list 1 (args.map AV.str)) F .nilSl [] [(.sub 2 3 x.p,.cells [(.list 4 (vs.map Vr.av)),(.list 1 (args.map AV.str)),F,.nilSl,.nilSl])]:=.inl ⟨rfl,rfl⟩
 have hrun:=fun (p:Oid) hp' hq'=>afJ (.sub 2 3 x.p) (fun _=>False) vs args hal hj F .nilSl l hv hl hs _ p hp' hq' (fun _ h=>h.elim) hR0
 have nu3:∀ j,¬ Oid.under (.sub 3 2 x.p) (.sub 0 j x.p):=fun j h=>by
  have:=Oid.cE h (Oid.az _) rfl
  injection this with e1 _ _
  exact absurd e1 (by decide)
 have nq3:∀ j,¬ Oid.sub 0 j x.p = .sub 2 3 x.p:=fun j e=>by injection e with e1 _ _;exact absurd e1 (by decide)
 have hmem:∀ e,e ∈ [(Oid.sub 2 3 x.p,ar.cells [(.list 4 (vs.map Vr.av)),(.list 1 (args.map AV.str)),F,.nilSl,.nilSl])]→Mem.of [(Oid.sub 0 0 x.p,ar.cells [(.list 4 (vs.map Vr.av)),(.list 1 (args.map AV.str)),F]),(Oid.sub 0 1 x.p,ar.cells [.ptr (.sub 2 3 x.p) 0]),(Oid.sub 0 2 x.p,ar.cells [.int .i64 0]),(Oid.sub 2 3 x.p,ar.cells [(.list 4 (vs.map Vr.av)),(.list 1 (args.map AV.str)),F,.nilSl,.nilSl])] e.1=some e.2:=fun e he=>by
  rw [List.mem_singleton.1 he,Mem.ae,if_neg (Ne.symm (nq3 0)),Mem.ae,if_neg (Ne.symm (nq3 1)),Mem.ae,if_neg (Ne.symm (nq3 2)),Mem.ae,if_pos rfl]
 refine af nmd [] hng (by kernel_rfl) fun hf C S K hC1 hC hS hK=>?_;simp (disch:=first|omega|assumption) only [go_sem]
 refine hC _ _ _ (hrun _ (aH rfl hp) (fun h=>by have:=Oid.cE h (Oid.az _) rfl;injection this with e1 _ _;exact absurd e1 (by decide))) hmem ?_ (fun _ _ h=>h.elim)
 rintro _ u ⟨rfl,hL⟩
 have hk:=fun j=>hL.same (m:=Mem.of [(Oid.sub 0 0 x.p,ar.cells [(.list 4 (vs.map Vr.av)),(.list 1 (args.map AV.str)),F]),(Oid.sub 0 1 x.p,ar.cells [.ptr (.sub 2 3 x.p) 0]),(Oid.sub 0 2 x.p,ar.cells [.int .i64 0]),(Oid.sub 2 3 x.p,ar.cells [(.list 4 (vs.map Vr.av)),(.list 1 (args.map AV.str)),F,.nilSl,.nilSl])]) (i:=.sub 0 j x.p) (nq3 j) (fun h=>h) (nu3 j)
 have k1:=hk 1
 have k2:=hk 2
 rw [Mem.ae,if_neg (by simp),Mem.ae,if_pos rfl] at k1
 rw [Mem.ae,if_neg (by simp),Mem.ae,if_neg (by simp),Mem.ae,if_pos rfl] at k2
 obtain ⟨⟨M2,hR2,hM2⟩,_⟩:=hL
 have hM2:=hM2 _ hmem
 clear hk
 generalize Mem.aF _ u=m2 at hM2 k1 k2 ⊢
 simp (disch:=first|omega|assumption) only [go_sem]
 refine hK ?_;clear hK hS hC hC1 K S C hf
 (try ((first|refine zn ?_|refine ze ?_|refine zk ?_);with_reducible (constructor;repeat constructor));try refine zl ?_)
 refine bq ((Oid.sub 0 1 x.p,ar.cells [.ptr (.sub 2 3 x.p) 0])::(Oid.sub 0 2 x.p,ar.cells [.int .i64 0])::M2) (fun e he=>by
  rcases List.mem_cons.1 he with rfl|he
  ·exact k1
  ·rcases List.mem_cons.1 he with rfl|he
   ·exact k2
   ·exact hM2 e he) ?_
 refine af nmd [] hng (by kernel_rfl) fun hf C S K hC1 hC hS hK=>?_;simp (disch:=first|omega|assumption) only [go_sem]
 refine hK ?_;clear hK hS hC hC1 K S C hf
 have hfn:=b7 hR2.func
 have hU:∀ i,Oid.under (.sub 3 2 x.p) i→Oid.under x.p i:=fun i h=>Oid.ay h
 have haw:∀ j,∀ e,e ∈ M2→¬ e.1 = .sub 0 j x.p:=fun j=>hR2.qa (nq3 j) (fun h=>h.elim (fun h=>h) (nu3 j))
 (try ((first|refine zn ?_|refine ze ?_|refine zk ?_);with_reducible (constructor;repeat constructor));try refine zl ?_)
 refine aC ?_
 simp only [Yc,jr]
 refine ⟨_,[],[],_,rfl,XQ _ _ _ _,(fun _ h=>by cases h),?_⟩
 refine ⟨_,nI [] M2,by simp (disch:=first|omega|assumption) only [go_sem],⟨.sub 2 3 x.p,M2,rfl,Oid.ay (Oid.az _),hR2.mono fun i h=>h.elim (fun h=>h.elim) (hU i),fun m e he=>p7 hR2.func m e he,fun e he=>by
  rw [nI,List.map_nil,List.nil_append] at he
  obtain ⟨a,ha,rfl⟩:=List.mem_map.1 he
  rcases hR2.names a ha with h|h|h
  ·simp only;rw [h];exact Oid.ay (Oid.az _)
  ·exact h.elim
  ·exact hU _ h⟩,fun i o h=>?_⟩
 have h1:=sx h
 have h2:=hfn _ h1
 simp only at h2
 rw [Mem.aF,Mem.ae,if_neg (haw 1 _ h1),Mem.ae,if_neg (haw 2 _ h1)]
 exact h2
end Go.Proofs.YtlfeacmbhldjcaaGreatDoor
namespace Go.Proofs.YtlfeacmbhldjcaaGreatDoor
open Go Go.Ab
set_option maxRecDepth 20000
set_option maxHeartbeats 4000000
structure kJ (acc:List (Nat × Str)):Prop where
 n:acc.length≤10000
 k:∀ e,e ∈ acc→e.1≤3
 s:(acc.map fun e=>e.2.length).sum≤50000
theorem kJ.le {acc:List (Nat × Str)} (h:kJ acc):∀ e,e ∈ acc→e.2.length≤50000:=fun e he=>by
 have:∀ (L:List (Nat × Str)),e ∈ L→e.2.length≤(L.map fun e=>e.2.length).sum:=by
  intro L
  induction L with
  | nil=>intro h;cases h
  | cons a L ih =>
   intro h
   simp only [List.map_cons,List.sum_cons]
   rcases List.mem_cons.1 h with rfl|h
   ·omega
   ·have:=ih h;omega
 have:=this acc he
 have:=h.s
 omega
theorem oO (pat:Bool) (e:Nat × Str):(cI pat e).length≤2 * e.2.length+1:=by
 have h1:=gj e.2
 have h2:=mW e.2
 unfold cI
 repeat' split
 all_goals first|omega|(simp only [List.length_singleton];omega)
theorem kJ.mY {acc:List (Nat × Str)} (h:kJ acc) (pat:Bool) (p:Oid) (hp:p.mono=false):aA Tryz.prog 35 [.list 2 (acc.map bI),.bool pat] (Oid.under p) ⟨[],.str (acc.flatMap (cI pat)),[]⟩:=by
 have hb:∀ L:List (Nat × Str),(L.flatMap (cI pat)).length≤2 * (L.map fun e=>e.2.length).sum+L.length:=by
  intro L
  induction L with
  | nil=>exact Nat.zero_le _
  | cons a L ih =>
   have:=oO pat a
   simp only [List.flatMap_cons,List.length_append,List.map_cons,List.sum_cons,List.length_cons]
   omega
 have htk:∀ i,((acc.take i).map fun e=>e.2.length).sum≤(acc.map fun e=>e.2.length).sum:=fun i=>by
  conv=>rhs;rw [← List.take_append_drop i acc,List.map_append,List.sum_append]
  omega
 refine tQ acc pat (by have:=h.n;omega) (fun e he=>⟨h.k e he,by have:=h.le e he;omega⟩) (fun i=>?_) (fun e he=>?_) p hp
 ·have h1:=hb (acc.take i)
  have h2:=htk i
  have h3:=h.s
  have h4:=h.n
  have h5:(acc.take i).length≤acc.length:=by rw [List.length_take];omega
  omega
 ·have h1:=oO pat e
  have h2:=h.le e he
  omega
theorem ahd {P:Program} [Laid P] {x:Ctx} {n:Nat} {a:Code} {Q:AX→AS→Prop} {fr:List (Nat × AV)} {m:Mem} {c:Nat} {ds:List AD} {q:Oid} {J:Oid→Prop} {A B F D:AV} {acc:List (Nat × Str)} {M:List (Oid × ar)} (h:ER q J A B F D acc M) (hm:∀ e,e ∈ M→m e.1=some e.2) (hfr:∀ i sz xs,frz i sz xs fr=fr)
  (i2:Oid) (o2:ar) (hi2:m i2=some o2) (hq2:¬ i2=q) (hJ2:¬ J i2) (hT:T P x n a ⟨fr,Mem.of [(i2,o2),(q,.cells [A,B,F,D,.list 2 (acc.map bI)])],c,ds⟩ Q):T P x n a ⟨fr,m,c,ds⟩ Q:=by
 rcases h with ⟨rfl,rfl⟩|⟨r,hr,_,hrq,rfl⟩
 ·refine dN q _ [A,B,F,D,.list 2 []] (hm _ (List.mem_cons_self ..)) (.cons (.refl _) (.cons (.refl _) (.cons (.refl _) (.cons (.refl _) (.cons (.bO 2) .nil))))) ?_
  refine bq [(i2,o2),(q,.cells [A,B,F,D,.list 2 []])] (fun e he=>?_) hT
  simp only [List.mem_cons,List.not_mem_nil,or_false] at he
  rcases he with rfl|rfl
  ·simp only [Mem.set,if_neg hq2];exact hi2
  ·simp only [Mem.set,if_true]
 ·have h2r:¬ i2=r:=fun e=>hJ2 (e ▸ hr)
  refine yU r q 2 (acc.map bI) _ [A,B,F,D,.list 2 (acc.map bI)] (hm _ (List.mem_cons_of_mem _ (List.mem_cons_self ..))) (hm _ (List.mem_cons_self ..)) (Ne.symm hrq) (.keep (.keep (.keep (.keep (.fS (List.length_map _).symm .nil))))) ?_
  rw [hfr]
  refine bq [(i2,o2),(q,.cells [A,B,F,D,.list 2 (acc.map bI)])] (fun e he=>?_) hT
  simp only [List.mem_cons,List.not_mem_nil,or_false] at he
  rcases he with rfl|rfl
  ·simp only [Mem.set,if_neg hq2,if_neg h2r];exact hi2
  ·simp only [Mem.set,if_true]
theorem vh (vs:List Vr) (args:List Str) (hal:args.length≤20) (hj:(Lib.join args [32]).length≤1000000000) (st:Int) (l:List Pt) (hv:vs.length≤1∨∀ p,p ∈ l→p.kind=0) (hl:l.length≤500) (hs:∀ p,p ∈ l→oN p) (hb:kJ (l.flatMap (pcs vs args))) (pat:Bool) (p:Oid) (hp:p.mono=false) :
  aA Tryz.prog 14 [.list 6 (Pt.avs l),.agg [(.list 4 (vs.map Vr.av)),(.list 1 (args.map AV.str)),(.int .i64 st)],.nilSl,.bool pat] (Oid.under p) ⟨[],.tuple [.str ((l.flatMap (pcs vs args)).flatMap (cI pat)),.agg [(.list 4 (vs.map Vr.av)),(.list 1 (args.map AV.str)),(.int .i64 st)],.int .i64 0],[]⟩:=by
 have hA:=fun p hp=>Dt vs args hal hj (.int .i64 st) l hv hl hs p hp
 have hJn:=fun p hp=>hb.mY pat p hp
 generalize l.flatMap (pcs vs args)=acc at hA hJn
 refine aN (n:=31) (rs:=[.tmp 8,.cell 9 42,.tmp 10]) Tryz.func14 rfl rfl (by decide) rfl rfl rfl ?_;rintro x rfl hrd hng
 (try ((first|refine zn ?_|refine ze ?_|refine zk ?_);with_reducible (constructor;repeat constructor));try refine zl ?_)
 refine af nmd [] hng (by kernel_rfl) fun hf C S K hC1 hC hS hK=>?_;simp (disch:=first|omega|assumption) only [go_sem]
 refine hK ?_;clear hK hS hC hC1 K S C hf
 (try ((first|refine zn ?_|refine ze ?_|refine zk ?_);with_reducible (constructor;repeat constructor));try refine zl ?_)
 refine af nmd [] hng (by kernel_rfl) fun hf C S K hC1 hC hS hK=>?_;simp (disch:=first|omega|assumption) only [go_sem]
 refine hC _ _ _ (hA _ (aH rfl hp)) (fun _ h=>by cases h) ?_ (fun _ _ h=>h.elim)
 rintro _ u ⟨q,M2,rfl,hq,hR2,hM2,hu⟩
 have hM2:=hM2 (Mem.of [(.sub 0 0 x.p,.cells [(.list 4 (vs.map Vr.av)),(.list 1 (args.map AV.str)),(.int .i64 st)]),(.sub 0 2 x.p,.cells [.nilSl,.nilSl,.int .i64 0])])
 have nu3:∀ j k,¬ Oid.under (.sub 1 k x.p) (.sub 0 j x.p):=fun j k h=>by
  have:=Oid.cE h (Oid.az _) rfl
  injection this with e1 _ _
  exact absurd e1 (by decide)
 have k2:((Mem.of [(.sub 0 0 x.p,.cells [(.list 4 (vs.map Vr.av)),(.list 1 (args.map AV.str)),(.int .i64 st)]),(.sub 0 2 x.p,.cells [.nilSl,.nilSl,.int .i64 0])]).aF u) (.sub 0 2 x.p)=some (.cells [.nilSl,.nilSl,.int .i64 0]):=by
  rw [aU fun e he k=>nu3 2 _ (k ▸ hu e he),Mem.ae,if_neg (by simp),Mem.ae,if_pos rfl]
 generalize Mem.aF _ u=m2 at hM2 k2 ⊢
 simp (disch:=first|omega|assumption) only [go_sem]
 refine hK ?_;clear hK hS hC hC1 K S C hf
 (try ((first|refine zn ?_|refine ze ?_|refine zk ?_);with_reducible (constructor;repeat constructor));try refine zl ?_)
 have hq2:¬ Oid.sub 0 2 x.p=q:=fun e=>nu3 2 3 (e ▸ hq)
 refine ahd hR2 hM2 (fun _ _ _=>rfl) (.sub 0 2 x.p) _ k2 hq2 (nu3 2 _) ?_
 refine bE nmd [] [(5,9)] mixed hng (by kernel_rfl) [8,9,10] fun hf C S K hC hS hK=>?_;simp (disch:=first|omega|assumption) only [go_sem,hq2,Ne.symm hq2,if_false]
 refine hC _ (hJn _ (aH rfl hp)) (fun _ h=>by cases h) ?_
 simp (disch:=first|omega|assumption) only [go_sem,hq2,Ne.symm hq2,if_false]
 (first|refine hK (aK rfl) ?_|refine hK (by simp (disch:=first|omega|assumption) only [go_sem,List.reverse_cons,List.reverse_nil,ne_eq,not_false_eq_true,implies_true]) ?_);clear hK hS hC K S C hf
 (try ((first|refine zn ?_|refine ze ?_|refine zk ?_);with_reducible (constructor;repeat constructor));try refine zl ?_)
 exact aC (aE (by simp (disch:=first|omega|assumption) only [go_sem]))
end Go.Proofs.YtlfeacmbhldjcaaGreatDoor
namespace Go.Proofs.YtlfeacmbhldjcaaGreatDoor
open Go Go.Ab
set_option maxRecDepth 20000
set_option maxHeartbeats 4000000
theorem ua (r:Oid) (vs:List Vr) (hv:vs.length≤1) (args:List Str) (hal:args.length≤20) (hj:(Lib.join args [32]).length≤1000000000) (st:Int) (l:List Pt) (hl:l.length≤500) (hs:∀ p,p ∈ l→oN p) (L:List Str) (hL:iJ (l.flatMap (pcs vs args)) (Dm vs)=L) (hb:kJ (l.flatMap (pcs vs args)))
  (hn:L.length≤1000000) (hf1:∀ f,f ∈ L→f.length≤1000000∧iv f=false) (p:Oid) (hp:p.mono=false) :
  aA Tryz.prog 13 [.ptr r 0,.list 6 (Pt.avs l),.agg [(.list 4 (vs.map Vr.av)),(.list 1 (args.map AV.str)),.int .i64 st],.nilSl] (Oid.under p) ⟨[],.tuple [.list 1 ((L.map b8).map AV.str),.agg [(.list 4 (vs.map Vr.av)),(.list 1 (args.map AV.str)),.int .i64 st],.int .i64 0],[]⟩:=by
 have hA:=fun p hp=>Dt vs args hal hj (.int .i64 st) l (.inl hv) hl hs p hp
 have hF:=fun p hp=>tT (l.flatMap (pcs vs args)) (Dm vs) hb.n hb.k hb.s p hp
 rw [hL] at hF
 generalize l.flatMap (pcs vs args)=acc at hA hF
 refine aN (n:=49) (rs:=[.tmp 8,.cell 9 42,.tmp 10]) Tryz.func13 rfl rfl (by decide) rfl rfl rfl ?_;rintro x rfl hrd hng
 (try ((first|refine zn ?_|refine ze ?_|refine zk ?_);with_reducible (constructor;repeat constructor));try refine zl ?_)
 refine af nmd [] hng (by kernel_rfl) fun hf C S K hC1 hC hS hK=>?_;simp (disch:=first|omega|assumption) only [go_sem]
 refine hK ?_;clear hK hS hC hC1 K S C hf
 (try ((first|refine zn ?_|refine ze ?_|refine zk ?_);with_reducible (constructor;repeat constructor));try refine zl ?_)
 refine af nmd [] hng (by kernel_rfl) fun hf C S K hC1 hC hS hK=>?_;simp (disch:=first|omega|assumption) only [go_sem]
 refine hC _ _ _ (hA _ (aH rfl hp)) (fun _ h=>by cases h) ?_ (fun _ _ h=>h.elim)
 rintro _ u ⟨q,M2,rfl,hq,hR2,hM2,hu⟩
 have hM2:=hM2 (Mem.of [(.sub 0 0 x.p,.cells [(.list 4 (vs.map Vr.av)),(.list 1 (args.map AV.str)),.int .i64 st]),(Oid.sub 0 2 x.p,ar.cells [.nilSl,.nilSl,.int .i64 0])])
 have nu3:∀ j k,¬ Oid.under (.sub 1 k x.p) (.sub 0 j x.p):=fun j k h=>by
  have:=Oid.cE h (Oid.az _) rfl
  injection this with e1 _ _
  exact absurd e1 (by decide)
 have k2:((Mem.of [(.sub 0 0 x.p,.cells [(.list 4 (vs.map Vr.av)),(.list 1 (args.map AV.str)),.int .i64 st]),(Oid.sub 0 2 x.p,ar.cells [.nilSl,.nilSl,.int .i64 0])]).aF u) (.sub 0 2 x.p)=some (.cells [.nilSl,.nilSl,.int .i64 0]):=by
  rw [aU fun e he k=>nu3 2 _ (k ▸ hu e he),Mem.ae,if_neg (by simp),Mem.ae,if_pos rfl]
 generalize Mem.aF _ u=m2 at hM2 k2 ⊢
 simp (disch:=first|omega|assumption) only [go_sem]
 refine hK ?_;clear hK hS hC hC1 K S C hf
 (try ((first|refine zn ?_|refine ze ?_|refine zk ?_);with_reducible (constructor;repeat constructor));try refine zl ?_)
 refine af nmd [] hng (by kernel_rfl) fun hf C S K hC1 hC hS hK=>?_;simp (disch:=first|omega|assumption) only [go_sem,decide_true,decide_false,ne_eq,not_true_eq_false,not_false_eq_true]
 refine hK ?_;clear hK hS hC hC1 K S C hf
 (try ((first|refine zn ?_|refine ze ?_|refine zk ?_);with_reducible (constructor;repeat constructor));try refine zl ?_)
 have hq2:¬ Oid.sub 0 2 x.p=q:=fun e=>nu3 2 3 (e ▸ hq)
 refine ahd hR2 hM2 (fun _ _ _=>rfl) (.sub 0 2 x.p) _ k2 hq2 (nu3 2 _) ?_
 have nq:∀ c j,1 < c→¬ Oid.under (.sub c j x.p) q:=fun c j hc h=>by
  have:=Oid.cE h hq rfl
  injection this with e1 _ _
  omega
 (repeat (first|(refine ah rfl rfl ?_)|(refine aj rfl rfl ?_)|(refine af nmd [] hng (by kernel_rfl) fun hf C S K hC1 hC hS hK=>?_;simp (disch:=first|omega|assumption) only [go_sem];refine hK ?_;clear hK hS hC hC1 K S C hf)|((first|refine zn ?_|refine ze ?_|refine zk ?_);with_reducible (constructor;repeat constructor);try refine zl ?_)))
 refine bE nmd [] [(3,5)] mixed hng (by kernel_rfl) [0,8,9,11,31,32,33] fun hf C S K hC hS hK=>?_;simp (disch:=first|omega|assumption) only [go_sem,hq2,Ne.symm hq2,if_false]
 refine hC _ (XN vs hv q _ _ _ _ _ (nq _ _ (by omega))) (fun e he=>by rw [List.mem_singleton.1 he,Mem.ae,if_neg (Ne.symm hq2),Mem.ae,if_pos rfl]) ?_
 simp (disch:=first|omega|assumption) only [go_sem,hq2,Ne.symm hq2,if_false]
 refine hC _ (hF _ (aH rfl hp)) (fun _ h=>by cases h) ?_
 simp (disch:=first|omega|assumption) only [go_sem,hq2,Ne.symm hq2,if_false,List.length_map]
 (first|refine hK (aK rfl) ?_|refine hK (by simp (disch:=first|omega|assumption) only [go_sem,List.reverse_cons,List.reverse_nil,ne_eq,not_false_eq_true,implies_true]) ?_);clear hK hS hC K S C hf
 (try ((first|refine zn ?_|refine ze ?_|refine zk ?_);with_reducible (constructor;repeat constructor));try refine zl ?_)
 refine bX 8 1 rfl ?_
 refine a6 [0,8,9,11,31,32,33] (fun k s'=>∃ (i c:Nat),s' = ⟨[(0,.ptr r 0),(8,.list 1 (((L.take i).map b8).map AV.str)),(9,.ptr (.sub 0 2 x.p) 0),(11,.ptr q 0),(31,.list 1 (L.map AV.str)),(32,.int .i64 L.length),(33,.int .i64 i)],Mem.of [(Oid.sub 0 2 x.p,ar.cells [.nilSl,.nilSl,.int .i64 0]),(q,ar.cells [(.list 4 (vs.map Vr.av)),(.list 1 (args.map AV.str)),.int .i64 st,.nilSl,.list 2 (acc.map bI)])],c,[]⟩∧k=L.length - i∧i≤L.length) _ ⟨0,_,rfl,rfl,Nat.zero_le _⟩ ?_
 rintro k s' ⟨i,c,rfl,rfl,hi⟩
 by_cases hlt:i < L.length
 ·have hI:(i:Int) < L.length:=by omega
  have hlx:i < (L.map AV.str).length:=by rw [List.length_map];exact hlt
  have hg:(L.map AV.str).getD i .undef = .str (L.getD i []):=by
   rw [List.getD_eq_getElem?_getD,List.getElem?_map,List.getElem?_eq_getElem hlt,List.getD_eq_getElem?_getD,List.getElem?_eq_getElem hlt];rfl
  have htk:L.take (i+1)=L.take i++[L.getD i []]:=by
   rw [List.take_add_one,List.getElem?_eq_getElem hlt,List.getD_eq_getElem?_getD,List.getElem?_eq_getElem hlt];rfl
  have hfb:=hf1 (L.getD i []) (by rw [List.getD_eq_getElem?_getD,List.getElem?_eq_getElem hlt];exact List.getElem_mem hlt)
  generalize L.getD i []=f at hg htk hfb
  have hG:=fun p=>tU r f (by omega) hfb.2 p
  have hCc:∀ p,aA Tryz.prog 34 [.list 1 [.list 1 (((L.take i).map b8).map AV.str),.list 1 [.str (b8 f)]]] (Oid.under p) ⟨[],.list 1 (((L.take (i+1)).map b8).map AV.str),[]⟩:=fun p=>by
   have h:=zG [(L.take i).map b8,[b8 f]] (by simp [gS]) (by simp [gS];omega) (by simp) p
   rw [htk]
   simpa using h
  (repeat (first|(refine ah rfl rfl ?_)|(refine aj rfl rfl ?_)|(refine af nmd [] hng (by kernel_rfl) fun hf C S K hC1 hC hS hK=>?_;simp (disch:=first|omega|assumption) only [go_sem,hI,hlx,hg,List.length_map,decide_true,decide_false,ne_eq,not_true_eq_false,not_false_eq_true];refine hK ?_;clear hK hS hC hC1 K S C hf)|((first|refine zn ?_|refine ze ?_|refine zk ?_);with_reducible (constructor;repeat constructor);try refine zl ?_)))
  refine af nmd [] hng (by kernel_rfl) fun hf C S K hC1 hC hS hK=>?_;simp (disch:=first|omega|assumption) only [go_sem]
  refine hC1 _ (hG _) (fun _ h=>by cases h) ?_
  simp (disch:=first|omega|assumption) only [go_sem]
  refine hC1 _ (hCc _) (fun _ h=>by cases h) ?_
  simp (disch:=first|omega|assumption) only [go_sem]
  refine hK ?_;clear hK hS hC hC1 K S C hf
  (repeat (first|(refine ah rfl rfl ?_)|(refine aj rfl rfl ?_)|(refine af nmd [] hng (by kernel_rfl) fun hf C S K hC1 hC hS hK=>?_;simp (disch:=first|omega|assumption) only [go_sem];refine hK ?_;clear hK hS hC hC1 K S C hf)|((first|refine zn ?_|refine ze ?_|refine zk ?_);with_reducible (constructor;repeat constructor);try refine zl ?_)))
  exact ⟨_,_,by omega,fun _ _ h=>h,i+1,_,rfl,rfl,by omega⟩
 ·obtain rfl:i=L.length:=by omega
  have hI:¬ (L.length:Int) < L.length:=by omega
  rw [List.take_length]
  (repeat (first|(refine ah rfl rfl ?_)|(refine aj rfl rfl ?_)|(refine af nmd [] hng (by kernel_rfl) fun hf C S K hC1 hC hS hK=>?_;simp (disch:=first|omega|assumption) only [go_sem,hI,decide_true,decide_false,ne_eq,not_true_eq_false,not_false_eq_true];refine hK ?_;clear hK hS hC hC1 K S C hf)|((first|refine zn ?_|refine ze ?_|refine zk ?_);with_reducible (constructor;repeat constructor);try refine zl ?_)))
  refine bE nmd [] [] mixed hng (by kernel_rfl) [8,9,10] fun hf C S K hC hS hK=>?_;simp (disch:=first|omega|assumption) only [go_sem,hq2,Ne.symm hq2,if_false]
  (first|refine hK (aK rfl) ?_|refine hK (by simp (disch:=first|omega|assumption) only [go_sem,List.reverse_cons,List.reverse_nil,ne_eq,not_false_eq_true,implies_true]) ?_);clear hK hS hC K S C hf
  (try ((first|refine zn ?_|refine ze ?_|refine zk ?_);with_reducible (constructor;repeat constructor));try refine zl ?_)
  exact aC (aE (by simp (disch:=first|omega|assumption) only [go_sem]))
end Go.Proofs.YtlfeacmbhldjcaaGreatDoor
namespace Go.Proofs.YtlfeacmbhldjcaaGreatDoor
open Go Go.Ab
set_option maxRecDepth 20000
set_option maxHeartbeats 4000000
theorem Du (vs:List Vr) (hv:vs.length≤1000) (p:Oid):aA Tryz.prog 36 [(.list 4 (vs.map Vr.av)),(.list 4 (vs.map Vr.av))] (Oid.under p) ⟨[],.bool true,[]⟩:=by
 refine aN (n:=26) (rs:=[.tmp 4]) Tryz.func36 rfl rfl (by decide) rfl rfl rfl ?_;rintro x rfl hrd hng
 (repeat (first|(refine ah rfl rfl ?_)|(refine aj rfl rfl ?_)|(refine af nmd [] hng (by kernel_rfl) fun hf C S K hC1 hC hS hK=>?_;simp (disch:=first|omega|assumption) only [go_sem,List.length_map,decide_true,decide_false,ne_eq,not_true_eq_false,not_false_eq_true];refine hK ?_;clear hK hS hC hC1 K S C hf)|((first|refine zn ?_|refine ze ?_|refine zk ?_);with_reducible (constructor;repeat constructor);try refine zl ?_)))
 refine a6 [0,1,5] (fun k s'=>∃ (i c:Nat),k=vs.length - i∧i≤vs.length∧s' = ⟨[(0,(.list 4 (vs.map Vr.av))),(1,(.list 4 (vs.map Vr.av))),(5,.int .i64 i)],Mem.of [],c,[]⟩) _ ⟨0,_,rfl,Nat.zero_le _,rfl⟩ ?_
 rintro k s' ⟨i,c,rfl,hi,rfl⟩
 by_cases hlt:i < vs.length
 ·have hI:(i:Int) < vs.length:=by omega
  have hlx:i < (vs.map Vr.av).length:=by rw [List.length_map];exact hlt
  have hg:(vs.map Vr.av).getD i .undef=(vs.getD i vr0).av:=by
   rw [List.getD_eq_getElem?_getD,List.getElem?_map,List.getElem?_eq_getElem hlt,List.getD_eq_getElem?_getD,List.getElem?_eq_getElem hlt];rfl
  generalize vs.getD i vr0=v at hg
  obtain ⟨vn,vv,ve,vo⟩:=v
  rw [Vr.av] at hg
  (repeat (first|(refine ah rfl rfl ?_)|(refine aj rfl rfl ?_)|(refine af nmd [] hng (by kernel_rfl) fun hf C S K hC1 hC hS hK=>?_;simp (disch:=first|omega|assumption) only [go_sem,hI,hlx,hg,List.length_map,decide_true,decide_false,ne_eq,not_true_eq_false,not_false_eq_true];refine hK ?_;clear hK hS hC hC1 K S C hf)|((first|refine zn ?_|refine ze ?_|refine zk ?_);with_reducible (constructor;repeat constructor);try refine zl ?_)))
  refine dE [0,1,5,25] (fun s'=>∃ c':Nat,s' = ⟨[(0,(.list 4 (vs.map Vr.av))),(1,(.list 4 (vs.map Vr.av))),(5,.int .i64 i),(25,.bool false)],Mem.of [],c',[]⟩) ?_ ?_
  ·refine bE nmd [] [] mixed hng (by kernel_rfl) [0,1,5,25] fun hf C S K hC hS hK=>?_;simp (disch:=first|omega|assumption) only [go_sem,hlx,hg,decide_true,decide_false,ne_eq,not_true_eq_false,not_false_eq_true]
   (first|refine hK (aK rfl) ?_|refine hK (by simp (disch:=first|omega|assumption) only [go_sem,List.reverse_cons,List.reverse_nil,ne_eq,not_false_eq_true,implies_true]) ?_);clear hK hS hC K S C hf
   exact aR ⟨_,rfl⟩
  rintro s' ⟨c',rfl⟩
  (repeat (first|(refine ah rfl rfl ?_)|(refine aj rfl rfl ?_)|(refine af nmd [] hng (by kernel_rfl) fun hf C S K hC1 hC hS hK=>?_;simp (disch:=first|omega|assumption) only [go_sem];refine hK ?_;clear hK hS hC hC1 K S C hf)|((first|refine zn ?_|refine ze ?_|refine zk ?_);with_reducible (constructor;repeat constructor);try refine zl ?_)))
  exact ⟨_,_,by omega,fun _ _ h=>h,i+1,_,rfl,by omega,rfl⟩
 ·obtain rfl:i=vs.length:=by omega
  have hI:¬ (vs.length:Int) < vs.length:=by omega
  (repeat (first|(refine ah rfl rfl ?_)|(refine aj rfl rfl ?_)|(refine af nmd [] hng (by kernel_rfl) fun hf C S K hC1 hC hS hK=>?_;simp (disch:=first|omega|assumption) only [go_sem,hI,List.length_map,decide_true,decide_false,ne_eq,not_true_eq_false,not_false_eq_true];refine hK ?_;clear hK hS hC hC1 K S C hf)|((first|refine zn ?_|refine ze ?_|refine zk ?_);with_reducible (constructor;repeat constructor);try refine zl ?_)))
  exact aC (aE (by simp (disch:=first|omega|assumption) only [go_sem]))
theorem qb (vs:List Vr) (hv:vs.length≤1000) (args:List Str) (hal:args.length≤1000) (st:Int) (p:Oid) (hp:p.mono=false):aA Tryz.prog 15 [.agg [(.list 4 (vs.map Vr.av)),(.list 1 (args.map AV.str)),.int .i64 st],.agg [(.list 4 (vs.map Vr.av)),(.list 1 (args.map AV.str)),.int .i64 st]] (Oid.under p) ⟨[],.bool true,[]⟩:=by
 have hV:=fun p=>Du vs hv p
 have hS1:=fun p=>uD args args (by omega) (by omega) p
 rw [decide_eq_true rfl] at hS1
 refine aN (n:=24) (rs:=[.tmp 4]) Tryz.func15 rfl rfl (by decide) rfl rfl rfl ?_;rintro x rfl hrd hng
 (try ((first|refine zn ?_|refine ze ?_|refine zk ?_);with_reducible (constructor;repeat constructor));try refine zl ?_)
 refine af nmd [] hng (by kernel_rfl) fun hf C S K hC1 hC hS hK=>?_;simp (disch:=first|omega|assumption) only [go_sem]
 refine hK ?_;clear hK hS hC hC1 K S C hf
 (try ((first|refine zn ?_|refine ze ?_|refine zk ?_);with_reducible (constructor;repeat constructor));try refine zl ?_)
 refine af nmd [(5,10),(12,17)] hng (by kernel_rfl) fun hf C S K hC1 hC hS hK=>?_;simp (disch:=first|omega|assumption) only [go_sem]
 (repeat' (first|(refine bm (fun hv=>?_) (fun hv=>?_)<;>(try simp only [zb1,zb2,zb3,zb4,zb5] at hv)<;>simp (disch:=first|omega|assumption) only [go_sem,hv,decide_true,decide_false,ne_eq,not_true_eq_false,not_false_eq_true])|(refine hC1 _ (hV _) (by simp (disch:=first|omega|assumption) only [go_sem,decide_true,decide_false,ne_eq,not_true_eq_false,not_false_eq_true]) ?_;simp (disch:=first|omega|assumption) only [go_sem,decide_true,decide_false,ne_eq,not_true_eq_false,not_false_eq_true])|(refine hC1 _ (hS1 _) (by simp (disch:=first|omega|assumption) only [go_sem,decide_true,decide_false,ne_eq,not_true_eq_false,not_false_eq_true]) ?_;simp (disch:=first|omega|assumption) only [go_sem,decide_true,decide_false,ne_eq,not_true_eq_false,not_false_eq_true])|(refine hK ?_;clear hK hS hC hC1 K S C hf)))
 (repeat (first|(refine ah rfl rfl ?_)|(refine aj rfl rfl ?_)|(refine af nmd [] hng (by kernel_rfl) fun hf C S K hC1 hC hS hK=>?_;simp (disch:=first|omega|assumption) only [go_sem];refine hK ?_;clear hK hS hC hC1 K S C hf)|((first|refine zn ?_|refine ze ?_|refine zk ?_);with_reducible (constructor;repeat constructor);try refine zl ?_)))
 exact aC (aE (by simp (disch:=first|omega|assumption) only [go_sem]))
end Go.Proofs.YtlfeacmbhldjcaaGreatDoor
namespace Go.Proofs.YtlfeacmbhldjcaaGreatDoor
open Go Go.Ab
set_option maxRecDepth 20000
set_option maxHeartbeats 4000000
theorem ahe:kv [97,36,120,34,36,120,34]=([Pt.mk 0 false [97] [] [] [],Pt.mk 1 false [] [120] [] [],Pt.mk 1 true [] [120] [] []],0):=by kernel_rfl
theorem kJ.mk' {acc:List (Nat × Str)} (h1:acc.length≤100) (h2:∀ e,e ∈ acc→e.1≤3∧e.2.length≤500):kJ acc:=by
 refine ⟨by omega,fun e he=>(h2 e he).1,?_⟩
 have:∀ L:List (Nat × Str),(∀ e,e ∈ L→e.1≤3∧e.2.length≤500)→(L.map fun e=>e.2.length).sum≤500 * L.length:=by
  intro L
  induction L with
  | nil=>intro _;exact Nat.zero_le _
  | cons a L ih =>
   intro h
   have h1:=(h a (List.mem_cons_self ..)).2
   have h2:=ih fun e he=>h e (List.mem_cons_of_mem _ he)
   simp only [List.map_cons,List.sum_cons,List.length_cons]
   omega
 have:=this acc h2
 omega
theorem Dv:∀ p,p ∈ [Pt.mk 0 false [97] [] [] [],Pt.mk 1 false [] [120] [] [],Pt.mk 1 true [] [120] [] []]→oN p:=by
 intro p hp
 simp only [List.mem_cons,List.not_mem_nil,or_false] at hp
 rcases hp with rfl|rfl|rfl
 ·exact .inl rfl
 ·exact .inr ⟨rfl,rfl,.inr ⟨120,rfl,rfl⟩⟩
 ·exact .inr ⟨rfl,rfl,.inr ⟨120,rfl,rfl⟩⟩
theorem ahf:([Pt.mk 0 false [97] [] [] [],Pt.mk 1 false [] [120] [] [],Pt.mk 1 true [] [120] [] []]).flatMap (pcs [Vr.mk [120] [49,32,50] false false] [])=[(0,[97]),(2,[49,32,50]),(1,[49,32,50])]:=by kernel_rfl
theorem Dw:([Pt.mk 0 false [97] [] [] [],Pt.mk 1 false [] [120] [] [],Pt.mk 1 true [] [120] [] []]).flatMap (pcs [] [])=[(0,[97]),(2,[]),(1,[])]:=by kernel_rfl
theorem ahD:iJ (([Pt.mk 0 false [97] [] [] [],Pt.mk 1 false [] [120] [] [],Pt.mk 1 true [] [120] [] []]).flatMap (pcs [Vr.mk [120] [49,32,50] false false] [])) (Dm [Vr.mk [120] [49,32,50] false false])=[[97,49],[50,92,49,92,32,92,50]]:=by kernel_rfl
theorem ahE:([[97,49],[50,92,49,92,32,92,50]].map b8).map AV.str=[.str [97,49],.str [50,49,32,50]]:=by kernel_rfl
theorem ahF:[(0,[97]),(2,[]),(1,[])].flatMap (cI false)=[97]:=by kernel_rfl
theorem ub (p:Oid) (hp:p.mono=false):aA Tryz.prog 11 [] (Oid.under p) ⟨[],.bool true,[]⟩:=by
 have hPa:=fun p=>rZ [97,36,120,34,36,120,34] (by decide) p
 rw [ahe] at hPa
 have hS1:=fun p=>uD [[97,49],[50,49,32,50]] [[97,49],[50,49,32,50]] (by decide) (by decide) p
 rw [decide_eq_true rfl] at hS1
 refine aN (n:=52) (rs:=[.tmp 0]) Tryz.func11 rfl rfl (by decide) rfl rfl rfl ?_;rintro x rfl hrd hng
 obtain ⟨y,u,s1,s2,s3,s4,hy,hu,hm,hB⟩:=afF 0 (.sub 1 0 x.p) (aH rfl hp)
 (try ((first|refine zn ?_|refine ze ?_|refine zk ?_);with_reducible (constructor;repeat constructor));try refine zl ?_)
 refine af nmd [] hng (by kernel_rfl) fun hf C S K hC1 hC hS hK=>?_;simp (disch:=first|omega|assumption) only [go_sem]
 refine hK ?_;clear hK hS hC hC1 K S C hf
 (try ((first|refine zn ?_|refine ze ?_|refine zk ?_);with_reducible (constructor;repeat constructor));try refine zl ?_)
 refine af nmd [] hng (by kernel_rfl) fun hf C S K hC1 hC hS hK=>?_;simp (disch:=first|omega|assumption) only [go_sem]
 refine hC1 _ hB (fun _ h=>by cases h) ?_
 simp (disch:=first|omega|assumption) only [go_sem]
 refine hK ?_;clear hK hS hC hC1 K S C hf
 (try ((first|refine zn ?_|refine ze ?_|refine zk ?_);with_reducible (constructor;repeat constructor));try refine zl ?_)
 refine bq [(y,.cells [.ptr s1 0,.ptr s2 0,.ptr s3 0,.ptr s4 0])] (fun e he=>by rw [List.mem_singleton.1 he,← Mem.bt];exact hm _) ?_
 (repeat (first|(refine ah rfl rfl ?_)|(refine aj rfl rfl ?_)|(refine af nmd [] hng (by kernel_rfl) fun hf C S K hC1 hC hS hK=>?_;simp (disch:=first|omega|assumption) only [go_sem];(repeat ((first|refine hC1 _ (hPa _) (by simp (disch:=first|omega|assumption) only [go_sem]) ?_);simp (disch:=first|omega|assumption) only [go_sem]));refine hK ?_;clear hK hS hC hC1 K S C hf)|((first|refine zn ?_|refine ze ?_|refine zk ?_);with_reducible (constructor;repeat constructor);try refine zl ?_)))
 have ny:∀ c j,1 < c→¬ .sub c j x.p=y:=fun c j hc h=>by
  rw [← h] at hy
  have:=Oid.cE hy (Oid.az _) rfl
  injection this with e1 _ _
  omega
 have hF:=fun p hp=>(ua s2 [Vr.mk [120] [49,32,50] false false] (by decide) [] (by decide) (by decide) 0 [Pt.mk 0 false [97] [] [] [],Pt.mk 1 false [] [120] [] [],Pt.mk 1 true [] [120] [] []] (by decide) Dv _ ahD (by rw [ahf];exact kJ.mk' (by decide) (by decide)) (by decide) (by decide +kernel) p hp).pj (.cons (.refl _) (.cons (.refl _) (.cons (fc.agg (.cons (.refl _) (.cons (fc.nil 1) (.cons (.refl _) .nil)))) (.cons (.refl _) .nil))))
 rw [ahE] at hF
 have hT:=fun p hp=>(vh [] [] (by decide) (by decide) 3 [Pt.mk 0 false [97] [] [] [],Pt.mk 1 false [] [120] [] [],Pt.mk 1 true [] [120] [] []] (.inl (by decide)) (by decide) Dv (by rw [Dw];exact kJ.mk' (by decide) (by decide)) false p hp).pj (.cons (.refl _) (.cons (fc.agg (.cons (fc.nil 4) (.cons (fc.nil 1) (.cons (.refl _) .nil)))) (.cons (.refl _) (.cons (.refl _) .nil))))
 rw [Dw,ahF] at hT
 have n4:=ny 4 13 (by omega)
 have n4':=Ne.symm n4
 refine af nmd [] hng (by kernel_rfl) fun hf C S K hC1 hC hS hK=>?_;simp (disch:=first|omega|assumption) only [go_sem]
 refine hC1 _ (hF _ (aH rfl hp)) (fun _ h=>by cases h) ?_
 simp (disch:=first|omega|assumption) only [go_sem,n4,n4',if_false]
 refine hK ?_;clear hK hS hC hC1 K S C hf
 (try ((first|refine zn ?_|refine ze ?_|refine zk ?_);with_reducible (constructor;repeat constructor));try refine zl ?_)
 have n5:=ny 5 7 (by omega)
 have n5':=Ne.symm n5
 refine af nmd [] hng (by kernel_rfl) fun hf C S K hC1 hC hS hK=>?_;simp (disch:=first|omega|assumption) only [go_sem]
 refine hC1 _ (hT _ (aH rfl hp)) (fun _ h=>by cases h) ?_
 simp (disch:=first|omega|assumption) only [go_sem,n4,n4',n5,n5',if_false]
 refine hK ?_;clear hK hS hC hC1 K S C hf
 (try ((first|refine zn ?_|refine ze ?_|refine zk ?_);with_reducible (constructor;repeat constructor));try refine zl ?_)
 refine af nmd [(2,39),(7,44),(11,48)] hng (by kernel_rfl) fun hf C S K hC1 hC hS hK=>?_;simp (disch:=first|omega|assumption) only [go_sem]
 (repeat' (first|(refine bm (fun hv=>?_) (fun hv=>?_)<;>(try simp only [zb1,zb2,zb3,zb4,zb5] at hv)<;>simp (disch:=first|omega|assumption) only [go_sem,hv,decide_true,decide_false,ne_eq,not_true_eq_false,not_false_eq_true])|(refine hC1 _ (hS1 _) (by simp (disch:=first|omega|assumption) only [go_sem,decide_true,decide_false,ne_eq,not_true_eq_false,not_false_eq_true]) ?_;simp (disch:=first|omega|assumption) only [go_sem,decide_true,decide_false,ne_eq,not_true_eq_false,not_false_eq_true])|(refine hK ?_;clear hK hS hC hC1 K S C hf)))
 (repeat (first|(refine ah rfl rfl ?_)|(refine aj rfl rfl ?_)|(refine af nmd [] hng (by kernel_rfl) fun hf C S K hC1 hC hS hK=>?_;simp (disch:=first|omega|assumption) only [go_sem];refine hK ?_;clear hK hS hC hC1 K S C hf)|((first|refine zn ?_|refine ze ?_|refine zk ?_);with_reducible (constructor;repeat constructor);try refine zl ?_)))
 exact aC (aE (by simp (disch:=first|omega|assumption) only [go_sem]))
end Go.Proofs.YtlfeacmbhldjcaaGreatDoor
namespace Go.Proofs.YtlfeacmbhldjcaaGreatDoor
open Go Go.Ab
set_option maxRecDepth 20000
set_option maxHeartbeats 4000000
def sE (l:List Str):Nat:=(l.map List.length).sum
theorem XR (l:List Str) (n:Nat) (h:∀ a,a ∈ l→a.length≤n):sE l≤n * l.length:=by
 induction l with
 | nil=>exact Nat.zero_le _
 | cons a l ih =>
  have h1:=h a (List.mem_cons_self ..)
  have h2:=ih fun e he=>h e (List.mem_cons_of_mem _ he)
  simp only [sE,List.map_cons,List.sum_cons,List.length_cons,Nat.mul_add,Nat.mul_one] at h2 ⊢
  omega
theorem oP:∀ (l:List Str),(Lib.join l [32]).length≤sE l+l.length
 | []=>by simp [Lib.join]
 | [a]=>by simp [Lib.join,sE]
 | a::b::l=>by
  have h:=oP (b::l)
  have e:sE (a::b::l)=a.length+sE (b::l):=by simp [sE]
  have e2:(Lib.join (a::b::l) [32]).length=a.length+1+(Lib.join (b::l) [32]).length:=by simp [Lib.join];omega
  rw [e2,e,List.length_cons]
  omega
theorem kJ.one {k:Nat} {s:Str} (hk:k≤3) (hs:s.length≤500):kJ [(k,s)]:=kJ.mk' (Nat.le_of_ble_eq_true rfl) (fun e he=>by rw [List.mem_singleton.1 he];exact ⟨hk,hs⟩)
section
variable (s:Str) (hs:s.length≤200) (args:List Str) (hal:args.length≤10) (ht:sE args≤200)
include hs hal ht
end
end Go.Proofs.YtlfeacmbhldjcaaGreatDoor
namespace Go.Proofs.YtlfeacmbhldjcaaGreatDoor
open Go Go.Ab
set_option maxRecDepth 20000
set_option maxHeartbeats 8000000
end Go.Proofs.YtlfeacmbhldjcaaGreatDoor
namespace Go.Proofs.YtlfeacmbhldjcaaGreatDoor
open Go Go.Ab
set_option maxRecDepth 20000
set_option maxHeartbeats 4000000
def wL:List Str:=[[],[97],[49,32,50],[32,98,32],[97,58,98],[42],[97,92,42],[120,10,121],[58,58]]
def txB (b:UInt8):Str:=wL.getD (b.toNat % 9) []
theorem Dx (o:Oid) (b:UInt8) (p:Oid) (ho:¬ Oid.under p o):aA Tryz.prog 38 [.int .u8 b.toNat,.ptr o 0] (Oid.under p) ⟨[(o,.cells [.list 1 (wL.map AV.str)])],.str (txB b),[]⟩:=by
 have hlx:b.toNat % 9 < (wL.map AV.str).length:=by rw [List.length_map];exact Nat.mod_lt _ (by decide)
 have hg:(wL.map AV.str).getD (b.toNat % 9) .undef = .str (txB b):=by
  have h:b.toNat % 9 < wL.length:=Nat.mod_lt _ (by decide)
  rw [txB,List.getD_eq_getElem?_getD,List.getElem?_map,List.getElem?_eq_getElem h,List.getD_eq_getElem?_getD,List.getElem?_eq_getElem h];rfl
 have hm9:((b.toNat:Int)).tmod 9=((b.toNat % 9:Nat):Int):=by rw [Int.tmod_eq_emod_of_nonneg (by omega)];omega
 generalize txB b=t at hg
 generalize b.toNat % 9=k at hlx hg hm9
 generalize wL.map AV.str=L at hlx hg ⊢
 refine aN (n:=10) (rs:=[.tmp 3]) Tryz.func38 rfl rfl (by decide) rfl rfl rfl ?_;rintro x rfl hrd hng
 (try ((first|refine zn ?_|refine ze ?_|refine zk ?_);with_reducible (constructor;repeat constructor));try refine zl ?_)
 refine af nmd [] hng (by kernel_rfl) fun hf C S K hC1 hC hS hK=>?_;simp (disch:=first|omega|assumption) only [go_sem]
 refine hK ?_;clear hK hS hC hC1 K S C hf
 (try ((first|refine zn ?_|refine ze ?_|refine zk ?_);with_reducible (constructor;repeat constructor));try refine zl ?_)
 refine af nmd [] hng (by kernel_rfl) fun hf C S K hC1 hC hS hK=>?_;simp (disch:=first|omega|assumption) only [go_sem,hm9,hlx,hg,decide_true,decide_false,ne_eq,not_true_eq_false,not_false_eq_true]
 refine hK ?_;clear hK hS hC hC1 K S C hf
 (try ((first|refine zn ?_|refine ze ?_|refine zk ?_);with_reducible (constructor;repeat constructor));try refine zl ?_)
 exact aC (aP (by simp (disch:=first|omega|assumption) only [go_sem]) (fun _ h=>by cases h) (fun q' h' _=>by rw [List.mem_singleton.1 h',Mem.ae,if_pos rfl]))
theorem afK:wL.map AV.str=[AV.str [],AV.str [97],AV.str [49,32,50],AV.str [32,98,32],AV.str [97,58,98],AV.str [42],AV.str [97,92,42],AV.str [120,10,121],AV.str [58,58]]:=rfl
structure Sd where
 a:UInt8
 b:UInt8
 c:UInt8
 d:UInt8
 e:UInt8
def Sd.av (x:Sd):AV:=.agg [.int .u8 x.a.toNat,.int .u8 x.b.toNat,.int .u8 x.c.toNat,.int .u8 x.d.toNat,.int .u8 x.e.toNat]
def ahg:List Str:=[[32,9,10],[58],[],[58,32]]
def Dy (x:Sd):List Vr:=[⟨[73,70,83],ahg.getD (x.e.toNat % 4) [],false,false⟩,⟨[120],txB x.a,false,decide ((200:Int) < x.d.toNat)⟩,⟨[121],txB x.b,false,false⟩]
def lb (x:Sd):List Vr:=if (x.e.toNat:Int) ≥ 128 then (Dy x).drop 1 else Dy x
def iw (x:Sd):List Str:=[txB x.a,txB x.b].take (x.c.toNat % 3)
def vi (x:Sd):AV:=.agg [.list 4 ((lb x).map Vr.av),.list 1 ((iw x).map AV.str),.int .i64 x.d.toNat]
theorem zN (s:Sd) (p:Oid) (hp:p.mono=false):aA Tryz.prog 17 [s.av] (Oid.under p) ⟨[],vi s,[]⟩:=by
 obtain ⟨sa,sb,sc,sd,se⟩:=s
 have hM:=fun o b p ho=>Dx o b p ho
 rw [afK] at hM
 have e3:((sc.toNat:Int)).tmod 3=((sc.toNat % 3:Nat):Int):=by rw [Int.tmod_eq_emod_of_nonneg (by omega)];omega
 have e4:((se.toNat:Int)).tmod 4=((se.toNat % 4:Nat):Int):=by rw [Int.tmod_eq_emod_of_nonneg (by omega)];omega
 rw [Sd.av]
 refine aN (n:=60) (rs:=[.cell 2 42]) Tryz.func17 rfl rfl (by decide) rfl rfl rfl ?_;rintro x rfl hrd hng
 (try ((first|refine zn ?_|refine ze ?_|refine zk ?_);with_reducible (constructor;repeat constructor));try refine zl ?_)
 refine af nmd [] hng (by kernel_rfl) fun hf C S K hC1 hC hS hK=>?_;simp (disch:=first|omega|assumption) only [go_sem]
 refine hK ?_;clear hK hS hC hC1 K S C hf
 (try ((first|refine zn ?_|refine ze ?_|refine zk ?_);with_reducible (constructor;repeat constructor));try refine zl ?_)
 refine af nmd [] hng (by kernel_rfl) fun hf C S K hC1 hC hS hK=>?_;simp (disch:=first|omega|assumption) only [go_sem]
 refine hK ?_;clear hK hS hC hC1 K S C hf
 (try ((first|refine zn ?_|refine ze ?_|refine zk ?_);with_reducible (constructor;repeat constructor));try refine zl ?_)
 refine af nmd [] hng (by kernel_rfl) fun hf C S K hC1 hC hS hK=>?_;simp (disch:=first|omega|assumption) only [go_sem]
 refine hK ?_;clear hK hS hC hC1 K S C hf
 (try ((first|refine zn ?_|refine ze ?_|refine zk ?_);with_reducible (constructor;repeat constructor));try refine zl ?_)
 have nu:∀ c j,1 < c→¬ Oid.under (.sub c j x.p) (.sub 1 1 x.p):=fun c j hc h=>by
  have:=Oid.cE h (Oid.az _) rfl
  injection this with e1 _ _
  omega
 refine bE nmd [] [(1,6),(6,9),(1,10),(1,11),(1,13),(5,13),(6,13),(9,13),(10,13),(11,13)] mixed hng (by kernel_rfl) [1,2,3,4,5] fun hf C S K hC hS hK=>?_;simp (disch:=first|omega|assumption) only [go_sem]
 refine hC _ (hM _ _ _ (nu _ _ (by omega))) (by simp (disch:=first|omega|assumption) only [go_sem]) ?_
 simp (disch:=first|omega|assumption) only [go_sem]
 refine hC _ (hM _ _ _ (nu _ _ (by omega))) (by simp (disch:=first|omega|assumption) only [go_sem]) ?_
 simp (disch:=first|omega|assumption) only [go_sem]
 (first|refine hK (aK rfl) ?_|refine hK (by simp (disch:=first|omega|assumption) only [go_sem,List.reverse_cons,List.reverse_nil,ne_eq,not_false_eq_true,implies_true]) ?_);clear hK hS hC K S C hf
 (try ((first|refine zn ?_|refine ze ?_|refine zk ?_);with_reducible (constructor;repeat constructor));try refine zl ?_)
 refine af nmd [] hng (by kernel_rfl) fun hf C S K hC1 hC hS hK=>?_;simp (disch:=first|omega|assumption) only [go_sem,e3,decide_true,decide_false,ne_eq,not_true_eq_false,not_false_eq_true]
 refine hK ?_;clear hK hS hC hC1 K S C hf
 (try ((first|refine zn ?_|refine ze ?_|refine zk ?_);with_reducible (constructor;repeat constructor));try refine zl ?_)
 have hk4:se.toNat % 4 < 4:=Nat.mod_lt _ (by decide)
 have hg4:[AV.str [32,9,10],AV.str [58],AV.str [],AV.str [58,32]].getD (se.toNat % 4) .undef = .str (ahg.getD (se.toNat % 4) []):=by
  generalize se.toNat % 4=k at hk4
  match k,hk4 with
  | 0,_=>rfl
  | 1,_=>rfl
  | 2,_=>rfl
  | 3,_=>rfl
 refine bE nmd [] [(0,2),(0,10),(0,11),(2,11),(6,11),(0,13),(11,13),(0,18),(11,18),(0,19),(2,19),(6,19),(13,19)] mixed hng (by kernel_rfl) [1,2,5] fun hf C S K hC hS hK=>?_;simp (disch:=first|omega|assumption) only [go_sem,e4,hk4,hg4,decide_true,decide_false,ne_eq,not_true_eq_false,not_false_eq_true]
 refine hC _ (hM _ _ _ (nu _ _ (by omega))) (by simp (disch:=first|omega|assumption) only [go_sem]) ?_
 simp (disch:=first|omega|assumption) only [go_sem]
 refine hC _ (hM _ _ _ (nu _ _ (by omega))) (by simp (disch:=first|omega|assumption) only [go_sem]) ?_
 simp (disch:=first|omega|assumption) only [go_sem]
 (first|refine hK (aK rfl) ?_|refine hK (by simp (disch:=first|omega|assumption) only [go_sem,List.reverse_cons,List.reverse_nil,ne_eq,not_false_eq_true,implies_true]) ?_);clear hK hS hC K S C hf
 (try ((first|refine zn ?_|refine ze ?_|refine zk ?_);with_reducible (constructor;repeat constructor));try refine zl ?_)
 have hA:(iw ⟨sa,sb,sc,sd,se⟩).map AV.str=List.take (sc.toNat % 3) [AV.str (txB sa),AV.str (txB sb)]:=by
  rw [iw,List.map_take];rfl
 by_cases hc:(se.toNat:Int) ≥ 128
 ·refine af nmd [] hng (by kernel_rfl) fun hf C S K hC1 hC hS hK=>?_;simp (disch:=first|omega|assumption) only [go_sem,hc,decide_true,decide_false,ne_eq,not_true_eq_false,not_false_eq_true]
  refine hK ?_;clear hK hS hC hC1 K S C hf
  (repeat (first|(refine ah rfl rfl ?_)|(refine aj rfl rfl ?_)|(refine af nmd [] hng (by kernel_rfl) fun hf C S K hC1 hC hS hK=>?_;simp (disch:=first|omega|assumption) only [go_sem];refine hK ?_;clear hK hS hC hC1 K S C hf)|((first|refine zn ?_|refine ze ?_|refine zk ?_);with_reducible (constructor;repeat constructor);try refine zl ?_)))
  exact aC (aE (by rw [vi,hA,lb,if_pos hc];simp (disch:=first|omega|assumption) only [go_sem];rfl))
 ·refine af nmd [] hng (by kernel_rfl) fun hf C S K hC1 hC hS hK=>?_;simp (disch:=first|omega|assumption) only [go_sem,hc,decide_true,decide_false,ne_eq,not_true_eq_false,not_false_eq_true]
  refine hK ?_;clear hK hS hC hC1 K S C hf
  (repeat (first|(refine ah rfl rfl ?_)|(refine aj rfl rfl ?_)|(refine af nmd [] hng (by kernel_rfl) fun hf C S K hC1 hC hS hK=>?_;simp (disch:=first|omega|assumption) only [go_sem];refine hK ?_;clear hK hS hC hC1 K S C hf)|((first|refine zn ?_|refine ze ?_|refine zk ?_);with_reducible (constructor;repeat constructor);try refine zl ?_)))
  exact aC (aE (by rw [vi,hA,lb,if_neg hc];simp (disch:=first|omega|assumption) only [go_sem];rfl))
end Go.Proofs.YtlfeacmbhldjcaaGreatDoor
