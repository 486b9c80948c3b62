/- A part of the proof: the texts Y12, Y13, Y14, Y15, Y16, Y17, Y18, Y19, Y20, Y21, Y22, Gro, Y36, Y34, Y35, Y37, Y38, Y39, Y40, Y41, Y42, Y43, Y44, Y46, Y47, one behind the other. -/
import Derived.Test.YtlfeacmbhldjcaaGreatDoorPEf
import Derived.Shelf.Spec.SlicesGrow
import Derived.Test.YtlfeacmbhldjcaaGreatDoorProg
set_option linter.unusedVariables false
set_option linter.unusedSimpArgs false
set_option linter.unusedSectionVars false
namespace Go.Proofs.YtlfeacmbhldjcaaGreatDoor
open Go Go.Ab
set_option maxRecDepth 20000
set_option maxHeartbeats 4000000
theorem cb {M:List (Oid × ar)} (hf:sB M):∀ e,e ∈ M→Mem.of M e.1=some e.2:=by
 have key:∀ (L:List (Oid × ar)),∀ e,e ∈ L→∃ e',e' ∈ L∧e'.1=e.1∧Mem.of L e.1=some e'.2:=by
  intro L
  induction L with
  | nil=>intro e he;cases he
  | cons a L ih =>
   intro e he
   by_cases h:e.1=a.1
   ·exact ⟨a,List.mem_cons_self ..,h.symm,by rw [Mem.ae,if_pos h]⟩
   ·rcases List.mem_cons.1 he with rfl|he
    ·exact absurd rfl h
    ·obtain ⟨e',k1,k2,k3⟩:=ih e he
     exact ⟨e',List.mem_cons_of_mem _ k1,k2,by rw [Mem.ae,if_neg h];exact k3⟩
 intro e he
 obtain ⟨e',k1,k2,k3⟩:=key M e he
 rw [k3,hf e' k1 e he k2]
theorem Rep.cons {q:Oid} {J:Oid→Prop} {ifs:Str} {S:Spl} {M:List (Oid × ar)} (h:Rep q J ifs S M):∃ ov X Y rest,M=(.ty 133 q,.cells [.str ifs,ov,X,Y,.bool S.b,.bool S.g])::rest:=by
 obtain ⟨ov,X,Y,ro,rf,_,_,rfl⟩:=h;exact ⟨_,_,_,_,rfl⟩
theorem Rep.gap {q:Oid} {J:Oid→Prop} {ifs:Str} {S:Spl} {ov X Y:AV} {b g:Bool} {rest:List (Oid × ar)} (h:Rep q J ifs S ((.ty 133 q,.cells [.str ifs,ov,X,Y,.bool b,.bool g])::rest)) (g':Bool):Rep q J ifs { S with g:=g' } ((.ty 133 q,.cells [.str ifs,ov,X,Y,.bool b,.bool g'])::rest):=by
 obtain ⟨ov',X',Y',ro,rf,hO,hF,e⟩:=h
 injection e with e1 e2
 injection e1 with _ e3
 injection e3 with e4
 simp only [List.cons.injEq,AV.bool.injEq,and_true,true_and] at e4
 obtain ⟨rfl,rfl,rfl,rfl,rfl⟩:=e4
 subst e2
 exact ⟨_,_,_,_,_,hO,hF,rfl⟩
theorem zy (q:Oid) (J:Oid→Prop) (ifs s:Str) (S:Spl) (M:List (Oid × ar)) (hs:s.length≤100000) (hf:S.fld.length≤100000000) (hn:S.out.length≤100000) (p:Oid) (hp:p.mono=false) (hq:¬ Oid.under p (.ty 133 q)) (hJ:∀ i,J i→¬ Oid.under p i) (hM:Rep q J ifs S M) :
  aX Tryz.prog 121 [.ptr (.ty 133 q) 0,.str s] (Oid.under p) M (fun v u=>v = .tuple []∧Leaves q (fun i=>J i∨Oid.under p i) ifs (s.foldl (splitB ifs) S) M u) (fun _ _=>False):=by
 refine ml (n:=56) (rs:=[]) Tryz.func121 rfl rfl (by decide) rfl rfl rfl ?_;rintro x rfl hrd hng
 (repeat (first|(refine ah rfl rfl ?_)|(refine aj rfl rfl ?_)|(refine af nmd [] hng (by kernel_rfl) fun hf C S K hC1 hC hS hK=>?_;simp (disch:=first|omega|assumption) only [go_sem];refine hK ?_;clear hK hS hC hC1 K S C hf)|((first|refine zn ?_|refine ze ?_|refine zk ?_);with_reducible (constructor;repeat constructor);try refine zl ?_)))
 have hR0:Rep q (fun i=>(J i∨Oid.under x.p i)∧Old x.p 1 i) ifs S M:=hM.mono fun i h=>⟨.inl h,fun c' j _ k=>hJ i h (Oid.ay k)⟩
 refine a6 [0,1,7,8] (fun k s'=>∃ (i c:Nat) (M1:List (Oid × ar)) (T:Spl),s' = ⟨[(0,.ptr (.ty 133 q) 0),(1,.str s),(7,.int .i64 s.length),(8,.int .i64 i)],Mem.of M1,c,[]⟩∧k=s.length - i∧i≤s.length ∧
  Rep q (fun i=>(J i∨Oid.under x.p i)∧Old x.p c i) ifs T M1∧T=(s.take i).foldl (splitB ifs) S∧T.fld.length≤100000000+2 * i∧T.out.length≤100000+i) _ ⟨0,_,M,S,rfl,rfl,Nat.zero_le _,hR0,rfl,by omega,by omega⟩ ?_
 rintro k s' ⟨i,c,M1,T0,rfl,rfl,hi,hR,hT,hb1,hb2⟩
 (repeat (first|(refine ah rfl rfl ?_)|(refine aj rfl rfl ?_)|(refine af nmd [] hng (by kernel_rfl) fun hf C S K hC1 hC hS hK=>?_;simp (disch:=first|omega|assumption) only [go_sem];refine hK ?_;clear hK hS hC hC1 K S C hf)|((first|refine zn ?_|refine ze ?_|refine zk ?_);with_reducible (constructor;repeat constructor);try refine zl ?_)))
 refine bD rfl rfl (fun hb=>?_) (fun hb=>?_)
 ·have hlt:i < s.length:=by omega
  have htk:s.take (i+1)=s.take i++[s.getD i 0]:=by
   rw [List.take_add_one,List.getElem?_eq_getElem hlt,List.getD_eq_getElem?_getD,List.getElem?_eq_getElem hlt];rfl
  have hsl:(s.take (i+1)).drop i=[s.getD i 0]:=by
   rw [htk,List.drop_append_of_le_length (by rw [List.length_take];omega),List.drop_of_length_le (by rw [List.length_take];omega)];rfl
  have hT':splitB ifs T0 (s.getD i 0)=(s.take (i+1)).foldl (splitB ifs) S:=by rw [htk,List.foldl_append,← hT];rfl
  generalize s.getD i 0=b at hsl hT'
  have hi1:i+1≤s.length:=hlt
  have hii:i≤i+1:=Nat.le_succ i
  have hc1:((i:Int)+1).toNat=i+1:=by omega
  have hA:=fun p hp=>kL [b] (by simp) p hp
  have hC1':=fun sp=>fE ifs b sp
  have hC2':=fun sp=>fE [32,9,10] b sp
  have hP:=sD b
  obtain ⟨out,fld,tb,tg⟩:=T0
  simp only at hb1 hb2
  unfold splitB hasB at hT'
  have hput:=fun (p:Oid) hq' hJ'=>vd q (fun i=>(J i∨Oid.under x.p i)∧Old x.p c i) ifs (gV [b]) ⟨out,fld,tb,tg⟩ M1 (by simp only;omega) p hq' hJ' hR
  have hend:=fun (p:Oid) hp' hq' hJ'=>tU q (fun i=>(J i∨Oid.under x.p i)∧Old x.p c i) ifs ⟨out,fld,tb,tg⟩ M1 (by simp only;omega) (by simp only;omega) p hp' hq' hJ' hR
  have hmem:=cb hR.func
  obtain ⟨ov,X,Y,rest,rfl⟩:=hR.cons
  simp only at hmem
  generalize decide (0≤Lib.indexByte ifs b)=a1 at hT' hC1'
  generalize decide (0≤Lib.indexByte [32,9,10] b)=a2 at hT' hC2'
  cases a1
  ·simp only [if_true] at hT'
   (repeat (first|(refine ah rfl rfl ?_)|(refine aj rfl rfl ?_)|(refine af nmd [] hng (by kernel_rfl) fun hf C S K hC1 hC hS hK=>?_;simp (disch:=first|omega|assumption) only [go_sem,hi1,hii,hsl,hc1];refine hK ?_;clear hK hS hC hC1 K S C hf)|((first|refine zn ?_|refine ze ?_|refine zk ?_);with_reducible (constructor;repeat constructor);try refine zl ?_)))
   refine af nmd [] hng (by kernel_rfl) fun hf C S K hC1 hC hS hK=>?_;simp (disch:=first|omega|assumption) only [go_sem]
   refine hC1 _ (hC1' _) (fun _ h=>by cases h) ?_
   simp (disch:=first|omega|assumption) only [go_sem]
   refine hK ?_;clear hK hS hC hC1 K S C hf
   (repeat (first|(refine ah rfl rfl ?_)|(refine aj rfl rfl ?_)|(refine af nmd [] hng (by kernel_rfl) fun hf C S K hC1 hC hS hK=>?_;simp (disch:=first|omega|assumption) only [go_sem];refine hK ?_;clear hK hS hC hC1 K S C hf)|((first|refine zn ?_|refine ze ?_|refine zk ?_);with_reducible (constructor;repeat constructor);try refine zl ?_)))
   refine af nmd [] hng (by kernel_rfl) fun hf C S K hC1 hC hS hK=>?_;simp (disch:=first|omega|assumption) only [go_sem]
   refine hC1 _ (hA _ (aH rfl hp)) (fun _ h=>by cases h) ?_
   simp (disch:=first|omega|assumption) only [go_sem]
   refine hC _ _ _ (hput _ (bP _ _ hq) (fun i h=>h.2 _ _ (by omega))) hmem ?_ (fun _ _ h=>h.elim)
   rintro _ u ⟨rfl,M2,hR2,hM2⟩
   have hM2:=hM2 _ hmem
   generalize (Mem.of ((.ty 133 q,ar.cells [AV.str ifs,ov,X,Y,AV.bool tb,AV.bool tg])::rest)).aF u=m2 at hM2 ⊢
   simp (disch:=first|omega|assumption) only [go_sem]
   refine hK ?_;clear hK hS hC hC1 K S C hf
   refine bp M2 hM2 ?_
   (repeat (first|(refine ah rfl rfl ?_)|(refine aj rfl rfl ?_)|(refine af nmd [] hng (by kernel_rfl) fun hf C S K hC1 hC hS hK=>?_;simp (disch:=first|omega|assumption) only [go_sem];refine hK ?_;clear hK hS hC hC1 K S C hf)|((first|refine zn ?_|refine ze ?_|refine zk ?_);with_reducible (constructor;repeat constructor);try refine zl ?_)))
   (repeat (first|(show Nat.beq _ _=false;rfl)|with_reducible constructor));(try refine zl ?_)
   (repeat (first|(refine ah rfl rfl ?_)|(refine aj rfl rfl ?_)|(refine af nmd [] hng (by kernel_rfl) fun hf C S K hC1 hC hS hK=>?_;simp (disch:=first|omega|assumption) only [go_sem];refine hK ?_;clear hK hS hC hC1 K S C hf)|((first|refine zn ?_|refine ze ?_|refine zk ?_);with_reducible (constructor;repeat constructor);try refine zl ?_)))
   exact ⟨_,_,by omega,fun _ _ h=>h,i+1,_,M2,_,rfl,rfl,by omega,hR2.mono (fun i h=>h.elim (fun h=>⟨h.1,h.2.mono (by omega)⟩) (fun h=>⟨.inr (Oid.ay h),(Old.made h).mono (by omega)⟩)),hT',by simp only [iR,List.length_append];omega,by simp only [iR];omega⟩
  ·simp only [reduceCtorEq,if_false] at hT'
   cases a2
   ·simp only [reduceCtorEq,if_false] at hT'
    (repeat (first|(refine ah rfl rfl ?_)|(refine aj rfl rfl ?_)|(refine af nmd [] hng (by kernel_rfl) fun hf C S K hC1 hC hS hK=>?_;simp (disch:=first|omega|assumption) only [go_sem,hi1,hii,hsl,hc1];refine hK ?_;clear hK hS hC hC1 K S C hf)|((first|refine zn ?_|refine ze ?_|refine zk ?_);with_reducible (constructor;repeat constructor);try refine zl ?_)))
    refine af nmd [] hng (by kernel_rfl) fun hf C S K hC1 hC hS hK=>?_;simp (disch:=first|omega|assumption) only [go_sem]
    refine hC1 _ (hC1' _) (fun _ h=>by cases h) ?_
    simp (disch:=first|omega|assumption) only [go_sem]
    refine hK ?_;clear hK hS hC hC1 K S C hf
    (repeat (first|(refine ah rfl rfl ?_)|(refine aj rfl rfl ?_)|(refine af nmd [] hng (by kernel_rfl) fun hf C S K hC1 hC hS hK=>?_;simp (disch:=first|omega|assumption) only [go_sem];refine hK ?_;clear hK hS hC hC1 K S C hf)|((first|refine zn ?_|refine ze ?_|refine zk ?_);with_reducible (constructor;repeat constructor);try refine zl ?_)))
    refine af nmd [] hng (by kernel_rfl) fun hf C S K hC1 hC hS hK=>?_;simp (disch:=first|omega|assumption) only [go_sem]
    refine hC1 _ (hC2' _) (fun _ h=>by cases h) ?_
    simp (disch:=first|omega|assumption) only [go_sem]
    refine hK ?_;clear hK hS hC hC1 K S C hf
    (repeat (first|(refine ah rfl rfl ?_)|(refine aj rfl rfl ?_)|(refine af nmd [] hng (by kernel_rfl) fun hf C S K hC1 hC hS hK=>?_;simp (disch:=first|omega|assumption) only [go_sem];refine hK ?_;clear hK hS hC hC1 K S C hf)|((first|refine zn ?_|refine ze ?_|refine zk ?_);with_reducible (constructor;repeat constructor);try refine zl ?_)))
    (repeat (first|(show Nat.beq _ _=false;rfl)|with_reducible constructor));(try refine zl ?_)
    (repeat (first|(refine ah rfl rfl ?_)|(refine aj rfl rfl ?_)|(refine af nmd [] hng (by kernel_rfl) fun hf C S K hC1 hC hS hK=>?_;simp (disch:=first|omega|assumption) only [go_sem];refine hK ?_;clear hK hS hC hC1 K S C hf)|((first|refine zn ?_|refine ze ?_|refine zk ?_);with_reducible (constructor;repeat constructor);try refine zl ?_)))
    cases tb
    ·cases tg
     ·simp only [reduceCtorEq,false_or,if_true] at hT'
      (repeat (first|(refine ah rfl rfl ?_)|(refine aj rfl rfl ?_)|(refine af nmd [] hng (by kernel_rfl) fun hf C S K hC1 hC hS hK=>?_;simp (disch:=first|omega|assumption) only [go_sem];refine hK ?_;clear hK hS hC hC1 K S C hf)|((first|refine zn ?_|refine ze ?_|refine zk ?_);with_reducible (constructor;repeat constructor);try refine zl ?_)))
      (repeat (first|(show Nat.beq _ _=false;rfl)|with_reducible constructor));(try refine zl ?_)
      (repeat (first|(refine ah rfl rfl ?_)|(refine aj rfl rfl ?_)|(refine af nmd [] hng (by kernel_rfl) fun hf C S K hC1 hC hS hK=>?_;simp (disch:=first|omega|assumption) only [go_sem];refine hK ?_;clear hK hS hC hC1 K S C hf)|((first|refine zn ?_|refine ze ?_|refine zk ?_);with_reducible (constructor;repeat constructor);try refine zl ?_)))
      refine af nmd [] hng (by kernel_rfl) fun hf C S K hC1 hC hS hK=>?_;simp (disch:=first|omega|assumption) only [go_sem]
      refine hC _ _ _ (hend _ (aH rfl hp) (bP _ _ hq) (fun i h=>h.2 _ _ (by omega))) hmem ?_ (fun _ _ h=>h.elim)
      rintro _ u ⟨rfl,M2,hR2,hM2⟩
      have hM2:=hM2 _ hmem
      generalize Mem.aF _ u=m2 at hM2 ⊢
      simp (disch:=first|omega|assumption) only [go_sem]
      refine hK ?_;clear hK hS hC hC1 K S C hf
      refine bp M2 hM2 ?_
      obtain ⟨ov2,X2,Y2,rest2,rfl⟩:=hR2.cons
      (repeat (first|(refine ah rfl rfl ?_)|(refine aj rfl rfl ?_)|(refine af nmd [] hng (by kernel_rfl) fun hf C S K hC1 hC hS hK=>?_;simp (disch:=first|omega|assumption) only [go_sem];refine hK ?_;clear hK hS hC hC1 K S C hf)|((first|refine zn ?_|refine ze ?_|refine zk ?_);with_reducible (constructor;repeat constructor);try refine zl ?_)))
      exact ⟨_,_,by omega,fun _ _ h=>h,i+1,_,_,_,rfl,rfl,by omega,(hR2.gap false).mono (fun i h=>h.elim (fun h=>⟨h.1,h.2.mono (by omega)⟩) (fun h=>⟨.inr (Oid.ay h),(Old.made h).mono (by omega)⟩)),hT',by simp only [fg,List.length_nil];omega,by simp only [fg,List.length_append,List.length_singleton];omega⟩
     ·simp only [reduceCtorEq,false_or,if_false] at hT'
      (repeat (first|(refine ah rfl rfl ?_)|(refine aj rfl rfl ?_)|(refine af nmd [] hng (by kernel_rfl) fun hf C S K hC1 hC hS hK=>?_;simp (disch:=first|omega|assumption) only [go_sem];refine hK ?_;clear hK hS hC hC1 K S C hf)|((first|refine zn ?_|refine ze ?_|refine zk ?_);with_reducible (constructor;repeat constructor);try refine zl ?_)))
      (repeat (first|(show Nat.beq _ _=false;rfl)|with_reducible constructor));(try refine zl ?_)
      (repeat (first|(refine ah rfl rfl ?_)|(refine aj rfl rfl ?_)|(refine af nmd [] hng (by kernel_rfl) fun hf C S K hC1 hC hS hK=>?_;simp (disch:=first|omega|assumption) only [go_sem];refine hK ?_;clear hK hS hC hC1 K S C hf)|((first|refine zn ?_|refine ze ?_|refine zk ?_);with_reducible (constructor;repeat constructor);try refine zl ?_)))
      exact ⟨_,_,by omega,fun _ _ h=>h,i+1,_,_,_,rfl,rfl,by omega,(hR.gap false).mono (fun i h=>⟨h.1,h.2.mono (by omega)⟩),hT',by simp only;omega,by simp only;omega⟩
    ·simp only [true_or,if_true] at hT'
     (repeat (first|(refine ah rfl rfl ?_)|(refine aj rfl rfl ?_)|(refine af nmd [] hng (by kernel_rfl) fun hf C S K hC1 hC hS hK=>?_;simp (disch:=first|omega|assumption) only [go_sem];refine hK ?_;clear hK hS hC hC1 K S C hf)|((first|refine zn ?_|refine ze ?_|refine zk ?_);with_reducible (constructor;repeat constructor);try refine zl ?_)))
     (repeat (first|(show Nat.beq _ _=false;rfl)|with_reducible constructor));(try refine zl ?_)
     (repeat (first|(refine ah rfl rfl ?_)|(refine aj rfl rfl ?_)|(refine af nmd [] hng (by kernel_rfl) fun hf C S K hC1 hC hS hK=>?_;simp (disch:=first|omega|assumption) only [go_sem];refine hK ?_;clear hK hS hC hC1 K S C hf)|((first|refine zn ?_|refine ze ?_|refine zk ?_);with_reducible (constructor;repeat constructor);try refine zl ?_)))
     refine af nmd [] hng (by kernel_rfl) fun hf C S K hC1 hC hS hK=>?_;simp (disch:=first|omega|assumption) only [go_sem]
     refine hC _ _ _ (hend _ (aH rfl hp) (bP _ _ hq) (fun i h=>h.2 _ _ (by omega))) hmem ?_ (fun _ _ h=>h.elim)
     rintro _ u ⟨rfl,M2,hR2,hM2⟩
     have hM2:=hM2 _ hmem
     generalize Mem.aF _ u=m2 at hM2 ⊢
     simp (disch:=first|omega|assumption) only [go_sem]
     refine hK ?_;clear hK hS hC hC1 K S C hf
     refine bp M2 hM2 ?_
     obtain ⟨ov2,X2,Y2,rest2,rfl⟩:=hR2.cons
     (repeat (first|(refine ah rfl rfl ?_)|(refine aj rfl rfl ?_)|(refine af nmd [] hng (by kernel_rfl) fun hf C S K hC1 hC hS hK=>?_;simp (disch:=first|omega|assumption) only [go_sem];refine hK ?_;clear hK hS hC hC1 K S C hf)|((first|refine zn ?_|refine ze ?_|refine zk ?_);with_reducible (constructor;repeat constructor);try refine zl ?_)))
     exact ⟨_,_,by omega,fun _ _ h=>h,i+1,_,_,_,rfl,rfl,by omega,(hR2.gap false).mono (fun i h=>h.elim (fun h=>⟨h.1,h.2.mono (by omega)⟩) (fun h=>⟨.inr (Oid.ay h),(Old.made h).mono (by omega)⟩)),hT',by simp only [fg,List.length_nil];omega,by simp only [fg,List.length_append,List.length_singleton];omega⟩
   ·simp only [if_true] at hT'
    (repeat (first|(refine ah rfl rfl ?_)|(refine aj rfl rfl ?_)|(refine af nmd [] hng (by kernel_rfl) fun hf C S K hC1 hC hS hK=>?_;simp (disch:=first|omega|assumption) only [go_sem,hi1,hii,hsl,hc1];refine hK ?_;clear hK hS hC hC1 K S C hf)|((first|refine zn ?_|refine ze ?_|refine zk ?_);with_reducible (constructor;repeat constructor);try refine zl ?_)))
    refine af nmd [] hng (by kernel_rfl) fun hf C S K hC1 hC hS hK=>?_;simp (disch:=first|omega|assumption) only [go_sem]
    refine hC1 _ (hC1' _) (fun _ h=>by cases h) ?_
    simp (disch:=first|omega|assumption) only [go_sem]
    refine hK ?_;clear hK hS hC hC1 K S C hf
    (repeat (first|(refine ah rfl rfl ?_)|(refine aj rfl rfl ?_)|(refine af nmd [] hng (by kernel_rfl) fun hf C S K hC1 hC hS hK=>?_;simp (disch:=first|omega|assumption) only [go_sem];refine hK ?_;clear hK hS hC hC1 K S C hf)|((first|refine zn ?_|refine ze ?_|refine zk ?_);with_reducible (constructor;repeat constructor);try refine zl ?_)))
    refine af nmd [] hng (by kernel_rfl) fun hf C S K hC1 hC hS hK=>?_;simp (disch:=first|omega|assumption) only [go_sem]
    refine hC1 _ (hC2' _) (fun _ h=>by cases h) ?_
    simp (disch:=first|omega|assumption) only [go_sem]
    refine hK ?_;clear hK hS hC hC1 K S C hf
    (repeat (first|(refine ah rfl rfl ?_)|(refine aj rfl rfl ?_)|(refine af nmd [] hng (by kernel_rfl) fun hf C S K hC1 hC hS hK=>?_;simp (disch:=first|omega|assumption) only [go_sem];refine hK ?_;clear hK hS hC hC1 K S C hf)|((first|refine zn ?_|refine ze ?_|refine zk ?_);with_reducible (constructor;repeat constructor);try refine zl ?_)))
    (repeat (first|(show Nat.beq _ _=false;rfl)|with_reducible constructor));(try refine zl ?_)
    (repeat (first|(refine ah rfl rfl ?_)|(refine aj rfl rfl ?_)|(refine af nmd [] hng (by kernel_rfl) fun hf C S K hC1 hC hS hK=>?_;simp (disch:=first|omega|assumption) only [go_sem];refine hK ?_;clear hK hS hC hC1 K S C hf)|((first|refine zn ?_|refine ze ?_|refine zk ?_);with_reducible (constructor;repeat constructor);try refine zl ?_)))
    cases tb
    ·simp only [reduceCtorEq,if_false] at hT'
     (repeat (first|(refine ah rfl rfl ?_)|(refine aj rfl rfl ?_)|(refine af nmd [] hng (by kernel_rfl) fun hf C S K hC1 hC hS hK=>?_;simp (disch:=first|omega|assumption) only [go_sem];refine hK ?_;clear hK hS hC hC1 K S C hf)|((first|refine zn ?_|refine ze ?_|refine zk ?_);with_reducible (constructor;repeat constructor);try refine zl ?_)))
     (repeat (first|(show Nat.beq _ _=false;rfl)|with_reducible constructor));(try refine zl ?_)
     (repeat (first|(refine ah rfl rfl ?_)|(refine aj rfl rfl ?_)|(refine af nmd [] hng (by kernel_rfl) fun hf C S K hC1 hC hS hK=>?_;simp (disch:=first|omega|assumption) only [go_sem];refine hK ?_;clear hK hS hC hC1 K S C hf)|((first|refine zn ?_|refine ze ?_|refine zk ?_);with_reducible (constructor;repeat constructor);try refine zl ?_)))
     exact ⟨_,_,by omega,fun _ _ h=>h,i+1,_,_,_,rfl,rfl,by omega,hR.mono (fun i h=>⟨h.1,h.2.mono (by omega)⟩),hT',by simp only;omega,by simp only;omega⟩
    ·simp only [if_true] at hT'
     (repeat (first|(refine ah rfl rfl ?_)|(refine aj rfl rfl ?_)|(refine af nmd [] hng (by kernel_rfl) fun hf C S K hC1 hC hS hK=>?_;simp (disch:=first|omega|assumption) only [go_sem];refine hK ?_;clear hK hS hC hC1 K S C hf)|((first|refine zn ?_|refine ze ?_|refine zk ?_);with_reducible (constructor;repeat constructor);try refine zl ?_)))
     (repeat (first|(show Nat.beq _ _=false;rfl)|with_reducible constructor));(try refine zl ?_)
     (repeat (first|(refine ah rfl rfl ?_)|(refine aj rfl rfl ?_)|(refine af nmd [] hng (by kernel_rfl) fun hf C S K hC1 hC hS hK=>?_;simp (disch:=first|omega|assumption) only [go_sem];refine hK ?_;clear hK hS hC hC1 K S C hf)|((first|refine zn ?_|refine ze ?_|refine zk ?_);with_reducible (constructor;repeat constructor);try refine zl ?_)))
     refine af nmd [] hng (by kernel_rfl) fun hf C S K hC1 hC hS hK=>?_;simp (disch:=first|omega|assumption) only [go_sem]
     refine hC _ _ _ (hend _ (aH rfl hp) (bP _ _ hq) (fun i h=>h.2 _ _ (by omega))) hmem ?_ (fun _ _ h=>h.elim)
     rintro _ u ⟨rfl,M2,hR2,hM2⟩
     have hM2:=hM2 _ hmem
     generalize Mem.aF _ u=m2 at hM2 ⊢
     simp (disch:=first|omega|assumption) only [go_sem]
     refine hK ?_;clear hK hS hC hC1 K S C hf
     refine bp M2 hM2 ?_
     obtain ⟨ov2,X2,Y2,rest2,rfl⟩:=hR2.cons
     (repeat (first|(refine ah rfl rfl ?_)|(refine aj rfl rfl ?_)|(refine af nmd [] hng (by kernel_rfl) fun hf C S K hC1 hC hS hK=>?_;simp (disch:=first|omega|assumption) only [go_sem];refine hK ?_;clear hK hS hC hC1 K S C hf)|((first|refine zn ?_|refine ze ?_|refine zk ?_);with_reducible (constructor;repeat constructor);try refine zl ?_)))
     (repeat (first|(show Nat.beq _ _=false;rfl)|with_reducible constructor));(try refine zl ?_)
     (repeat (first|(refine ah rfl rfl ?_)|(refine aj rfl rfl ?_)|(refine af nmd [] hng (by kernel_rfl) fun hf C S K hC1 hC hS hK=>?_;simp (disch:=first|omega|assumption) only [go_sem];refine hK ?_;clear hK hS hC hC1 K S C hf)|((first|refine zn ?_|refine ze ?_|refine zk ?_);with_reducible (constructor;repeat constructor);try refine zl ?_)))
     exact ⟨_,_,by omega,fun _ _ h=>h,i+1,_,_,_,rfl,rfl,by omega,(hR2.gap true).mono (fun i h=>h.elim (fun h=>⟨h.1,h.2.mono (by omega)⟩) (fun h=>⟨.inr (Oid.ay h),(Old.made h).mono (by omega)⟩)),hT',by simp only [fg,List.length_nil];omega,by simp only [fg,List.length_append,List.length_singleton];omega⟩
 ·obtain rfl:i=s.length:=by omega
  rw [List.take_length] at hT
  subst hT
  (repeat (first|(refine ah rfl rfl ?_)|(refine aj rfl rfl ?_)|(refine af nmd [] hng (by kernel_rfl) fun hf C S K hC1 hC hS hK=>?_;simp (disch:=first|omega|assumption) only [go_sem];refine hK ?_;clear hK hS hC hC1 K S C hf)|((first|refine zn ?_|refine ze ?_|refine zk ?_);with_reducible (constructor;repeat constructor);try refine zl ?_)))
  exact br (bA (.tuple []) rfl ⟨rfl,(hR.mono fun i h=>h.1).leaves⟩ (cb hR.func))
end Go.Proofs.YtlfeacmbhldjcaaGreatDoor
namespace Go.Proofs.YtlfeacmbhldjcaaGreatDoor
open Go Go.Ab
set_option maxRecDepth 20000
set_option maxHeartbeats 4000000
def bJ (ifs:Str) (x:Spl) (e:Nat × Str):Spl :=
 if e.1=0 then (if e.2=[] then x else iR (gV e.2) x)
 else if e.1=1 then iR (cx e.2) x
 else if e.1=2 then e.2.foldl (splitB ifs) x
 else if e.1=3 then (if x.b=true then { fg x with g:=false } else { x with g:=false })
 else x
theorem Rep.names {q:Oid} {J:Oid→Prop} {ifs:Str} {S:Spl} {M:List (Oid × ar)} (h:Rep q J ifs S M):∀ e,e ∈ M→e.1 = .ty 133 q∨J e.1:=by
 obtain ⟨ov,X,Y,ro,rf,h1,h2,rfl⟩:=h
 intro e he
 rcases List.mem_cons.1 he with rfl|he
 ·exact .inl rfl
 ·rcases List.mem_append.1 he with he|he
  ·rcases h2 with ⟨_,_,_,rfl⟩|⟨r,hr,_,_,rfl⟩
   ·cases he
   ·rw [List.mem_singleton.1 he];exact .inr hr
  ·rcases h1 with ⟨_,_,rfl⟩|⟨r,hr,_,_,rfl⟩
   ·cases he
   ·rw [List.mem_singleton.1 he];exact .inr hr
theorem Xy (q:Oid) (J:Oid→Prop) (ifs t:Str) (k:Nat) (hk:k≤3) (S:Spl) (M:List (Oid × ar)) (ht:t.length≤100000) (ha:(gV t).length≤1000000) (hf:S.fld.length≤100000000) (hn:S.out.length≤100000) (p:Oid) (hp:p.mono=false) (hq:¬ Oid.under p (.ty 133 q)) (hJ:∀ i,J i→¬ Oid.under p i) (hM:Rep q J ifs S M) :
  aX Tryz.prog 75 [.ptr (.ty 133 q) 0,.agg [.int .i64 k,.str t]] (Oid.under p) M (fun v u=>v = .tuple []∧Leaves q (fun i=>J i∨Oid.under p i) ifs (bJ ifs S (k,t)) M u) (fun _ _=>False):=by
 have hput:=fun (s:Str) (hs:s.length≤1000000) (p:Oid) hq' hJ'=>vd q J ifs s S M (by omega) p hq' hJ' hM
 have hend:=fun (p:Oid) hp' hq' hJ'=>tU q J ifs S M (by omega) (by omega) p hp' hq' hJ' hM
 have hspl:=fun (p:Oid) hp' hq' hJ'=>zy q J ifs t S M ht hf hn p hp' hq' hJ' hM
 have hA:=fun p hp=>kL t (by omega) p hp
 have hE:=fun p=>oS t (by omega) p
 have hel:=dU t
 have hfn:=hM.func
 have hnm:∀ e,e ∈ M→¬ Oid.under p e.1:=fun e he=>(hM.names e he).elim (fun h=>by rw [h];exact hq) (hJ _)
 have hM':=hM
 obtain ⟨ov,X,Y,rest,rfl⟩:=hM.cons
 obtain ⟨out,fld,tb,tg⟩:=S
 simp only at hfn hnm hM' hput hend hspl
 refine ml (n:=40) (rs:=[]) Tryz.func75 rfl rfl (by decide) rfl rfl rfl ?_;rintro x rfl hrd hng
 (repeat (first|(refine ah rfl rfl ?_)|(refine aj rfl rfl ?_)|(refine af nmd [] hng (by kernel_rfl) fun hf C S K hC1 hC hS hK=>?_;simp (disch:=first|omega|assumption) only [go_sem];refine hK ?_;clear hK hS hC hC1 K S C hf)|((first|refine zn ?_|refine ze ?_|refine zk ?_);with_reducible (constructor;repeat constructor);try refine zl ?_)))
 have hne:∀ e,e ∈ (.ty 133 q,ar.cells [AV.str ifs,ov,X,Y,AV.bool tb,AV.bool tg])::rest→¬ e.1=Oid.sub 0 0 x.p:=fun e he k=>hnm e he (by rw [k];exact Oid.ay (Oid.az _))
 have hold:=cb hfn
 have hmem:∀ e,e ∈ (.ty 133 q,ar.cells [AV.str ifs,ov,X,Y,AV.bool tb,AV.bool tg])::rest→Mem.of ((Oid.sub 0 0 x.p,ar.cells [AV.int .i64 k,AV.str t])::(.ty 133 q,ar.cells [AV.str ifs,ov,X,Y,AV.bool tb,AV.bool tg])::rest) e.1=some e.2:=fun e he=>by
  rw [Mem.ae,if_neg (hne e he)];exact hold e he
 refine bp ((Oid.sub 0 0 x.p,ar.cells [AV.int .i64 k,AV.str t])::(.ty 133 q,ar.cells [AV.str ifs,ov,X,Y,AV.bool tb,AV.bool tg])::rest) ?_ ?_
 ·intro e he
  rcases List.mem_cons.1 he with rfl|he
  ·rw [Mem.ae,if_neg (by simp),aJ,if_pos rfl]
  ·have h1:=hold e he
   rw [Mem.ae] at h1 ⊢
   rw [aJ,if_neg (hne e he)];exact h1
 rcases (show k=0∨k=1∨k=2∨k=3 by omega) with rfl|rfl|rfl|rfl
 ·by_cases h0:t=[]
  ·subst h0
   (repeat (first|(refine ah rfl rfl ?_)|(refine aj rfl rfl ?_)|(refine af nmd [] hng (by kernel_rfl) fun hf C S K hC1 hC hS hK=>?_;simp (disch:=first|omega|assumption) only [go_sem,eq_self,decide_true,decide_false,ne_eq,not_true_eq_false,not_false_eq_true];refine hK ?_;clear hK hS hC hC1 K S C hf)|((first|refine zn ?_|refine ze ?_|refine zk ?_);with_reducible (constructor;repeat constructor);try refine zl ?_)))
   exact br (bA (.tuple []) rfl ⟨rfl,(hM'.mono fun i h=>.inl h).leaves⟩ hmem)
  ·(repeat (first|(refine ah rfl rfl ?_)|(refine aj rfl rfl ?_)|(refine af nmd [] hng (by kernel_rfl) fun hf C S K hC1 hC hS hK=>?_;simp (disch:=first|omega|assumption) only [go_sem,h0,decide_true,decide_false,ne_eq,not_true_eq_false,not_false_eq_true];refine hK ?_;clear hK hS hC hC1 K S C hf)|((first|refine zn ?_|refine ze ?_|refine zk ?_);with_reducible (constructor;repeat constructor);try refine zl ?_)))
   refine af nmd [] hng (by kernel_rfl) fun hf C S K hC1 hC hS hK=>?_;simp (disch:=first|omega|assumption) only [go_sem]
   refine hC1 _ (hA _ (aH rfl hp)) (fun _ h=>by cases h) ?_
   simp (disch:=first|omega|assumption) only [go_sem]
   refine hC _ _ _ (hput (gV t) ha _ (bP _ _ hq) (fun i h k=>hJ i h (Oid.ay k))) hmem ?_ (fun _ _ h=>h.elim)
   rintro _ u ⟨rfl,M2,hR2,hM2⟩
   have hM2:=hM2 _ hmem
   generalize Mem.aF _ u=m2 at hM2 ⊢
   simp (disch:=first|omega|assumption) only [go_sem]
   refine hK ?_;clear hK hS hC hC1 K S C hf
   (repeat (first|(refine ah rfl rfl ?_)|(refine aj rfl rfl ?_)|(refine af nmd [] hng (by kernel_rfl) fun hf C S K hC1 hC hS hK=>?_;simp (disch:=first|omega|assumption) only [go_sem];refine hK ?_;clear hK hS hC hC1 K S C hf)|((first|refine zn ?_|refine ze ?_|refine zk ?_);with_reducible (constructor;repeat constructor);try refine zl ?_)))
   exact br (bA (.tuple []) rfl ⟨rfl,by rw [show bJ ifs ⟨out,fld,tb,tg⟩ (0,t)=iR (gV t) ⟨out,fld,tb,tg⟩ from by simp [bJ,h0]];exact (hR2.mono (fun i h=>h.elim .inl (fun h=>.inr (Oid.ay h)))).leaves⟩ hM2)
 ·(repeat (first|(refine ah rfl rfl ?_)|(refine aj rfl rfl ?_)|(refine af nmd [] hng (by kernel_rfl) fun hf C S K hC1 hC hS hK=>?_;simp (disch:=first|omega|assumption) only [go_sem];refine hK ?_;clear hK hS hC hC1 K S C hf)|((first|refine zn ?_|refine ze ?_|refine zk ?_);with_reducible (constructor;repeat constructor);try refine zl ?_)))
  refine af nmd [] hng (by kernel_rfl) fun hf C S K hC1 hC hS hK=>?_;simp (disch:=first|omega|assumption) only [go_sem]
  refine hC1 _ (hE _) (fun _ h=>by cases h) ?_
  simp (disch:=first|omega|assumption) only [go_sem]
  refine hC _ _ _ (hput (cx t) (by omega) _ (bP _ _ hq) (fun i h k=>hJ i h (Oid.ay k))) hmem ?_ (fun _ _ h=>h.elim)
  rintro _ u ⟨rfl,M2,hR2,hM2⟩
  have hM2:=hM2 _ hmem
  generalize Mem.aF _ u=m2 at hM2 ⊢
  simp (disch:=first|omega|assumption) only [go_sem]
  refine hK ?_;clear hK hS hC hC1 K S C hf
  (repeat (first|(refine ah rfl rfl ?_)|(refine aj rfl rfl ?_)|(refine af nmd [] hng (by kernel_rfl) fun hf C S K hC1 hC hS hK=>?_;simp (disch:=first|omega|assumption) only [go_sem];refine hK ?_;clear hK hS hC hC1 K S C hf)|((first|refine zn ?_|refine ze ?_|refine zk ?_);with_reducible (constructor;repeat constructor);try refine zl ?_)))
  exact br (bA (.tuple []) rfl ⟨rfl,by rw [show bJ ifs ⟨out,fld,tb,tg⟩ (1,t)=iR (cx t) ⟨out,fld,tb,tg⟩ from by simp [bJ]];exact (hR2.mono (fun i h=>h.elim .inl (fun h=>.inr (Oid.ay h)))).leaves⟩ hM2)
 ·(repeat (first|(refine ah rfl rfl ?_)|(refine aj rfl rfl ?_)|(refine af nmd [] hng (by kernel_rfl) fun hf C S K hC1 hC hS hK=>?_;simp (disch:=first|omega|assumption) only [go_sem];refine hK ?_;clear hK hS hC hC1 K S C hf)|((first|refine zn ?_|refine ze ?_|refine zk ?_);with_reducible (constructor;repeat constructor);try refine zl ?_)))
  refine af nmd [] hng (by kernel_rfl) fun hf C S K hC1 hC hS hK=>?_;simp (disch:=first|omega|assumption) only [go_sem]
  refine hC _ _ _ (hspl _ (aH rfl hp) (bP _ _ hq) (fun i h k=>hJ i h (Oid.ay k))) hmem ?_ (fun _ _ h=>h.elim)
  rintro _ u ⟨rfl,M2,hR2,hM2⟩
  have hM2:=hM2 _ hmem
  generalize Mem.aF _ u=m2 at hM2 ⊢
  simp (disch:=first|omega|assumption) only [go_sem]
  refine hK ?_;clear hK hS hC hC1 K S C hf
  (repeat (first|(refine ah rfl rfl ?_)|(refine aj rfl rfl ?_)|(refine af nmd [] hng (by kernel_rfl) fun hf C S K hC1 hC hS hK=>?_;simp (disch:=first|omega|assumption) only [go_sem];refine hK ?_;clear hK hS hC hC1 K S C hf)|((first|refine zn ?_|refine ze ?_|refine zk ?_);with_reducible (constructor;repeat constructor);try refine zl ?_)))
  exact br (bA (.tuple []) rfl ⟨rfl,by rw [show bJ ifs ⟨out,fld,tb,tg⟩ (2,t)=t.foldl (splitB ifs) ⟨out,fld,tb,tg⟩ from by simp [bJ]];exact (hR2.mono (fun i h=>h.elim .inl (fun h=>.inr (Oid.ay h)))).leaves⟩ hM2)
 ·cases tb
  ·(repeat (first|(refine ah rfl rfl ?_)|(refine aj rfl rfl ?_)|(refine af nmd [] hng (by kernel_rfl) fun hf C S K hC1 hC hS hK=>?_;simp (disch:=first|omega|assumption) only [go_sem];refine hK ?_;clear hK hS hC hC1 K S C hf)|((first|refine zn ?_|refine ze ?_|refine zk ?_);with_reducible (constructor;repeat constructor);try refine zl ?_)))
   exact br (bA (.tuple []) rfl ⟨rfl,by rw [show bJ ifs ⟨out,fld,false,tg⟩ (3,t)=⟨out,fld,false,false⟩ from by simp [bJ]];exact ((hM'.gap false).mono fun i h=>.inl h).leaves⟩ fun e he=>by
    have hne':¬ e.1=Oid.sub 0 0 x.p:=by
     rcases List.mem_cons.1 he with rfl|he
     ·simp
     ·exact hne e (List.mem_cons_of_mem _ he)
    rw [Mem.ae,if_neg hne'];exact cb (hM'.gap false).func e he)
  ·(repeat (first|(refine ah rfl rfl ?_)|(refine aj rfl rfl ?_)|(refine af nmd [] hng (by kernel_rfl) fun hf C S K hC1 hC hS hK=>?_;simp (disch:=first|omega|assumption) only [go_sem];refine hK ?_;clear hK hS hC hC1 K S C hf)|((first|refine zn ?_|refine ze ?_|refine zk ?_);with_reducible (constructor;repeat constructor);try refine zl ?_)))
   refine af nmd [] hng (by kernel_rfl) fun hf C S K hC1 hC hS hK=>?_;simp (disch:=first|omega|assumption) only [go_sem]
   refine hC _ _ _ (hend _ (aH rfl hp) (bP _ _ hq) (fun i h k=>hJ i h (Oid.ay k))) hmem ?_ (fun _ _ h=>h.elim)
   rintro _ u ⟨rfl,M2,hR2,hM2⟩
   have hM2:=hM2 _ hmem
   generalize Mem.aF _ u=m2 at hM2 ⊢
   simp (disch:=first|omega|assumption) only [go_sem]
   refine hK ?_;clear hK hS hC hC1 K S C hf
   refine bp M2 hM2 ?_
   obtain ⟨ov2,X2,Y2,rest2,rfl⟩:=hR2.cons
   (repeat (first|(refine ah rfl rfl ?_)|(refine aj rfl rfl ?_)|(refine af nmd [] hng (by kernel_rfl) fun hf C S K hC1 hC hS hK=>?_;simp (disch:=first|omega|assumption) only [go_sem];refine hK ?_;clear hK hS hC hC1 K S C hf)|((first|refine zn ?_|refine ze ?_|refine zk ?_);with_reducible (constructor;repeat constructor);try refine zl ?_)))
   exact br (bA (.tuple []) rfl ⟨rfl,by rw [show bJ ifs ⟨out,fld,true,tg⟩ (3,t)={ fg ⟨out,fld,true,tg⟩ with g:=false } from by simp [bJ]];exact ((hR2.gap false).mono (fun i h=>h.elim .inl (fun h=>.inr (Oid.ay h)))).leaves⟩ (cb (hR2.gap false).func))
end Go.Proofs.YtlfeacmbhldjcaaGreatDoor
namespace Go.Proofs.YtlfeacmbhldjcaaGreatDoor
open Go Go.Ab
set_option maxRecDepth 20000
set_option maxHeartbeats 4000000
def bK (e:Nat × Str):AV:=.agg [.int .i64 e.1,.str e.2]
def jD:Spl:=⟨[],[],false,false⟩
def eg (l:List (Nat × Str)) (ifs:Str):List Str:=if (l.foldl (bJ ifs) jD).b=true then (fg (l.foldl (bJ ifs) jD)).out else (l.foldl (bJ ifs) jD).out
theorem Rep.iS {q:Oid} {J:Oid→Prop} {ifs:Str} {S:Spl} {M:List (Oid × ar)} (h:Rep q J ifs S M):(S.out=[]∧∃ X Y rest,M=(.ty 133 q,.cells [.str ifs,.nilSl,X,Y,.bool S.b,.bool S.g])::rest) ∨
  ∃ r X Y rest,M=(.ty 133 q,.cells [.str ifs,.sl r 1 S.out.length,X,Y,.bool S.b,.bool S.g])::rest∧(r,ar.arr 1 (S.out.map AV.str)) ∈ rest:=by
 obtain ⟨ov,X,Y,ro,rf,h1,h2,rfl⟩:=h
 rcases h1 with ⟨h1,rfl,rfl⟩|⟨r,_,_,rfl,rfl⟩
 ·exact .inl ⟨h1,_,_,_,rfl⟩
 ·exact .inr ⟨r,_,_,_,rfl,List.mem_append_right _ (List.mem_cons_self ..)⟩
theorem zA (l:List (Nat × Str)) (ifs:Str) (hn:l.length≤1000000) (hl:∀ e,e ∈ l→e.1≤3∧e.2.length≤100000∧(gV e.2).length≤1000000)
  (hb:∀ i,((l.take i).foldl (bJ ifs) jD).fld.length≤100000000∧((l.take i).foldl (bJ ifs) jD).out.length≤100000) (p:Oid) (hp:p.mono=false) :
  aA Tryz.prog 32 [.list 2 (l.map bK),.str ifs] (Oid.under p) ⟨[],.list 1 ((eg l ifs).map .str),[]⟩:=by
 refine aN (n:=31) (rs:=[.tmp 4]) Tryz.func32 rfl rfl (by decide) rfl rfl rfl ?_;rintro x rfl hrd hng
 (repeat (first|(refine ah rfl rfl ?_)|(refine aj rfl rfl ?_)|(refine af nmd [] hng (by kernel_rfl) fun hf C S K hC1 hC hS hK=>?_;simp (disch:=first|omega|assumption) only [go_sem,List.length_map];refine hK ?_;clear hK hS hC hC1 K S C hf)|((first|refine zn ?_|refine ze ?_|refine zk ?_);with_reducible (constructor;repeat constructor);try refine zl ?_)))
 have hq:∀ c j,1 < c→¬ Oid.under (.sub c j x.p) (.ty 133 (.sub 1 2 x.p)):=fun c j h=>lL h
 refine a6 [5,11,12,13] (fun k s'=>∃ (i c:Nat) (M1:List (Oid × ar)),s' = ⟨[(5,.ptr (.ty 133 (.sub 1 2 x.p)) 0),(11,.list 2 (l.map bK)),(12,.int .i64 l.length),(13,.int .i64 i)],Mem.of M1,c,[]⟩∧k=l.length - i∧i≤l.length∧1 < c ∧
  Rep (.sub 1 2 x.p) (Old x.p c) ifs ((l.take i).foldl (bJ ifs) jD) M1) _ ⟨0,_,_,rfl,rfl,Nat.zero_le _,by omega,⟨.nilSl,.nilPtr,.nilSl,[],[],.inl ⟨rfl,rfl,rfl⟩,.inl ⟨rfl,rfl,rfl,rfl⟩,rfl⟩⟩ ?_
 rintro k s' ⟨i,c,M1,rfl,rfl,hi,hc,hR⟩
 obtain ⟨hb1,hb2⟩:=hb i
 have hnm:=hR.names
 have hfn:=cb hR.func
 (repeat (first|(refine ah rfl rfl ?_)|(refine aj rfl rfl ?_)|(refine af nmd [] hng (by kernel_rfl) fun hf C S K hC1 hC hS hK=>?_;simp (disch:=first|omega|assumption) only [go_sem,List.length_map];refine hK ?_;clear hK hS hC hC1 K S C hf)|((first|refine zn ?_|refine ze ?_|refine zk ?_);with_reducible (constructor;repeat constructor);try refine zl ?_)))
 refine bD rfl rfl (fun hb=>?_) (fun hb=>?_)
 ·have hlt:i < l.length:=by omega
  have htk:l.take (i+1)=l.take i++[l.getD i default]:=by
   rw [List.take_add_one,List.getElem?_eq_getElem hlt,List.getD_eq_getElem?_getD,List.getElem?_eq_getElem hlt];rfl
  have hmemE:l.getD i default ∈ l:=by rw [List.getD_eq_getElem?_getD,List.getElem?_eq_getElem hlt];exact List.getElem_mem _
  obtain ⟨hk3,ht,ha⟩:=hl _ hmemE
  have hT:(l.take (i+1)).foldl (bJ ifs) jD=bJ ifs ((l.take i).foldl (bJ ifs) jD) (l.getD i default):=by rw [htk,List.foldl_append];rfl
  generalize hg:l.getD i default=g at hk3 ht ha hT
  obtain ⟨gk,gt⟩:=g
  generalize (l.take i).foldl (bJ ifs) jD=S at hR hb1 hb2 hT
  have hR0:=hR
  obtain ⟨ov,X,Y,rest,rfl⟩:=hR.cons
  (repeat (first|(refine ah rfl rfl ?_)|(refine aj rfl rfl ?_)|(refine af nmd [] hng (by kernel_rfl) fun hf C S K hC1 hC hS hK=>?_;simp (disch:=first|omega|assumption) only [go_sem,hg,bK,AV.cells,List.length_map,hlt];refine hK ?_;clear hK hS hC hC1 K S C hf)|((first|refine zn ?_|refine ze ?_|refine zk ?_);with_reducible (constructor;repeat constructor);try refine zl ?_)))
  refine af nmd [] hng (by kernel_rfl) fun hf C S K hC1 hC hS hK=>?_;simp (disch:=first|omega|assumption) only [go_sem,hg,bK,AV.cells,List.length_map,hlt,aJ]
  refine hK ?_;clear hK hS hC hC1 K S C hf
  have hne:∀ e,e ∈ (.ty 133 (.sub 1 2 x.p),ar.cells [AV.str ifs,ov,X,Y,AV.bool S.b,AV.bool S.g])::rest→¬ e.1=Oid.sub (c+1) 2 x.p:=fun e he k=>(hnm e he).elim (fun h=>by rw [k] at h;cases h) (fun h=>h (c+1) 2 (by omega) (by rw [k];exact Oid.az _))
  have hmem:∀ e,e ∈ (.ty 133 (.sub 1 2 x.p),ar.cells [AV.str ifs,ov,X,Y,AV.bool S.b,AV.bool S.g])::rest→Mem.of ((Oid.sub (c+1) 2 x.p,ar.cells [AV.int .i64 gk,AV.str gt])::(.ty 133 (.sub 1 2 x.p),ar.cells [AV.str ifs,ov,X,Y,AV.bool S.b,AV.bool S.g])::rest) e.1=some e.2:=fun e he=>by
   rw [Mem.ae,if_neg (hne e he)];exact hfn e he
  refine bp ((Oid.sub (c+1) 2 x.p,ar.cells [AV.int .i64 gk,AV.str gt])::(.ty 133 (.sub 1 2 x.p),ar.cells [AV.str ifs,ov,X,Y,AV.bool S.b,AV.bool S.g])::rest) ?_ ?_
  ·intro e he
   rcases List.mem_cons.1 he with rfl|he
   ·rw [Mem.ae,if_neg (by simp),aJ,if_pos rfl]
   ·have h1:=hfn e he
    rw [Mem.ae] at h1 ⊢
    rw [aJ,if_neg (hne e he),aJ,if_neg (hne e he)];exact h1
  have htk2:=fun (p:Oid) hp' hq' hJ'=>Xy (.sub 1 2 x.p) (Old x.p (c+1+1)) ifs gt gk hk3 S _ ht ha hb1 hb2 p hp' hq' hJ' (hR0.mono fun i h=>h.mono (by omega))
  (repeat (first|(refine ah rfl rfl ?_)|(refine aj rfl rfl ?_)|(refine af nmd [] hng (by kernel_rfl) fun hf C S K hC1 hC hS hK=>?_;simp (disch:=first|omega|assumption) only [go_sem];refine hK ?_;clear hK hS hC hC1 K S C hf)|((first|refine zn ?_|refine ze ?_|refine zk ?_);with_reducible (constructor;repeat constructor);try refine zl ?_)))
  refine af nmd [] hng (by kernel_rfl) fun hf C S K hC1 hC hS hK=>?_;simp (disch:=first|omega|assumption) only [go_sem]
  refine hC _ _ _ (htk2 _ (aH rfl hp) (hq _ _ (by omega)) (fun i h=>h _ _ (by omega))) hmem ?_ (fun _ _ h=>h.elim)
  rintro _ u ⟨rfl,M2,hR2,hM2⟩
  have hM2:=hM2 _ hmem
  generalize Mem.aF _ u=m2 at hM2 ⊢
  simp (disch:=first|omega|assumption) only [go_sem]
  refine hK ?_;clear hK hS hC hC1 K S C hf
  refine bp M2 hM2 ?_
  (repeat (first|(refine ah rfl rfl ?_)|(refine aj rfl rfl ?_)|(refine af nmd [] hng (by kernel_rfl) fun hf C S K hC1 hC hS hK=>?_;simp (disch:=first|omega|assumption) only [go_sem];refine hK ?_;clear hK hS hC hC1 K S C hf)|((first|refine zn ?_|refine ze ?_|refine zk ?_);with_reducible (constructor;repeat constructor);try refine zl ?_)))
  exact ⟨_,_,by omega,fun _ _ h=>h,i+1,_,M2,rfl,rfl,by omega,by omega,by rw [hT];exact hR2.mono (fun i h=>h.elim (fun h=>h.mono (by omega)) (fun h=>(Old.made h).mono (by omega)))⟩
 ·obtain rfl:i=l.length:=by omega
  rw [List.take_length] at hR hb1 hb2
  have hR0:=hR
  generalize hS:l.foldl (bJ ifs) jD=S at hR hb1 hb2 hR0
  have hfun:=cb hR.func
  have hend:=fun (p:Oid) hp' hq' hJ'=>tU (.sub 1 2 x.p) (Old x.p (c+1+1)) ifs S M1 (by omega) (by omega) p hp' hq' hJ' (hR.mono fun i h=>h.mono (by omega))
  have hres:eg l ifs=if S.b=true then (fg S).out else S.out:=by rw [eg,hS]
  rw [hres]
  obtain ⟨out,fld,tb,tg⟩:=S
  cases tb
  ·simp only [reduceCtorEq,if_false]
   rcases hR.iS with ⟨h0,X,Y,rest,rfl⟩|⟨r,X,Y,rest,rfl,hr⟩
   ·simp only at h0
    subst h0
    (repeat (first|(refine ah rfl rfl ?_)|(refine aj rfl rfl ?_)|(refine af nmd [] hng (by kernel_rfl) fun hf C S K hC1 hC hS hK=>?_;simp (disch:=first|omega|assumption) only [go_sem];refine hK ?_;clear hK hS hC hC1 K S C hf)|((first|refine zn ?_|refine ze ?_|refine zk ?_);with_reducible (constructor;repeat constructor);try refine zl ?_)))
    refine bp [] (fun _ h=>by cases h) ?_
    exact py 4 1 rfl (fK (xs:=[]) rfl (by simp (disch:=first|omega|assumption) only [go_sem]) rfl rfl)
   ·(repeat (first|(refine ah rfl rfl ?_)|(refine aj rfl rfl ?_)|(refine af nmd [] hng (by kernel_rfl) fun hf C S K hC1 hC hS hK=>?_;simp (disch:=first|omega|assumption) only [go_sem];refine hK ?_;clear hK hS hC hC1 K S C hf)|((first|refine zn ?_|refine ze ?_|refine zk ?_);with_reducible (constructor;repeat constructor);try refine zl ?_)))
    refine bp [(r,ar.arr 1 (out.map AV.str))] (fun e he=>by rw [List.mem_singleton.1 he];exact hfun _ (List.mem_cons_of_mem _ hr)) ?_
    exact fK rfl (by simp (disch:=first|omega|assumption) only [go_sem]) (List.length_map _).symm rfl
  ·simp only [if_true]
   obtain ⟨ov,X,Y,rest,rfl⟩:=hR.cons
   (repeat (first|(refine ah rfl rfl ?_)|(refine aj rfl rfl ?_)|(refine af nmd [] hng (by kernel_rfl) fun hf C S K hC1 hC hS hK=>?_;simp (disch:=first|omega|assumption) only [go_sem];refine hK ?_;clear hK hS hC hC1 K S C hf)|((first|refine zn ?_|refine ze ?_|refine zk ?_);with_reducible (constructor;repeat constructor);try refine zl ?_)))
   refine af nmd [] hng (by kernel_rfl) fun hf C S K hC1 hC hS hK=>?_;simp (disch:=first|omega|assumption) only [go_sem]
   refine hC _ _ _ (hend _ (aH rfl hp) (hq _ _ (by omega)) (fun i h=>h _ _ (by omega))) hfun ?_ (fun _ _ h=>h.elim)
   rintro _ u ⟨rfl,M2,hR2,hM2⟩
   have hM2:=hM2 _ hfun
   generalize Mem.aF _ u=m2 at hM2 ⊢
   simp (disch:=first|omega|assumption) only [go_sem]
   refine hK ?_;clear hK hS hC hC1 K S C hf
   refine bp M2 hM2 ?_
   have hfun2:=cb hR2.func
   rcases hR2.iS with ⟨h0,_⟩|⟨r,X2,Y2,rest2,rfl,hr⟩
   ·simp [fg] at h0
   ·(repeat (first|(refine ah rfl rfl ?_)|(refine aj rfl rfl ?_)|(refine af nmd [] hng (by kernel_rfl) fun hf C S K hC1 hC hS hK=>?_;simp (disch:=first|omega|assumption) only [go_sem];refine hK ?_;clear hK hS hC hC1 K S C hf)|((first|refine zn ?_|refine ze ?_|refine zk ?_);with_reducible (constructor;repeat constructor);try refine zl ?_)))
    refine bp [(r,ar.arr 1 ((fg ⟨out,fld,true,tg⟩).out.map AV.str))] (fun e he=>by rw [List.mem_singleton.1 he];exact hfun2 _ (List.mem_cons_of_mem _ hr)) ?_
    exact fK rfl (by simp (disch:=first|omega|assumption) only [go_sem]) (List.length_map _).symm rfl
end Go.Proofs.YtlfeacmbhldjcaaGreatDoor
namespace Go.Proofs.YtlfeacmbhldjcaaGreatDoor
open Go Go.Ab Go.RowKit
set_option maxRecDepth 100000
set_option maxHeartbeats 1000000
theorem kM (b:Nat) (w:World) (a:Addr) (c:Nat) (hc:c≠0) (h0:w.cell? ⟨b,1,none⟩=some (.slice (some a) 0 c)) :
  Calls Tryz.prog 72 #[.pointer (some ⟨b,0,none⟩)] w fun e w'=>e = .returned (.string ⟨#[]⟩)∧Below w.heap.size w w':=by
 have hUS:=fun (W:World) (q:Option Addr)=>Lib.run_unsafeString_none (P:=Tryz.prog) W 165 3 9 q
 have c1:w.drew.cell? ⟨b,1,none⟩=some (.slice (some a) 0 c):=h0
 have hSD:(Builtin.unsafeSliceData_ #[115] 165 #[.slice (some a) 0 c]).run Tryz.prog w.drew = .ok (.pointer (some a)) w.drew:=Lib.run_unsafeSliceData_row _ _ _ _ _ _ hc
 have mixed:Tryz.prog.follows .mixedOrders=true:=by kernel_rfl
 go_enter Tryz.func72,Tryz.ntmps72
 go_wp2
 go_region_o
 all_goals (go_wp2;go_ret;exact ⟨rfl,Below.drew (Below.refl w.heap.size w)⟩)
theorem kb (b:Nat) (w:World) (a:Addr) (sh:TypeId × Nat) (hsh:w.shape? a.block=some sh) (h0:w.cell? ⟨b,1,none⟩=some (.slice (some a) 0 0)) :
  Calls Tryz.prog 72 #[.pointer (some ⟨b,0,none⟩)] w fun e w'=>e = .returned (.string ⟨#[]⟩)∧Below w.heap.size w w':=by
 have hUS:=fun (W:World) (q:Option Addr)=>Lib.run_unsafeString_none (P:=Tryz.prog) W 165 3 9 q
 have c1:w.drew.cell? ⟨b,1,none⟩=some (.slice (some a) 0 0):=h0
 have hSD:(Builtin.unsafeSliceData_ #[115] 165 #[.slice (some a) 0 0]).run Tryz.prog w.drew = .ok (.pointer (some ⟨w.drew.heap.size,0,none⟩)) (w.drew.alloc (.view a 5)):=Lib.run_unsafeSliceData_zero _ _ _ 5 (by kernel_rfl) a 0 sh hsh
 have c2:(w.drew.alloc (.view a 5)).cell? ⟨b,1,none⟩=some (.slice (some a) 0 0):=gO _ _ _ _ _ c1
 have c3:(w.alloc (.view a 5)).cell? ⟨b,1,none⟩=some (.slice (some a) 0 0):=gO _ _ _ _ _ h0
 have mixed:Tryz.prog.follows .mixedOrders=true:=by kernel_rfl
 go_enter Tryz.func72,Tryz.ntmps72
 go_wp2
 go_region_o
 all_goals (go_wp2;go_ret;first|exact ⟨rfl,Below.alloc (Below.drew (Below.refl _ w)) (Nat.le_refl _) _⟩|exact ⟨rfl,Below.drew (Below.alloc (Below.refl _ w) (Nat.le_refl _) _)⟩)
theorem kN (b:Nat) (w:World) (h0:w.cell? ⟨b,1,none⟩=some (.slice none 0 0)) :
  Calls Tryz.prog 72 #[.pointer (some ⟨b,0,none⟩)] w fun e w'=>e = .returned (.string ⟨#[]⟩)∧Below w.heap.size w w':=by
 have hUS:=fun (W:World) (q:Option Addr)=>Lib.run_unsafeString_none (P:=Tryz.prog) W 165 3 9 q
 have c1:w.drew.cell? ⟨b,1,none⟩=some (.slice none 0 0):=h0
 have hSD:(Builtin.unsafeSliceData_ #[115] 165 #[.slice none 0 0]).run Tryz.prog w.drew = .ok (.pointer none) w.drew:=rfl
 have mixed:Tryz.prog.follows .mixedOrders=true:=by kernel_rfl
 go_enter Tryz.func72,Tryz.ntmps72
 go_wp2
 go_region_o
 all_goals (go_wp2;go_ret;exact ⟨rfl,Below.drew (Below.refl w.heap.size w)⟩)
theorem qi (q r:Oid) (X:AV) (p:Oid) (hp:p.mono=false) :
  aA Tryz.prog 72 [.ptr q 0] (Oid.under p) ⟨[(q,.cells [X,.sl r 1 0])],.str [],[]⟩ :=
 ⟨by kernel_rfl,fun x g args w m hm hn ha hs hx=>by
  obtain ⟨u,rfl,hu⟩:=ha.one
  obtain ⟨b,rfl,hb⟩:=hu.cC
  have hmid:=hn (q,.cells [X,.sl r 1 0]) (by simp)
  obtain ⟨b',h1,h2,h3,h4⟩:=hm.fU hmid hb
  rw [hb] at h1;simp only [Option.some.injEq] at h1;subst h1
  obtain ⟨c,t,fz,c1,c2,c3,c4⟩:=h4
  have hsz:c.size=2:=c2
  have k0:=c4 1 (by simp)
  simp only [List.getD_cons_zero,List.getD_cons_succ] at k0
  have at3:∀ v,c.getD 1 undef=v→w.cell? ⟨b,1,none⟩=some v:=fun v h=>by
   rw [Array.getD_eq_getD_getElem?,Array.getElem?_eq_getElem (by omega)] at h
   simp only [Option.getD_some] at h
   simp [World.cell?,c1,Array.getElem?_eq_getElem (show 1 < c.size by omega),h]
  rcases k0.dt with ⟨_,hv,_⟩|⟨b2,cap,hv,hb2,_,hrow⟩
  ·exact (kN b w (at3 _ hv)).mono fun _ _ h=>⟨g,_,h.1,Gh.le_refl g,fun _ _=>rfl,.str _ _ rfl,hm.below h.2 (cV (hs p (Oid.az p)).2 hp)⟩
  ·by_cases h0:cap=0
   ·subst h0
    obtain ⟨c',t',fz',h6,h7⟩:=hm.rows b2 _ hrow
    exact (kb b w ⟨b2,0,none⟩ _ (by simp [World.shape?,h6];rfl) (at3 _ hv)).mono fun _ _ h=>⟨g,_,h.1,Gh.le_refl g,fun _ _=>rfl,.str _ _ rfl,hm.below h.2 (cV (hs p (Oid.az p)).2 hp)⟩
   ·exact (kM b w _ cap h0 (at3 _ hv)).mono fun _ _ h=>⟨g,_,h.1,Gh.le_refl g,fun _ _=>rfl,.str _ _ rfl,hm.below h.2 (cV (hs p (Oid.az p)).2 hp)⟩⟩
end Go.Proofs.YtlfeacmbhldjcaaGreatDoor
namespace Go.Proofs.YtlfeacmbhldjcaaGreatDoor
open Go Go.Ab
set_option maxRecDepth 20000
set_option maxHeartbeats 1000000
def BR (q:Oid) (J:Oid→Prop) (d:Str) (M:List (Oid × ar)):Prop :=
 (d=[]∧M=[(.ty 117 q,.cells [.nilPtr,.nilSl])])∨∃ r,J (.ty 5 r)∧M=[(.ty 117 q,.cells [.ptr (.ty 117 q) 0,.sl (.ty 5 r) 1 d.length]),(.ty 5 r,.arr 1 (d.map byA))]
def vf (q:Oid) (J:Oid→Prop) (d:Str) (M:List (Oid × ar)) (u:List (Oid × Option ar)):Prop :=
 ∃ M',BR q J d M'∧∀ m:Mem,(∀ e,e ∈ M→m e.1=some e.2)→∀ e,e ∈ M'→(m.aF u) e.1=some e.2
theorem BR.mono {q:Oid} {J J':Oid→Prop} {d:Str} {M:List (Oid × ar)} (h:BR q J d M) (hJ:∀ i,J i→J' i):BR q J' d M:=h.imp id fun ⟨r,k,k'⟩=>⟨r,hJ _ k,k'⟩
theorem vg {q r2:Oid} {m:Mem} {o:ar} {l:List UInt8} {pre:List (Oid × Option ar)} (h:¬ Oid.ty 5 r2 = .ty 117 q) (hp:∀ m':Mem,((m'.set (.ty 117 q) (some o)).aF pre) (.ty 117 q)=some o) :
  ∀ e,e ∈ [(.ty 117 q,o),(Oid.ty 5 r2,ar.arr 1 (l.map byA))]→(m.aF ((.ty 117 q,some o)::(pre++[(Oid.ty 5 r2,some (ar.arr 1 (l.map byA)))]))) e.1=some e.2:=by
 intro e he
 simp only [List.mem_cons,List.not_mem_nil,or_false] at he
 rcases he with rfl|rfl
 ·simp only [Mem.aF,b8,Mem.set,Ne.symm h,if_false];exact hp m
 ·simp only [Mem.aF,b8,Mem.set,if_true]
theorem wsB (q:Oid) (J:Oid→Prop) (d s:Str) (M:List (Oid × ar)) (hl:d.length+s.length≤140737488355328) (p:Oid) (hq:¬ Oid.under p (.ty 117 q)) (hJ:∀ i,J i→¬ Oid.under p i) (hM:BR q J d M) :
  aX Tryz.prog 79 [.ptr (.ty 117 q) 0,.str s] (Oid.under p) M (fun v u=>v = .tuple [.int .i64 s.length,.nilIface]∧vf q (fun i=>J i∨Oid.under p i) (d++s) M u) (fun _ _=>False):=by
 have hyou:Oid.under p (.ty 5 (.sub 2 6 p)):=Oid.b7 (Oid.ay (Oid.az _)) (Oid.fT _ _)
 have hq5:¬ Oid.ty 5 (.sub 2 6 p) = .ty 117 q:=fun e=>hq (by rw [← e];exact hyou)
 rcases hM with ⟨rfl,rfl⟩|⟨r,hr,rfl⟩
 ·refine (rE q s (by simpa using hl) p hq).nd.weaken ?_ (fun _ _ h=>h)
  rintro v u ⟨rfl,rfl⟩
  exact ⟨rfl,_,.inr ⟨_,.inr hyou,rfl⟩,fun m _=>vg (pre:=[]) hq5 fun m'=>by simp only [Mem.aF,Mem.set,if_true]⟩
 ·have h5:¬ .ty 117 q=Oid.ty 5 r:=fun e=>by injection e with e1 _;exact absurd e1 (by decide)
  refine (uG q r d s hl p hq (hJ _ hr)).nd.weaken ?_ (fun _ _ h=>h)
  rintro v u ⟨rfl,rfl⟩
  exact ⟨rfl,_,.inr ⟨_,.inr hyou,rfl⟩,fun m _=>vg (pre:=[(.ty 5 r,none)]) hq5 fun m'=>by simp only [Mem.aF,Mem.set,h5,if_true,if_false]⟩
theorem wbB (q:Oid) (J:Oid→Prop) (d:Str) (b:UInt8) (M:List (Oid × ar)) (hl:d.length+1≤140737488355328) (p:Oid) (hq:¬ Oid.under p (.ty 117 q)) (hJ:∀ i,J i→¬ Oid.under p i) (hM:BR q J d M) :
  aX Tryz.prog 71 [.ptr (.ty 117 q) 0,.int .u8 b.toNat] (Oid.under p) M (fun v u=>v = .nilIface∧vf q (fun i=>J i∨Oid.under p i) (d++[b]) M u) (fun _ _=>False):=by
 have hyou:Oid.under p (.ty 5 (.sub 2 7 p)):=Oid.b7 (Oid.ay (Oid.az _)) (Oid.fT _ _)
 have hq5:¬ Oid.ty 5 (.sub 2 7 p) = .ty 117 q:=fun e=>hq (by rw [← e];exact hyou)
 rcases hM with ⟨rfl,rfl⟩|⟨r,hr,rfl⟩
 ·refine (sA q b p hq).nd.weaken ?_ (fun _ _ h=>h)
  rintro v u ⟨rfl,rfl⟩
  exact ⟨rfl,_,.inr ⟨_,.inr hyou,rfl⟩,fun m _=>vg (pre:=[]) hq5 fun m'=>by simp only [Mem.aF,Mem.set,if_true]⟩
 ·have h5:¬ .ty 117 q=Oid.ty 5 r:=fun e=>by injection e with e1 _;exact absurd e1 (by decide)
  refine (vc q r d b hl p hq (hJ _ hr)).nd.weaken ?_ (fun _ _ h=>h)
  rintro v u ⟨rfl,rfl⟩
  exact ⟨rfl,_,.inr ⟨_,.inr hyou,rfl⟩,fun m _=>vg (pre:=[(.ty 5 r,none)]) hq5 fun m'=>by simp only [Mem.aF,Mem.set,h5,if_true,if_false]⟩
theorem ahm (q:Oid) (J:Oid→Prop) (d:Str) (M:List (Oid × ar)) (hl:d.length≤140737488355328) (p:Oid) (hp:p.mono=false) (hM:BR q J d M) :
  aX Tryz.prog 72 [.ptr (.ty 117 q) 0] (Oid.under p) M (fun v _=>v = .str d) (fun _ _=>False):=by
 rcases hM with ⟨rfl,rfl⟩|⟨r,hr,rfl⟩
 ·exact (js q p).nd.weaken (fun _ _ h=>h.1) (fun _ _ h=>h)
 ·by_cases h0:d=[]
  ·subst h0
   exact (gT (qi (.ty 117 q) (.ty 5 r) (.ptr (.ty 117 q) 0) p hp) (fun e he=>by rw [List.mem_singleton.1 he];exact List.mem_cons_self ..)).weaken (fun _ _ h=>h.1) (fun _ _ h=>h)
  ·exact (kr q r d (List.length_pos_iff.2 h0) hl p).nd.weaken (fun _ _ h=>h.1) (fun _ _ h=>h)
end Go.Proofs.YtlfeacmbhldjcaaGreatDoor
namespace Go.Proofs.YtlfeacmbhldjcaaGreatDoor
open Go Go.Ab
set_option maxRecDepth 20000
set_option maxHeartbeats 4000000
def cO (pat:Bool) (e:Nat × Str):Str:=if e.1=3 then [32] else if pat=true then (if e.1=1 then cx e.2 else gV e.2) else e.2
theorem BR.func {q:Oid} {J:Oid→Prop} {d:Str} {M:List (Oid × ar)} (h:BR q J d M):sB M:=by
 rcases h with ⟨_,rfl⟩|⟨r,_,rfl⟩
 ·intro e he e' he' _
  rw [List.mem_singleton.1 he,List.mem_singleton.1 he']
 ·have h5:¬ (.ty 117 q)=Oid.ty 5 r:=fun e=>by injection e with e1 _;exact absurd e1 (by decide)
  intro e he e' he' k
  simp only [List.mem_cons,List.not_mem_nil,or_false] at he he'
  rcases he with rfl|rfl<;>rcases he' with rfl|rfl
  ·rfl
  ·exact absurd k h5
  ·exact absurd k.symm h5
  ·rfl
theorem BR.names {q:Oid} {J:Oid→Prop} {d:Str} {M:List (Oid × ar)} (h:BR q J d M):∀ e,e ∈ M→∃ t r,e.1 = .ty t r:=by
 rcases h with ⟨_,rfl⟩|⟨r,_,rfl⟩
 ·intro e he;rw [List.mem_singleton.1 he];exact ⟨_,_,rfl⟩
 ·intro e he
  simp only [List.mem_cons,List.not_mem_nil,or_false] at he
  rcases he with rfl|rfl<;>exact ⟨_,_,rfl⟩
theorem tV (l:List (Nat × Str)) (pat:Bool) (hn:l.length≤1000000) (hl:∀ e,e ∈ l→e.1≤3∧e.2.length≤1000000)
  (hb:∀ i,((l.take i).flatMap (cO pat)).length≤100000000000) (ha:∀ e,e ∈ l→(cO pat e).length≤100000000) (p:Oid) (hp:p.mono=false) :
  aA Tryz.prog 35 [.list 2 (l.map bK),.bool pat] (Oid.under p) ⟨[],.str (l.flatMap (cO pat)),[]⟩:=by
 refine aN (n:=41) (rs:=[.tmp 4]) Tryz.func35 rfl rfl (by decide) rfl rfl rfl ?_;rintro x rfl hrd hng
 (repeat (first|(refine ah rfl rfl ?_)|(refine aj rfl rfl ?_)|(refine af nmd [] hng (by kernel_rfl) fun hf C S K hC1 hC hS hK=>?_;simp (disch:=first|omega|assumption) only [go_sem,List.length_map];refine hK ?_;clear hK hS hC hC1 K S C hf)|((first|refine zn ?_|refine ze ?_|refine zk ?_);with_reducible (constructor;repeat constructor);try refine zl ?_)))
 have hq:∀ c j,1 < c→¬ Oid.under (.sub c j x.p) (.ty 117 (.sub 1 0 x.p)):=fun c j h=>lL h
 refine a6 [1,5,8,9,10] (fun k s'=>∃ (i c:Nat) (M1:List (Oid × ar)),s' = ⟨[(1,.bool pat),(5,.ptr (.ty 117 (.sub 1 0 x.p)) 0),(8,.list 2 (l.map bK)),(9,.int .i64 l.length),(10,.int .i64 i)],Mem.of M1,c,[]⟩∧k=l.length - i∧i≤l.length∧1 < c ∧
  BR (.sub 1 0 x.p) (Old x.p c) ((l.take i).flatMap (cO pat)) M1) _ ⟨0,3,_,rfl,rfl,Nat.zero_le _,by omega,.inl ⟨rfl,rfl⟩⟩ ?_
 rintro k s' ⟨i,c,M1,rfl,rfl,hi,hc,hR⟩
 have hbi:=hb i
 have hbi1:=hb (i+1)
 have hnm:=hR.names
 have hfn:=cb hR.func
 (repeat (first|(refine ah rfl rfl ?_)|(refine aj rfl rfl ?_)|(refine af nmd [] hng (by kernel_rfl) fun hf C S K hC1 hC hS hK=>?_;simp (disch:=first|omega|assumption) only [go_sem,List.length_map];refine hK ?_;clear hK hS hC hC1 K S C hf)|((first|refine zn ?_|refine ze ?_|refine zk ?_);with_reducible (constructor;repeat constructor);try refine zl ?_)))
 refine bD rfl rfl (fun hb=>?_) (fun hb=>?_)
 ·have hlt:i < l.length:=by omega
  have htk:l.take (i+1)=l.take i++[l.getD i default]:=by
   rw [List.take_add_one,List.getElem?_eq_getElem hlt,List.getD_eq_getElem?_getD,List.getElem?_eq_getElem hlt];rfl
  have hmemE:l.getD i default ∈ l:=by rw [List.getD_eq_getElem?_getD,List.getElem?_eq_getElem hlt];exact List.getElem_mem _
  obtain ⟨hk3,ht⟩:=hl _ hmemE
  have hai:=ha _ hmemE
  have hT:(l.take (i+1)).flatMap (cO pat)=(l.take i).flatMap (cO pat)++cO pat (l.getD i default):=by rw [htk,List.flatMap_append];simp
  generalize hg:l.getD i default=g at hk3 ht hai hT
  obtain ⟨gk,gt⟩:=g
  generalize (l.take i).flatMap (cO pat)=D at hR hbi hT
  have hA:=fun p hp=>kL gt (by simpa using ht) p hp
  have hE:=fun p=>oS gt (by simp only at ht;omega) p
  (repeat (first|(refine ah rfl rfl ?_)|(refine aj rfl rfl ?_)|(refine af nmd [] hng (by kernel_rfl) fun hf C S K hC1 hC hS hK=>?_;simp (disch:=first|omega|assumption) only [go_sem,hg,bK,AV.cells,List.length_map,hlt];refine hK ?_;clear hK hS hC hC1 K S C hf)|((first|refine zn ?_|refine ze ?_|refine zk ?_);with_reducible (constructor;repeat constructor);try refine zl ?_)))
  refine af nmd [] hng (by kernel_rfl) fun hf C S K hC1 hC hS hK=>?_;simp (disch:=first|omega|assumption) only [go_sem,hg,bK,AV.cells,List.length_map,hlt,aJ]
  refine hK ?_;clear hK hS hC hC1 K S C hf
  have hne:∀ e,e ∈ M1→¬ e.1=Oid.sub (c+1) 2 x.p:=fun e he k=>by obtain ⟨t,r,h⟩:=hnm e he;rw [h] at k;cases k
  have hmem:∀ e,e ∈ M1→Mem.of ((Oid.sub (c+1) 2 x.p,ar.cells [AV.int .i64 gk,AV.str gt])::M1) e.1=some e.2:=fun e he=>by
   rw [Mem.ae,if_neg (hne e he)];exact hfn e he
  refine bp ((Oid.sub (c+1) 2 x.p,ar.cells [AV.int .i64 gk,AV.str gt])::M1) ?_ ?_
  ·intro e he
   rcases List.mem_cons.1 he with rfl|he
   ·rw [aJ,if_pos rfl]
   ·rw [aJ,if_neg (hne e he),aJ,if_neg (hne e he)];exact hfn e he
  have hW:=fun (s:Str) (hs:s.length≤100000000) (p:Oid) hq' hJ'=>wsB (.sub 1 0 x.p) (Old x.p (c+1+1)) D s M1 (by omega) p hq' hJ' (hR.mono fun i h=>h.mono (by omega))
  have hB:=fun (p:Oid) hq' hJ'=>wbB (.sub 1 0 x.p) (Old x.p (c+1+1)) D 32 M1 (by omega) p hq' hJ' (hR.mono fun i h=>h.mono (by omega))
  by_cases h3:gk=3
  ·subst h3
   rw [show cO pat (3,gt)=[32] from by simp [cO]] at hT
   (repeat (first|(refine ah rfl rfl ?_)|(refine aj rfl rfl ?_)|(refine af nmd [] hng (by kernel_rfl) fun hf C S K hC1 hC hS hK=>?_;simp (disch:=first|omega|assumption) only [go_sem];refine hK ?_;clear hK hS hC hC1 K S C hf)|((first|refine zn ?_|refine ze ?_|refine zk ?_);with_reducible (constructor;repeat constructor);try refine zl ?_)))
   refine af nmd [] hng (by kernel_rfl) fun hf C S K hC1 hC hS hK=>?_;simp (disch:=first|omega|assumption) only [go_sem]
   refine hC _ _ _ (hB _ (hq _ _ (by omega)) (fun i h=>h _ _ (by omega))) hmem ?_ (fun _ _ h=>h.elim)
   rintro _ u ⟨rfl,M2,hR2,hM2⟩
   have hM2:=hM2 _ hmem
   generalize Mem.aF _ u=m2 at hM2 ⊢
   simp (disch:=first|omega|assumption) only [go_sem]
   refine hK ?_;clear hK hS hC hC1 K S C hf
   refine bp M2 hM2 ?_
   (repeat (first|(refine ah rfl rfl ?_)|(refine aj rfl rfl ?_)|(refine af nmd [] hng (by kernel_rfl) fun hf C S K hC1 hC hS hK=>?_;simp (disch:=first|omega|assumption) only [go_sem];refine hK ?_;clear hK hS hC hC1 K S C hf)|((first|refine zn ?_|refine ze ?_|refine zk ?_);with_reducible (constructor;repeat constructor);try refine zl ?_)))
   exact ⟨_,_,by omega,fun _ _ h=>h,i+1,_,M2,rfl,rfl,by omega,by omega,by rw [hT];exact hR2.mono (fun i h=>h.elim (fun h=>h.mono (by omega)) (fun h=>(Old.made h).mono (by omega)))⟩
  ·have h3i:¬ ((gk:Int)=3):=by omega
   cases pat
   ·rw [show cO false (gk,gt)=gt from by simp [cO,h3]] at hT
    (repeat (first|(refine ah rfl rfl ?_)|(refine aj rfl rfl ?_)|(refine af nmd [] hng (by kernel_rfl) fun hf C S K hC1 hC hS hK=>?_;simp (disch:=first|omega|assumption) only [go_sem,h3i,decide_true,decide_false,ne_eq,not_true_eq_false,not_false_eq_true];refine hK ?_;clear hK hS hC hC1 K S C hf)|((first|refine zn ?_|refine ze ?_|refine zk ?_);with_reducible (constructor;repeat constructor);try refine zl ?_)))
    refine af nmd [(1,24)] hng (by kernel_rfl) fun hf C S K hC1 hC hS hK=>?_;simp (disch:=first|omega|assumption) only [go_sem,h3i,decide_true,decide_false,ne_eq,not_true_eq_false,not_false_eq_true]
    refine hK ?_;clear hK hS hC hC1 K S C hf
    (repeat (first|(refine ah rfl rfl ?_)|(refine aj rfl rfl ?_)|(refine af nmd [] hng (by kernel_rfl) fun hf C S K hC1 hC hS hK=>?_;simp (disch:=first|omega|assumption) only [go_sem];refine hK ?_;clear hK hS hC hC1 K S C hf)|((first|refine zn ?_|refine ze ?_|refine zk ?_);with_reducible (constructor;repeat constructor);try refine zl ?_)))
    refine af nmd [] hng (by kernel_rfl) fun hf C S K hC1 hC hS hK=>?_;simp (disch:=first|omega|assumption) only [go_sem]
    refine hC _ _ _ (hW gt (by simp only at ht;omega) _ (hq _ _ (by omega)) (fun i h=>h _ _ (by omega))) hmem ?_ (fun _ _ h=>h.elim)
    rintro _ u ⟨rfl,M2,hR2,hM2⟩
    have hM2:=hM2 _ hmem
    generalize Mem.aF _ u=m2 at hM2 ⊢
    simp (disch:=first|omega|assumption) only [go_sem]
    refine hK ?_;clear hK hS hC hC1 K S C hf
    refine bp M2 hM2 ?_
    (repeat (first|(refine ah rfl rfl ?_)|(refine aj rfl rfl ?_)|(refine af nmd [] hng (by kernel_rfl) fun hf C S K hC1 hC hS hK=>?_;simp (disch:=first|omega|assumption) only [go_sem];refine hK ?_;clear hK hS hC hC1 K S C hf)|((first|refine zn ?_|refine ze ?_|refine zk ?_);with_reducible (constructor;repeat constructor);try refine zl ?_)))
    exact ⟨_,_,by omega,fun _ _ h=>h,i+1,_,M2,rfl,rfl,by omega,by omega,by rw [hT];exact hR2.mono (fun i h=>h.elim (fun h=>h.mono (by omega)) (fun h=>(Old.made h).mono (by omega)))⟩
   ·by_cases h1:gk=1
    ·subst h1
     rw [show cO true (1,gt)=cx gt from by simp [cO]] at hT hai
     (repeat (first|(refine ah rfl rfl ?_)|(refine aj rfl rfl ?_)|(refine af nmd [] hng (by kernel_rfl) fun hf C S K hC1 hC hS hK=>?_;simp (disch:=first|omega|assumption) only [go_sem,h3i,decide_true,decide_false,ne_eq,not_true_eq_false,not_false_eq_true];refine hK ?_;clear hK hS hC hC1 K S C hf)|((first|refine zn ?_|refine ze ?_|refine zk ?_);with_reducible (constructor;repeat constructor);try refine zl ?_)))
     refine af nmd [(1,24)] hng (by kernel_rfl) fun hf C S K hC1 hC hS hK=>?_;simp (disch:=first|omega|assumption) only [go_sem,h3i,decide_true,decide_false,ne_eq,not_true_eq_false,not_false_eq_true]
     refine hK ?_;clear hK hS hC hC1 K S C hf
     (repeat (first|(refine ah rfl rfl ?_)|(refine aj rfl rfl ?_)|(refine af nmd [] hng (by kernel_rfl) fun hf C S K hC1 hC hS hK=>?_;simp (disch:=first|omega|assumption) only [go_sem];refine hK ?_;clear hK hS hC hC1 K S C hf)|((first|refine zn ?_|refine ze ?_|refine zk ?_);with_reducible (constructor;repeat constructor);try refine zl ?_)))
     refine af nmd [] hng (by kernel_rfl) fun hf C S K hC1 hC hS hK=>?_;simp (disch:=first|omega|assumption) only [go_sem]
     refine hC1 _ (hE _) (fun _ h=>by cases h) ?_
     simp (disch:=first|omega|assumption) only [go_sem]
     refine hC _ _ _ (hW (cx gt) hai _ (hq _ _ (by omega)) (fun i h=>h _ _ (by omega))) hmem ?_ (fun _ _ h=>h.elim)
     rintro _ u ⟨rfl,M2,hR2,hM2⟩
     have hM2:=hM2 _ hmem
     generalize Mem.aF _ u=m2 at hM2 ⊢
     simp (disch:=first|omega|assumption) only [go_sem]
     refine hK ?_;clear hK hS hC hC1 K S C hf
     refine bp M2 hM2 ?_
     (repeat (first|(refine ah rfl rfl ?_)|(refine aj rfl rfl ?_)|(refine af nmd [] hng (by kernel_rfl) fun hf C S K hC1 hC hS hK=>?_;simp (disch:=first|omega|assumption) only [go_sem];refine hK ?_;clear hK hS hC hC1 K S C hf)|((first|refine zn ?_|refine ze ?_|refine zk ?_);with_reducible (constructor;repeat constructor);try refine zl ?_)))
     exact ⟨_,_,by omega,fun _ _ h=>h,i+1,_,M2,rfl,rfl,by omega,by omega,by rw [hT];exact hR2.mono (fun i h=>h.elim (fun h=>h.mono (by omega)) (fun h=>(Old.made h).mono (by omega)))⟩
    ·have h1i:¬ ((gk:Int)=1):=by omega
     rw [show cO true (gk,gt)=gV gt from by simp [cO,h3,h1]] at hT hai
     (repeat (first|(refine ah rfl rfl ?_)|(refine aj rfl rfl ?_)|(refine af nmd [] hng (by kernel_rfl) fun hf C S K hC1 hC hS hK=>?_;simp (disch:=first|omega|assumption) only [go_sem,h3i,h1i,decide_true,decide_false,ne_eq,not_true_eq_false,not_false_eq_true];refine hK ?_;clear hK hS hC hC1 K S C hf)|((first|refine zn ?_|refine ze ?_|refine zk ?_);with_reducible (constructor;repeat constructor);try refine zl ?_)))
     refine af nmd [(1,24)] hng (by kernel_rfl) fun hf C S K hC1 hC hS hK=>?_;simp (disch:=first|omega|assumption) only [go_sem,h3i,h1i,decide_true,decide_false,ne_eq,not_true_eq_false,not_false_eq_true]
     refine hK ?_;clear hK hS hC hC1 K S C hf
     (repeat (first|(refine ah rfl rfl ?_)|(refine aj rfl rfl ?_)|(refine af nmd [] hng (by kernel_rfl) fun hf C S K hC1 hC hS hK=>?_;simp (disch:=first|omega|assumption) only [go_sem];refine hK ?_;clear hK hS hC hC1 K S C hf)|((first|refine zn ?_|refine ze ?_|refine zk ?_);with_reducible (constructor;repeat constructor);try refine zl ?_)))
     refine af nmd [] hng (by kernel_rfl) fun hf C S K hC1 hC hS hK=>?_;simp (disch:=first|omega|assumption) only [go_sem]
     refine hC1 _ (hA _ (aH rfl hp)) (fun _ h=>by cases h) ?_
     simp (disch:=first|omega|assumption) only [go_sem]
     refine hC _ _ _ (hW (gV gt) hai _ (hq _ _ (by omega)) (fun i h=>h _ _ (by omega))) hmem ?_ (fun _ _ h=>h.elim)
     rintro _ u ⟨rfl,M2,hR2,hM2⟩
     have hM2:=hM2 _ hmem
     generalize Mem.aF _ u=m2 at hM2 ⊢
     simp (disch:=first|omega|assumption) only [go_sem]
     refine hK ?_;clear hK hS hC hC1 K S C hf
     refine bp M2 hM2 ?_
     (repeat (first|(refine ah rfl rfl ?_)|(refine aj rfl rfl ?_)|(refine af nmd [] hng (by kernel_rfl) fun hf C S K hC1 hC hS hK=>?_;simp (disch:=first|omega|assumption) only [go_sem];refine hK ?_;clear hK hS hC hC1 K S C hf)|((first|refine zn ?_|refine ze ?_|refine zk ?_);with_reducible (constructor;repeat constructor);try refine zl ?_)))
     exact ⟨_,_,by omega,fun _ _ h=>h,i+1,_,M2,rfl,rfl,by omega,by omega,by rw [hT];exact hR2.mono (fun i h=>h.elim (fun h=>h.mono (by omega)) (fun h=>(Old.made h).mono (by omega)))⟩
 ·obtain rfl:i=l.length:=by omega
  rw [List.take_length] at hR hbi
  have hStr:=fun p hp=>ahm (.sub 1 0 x.p) (Old x.p c) _ M1 (by omega) p hp hR
  (repeat (first|(refine ah rfl rfl ?_)|(refine aj rfl rfl ?_)|(refine af nmd [] hng (by kernel_rfl) fun hf C S K hC1 hC hS hK=>?_;simp (disch:=first|omega|assumption) only [go_sem];refine hK ?_;clear hK hS hC hC1 K S C hf)|((first|refine zn ?_|refine ze ?_|refine zk ?_);with_reducible (constructor;repeat constructor);try refine zl ?_)))
  refine af nmd [] hng (by kernel_rfl) fun hf C S K hC1 hC hS hK=>?_;simp (disch:=first|omega|assumption) only [go_sem]
  refine hC _ _ _ (hStr _ (aH rfl hp)) hfn ?_ (fun _ _ h=>h.elim)
  rintro _ u rfl
  generalize Mem.aF _ u=m2
  simp (disch:=first|omega|assumption) only [go_sem]
  refine hK ?_;clear hK hS hC hC1 K S C hf
  (repeat (first|(refine ah rfl rfl ?_)|(refine aj rfl rfl ?_)|(refine af nmd [] hng (by kernel_rfl) fun hf C S K hC1 hC hS hK=>?_;simp (disch:=first|omega|assumption) only [go_sem];refine hK ?_;clear hK hS hC hC1 K S C hf)|((first|refine zn ?_|refine ze ?_|refine zk ?_);with_reducible (constructor;repeat constructor);try refine zl ?_)))
  refine bp [] (fun _ h=>by cases h) ?_
  exact aC (aT rfl)
end Go.Proofs.YtlfeacmbhldjcaaGreatDoor
namespace Go.Proofs.YtlfeacmbhldjcaaGreatDoor
open Go Go.Ab
set_option maxRecDepth 20000
set_option maxHeartbeats 1000000
theorem tW (ifs:Str) (S:Spl) (c:UInt8):(splitB ifs S c).fld.length≤S.fld.length+2∧(splitB ifs S c).out.length≤S.out.length+1:=by
 have h:=sD c
 obtain ⟨out,fld,b,g⟩:=S
 unfold splitB iR fg
 repeat' split
 all_goals simp only [List.length_append,List.length_nil,List.length_singleton]
 all_goals constructor<;>omega
theorem tX (ifs:Str) (s:Str):∀ S:Spl,(s.foldl (splitB ifs) S).fld.length≤S.fld.length+2 * s.length∧(s.foldl (splitB ifs) S).out.length≤S.out.length+s.length:=by
 induction s with
 | nil=>intro S;exact ⟨Nat.le_refl _,Nat.le_refl _⟩
 | cons c s ih =>
  intro S
  have h1:=tW ifs S c
  have h2:=ih (splitB ifs S c)
  simp only [List.foldl_cons,List.length_cons]
  constructor<;>omega
theorem zB (ifs:Str) (S:Spl) (e:Nat × Str) (ha:(gV e.2).length≤2 * e.2.length):(bJ ifs S e).fld.length≤S.fld.length+2 * e.2.length∧(bJ ifs S e).out.length≤S.out.length+e.2.length+1:=by
 have h1:=tX ifs e.2 S
 have h2:=dU e.2
 obtain ⟨out,fld,b,g⟩:=S
 unfold bJ
 repeat' split
 all_goals simp only [iR,fg,List.length_append,List.length_nil,List.length_singleton]
 all_goals first|(constructor<;>omega)|exact ⟨h1.1,Nat.le_succ_of_le h1.2⟩
theorem zC (ifs:Str) (l:List (Nat × Str)) (ha:∀ e,e ∈ l→(gV e.2).length≤2 * e.2.length):∀ S:Spl,(l.foldl (bJ ifs) S).fld.length≤S.fld.length+2 * (l.map fun e=>e.2.length).sum∧(l.foldl (bJ ifs) S).out.length≤S.out.length+(l.map fun e=>e.2.length).sum+l.length:=by
 induction l with
 | nil=>intro S;exact ⟨Nat.le_refl _,Nat.le_refl _⟩
 | cons e l ih =>
  intro S
  have h1:=zB ifs S e (ha e (List.mem_cons_self ..))
  have h2:=ih (fun e he=>ha e (List.mem_cons_of_mem _ he)) (bJ ifs S e)
  simp only [List.foldl_cons,List.length_cons,List.map_cons,List.sum_cons]
  constructor<;>omega
theorem kc (s:Str) (p:Oid):aA Tryz.prog 180 [.str s] (Oid.under p) ⟨[],.bool (decide (s=[64]) || decide (s=[42])),[]⟩:=by
 by_cases h1:s=[64]
 ·subst h1
  refine aN (n:=9) (rs:=[.tmp 2]) Tryz.func180 rfl rfl (by decide) rfl rfl rfl ?_;rintro x rfl hrd hng
  (repeat (first|(refine ah rfl rfl ?_)|(refine aj rfl rfl ?_)|(refine af nmd [] hng (by kernel_rfl) fun hf C S K hC1 hC hS hK=>?_;simp (disch:=first|omega|assumption) only [go_sem];refine hK ?_;clear hK hS hC hC1 K S C hf)|((first|refine zn ?_|refine ze ?_|refine zk ?_);with_reducible (constructor;repeat constructor);try refine zl ?_)))
  refine af nmd [(2,5)] hng (by kernel_rfl) fun hf C S K hC1 hC hS hK=>?_;simp (disch:=first|omega|assumption) only [go_sem,eq_self,decide_true,decide_false,ne_eq,not_true_eq_false,not_false_eq_true]
  refine hK ?_;clear hK hS hC hC1 K S C hf
  (repeat (first|(refine ah rfl rfl ?_)|(refine aj rfl rfl ?_)|(refine af nmd [] hng (by kernel_rfl) fun hf C S K hC1 hC hS hK=>?_;simp (disch:=first|omega|assumption) only [go_sem];refine hK ?_;clear hK hS hC hC1 K S C hf)|((first|refine zn ?_|refine ze ?_|refine zk ?_);with_reducible (constructor;repeat constructor);try refine zl ?_)))
  exact aC (aT rfl)
 ·by_cases h2:s=[42]
  ·subst h2
   have hx:¬ ([42]:Str)=[64]:=by decide
   refine aN (n:=9) (rs:=[.tmp 2]) Tryz.func180 rfl rfl (by decide) rfl rfl rfl ?_;rintro x rfl hrd hng
   (repeat (first|(refine ah rfl rfl ?_)|(refine aj rfl rfl ?_)|(refine af nmd [] hng (by kernel_rfl) fun hf C S K hC1 hC hS hK=>?_;simp (disch:=first|omega|assumption) only [go_sem];refine hK ?_;clear hK hS hC hC1 K S C hf)|((first|refine zn ?_|refine ze ?_|refine zk ?_);with_reducible (constructor;repeat constructor);try refine zl ?_)))
   refine af nmd [(2,5)] hng (by kernel_rfl) fun hf C S K hC1 hC hS hK=>?_;simp (disch:=first|omega|assumption) only [go_sem,hx,eq_self,decide_true,decide_false,ne_eq,not_true_eq_false,not_false_eq_true,Bool.not_false]
   refine hK ?_;clear hK hS hC hC1 K S C hf
   (repeat (first|(refine ah rfl rfl ?_)|(refine aj rfl rfl ?_)|(refine af nmd [] hng (by kernel_rfl) fun hf C S K hC1 hC hS hK=>?_;simp (disch:=first|omega|assumption) only [go_sem];refine hK ?_;clear hK hS hC hC1 K S C hf)|((first|refine zn ?_|refine ze ?_|refine zk ?_);with_reducible (constructor;repeat constructor);try refine zl ?_)))
   exact aC (aT rfl)
  ·rw [decide_eq_false h1,decide_eq_false h2]
   refine aN (n:=9) (rs:=[.tmp 2]) Tryz.func180 rfl rfl (by decide) rfl rfl rfl ?_;rintro x rfl hrd hng
   (repeat (first|(refine ah rfl rfl ?_)|(refine aj rfl rfl ?_)|(refine af nmd [] hng (by kernel_rfl) fun hf C S K hC1 hC hS hK=>?_;simp (disch:=first|omega|assumption) only [go_sem];refine hK ?_;clear hK hS hC hC1 K S C hf)|((first|refine zn ?_|refine ze ?_|refine zk ?_);with_reducible (constructor;repeat constructor);try refine zl ?_)))
   refine af nmd [(2,5)] hng (by kernel_rfl) fun hf C S K hC1 hC hS hK=>?_;simp (disch:=first|omega|assumption) only [go_sem,h1,h2,decide_true,decide_false,ne_eq,not_true_eq_false,not_false_eq_true]
   refine hK ?_;clear hK hS hC hC1 K S C hf
   (repeat (first|(refine ah rfl rfl ?_)|(refine aj rfl rfl ?_)|(refine af nmd [] hng (by kernel_rfl) fun hf C S K hC1 hC hS hK=>?_;simp (disch:=first|omega|assumption) only [go_sem];refine hK ?_;clear hK hS hC hC1 K S C hf)|((first|refine zn ?_|refine ze ?_|refine zk ?_);with_reducible (constructor;repeat constructor);try refine zl ?_)))
   exact aC (aT rfl)
end Go.Proofs.YtlfeacmbhldjcaaGreatDoor
namespace Go.Proofs.YtlfeacmbhldjcaaGreatDoor
open Go Go.Ab
theorem sE:∀ (k:Nat) (s:Str),(Lib.replaceK [92] [92,92] k s).length≤s.length+k
 | 0,s=>Nat.le_refl _
 | k+1,s=>by
  rw [Lib.replaceK]
  split
  ·omega
  ·rename_i h
   have hge:=Lib.index_ge s [92]
   have h0:0≤Lib.index s [92]:=by
    have:¬ Lib.index s [92] = -1:=fun e=>h (by rw [e];rfl)
    omega
   have hr:=Lib.index_room s [92] h0
   have ih:=sE k (s.drop ((Lib.index s [92]).toNat+([92]:Str).length))
   simp only [List.length_append,List.length_take,List.length_drop,List.length_cons,List.length_nil] at ih hr ⊢
   omega
theorem nc (s:Str):(gV s).length≤2 * s.length:=by
 have hc:=Lib.countB_mul_le ⟨#[92]⟩ (by decide) s.length ⟨s.toArray⟩ (Nat.le_refl _)
 have h1:(ByteArray.mk #[92]).size=1:=rfl
 have h2:(ByteArray.mk s.toArray).size=s.length:=rfl
 rw [h1,h2] at hc
 have h3:Lib.count s [92]≤s.length:=by
  have:Lib.countB ⟨s.toArray⟩ ⟨#[92]⟩=Lib.count s [92]:=rfl
  omega
 have h4:Lib.replaceNum s [92] (-1)=Lib.count s [92]:=by unfold Lib.replaceNum;rw [if_pos (.inl (by decide))]
 unfold gV Lib.replaceAll Lib.replace
 rw [h4]
 split
 ·omega
 ·have:=sE (Lib.count s [92]) s
  omega
theorem tY (l:List (Nat × Str)) (ifs:Str) (hn:l.length≤10000) (hk:∀ e,e ∈ l→e.1≤3) (hs:(l.map fun e=>e.2.length).sum≤50000) (p:Oid) (hp:p.mono=false) :
  aA Tryz.prog 32 [.list 2 (l.map bK),.str ifs] (Oid.under p) ⟨[],.list 1 ((eg l ifs).map .str),[]⟩:=by
 have hle:∀ (L:List (Nat × Str)),∀ e,e ∈ L→e.2.length≤(L.map fun e=>e.2.length).sum:=by
  intro L
  induction L with
  | nil=>intro e he;cases he
  | cons a L ih =>
   intro e he
   simp only [List.map_cons,List.sum_cons]
   rcases List.mem_cons.1 he with rfl|he
   ·omega
   ·have:=ih e he;omega
 have htk:∀ (L:List (Nat × Str)) (i:Nat),((L.take i).map fun e=>e.2.length).sum≤(L.map fun e=>e.2.length).sum:=by
  intro L i
  conv=>rhs;rw [← List.take_append_drop i L,List.map_append,List.sum_append]
  omega
 refine zA l ifs (by omega) (fun e he=>?_) (fun i=>?_) p hp
 ·have h1:=hle l e he
  have h2:=nc e.2
  exact ⟨hk e he,by omega,by omega⟩
 ·have h1:=zC ifs (l.take i) (fun e _=>nc e.2) jD
  have h2:=htk l i
  have h3:(l.take i).length≤l.length:=by rw [List.length_take];omega
  have h4:jD.fld.length=0:=rfl
  have h5:jD.out.length=0:=rfl
  exact ⟨by omega,by omega⟩
end Go.Proofs.YtlfeacmbhldjcaaGreatDoor
namespace Go.Proofs.YtlfeacmbhldjcaaGreatDoor
open Go Go.Ab
theorem lp (s ifs:Str):eg [(1,s)] ifs=[cx s]:=by
 simp [eg,bJ,iR,fg,jD]
def bF:List Str→List (Nat × Str)
 | []=>[]
 | [a]=>[(1,a)]
 | a::b::l=>(1,a)::(3,[])::bF (b::l)
theorem nf (ifs:Str):∀ (l:List Str) (a:Str) (out:List Str) (g:Bool),((bF (a::l)).foldl (bJ ifs) ⟨out,[],false,g⟩).b=true∧(fg ((bF (a::l)).foldl (bJ ifs) ⟨out,[],false,g⟩)).out=out++(a::l).map cx
 | [],a,out,g=>by simp [bF,bJ,iR,fg]
 | b::l,a,out,g=>by
  have ih:=nf ifs l b (out++[cx a]) false
  have e:(bF (a::b::l)).foldl (bJ ifs) ⟨out,[],false,g⟩=(bF (b::l)).foldl (bJ ifs) ⟨out++[cx a],[],false,false⟩:=by
   simp [bF,bJ,iR,fg]
  rw [e]
  exact ⟨ih.1,by rw [ih.2];simp⟩
theorem qj (l:List Str) (ifs:Str):eg (bF l) ifs=l.map cx:=by
 cases l with
 | nil=>rfl
 | cons a l =>
  have h:=nf ifs l a [] false
  unfold eg
  rw [show jD=⟨[],[],false,false⟩ from rfl,if_pos h.1,h.2,List.nil_append]
end Go.Proofs.YtlfeacmbhldjcaaGreatDoor
namespace Go.Proofs.YtlfeacmbhldjcaaGreatDoor
open Go Go.Ab
set_option maxRecDepth 20000
set_option maxHeartbeats 1000000
theorem tZ (r:Oid) (t:Str) (hl:t.length≤140737488355328) (hs:gS t=false) (p:Oid):aA Tryz.prog 9 [.ptr r 0,.str t] (Oid.under p) ⟨[],.list 1 [.str (bO t)],[]⟩:=by
 have hS1:=fun p=>tT t hl p
 have hP:=fun p=>Dd t hl p
 rw [hs] at hS1
 refine aN (n:=26) (rs:=[.tmp 4]) Tryz.func9 rfl rfl (by decide) rfl rfl rfl ?_;rintro x rfl hrd hng
 (repeat (first|(refine ah rfl rfl ?_)|(refine aj rfl rfl ?_)|(refine af nmd [] hng (by kernel_rfl) fun hf C S K hC1 hC hS hK=>?_;simp (disch:=first|omega|assumption) only [go_sem];refine hK ?_;clear hK hS hC hC1 K S C hf)|((first|refine zn ?_|refine ze ?_|refine zk ?_);with_reducible (constructor;repeat constructor);try refine zl ?_)))
 refine af nmd [(2,8)] hng (by kernel_rfl) fun hf C S K hC1 hC hS hK=>?_;simp (disch:=first|omega|assumption) only [go_sem,decide_true,decide_false,ne_eq,not_true_eq_false,not_false_eq_true]
 refine hC1 _ (hS1 _) (fun _ h=>by cases h) ?_
 simp (disch:=first|omega|assumption) only [go_sem,decide_true,decide_false,ne_eq,not_true_eq_false,not_false_eq_true]
 refine hK ?_;clear hK hS hC hC1 K S C hf
 (repeat (first|(refine ah rfl rfl ?_)|(refine aj rfl rfl ?_)|(refine af nmd [] hng (by kernel_rfl) fun hf C S K hC1 hC hS hK=>?_;simp (disch:=first|omega|assumption) only [go_sem];refine hK ?_;clear hK hS hC hC1 K S C hf)|((first|refine zn ?_|refine ze ?_|refine zk ?_);with_reducible (constructor;repeat constructor);try refine zl ?_)))
 refine af nmd [] hng (by kernel_rfl) fun hf C S K hC1 hC hS hK=>?_;simp (disch:=first|omega|assumption) only [go_sem]
 refine hC1 _ (hP _) (fun _ h=>by cases h) ?_
 simp (disch:=first|omega|assumption) only [go_sem]
 refine hK ?_;clear hK hS hC hC1 K S C hf
 exact aC (aT rfl)
end Go.Proofs.YtlfeacmbhldjcaaGreatDoor
namespace Go.Proofs.YtlfeacmbhldjcaaGreatDoor
open Go Go.Ab
set_option maxRecDepth 20000
set_option maxHeartbeats 1000000
theorem Dh (q:Oid) (A B F D K G N O W:AV) (s:Str) (p:Oid) (hq:¬ Oid.under p q) :
  aA Tryz.prog 119 [.ptr q 0,.agg [K,.bool true,G,N,O,W],.str s] (Oid.under p) ⟨[(q,.cells [A,B,F,D,.nilSl])],.tuple [],
   [(q,some (.cells [A,B,F,D,.sl (.sub 4 9 p) 2 1])),(.sub 4 9 p,some (.arr 2 [bK (1,s)]))]⟩:=by
 refine aN (n:=21) (rs:=[]) Tryz.func119 rfl rfl (by decide) rfl rfl rfl ?_;rintro x rfl hrd hng
 (repeat (first|(refine ah rfl rfl ?_)|(refine aj rfl rfl ?_)|(refine af nmd [] hng (by kernel_rfl) fun hf C S K hC1 hC hS hK=>?_;simp (disch:=first|omega|assumption) only [go_sem];refine hK ?_;clear hK hS hC hC1 K S C hf)|((first|refine zn ?_|refine ze ?_|refine zk ?_);with_reducible (constructor;repeat constructor);try refine zl ?_)))
 refine af nmd [] hng (by kernel_rfl) fun hf C S K hC1 hC hS hK=>?_;simp (disch:=first|omega|assumption) only [go_sem,Oid.aa hq,Oid.ab hq,AV.cells,List.flatMap_cons,List.flatMap_nil,fD]
 refine hK ?_;clear hK hS hC hC1 K S C hf
 refine br (bc (.tuple []) _ rfl ⟨rfl,rfl⟩ (cm ?_ ?_))
 all_goals simp only [List.mem_cons,List.not_mem_nil,or_false,forall_eq_or_imp,forall_eq,Option.some.injEq,forall_eq',Mem.ae,eq_self,if_true,↓reduceIte,reduceCtorEq,implies_true,not_true_eq_false,false_imp_iff,true_and,and_true,false_and,and_false,imp_self,Oid.aa hq,Oid.ab hq,Oid.sub.injEq,Nat.reduceEqDiff,bK]
 all_goals rfl
theorem zD (q:Oid) (A B F D K G N O W:AV) (s:Str) (p:Oid) (hq:¬ Oid.under p q) :
  aA Tryz.prog 119 [.ptr q 0,.agg [K,.bool false,G,N,O,W],.str s] (Oid.under p) ⟨[(q,.cells [A,B,F,D,.nilSl])],.tuple [],
   [(q,some (.cells [A,B,F,D,.sl (.sub 3 9 p) 2 1])),(.sub 3 9 p,some (.arr 2 [bK (2,s)]))]⟩:=by
 refine aN (n:=21) (rs:=[]) Tryz.func119 rfl rfl (by decide) rfl rfl rfl ?_;rintro x rfl hrd hng
 (repeat (first|(refine ah rfl rfl ?_)|(refine aj rfl rfl ?_)|(refine af nmd [] hng (by kernel_rfl) fun hf C S K hC1 hC hS hK=>?_;simp (disch:=first|omega|assumption) only [go_sem];refine hK ?_;clear hK hS hC hC1 K S C hf)|((first|refine zn ?_|refine ze ?_|refine zk ?_);with_reducible (constructor;repeat constructor);try refine zl ?_)))
 refine af nmd [] hng (by kernel_rfl) fun hf C S K hC1 hC hS hK=>?_;simp (disch:=first|omega|assumption) only [go_sem,Oid.aa hq,Oid.ab hq,AV.cells,List.flatMap_cons,List.flatMap_nil,fD]
 refine hK ?_;clear hK hS hC hC1 K S C hf
 refine br (bc (.tuple []) _ rfl ⟨rfl,rfl⟩ (cm ?_ ?_))
 all_goals simp only [List.mem_cons,List.not_mem_nil,or_false,forall_eq_or_imp,forall_eq,Option.some.injEq,forall_eq',Mem.ae,eq_self,if_true,↓reduceIte,reduceCtorEq,implies_true,not_true_eq_false,false_imp_iff,true_and,and_true,false_and,and_false,imp_self,Oid.aa hq,Oid.ab hq,Oid.sub.injEq,Nat.reduceEqDiff,bK]
 all_goals rfl
theorem zE (q ro:Oid) (l:List (Nat × Str)) (hn:l.length≤1000000) (A B F D K G N O W:AV) (s:Str) (p:Oid) (hq:¬ Oid.under p q) (ho:¬ Oid.under p ro) (hqo:¬ ro=q) :
  aA Tryz.prog 119 [.ptr q 0,.agg [K,.bool true,G,N,O,W],.str s] (Oid.under p) ⟨[(q,.cells [A,B,F,D,.sl ro 2 l.length]),(ro,.arr 2 (l.map bK))],.tuple [],
   [(q,some (.cells [A,B,F,D,.sl (.sub 4 9 p) 2 (l.length+1)])),(ro,none),(.sub 4 9 p,some (.arr 2 ((l++[(1,s)]).map bK)))]⟩:=by
 refine aN (n:=21) (rs:=[]) Tryz.func119 rfl rfl (by decide) rfl rfl rfl ?_;rintro x rfl hrd hng
 (repeat (first|(refine ah rfl rfl ?_)|(refine aj rfl rfl ?_)|(refine af nmd [] hng (by kernel_rfl) fun hf C S K hC1 hC hS hK=>?_;simp (disch:=first|omega|assumption) only [go_sem];refine hK ?_;clear hK hS hC hC1 K S C hf)|((first|refine zn ?_|refine ze ?_|refine zk ?_);with_reducible (constructor;repeat constructor);try refine zl ?_)))
 refine af nmd [] hng (by kernel_rfl) fun hf C S K hC1 hC hS hK=>?_;simp (disch:=first|omega|assumption) only [go_sem,Oid.aa hq,Oid.ab hq,AV.cells,List.flatMap_cons,List.flatMap_nil,fD,List.length_map,hqo,Ne.symm hqo,if_false,↓reduceIte]
 refine hK ?_;clear hK hS hC hC1 K S C hf
 refine br (bc (.tuple []) _ rfl ⟨rfl,rfl⟩ (cm ?_ ?_))
 all_goals simp only [List.mem_cons,List.not_mem_nil,or_false,forall_eq_or_imp,forall_eq,Option.some.injEq,forall_eq',Mem.ae,eq_self,if_true,↓reduceIte,reduceCtorEq,implies_true,not_true_eq_false,false_imp_iff,true_and,and_true,false_and,and_false,imp_self,Oid.aa hq,Oid.ab hq,Oid.aa ho,Oid.ab ho,hqo,Ne.symm hqo,List.map_append,List.map_cons,List.map_nil,Oid.sub.injEq,Nat.reduceEqDiff,bK]
 all_goals rfl
theorem ua (q ro:Oid) (l:List (Nat × Str)) (hn:l.length≤1000000) (A B F D K G N O W:AV) (s:Str) (p:Oid) (hq:¬ Oid.under p q) (ho:¬ Oid.under p ro) (hqo:¬ ro=q) :
  aA Tryz.prog 119 [.ptr q 0,.agg [K,.bool false,G,N,O,W],.str s] (Oid.under p) ⟨[(q,.cells [A,B,F,D,.sl ro 2 l.length]),(ro,.arr 2 (l.map bK))],.tuple [],
   [(q,some (.cells [A,B,F,D,.sl (.sub 3 9 p) 2 (l.length+1)])),(ro,none),(.sub 3 9 p,some (.arr 2 ((l++[(2,s)]).map bK)))]⟩:=by
 refine aN (n:=21) (rs:=[]) Tryz.func119 rfl rfl (by decide) rfl rfl rfl ?_;rintro x rfl hrd hng
 (repeat (first|(refine ah rfl rfl ?_)|(refine aj rfl rfl ?_)|(refine af nmd [] hng (by kernel_rfl) fun hf C S K hC1 hC hS hK=>?_;simp (disch:=first|omega|assumption) only [go_sem];refine hK ?_;clear hK hS hC hC1 K S C hf)|((first|refine zn ?_|refine ze ?_|refine zk ?_);with_reducible (constructor;repeat constructor);try refine zl ?_)))
 refine af nmd [] hng (by kernel_rfl) fun hf C S K hC1 hC hS hK=>?_;simp (disch:=first|omega|assumption) only [go_sem,Oid.aa hq,Oid.ab hq,AV.cells,List.flatMap_cons,List.flatMap_nil,fD,List.length_map,hqo,Ne.symm hqo,if_false,↓reduceIte]
 refine hK ?_;clear hK hS hC hC1 K S C hf
 refine br (bc (.tuple []) _ rfl ⟨rfl,rfl⟩ (cm ?_ ?_))
 all_goals simp only [List.mem_cons,List.not_mem_nil,or_false,forall_eq_or_imp,forall_eq,Option.some.injEq,forall_eq',Mem.ae,eq_self,if_true,↓reduceIte,reduceCtorEq,implies_true,not_true_eq_false,false_imp_iff,true_and,and_true,false_and,and_false,imp_self,Oid.aa hq,Oid.ab hq,Oid.aa ho,Oid.ab ho,hqo,Ne.symm hqo,List.map_append,List.map_cons,List.map_nil,Oid.sub.injEq,Nat.reduceEqDiff,bK]
 all_goals rfl
end Go.Proofs.YtlfeacmbhldjcaaGreatDoor
namespace Go.Proofs
open Go.Shelf
def Tryz.vh:Go.Shelf.Ren:=⟨fun|4=>78|n=>n,fun|22=>27|25=>9|3=>3|4=>4|9=>9|20=>20|0=>0|n=>n,fun|n=>n⟩
theorem Tryz.Gro:Go.Proofs.Lays8.n4 Tryz.prog Tryz.vh:={
 mixed:=by kernel_rfl
 f4:=⟨Tryz.f78.name,by decide,Tryz.func78.trans (congrArg some (by kernel_rfl))⟩
 t0:=Tryz.underlying0
 a0:=Tryz.isAgg0
 z0:=Tryz.sizeOf0
 v0:=Tryz.zeroValue0
 t3:=Tryz.underlying3
 a3:=Tryz.isAgg3
 z3:=Tryz.sizeOf3
 v3:=Tryz.zeroValue3
 t4:=Tryz.underlying4
 a4:=Tryz.isAgg4
 z4:=Tryz.sizeOf4
 v4:=Tryz.zeroValue4
 t9:=Tryz.underlying9
 a9:=Tryz.isAgg9
 z9:=Tryz.sizeOf9
 v9:=Tryz.zeroValue9
 t20:=Tryz.underlying20
 a20:=Tryz.isAgg20
 z20:=Tryz.sizeOf20
 v20:=Tryz.zeroValue20
 t22:=Tryz.underlying27
 a22:=Tryz.isAgg27
 z22:=Tryz.sizeOf27
 v22:=Tryz.zeroValue27 }
end Go.Proofs
namespace Go.Proofs.YtlfeacmbhldjcaaGreatDoor
open Go Go.Ab
set_option maxRecDepth 20000
set_option maxHeartbeats 4000000
theorem Xz (n:Nat) (h0:0 < n) (hn:n≤8000000000000) (p:Oid):aA Tryz.prog 78 [.nilSl,.int .i64 n] (Oid.under p) ⟨[],.sl (.sub 0 0 p) 1 0,[(.sub 0 0 p,some (.arr 1 []))]⟩:=by
 have hk:(Tryz.prog.info? 9).map (fun i=>(i.size,i.bytes,i.zero))=some (1,16,some (Value.string ⟨#[]⟩)):=by kernel_rfl
 cases hi:Tryz.prog.info? 9 with
 | none=>rw [hi] at hk;cases hk
 | some i0 =>
 rw [hi] at hk
 simp only [Option.map_some,Option.some.injEq,Prod.mk.injEq] at hk
 obtain ⟨e1,e2,e3⟩:=hk
 refine ⟨by kernel_rfl,fun x g args w m hm _ ha hs hx=>?_⟩
 obtain ⟨v,u,rfl,hv,hu⟩:=ha.two
 rw [hv.bu,hu.aY]
 have h:=Any8.slices_Grow_grow Tryz.Gro i0 (Value.string ⟨#[]⟩) hi e3 (by rw [e1];decide) none 0 0 n [] w (Nat.le_refl _) (by omega) (by rw [e2];omega) (by omega) (by rw [e1];rfl) (fun _=>rfl) (fun a h=>by cases h)
 rw [show (Tryz.vh).t 25=9 from rfl] at h
 have hG:=grownCap_ge w (0+n) 0 9
 generalize grownCap w (0+n) 0 9=G at hG h
 have hsz:((#[]:Array Value)++Builtin.zeroCells (Value.string ⟨#[]⟩).cells (0+n - 0)++Builtin.zeroCells (Value.string ⟨#[]⟩).cells (G - (0+n))).size=G * 1:=by
  simp only [Array.size_append,Builtin.zeroCells,Array.size_map,Array.size_range]
  have:(Value.string ⟨#[]⟩).cells.size=1:=rfl
  rw [this]
  simp;omega
 generalize ((#[]:Array Value)++Builtin.zeroCells (Value.string ⟨#[]⟩).cells (0+n - 0)++Builtin.zeroCells (Value.string ⟨#[]⟩).cells (G - (0+n)))=cs at hsz h
 refine h.mono ?_
 rintro en w' ⟨rfl,rfl⟩
 obtain ⟨hl,hup⟩:=hs (.sub 0 0 p) (Oid.ay (Oid.az _))
 have hrn:g.row w.heap.size=none:=hm.jH (Nat.le_refl _)
 have hd:aD x g m w.drew:=hm.drew _ (Nat.le_succ _)
 have hnew:=hd.new hl hup (o:=.arr 1 []) (ob:=.cells cs 9) ⟨cs,9,(0,0),bC w.drew _,by simp,fun j _ hj=>by omega,fun i hi=>absurd hi (Nat.not_lt_zero _),fun j hj=>by simp at hj,fun i j hi _=>absurd hi (Nat.not_lt_zero _)⟩ (fun t ht=>by cases ht)
 refine ⟨(g.bind (.sub 0 0 p) w.heap.size).measure w.heap.size (G * 1),_,rfl,Gh.le_trans (Gh.bt hl) (Gh.dy (.inl hrn)),fun j hj=>?_,?_,hnew.measure ⟨cs,9,(0,0),bC w.drew _,hsz⟩ (.inl hrn)⟩
 ·have hne:¬ j = .sub 0 0 p:=fun e=>by subst e;exact hj (Oid.ay (Oid.az (.sub 0 0 p)))
  simp only [Gh.bind,Gh.measure];rw [if_neg hne]
 ·exact .sl _ _ _ _ _ (by simp [Gh.bind,Gh.measure]) (by omega) (by simp [Gh.measure])
def gW (l:List (List Str)):Nat:=(l.map List.length).sum
theorem oT (l:List (List Str)) {i:Nat} (h:i < l.length):gW (l.take (i+1))=gW (l.take i)+(l.getD i []).length:=by
 unfold gW
 rw [List.take_add_one,List.getElem?_eq_getElem h,List.getD_eq_getElem?_getD,List.getElem?_eq_getElem h,List.map_append,List.sum_append]
 simp only [Option.toList,List.map_cons,List.map_nil,List.sum_cons,List.sum_nil,Option.getD_some,Nat.add_zero]
theorem vi (l:List (List Str)) (i:Nat):gW (l.take i)≤gW l:=by
 unfold gW
 conv=>rhs;rw [← List.take_append_drop i l,List.map_append,List.sum_append]
 omega
theorem zF (l:List (List Str)) (h0:0 < gW l) (hn:gW l≤1000000000) (hl:l.length≤1000000000) (p:Oid):aA Tryz.prog 34 [.list 1 (l.map fun a=>.list 1 (a.map AV.str))] (Oid.under p) ⟨[],.list 1 (l.flatten.map AV.str),[]⟩:=by
 refine aN (n:=36) (rs:=[.tmp 2]) Tryz.func34 rfl rfl (by decide) rfl rfl rfl ?_;rintro x rfl hrd hng
 (repeat (first|(refine ah rfl rfl ?_)|(refine aj rfl rfl ?_)|(refine af nmd [] hng (by kernel_rfl) fun hf C S K hC1 hC hS hK=>?_;simp (disch:=first|omega|assumption) only [go_sem,List.length_map];refine hK ?_;clear hK hS hC hC1 K S C hf)|((first|refine zn ?_|refine ze ?_|refine zk ?_);with_reducible (constructor;repeat constructor);try refine zl ?_)))
 refine tQ [0,3] (fun s'=>∃ c,s' = ⟨[(0,.list 1 (l.map fun a=>.list 1 (a.map AV.str))),(3,.int .i64 (gW l))],Mem.of [],c,[]⟩) ?_ ?_
 ·refine a6 [0,3,9,10,11] (fun k s'=>∃ (i c:Nat),s' = ⟨[(0,.list 1 (l.map fun a=>.list 1 (a.map AV.str))),(3,.int .i64 (gW (l.take i))),(9,.list 1 (l.map fun a=>.list 1 (a.map AV.str))),(10,.int .i64 l.length),(11,.int .i64 i)],Mem.of [],c,[]⟩∧k=l.length - i∧i≤l.length) _ ⟨0,_,rfl,rfl,Nat.zero_le _⟩ ?_
  rintro k s' ⟨i,c,rfl,rfl,hi⟩
  by_cases hlt:i < l.length
  ·have hI:(i:Int) < l.length:=by omega
   have hlx:i < (l.map fun a=>AV.list 1 (a.map AV.str)).length:=by rw [List.length_map];exact hlt
   have hg:(l.map fun a=>AV.list 1 (a.map AV.str)).getD i .undef = .list 1 ((l.getD i []).map AV.str):=by
    rw [List.getD_eq_getElem?_getD,List.getElem?_map,List.getElem?_eq_getElem hlt,List.getD_eq_getElem?_getD,List.getElem?_eq_getElem hlt];rfl
   have hs:=oT l hlt
   have hle:=vi l (i+1)
   generalize l.getD i []=a at hg hs
   have hneg:¬ ((gW (l.take i):Int)+(a.length:Int) < 0):=by omega
   (repeat (first|(refine ah rfl rfl ?_)|(refine aj rfl rfl ?_)|(refine af nmd [] hng (by kernel_rfl) fun hf C S K hC1 hC hS hK=>?_;simp (disch:=first|omega|assumption) only [go_sem,hI,hlx,hg,hneg,List.length_map,decide_true,decide_false,ne_eq,not_true_eq_false,not_false_eq_true];refine hK ?_;clear hK hS hC hC1 K S C hf)|((first|refine zn ?_|refine ze ?_|refine zk ?_);with_reducible (constructor;repeat constructor);try refine zl ?_)))
   exact ⟨_,_,by omega,fun _ _ h=>h,i+1,_,by rw [hs];rfl,rfl,by omega⟩
  ·obtain rfl:i=l.length:=by omega
   have hI:¬ (l.length:Int) < l.length:=by omega
   rw [List.take_length]
   (repeat (first|(refine ah rfl rfl ?_)|(refine aj rfl rfl ?_)|(refine af nmd [] hng (by kernel_rfl) fun hf C S K hC1 hC hS hK=>?_;simp (disch:=first|omega|assumption) only [go_sem,hI,decide_true,decide_false,ne_eq,not_true_eq_false,not_false_eq_true];refine hK ?_;clear hK hS hC hC1 K S C hf)|((first|refine zn ?_|refine ze ?_|refine zk ?_);with_reducible (constructor;repeat constructor);try refine zl ?_)))
   exact aQ ⟨_,rfl⟩
 rintro s' ⟨c,rfl⟩
 have hG:=fun p=>Xz (gW l) h0 (by omega) p
 have hsl:(l.flatten.map AV.str).length=gW l:=by rw [List.length_map,List.length_flatten];rfl
 (repeat (first|(refine ah rfl rfl ?_)|(refine aj rfl rfl ?_)|(refine af nmd [] hng (by kernel_rfl) fun hf C S K hC1 hC hS hK=>?_;simp (disch:=first|omega|assumption) only [go_sem,List.length_map];(repeat ((first|refine hC1 _ (hG _) (by simp (disch:=first|omega|assumption) only [go_sem]) ?_);simp (disch:=first|omega|assumption) only [go_sem]));refine hK ?_;clear hK hS hC hC1 K S C hf)|((first|refine zn ?_|refine ze ?_|refine zk ?_);with_reducible (constructor;repeat constructor);try refine zl ?_)))
 refine a6 [6,25,26,27] (fun k s'=>∃ (i c:Nat) (r:Oid),s' = ⟨[(6,.sl r 1 (gW (l.take i))),(25,.list 1 (l.map fun a=>.list 1 (a.map AV.str))),(26,.int .i64 l.length),(27,.int .i64 i)],Mem.of [(r,.arr 1 ((l.take i).flatten.map AV.str))],c,[]⟩∧k=l.length - i∧i≤l.length∧Old x.p c r) _ ⟨0,_,_,rfl,rfl,Nat.zero_le _,Old.mono (Old.made (Oid.ay (Oid.az _))) (by omega)⟩ ?_
 rintro k s' ⟨i,c,r,rfl,rfl,hi,hr⟩
 by_cases hlt:i < l.length
 ·have hI:(i:Int) < l.length:=by omega
  have hlx:i < (l.map fun a=>AV.list 1 (a.map AV.str)).length:=by rw [List.length_map];exact hlt
  have hg:(l.map fun a=>AV.list 1 (a.map AV.str)).getD i .undef = .list 1 ((l.getD i []).map AV.str):=by
   rw [List.getD_eq_getElem?_getD,List.getElem?_map,List.getElem?_eq_getElem hlt,List.getD_eq_getElem?_getD,List.getElem?_eq_getElem hlt];rfl
  have hs:=oT l hlt
  have hle:=vi l (i+1)
  have hfl:(l.take (i+1)).flatten.map AV.str=(l.take i).flatten.map AV.str++(l.getD i []).map AV.str:=by
   rw [List.take_add_one,List.getElem?_eq_getElem hlt,List.flatten_append,List.map_append,List.getD_eq_getElem?_getD,List.getElem?_eq_getElem hlt]
   simp [Option.toList]
  generalize l.getD i []=a at hg hs hfl
  have hn1:¬ Oid.sub (c+1+1) 2 x.p=r:=fun e=>hr (c+1+1) 2 (by omega) (by rw [← e];exact Oid.az _)
  have hn2:¬ r=Oid.sub (c+1+1) 2 x.p:=fun e=>hn1 e.symm
  have hfn:((l.take i).flatten).length=gW (l.take i):=List.length_flatten
  have hbd:(gW (l.take i)+a.length) * 16≤140737488355328:=by omega
  (repeat (first|(refine ah rfl rfl ?_)|(refine aj rfl rfl ?_)|(refine af nmd [] hng (by kernel_rfl) fun hf C S K hC1 hC hS hK=>?_;simp (disch:=first|omega|assumption) only [go_sem,hI,hlx,hg,hn1,hn2,fD,List.length_map,if_false,hfn,hbd,and_self,decide_true,decide_false,ne_eq,not_true_eq_false,not_false_eq_true];refine hK ?_;clear hK hS hC hC1 K S C hf)|((first|refine zn ?_|refine ze ?_|refine zk ?_);with_reducible (constructor;repeat constructor);try refine zl ?_)))
  exact ⟨_,_,by omega,fun _ _ h=>h,i+1,_,_,by rw [hs,hfl];rfl,rfl,by omega,Old.mono (Old.made (Oid.az _)) (by omega)⟩
 ·obtain rfl:i=l.length:=by omega
  have hI:¬ (l.length:Int) < l.length:=by omega
  rw [List.take_length]
  (repeat (first|(refine ah rfl rfl ?_)|(refine aj rfl rfl ?_)|(refine af nmd [] hng (by kernel_rfl) fun hf C S K hC1 hC hS hK=>?_;simp (disch:=first|omega|assumption) only [go_sem,hI,decide_true,decide_false,ne_eq,not_true_eq_false,not_false_eq_true];refine hK ?_;clear hK hS hC hC1 K S C hf)|((first|refine zn ?_|refine ze ?_|refine zk ?_);with_reducible (constructor;repeat constructor);try refine zl ?_)))
  exact fK rfl (by simp (disch:=first|omega|assumption) only [go_sem]) hsl.symm rfl
end Go.Proofs.YtlfeacmbhldjcaaGreatDoor
namespace Go.Proofs.YtlfeacmbhldjcaaGreatDoor
open Go Go.Ab
set_option maxRecDepth 20000
set_option maxHeartbeats 4000000
theorem ub (a b:Str) (sp:Oid→Prop):aA Tryz.prog 163 [.str a,.str b] sp ⟨[],.int .i64 (Lib.compareBytes a b),[]⟩ :=
 fC (by kernel_rfl) fun g args w ha _=>by
  obtain ⟨v,u,rfl,hv,hu⟩:=ha.two
  obtain ⟨x,rfl,hx⟩:=hv.bh
  obtain ⟨y,rfl,hy⟩:=hu.bh
  refine (Tryz.strings_Compare x y w).mono ?_
  rintro e w' ⟨rfl,rfl⟩
  exact ⟨_,rfl,by rw [hx,hy];exact .int _ _,rfl⟩
theorem XA (l:List Str) (h0:l≠[]) (sep:Str) (hl:l.length≤140737488355328) (hj:(Lib.join l sep).length≤140737488355328) (p:Oid) (hp:p.mono=false) :
  aA Tryz.prog 179 [.list 1 (l.map AV.str),.str sep] (Oid.under p) ⟨[],.str (Lib.join l sep),[]⟩ :=
 gC (by kernel_rfl) hp fun g args w ha hw=>by
  obtain ⟨v,u,rfl,hv,hu⟩:=ha.two
  obtain ⟨sb,rfl,hsb⟩:=hu.bh
  rcases hv.dK with ⟨h,_⟩|⟨b,o,cap,cs,rfl,hcap,hlen,hc,hvv⟩
  ·exact absurd (List.map_eq_nil_iff.1 h) h0
  ·rw [List.length_map] at hcap hlen hc hvv ⊢
   have hcell:∀ (j:Nat) x,(l.map fun s=>(⟨s.toArray⟩:ByteArray))[j]? = some x→w.cell? ⟨b,o+j,none⟩=some (.string x):=fun j x hx=>by
    rw [List.getElem?_map] at hx
    cases hg:l[j]? with
    | none=>rw [hg] at hx;cases hx
    | some s =>
     rw [hg] at hx
     simp only [Option.map_some,Option.some.injEq] at hx
     subst hx
     have hlt:j < l.length:=(List.getElem?_eq_some_iff.1 hg).1
     have h1:=hvv j 0 hlt (by decide)
     have h2:=hw.com _ _ _ (hc j 0 hlt (by decide))
     have h3:(l.map AV.str).getD j .undef = .str s:=by
      rw [List.getD_eq_getElem?_getD,List.getElem?_map,hg];rfl
     rw [h3] at h1
     change VR g (.str s) _ at h1
     obtain ⟨x,e1,e2⟩:=h1.bh
     rw [e1] at h2
     rw [show o+j * 1+0=o+j from by omega] at h2
     rw [h2,← e2]
   have hpos:=List.length_pos_iff.2 h0
   have hbk:b < w.heap.size:=by
    have h:=hcell 0 _ (by rw [List.getElem?_map,List.getElem?_eq_getElem hpos];rfl)
    rcases Nat.lt_or_ge b w.heap.size with h2|h2
    ·exact h2
    ·simp [World.cell?,Array.getElem?_eq_none h2] at h
   have hmm:(l.map fun s=>(⟨s.toArray⟩:ByteArray)).map (·.data.toList)=l:=by
    rw [List.map_map]
    conv=>rhs;rw [← List.map_id l]
    exact List.map_congr_left fun s _=>rfl
   have h:=Tryz.strings_Join b o cap (l.map fun s=>⟨s.toArray⟩) sb w hcell hbk (by rw [List.length_map];exact hl) (by rw [List.length_map];exact hcap) (by rw [hmm,hsb];exact hj)
   rw [hmm,hsb,List.length_map] at h
   refine h.mono ?_
   rintro e w' ⟨rfl,hB⟩
   exact ⟨_,rfl,.str _ _ rfl,hB⟩
theorem sF (sep:Str) (p:Oid):aA Tryz.prog 179 [.list 1 [],.str sep] (Oid.under p) ⟨[],.str [],[]⟩:=by
 refine aN (n:=75) (rs:=[.tmp 4]) Tryz.func179 rfl rfl (by decide) rfl rfl rfl ?_;rintro x rfl hrd hng
 (repeat (first|(refine ah rfl rfl ?_)|(refine aj rfl rfl ?_)|(refine af nmd [] hng (by kernel_rfl) fun hf C S K hC1 hC hS hK=>?_;simp (disch:=first|omega|assumption) only [go_sem];refine hK ?_;clear hK hS hC hC1 K S C hf)|((first|refine zn ?_|refine ze ?_|refine zk ?_);with_reducible (constructor;repeat constructor);try refine zl ?_)))
 exact aC (aT rfl)
structure Vr where
 n:Str
 v:Str
 ex:Bool
 ro:Bool
def Vr.av (x:Vr):AV:=.agg [.str x.n,.str x.v,.bool x.ex,.bool x.ro]
def vr0:Vr:=⟨[],[],false,false⟩
def dr:List Vr→Str→Nat × Bool
 | [],_=>(0,false)
 | v::_,nm=>if Lib.compareBytes v.n nm < 0 then (1,false) else (0,decide (Lib.compareBytes v.n nm=0))
def kO (vs:List Vr) (nm:Str):Vr:=if (dr vs nm).2=true then vs.getD 0 vr0 else vr0
theorem XB (v:Vr) (nm:Str) (p:Oid):aA Tryz.prog 162 [v.av,.str nm] (Oid.under p) ⟨[],.int .i64 (Lib.compareBytes v.n nm),[]⟩:=by
 obtain ⟨vn,vv,ve,vo⟩:=v
 rw [Vr.av]
 have h:=fun sp=>ub vn nm sp
 refine aN (n:=9) (rs:=[.tmp 4]) Tryz.func162 rfl rfl (by decide) rfl rfl rfl ?_;rintro x rfl hrd hng
 (repeat (first|(refine ah rfl rfl ?_)|(refine aj rfl rfl ?_)|(refine af nmd [] hng (by kernel_rfl) fun hf C S K hC1 hC hS hK=>?_;simp (disch:=first|omega|assumption) only [go_sem];(repeat ((first|refine hC1 _ (h _) (by simp (disch:=first|omega|assumption) only [go_sem]) ?_);simp (disch:=first|omega|assumption) only [go_sem]));refine hK ?_;clear hK hS hC hC1 K S C hf)|((first|refine zn ?_|refine ze ?_|refine zk ?_);with_reducible (constructor;repeat constructor);try refine zl ?_)))
 exact aC (aT rfl)
theorem uc (nm:Str) (p:Oid):aA Tryz.prog 161 [.list 4 [],.str nm,.fn (.func 162) [] []] (Oid.under p) ⟨[],.tuple [.int .i64 0,.bool false],[]⟩:=by
 refine aN (n:=49) (rs:=[.tmp 6,.tmp 7]) Tryz.func161 rfl rfl (by decide) rfl rfl rfl ?_;rintro x rfl hrd hng
 (repeat (first|(refine ah rfl rfl ?_)|(refine aj rfl rfl ?_)|(refine af nmd [] hng (by kernel_rfl) fun hf C S K hC1 hC hS hK=>?_;simp (disch:=first|omega|assumption) only [go_sem];refine hK ?_;clear hK hS hC hC1 K S C hf)|((first|refine zn ?_|refine ze ?_|refine zk ?_);with_reducible (constructor;repeat constructor);try refine zl ?_)))
 refine a6 [0,1,2,8,9,10] (fun k s'=>∃ (c:Nat),s' = ⟨[(0,.list 4 []),(1,.str nm),(2,.fn (.func 162) [] []),(8,.int .i64 0),(9,.int .i64 0),(10,.int .i64 0)],Mem.of [],c,[]⟩∧k=0) _ ⟨_,rfl,rfl⟩ ?_
 rintro k s' ⟨c,rfl,rfl⟩
 have h0:¬ (0:Int) < 0:=by decide
 (repeat (first|(refine ah rfl rfl ?_)|(refine aj rfl rfl ?_)|(refine af nmd [] hng (by kernel_rfl) fun hf C S K hC1 hC hS hK=>?_;simp (disch:=first|omega|assumption) only [go_sem,h0,decide_true,decide_false,ne_eq,not_true_eq_false,not_false_eq_true];refine hK ?_;clear hK hS hC hC1 K S C hf)|((first|refine zn ?_|refine ze ?_|refine zk ?_);with_reducible (constructor;repeat constructor);try refine zl ?_)))
 refine af nmd [(4,39)] hng (by kernel_rfl) fun hf C S K hC1 hC hS hK=>?_;simp (disch:=first|omega|assumption) only [go_sem,h0,decide_true,decide_false,ne_eq,not_true_eq_false,not_false_eq_true]
 refine hK ?_;clear hK hS hC hC1 K S C hf
 (repeat (first|(refine ah rfl rfl ?_)|(refine aj rfl rfl ?_)|(refine af nmd [] hng (by kernel_rfl) fun hf C S K hC1 hC hS hK=>?_;simp (disch:=first|omega|assumption) only [go_sem];refine hK ?_;clear hK hS hC hC1 K S C hf)|((first|refine zn ?_|refine ze ?_|refine zk ?_);with_reducible (constructor;repeat constructor);try refine zl ?_)))
 exact aC (aE (by simp (disch:=first|omega|assumption) only [go_sem]))
theorem ud (v:Vr) (nm:Str) (p:Oid):aA Tryz.prog 161 [.list 4 [v.av],.str nm,.fn (.func 162) [] []] (Oid.under p) ⟨[],.tuple [.int .i64 (dr [v] nm).1,.bool (dr [v] nm).2],[]⟩:=by
 have hC':=fun p=>XB v nm p
 have hg:[v.av].getD 0 .undef=v.av:=rfl
 rw [dr]
 have h01:(0:Int) < 1:=by decide
 have hm1:IntKind.i64.wrap ((IntKind.u64.wrap (((0:Nat):Int)+1)).fdiv ((2:Int) ^ (min 1 64:Nat)))=0:=by kernel_rfl
 have hm2:IntKind.i64.wrap ((IntKind.u64.wrap (0+((1:Nat):Int))).fdiv ((2:Int) ^ (min 1 64:Nat)))=0:=by kernel_rfl
 generalize Lib.compareBytes v.n nm=r at hC'
 obtain ⟨vn,vv,ve,vo⟩:=v
 rw [Vr.av] at hC' hg ⊢
 by_cases hr:r < 0
 ·rw [if_pos hr]
  refine aN (n:=49) (rs:=[.tmp 6,.tmp 7]) Tryz.func161 rfl rfl (by decide) rfl rfl rfl ?_;rintro x rfl hrd hng
  (repeat (first|(refine ah rfl rfl ?_)|(refine aj rfl rfl ?_)|(refine af nmd [] hng (by kernel_rfl) fun hf C S K hC1 hC hS hK=>?_;simp (disch:=first|omega|assumption) only [go_sem];refine hK ?_;clear hK hS hC hC1 K S C hf)|((first|refine zn ?_|refine ze ?_|refine zk ?_);with_reducible (constructor;repeat constructor);try refine zl ?_)))
  refine a6 [0,1,2,8,9,10] (fun k s'=>∃ (i c:Nat),s' = ⟨[(0,.list 4 [.agg [.str vn,.str vv,.bool ve,.bool vo]]),(1,.str nm),(2,.fn (.func 162) [] []),(8,.int .i64 1),(9,.int .i64 i),(10,.int .i64 1)],Mem.of [],c,[]⟩∧k=1 - i∧i≤1) _ ⟨0,_,rfl,rfl,Nat.zero_le _⟩ ?_
  rintro k s' ⟨i,c,rfl,rfl,hi⟩
  have hi2:i=0∨i=1:=by omega
  rcases hi2 with rfl|rfl
  ·(repeat (first|(refine ah rfl rfl ?_)|(refine aj rfl rfl ?_)|(refine af nmd [] hng (by kernel_rfl) fun hf C S K hC1 hC hS hK=>?_;simp (disch:=first|omega|assumption) only [go_sem,h01,hr,hm1,hm2,hg,decide_true,decide_false,ne_eq,not_true_eq_false,not_false_eq_true];(repeat ((first|refine hC1 _ (hC' _) (by simp (disch:=first|omega|assumption) only [go_sem]) ?_);simp (disch:=first|omega|assumption) only [go_sem]));refine hK ?_;clear hK hS hC hC1 K S C hf)|((first|refine zn ?_|refine ze ?_|refine zk ?_);with_reducible (constructor;repeat constructor);try refine zl ?_)))
   refine bD rfl rfl (fun _=>?_) (fun hb=>absurd hr hb)
   (repeat (first|(refine ah rfl rfl ?_)|(refine aj rfl rfl ?_)|(refine af nmd [] hng (by kernel_rfl) fun hf C S K hC1 hC hS hK=>?_;simp (disch:=first|omega|assumption) only [go_sem];refine hK ?_;clear hK hS hC hC1 K S C hf)|((first|refine zn ?_|refine ze ?_|refine zk ?_);with_reducible (constructor;repeat constructor);try refine zl ?_)))
   exact ⟨_,_,by decide,fun _ _ h=>h,1,_,rfl,rfl,Nat.le_refl _⟩
  ·have h11':¬ (((1:Nat):Int) < 1):=by decide
   (repeat (first|(refine ah rfl rfl ?_)|(refine aj rfl rfl ?_)|(refine af nmd [] hng (by kernel_rfl) fun hf C S K hC1 hC hS hK=>?_;simp (disch:=first|omega|assumption) only [go_sem,h11',decide_true,decide_false,ne_eq,not_true_eq_false,not_false_eq_true];refine hK ?_;clear hK hS hC hC1 K S C hf)|((first|refine zn ?_|refine ze ?_|refine zk ?_);with_reducible (constructor;repeat constructor);try refine zl ?_)))
   refine af nmd [(4,39)] hng (by kernel_rfl) fun hf C S K hC1 hC hS hK=>?_;simp (disch:=first|omega|assumption) only [go_sem,h11',decide_true,decide_false,ne_eq,not_true_eq_false,not_false_eq_true]
   refine hK ?_;clear hK hS hC hC1 K S C hf
   (repeat (first|(refine ah rfl rfl ?_)|(refine aj rfl rfl ?_)|(refine af nmd [] hng (by kernel_rfl) fun hf C S K hC1 hC hS hK=>?_;simp (disch:=first|omega|assumption) only [go_sem];refine hK ?_;clear hK hS hC hC1 K S C hf)|((first|refine zn ?_|refine ze ?_|refine zk ?_);with_reducible (constructor;repeat constructor);try refine zl ?_)))
   exact aC (aE (by simp (disch:=first|omega|assumption) only [go_sem]))
 ·rw [if_neg hr]
  refine aN (n:=49) (rs:=[.tmp 6,.tmp 7]) Tryz.func161 rfl rfl (by decide) rfl rfl rfl ?_;rintro x rfl hrd hng
  (repeat (first|(refine ah rfl rfl ?_)|(refine aj rfl rfl ?_)|(refine af nmd [] hng (by kernel_rfl) fun hf C S K hC1 hC hS hK=>?_;simp (disch:=first|omega|assumption) only [go_sem];refine hK ?_;clear hK hS hC hC1 K S C hf)|((first|refine zn ?_|refine ze ?_|refine zk ?_);with_reducible (constructor;repeat constructor);try refine zl ?_)))
  refine a6 [0,1,2,8,9,10] (fun k s'=>∃ (j c:Nat),s' = ⟨[(0,.list 4 [.agg [.str vn,.str vv,.bool ve,.bool vo]]),(1,.str nm),(2,.fn (.func 162) [] []),(8,.int .i64 1),(9,.int .i64 0),(10,.int .i64 j)],Mem.of [],c,[]⟩∧k=j∧j≤1) _ ⟨1,_,rfl,rfl,Nat.le_refl _⟩ ?_
  rintro k s' ⟨j,c,rfl,rfl,hj⟩
  have hj2:k=1∨k=0:=by omega
  rcases hj2 with rfl|rfl
  ·(repeat (first|(refine ah rfl rfl ?_)|(refine aj rfl rfl ?_)|(refine af nmd [] hng (by kernel_rfl) fun hf C S K hC1 hC hS hK=>?_;simp (disch:=first|omega|assumption) only [go_sem,h01,hr,hm1,hm2,hg,decide_true,decide_false,ne_eq,not_true_eq_false,not_false_eq_true];(repeat ((first|refine hC1 _ (hC' _) (by simp (disch:=first|omega|assumption) only [go_sem]) ?_);simp (disch:=first|omega|assumption) only [go_sem]));refine hK ?_;clear hK hS hC hC1 K S C hf)|((first|refine zn ?_|refine ze ?_|refine zk ?_);with_reducible (constructor;repeat constructor);try refine zl ?_)))
   refine bD rfl rfl (fun hb=>absurd hb hr) (fun _=>?_)
   (repeat (first|(refine ah rfl rfl ?_)|(refine aj rfl rfl ?_)|(refine af nmd [] hng (by kernel_rfl) fun hf C S K hC1 hC hS hK=>?_;simp (disch:=first|omega|assumption) only [go_sem];refine hK ?_;clear hK hS hC hC1 K S C hf)|((first|refine zn ?_|refine ze ?_|refine zk ?_);with_reducible (constructor;repeat constructor);try refine zl ?_)))
   exact ⟨_,_,by decide,fun _ _ h=>h,0,_,rfl,rfl,Nat.zero_le _⟩
  ·have h00':¬ ((0:Int) < ((0:Nat):Int)):=by decide
   (repeat (first|(refine ah rfl rfl ?_)|(refine aj rfl rfl ?_)|(refine af nmd [] hng (by kernel_rfl) fun hf C S K hC1 hC hS hK=>?_;simp (disch:=first|omega|assumption) only [go_sem,h00',decide_true,decide_false,ne_eq,not_true_eq_false,not_false_eq_true];refine hK ?_;clear hK hS hC hC1 K S C hf)|((first|refine zn ?_|refine ze ?_|refine zk ?_);with_reducible (constructor;repeat constructor);try refine zl ?_)))
   refine af nmd [(4,39)] hng (by kernel_rfl) fun hf C S K hC1 hC hS hK=>?_;simp (disch:=first|omega|assumption) only [go_sem,h01,hg,decide_true,decide_false,ne_eq,not_true_eq_false,not_false_eq_true]
   refine hC1 _ (hC' _) (fun _ h=>by cases h) ?_
   simp (disch:=first|omega|assumption) only [go_sem]
   refine hK ?_;clear hK hS hC hC1 K S C hf
   (repeat (first|(refine ah rfl rfl ?_)|(refine aj rfl rfl ?_)|(refine af nmd [] hng (by kernel_rfl) fun hf C S K hC1 hC hS hK=>?_;simp (disch:=first|omega|assumption) only [go_sem];refine hK ?_;clear hK hS hC hC1 K S C hf)|((first|refine zn ?_|refine ze ?_|refine zk ?_);with_reducible (constructor;repeat constructor);try refine zl ?_)))
   exact aC (aE (by simp (disch:=first|omega|assumption) only [go_sem];rfl))
theorem Di (vs:List Vr) (hv:vs.length≤1) (nm:Str) (p:Oid):aA Tryz.prog 123 [.list 4 (vs.map Vr.av),.str nm] (Oid.under p) ⟨[],.tuple [.int .i64 (dr vs nm).1,.bool (dr vs nm).2],[]⟩:=by
 have hS':∀ p:Oid,aA Tryz.prog 161 [.list 4 (vs.map Vr.av),.str nm,.fn (.func 162) [] []] (Oid.under p) ⟨[],.tuple [.int .i64 (dr vs nm).1,.bool (dr vs nm).2],[]⟩:=by
  match vs,hv with
  | [],_=>exact fun p=>uc nm p
  | [v],_=>exact fun p=>ud v nm p
 refine aN (n:=11) (rs:=[.tmp 4,.tmp 5]) Tryz.func123 rfl rfl (by decide) rfl rfl rfl ?_;rintro x rfl hrd hng
 (repeat (first|(refine ah rfl rfl ?_)|(refine aj rfl rfl ?_)|(refine af nmd [] hng (by kernel_rfl) fun hf C S K hC1 hC hS hK=>?_;simp (disch:=first|omega|assumption) only [go_sem];(repeat ((first|refine hC1 _ (hS' _) (by simp (disch:=first|omega|assumption) only [go_sem]) ?_);simp (disch:=first|omega|assumption) only [go_sem]));refine hK ?_;clear hK hS hC hC1 K S C hf)|((first|refine zn ?_|refine ze ?_|refine zk ?_);with_reducible (constructor;repeat constructor);try refine zl ?_)))
 exact aC (aE (by simp (disch:=first|omega|assumption) only [go_sem]))
theorem vj (vs:List Vr) (hv:vs.length≤1) (nm:Str) (p:Oid):aA Tryz.prog 77 [.list 4 (vs.map Vr.av),.str nm] (Oid.under p) ⟨[],.tuple [(kO vs nm).av,.bool (dr vs nm).2],[]⟩:=by
 have hF:=fun p=>Di vs hv nm p
 match vs,hv with
 | [],_ =>
  refine aN (n:=20) (rs:=[.cell 4 39,.tmp 5]) Tryz.func77 rfl rfl (by decide) rfl rfl rfl ?_;rintro x rfl hrd hng
  (repeat (first|(refine ah rfl rfl ?_)|(refine aj rfl rfl ?_)|(refine af nmd [] hng (by kernel_rfl) fun hf C S K hC1 hC hS hK=>?_;simp (disch:=first|omega|assumption) only [go_sem];(repeat ((first|refine hC1 _ (hF _) (by simp (disch:=first|omega|assumption) only [go_sem]) ?_);simp (disch:=first|omega|assumption) only [go_sem]));refine hK ?_;clear hK hS hC hC1 K S C hf)|((first|refine zn ?_|refine ze ?_|refine zk ?_);with_reducible (constructor;repeat constructor);try refine zl ?_)))
  exact aC (aE (by first|(simp (disch:=first|omega|assumption) only [go_sem];done)|(simp (disch:=first|omega|assumption) only [go_sem];rfl)))
 | [v],_ =>
  have hk:(dr [v] nm).2=true→(dr [v] nm).1=0:=fun h=>by
   by_cases h1:Lib.compareBytes v.n nm < 0
   ·rw [dr,if_pos h1] at h;cases h
   ·rw [dr,if_neg h1]
  unfold kO
  generalize dr [v] nm=r at hF hk ⊢
  obtain ⟨k,b⟩:=r
  simp only at hF hk ⊢
  have hg:([v].map Vr.av).getD 0 .undef=v.av:=rfl
  obtain ⟨vn,vv,ve,vo⟩:=v
  simp only [List.map_cons,List.map_nil,Vr.av] at hF hg ⊢
  cases b
  ·rw [if_neg Bool.false_ne_true]
   refine aN (n:=20) (rs:=[.cell 4 39,.tmp 5]) Tryz.func77 rfl rfl (by decide) rfl rfl rfl ?_;rintro x rfl hrd hng
   (repeat (first|(refine ah rfl rfl ?_)|(refine aj rfl rfl ?_)|(refine af nmd [] hng (by kernel_rfl) fun hf C S K hC1 hC hS hK=>?_;simp (disch:=first|omega|assumption) only [go_sem];(repeat ((first|refine hC1 _ (hF _) (by simp (disch:=first|omega|assumption) only [go_sem]) ?_);simp (disch:=first|omega|assumption) only [go_sem]));refine hK ?_;clear hK hS hC hC1 K S C hf)|((first|refine zn ?_|refine ze ?_|refine zk ?_);with_reducible (constructor;repeat constructor);try refine zl ?_)))
   exact aC (aE (by first|(simp (disch:=first|omega|assumption) only [go_sem];done)|(simp (disch:=first|omega|assumption) only [go_sem];rfl)))
  ·rw [if_pos rfl]
   obtain rfl:=hk rfl
   have hlt:(0:Nat) < 1:=by decide
   refine aN (n:=20) (rs:=[.cell 4 39,.tmp 5]) Tryz.func77 rfl rfl (by decide) rfl rfl rfl ?_;rintro x rfl hrd hng
   (repeat (first|(refine ah rfl rfl ?_)|(refine aj rfl rfl ?_)|(refine af nmd [] hng (by kernel_rfl) fun hf C S K hC1 hC hS hK=>?_;simp (disch:=first|omega|assumption) only [go_sem,hlt,hg];(repeat ((first|refine hC1 _ (hF _) (by simp (disch:=first|omega|assumption) only [go_sem]) ?_);simp (disch:=first|omega|assumption) only [go_sem]));refine hK ?_;clear hK hS hC hC1 K S C hf)|((first|refine zn ?_|refine ze ?_|refine zk ?_);with_reducible (constructor;repeat constructor);try refine zl ?_)))
   exact aC (aE (by first|(simp (disch:=first|omega|assumption) only [go_sem];done)|(simp (disch:=first|omega|assumption) only [go_sem];rfl)))
def Dj (vs:List Vr):Str:=if (dr vs [73,70,83]).2=true then (kO vs [73,70,83]).v else [32,9,10]
theorem XC (vs:List Vr) (hv:vs.length≤1) (q:Oid) (B F D O:AV) (p:Oid) (hq:¬ Oid.under p q) :
  aA Tryz.prog 33 [.ptr q 0] (Oid.under p) ⟨[(q,.cells [.list 4 (vs.map Vr.av),B,F,D,O])],.str (Dj vs),[]⟩:=by
 have hG:=fun p=>vj vs hv [73,70,83] p
 unfold Dj
 generalize (dr vs [73,70,83]).2=b at hG ⊢
 generalize kO vs [73,70,83]=v at hG ⊢
 obtain ⟨vn,vv,ve,vo⟩:=v
 rw [Vr.av] at hG
 cases b
 ·rw [if_neg Bool.false_ne_true]
  refine aN (n:=17) (rs:=[.tmp 2]) Tryz.func33 rfl rfl (by decide) rfl rfl rfl ?_;rintro x rfl hrd hng
  (repeat (first|(refine ah rfl rfl ?_)|(refine aj rfl rfl ?_)|(refine af nmd [] hng (by kernel_rfl) fun hf C S K hC1 hC hS hK=>?_;simp (disch:=first|omega|assumption) only [go_sem,Oid.aa hq,Oid.ab hq];(repeat ((first|refine hC1 _ (hG _) (by simp (disch:=first|omega|assumption) only [go_sem]) ?_);simp (disch:=first|omega|assumption) only [go_sem]));refine hK ?_;clear hK hS hC hC1 K S C hf)|((first|refine zn ?_|refine ze ?_|refine zk ?_);with_reducible (constructor;repeat constructor);try refine zl ?_)))
  exact aC (aP (by simp (disch:=first|omega|assumption) only [go_sem]) (fun _ h=>by cases h) (fun q' h' _=>by rw [List.mem_singleton.1 h',Mem.ae,if_pos rfl]))
 ·rw [if_pos rfl]
  refine aN (n:=17) (rs:=[.tmp 2]) Tryz.func33 rfl rfl (by decide) rfl rfl rfl ?_;rintro x rfl hrd hng
  (repeat (first|(refine ah rfl rfl ?_)|(refine aj rfl rfl ?_)|(refine af nmd [] hng (by kernel_rfl) fun hf C S K hC1 hC hS hK=>?_;simp (disch:=first|omega|assumption) only [go_sem,Oid.aa hq,Oid.ab hq];(repeat ((first|refine hC1 _ (hG _) (by simp (disch:=first|omega|assumption) only [go_sem]) ?_);simp (disch:=first|omega|assumption) only [go_sem]));refine hK ?_;clear hK hS hC hC1 K S C hf)|((first|refine zn ?_|refine ze ?_|refine zk ?_);with_reducible (constructor;repeat constructor);try refine zl ?_)))
  exact aC (aP (by simp (disch:=first|omega|assumption) only [go_sem]) (fun _ h=>by cases h) (fun q' h' _=>by rw [List.mem_singleton.1 h',Mem.ae,if_pos rfl]))
end Go.Proofs.YtlfeacmbhldjcaaGreatDoor
namespace Go.Ab
theorem zG {P:Program} [Laid P] {o:Oper} {ρ:Operand→AV} {sp:Oid→Prop} {y:Operand} {it:Oid} {s:List UInt8} {pos:Nat} (ho:o.op = .next y true) (hy:ρ y = .iter it) (hp:pos < s.length) (ha:(s.getD pos 0).toNat < 128) :
  aG P o ρ sp ⟨[(it,.siter s pos)],.tuple [.bool true,.int .i64 pos,.int .i32 (s.getD pos 0).toNat],[(it,some (.siter s (pos+1)))]⟩:=by
 obtain ⟨c,n,h,h2⟩:=zg (P:=P) (o:=o) (ρ:=ρ) (sp:=sp) ho hy hp
 obtain ⟨rfl,rfl⟩:=h ha
 exact h2
end Go.Ab
namespace Go.Proofs.YtlfeacmbhldjcaaGreatDoor
open Go Go.Ab
set_option maxRecDepth 20000
set_option maxHeartbeats 4000000
theorem ue (c:UInt8) (sp:Oid):aA Tryz.prog 213 [.int .i32 c.toNat] (Oid.under sp) ⟨[],.bool (nmC c),[]⟩:=by
 rw [p8]
 refine aN (n:=21) (rs:=[.tmp 2]) Tryz.func213 rfl rfl (by decide) rfl rfl rfl ?_;rintro x rfl hrd hng
 (repeat (first|(refine ah rfl rfl ?_)|(refine aj rfl rfl ?_)|(refine af nmd [] hng (by kernel_rfl) fun hf C S K hC1 hC hS hK=>?_;simp (disch:=first|omega|assumption) only [go_sem];refine hK ?_;clear hK hS hC hC1 K S C hf)|((first|refine zn ?_|refine ze ?_|refine zk ?_);with_reducible (constructor;repeat constructor);try refine zl ?_)))
 refine af nmd [(2,5),(6,9),(9,12),(14,17)] hng (by kernel_rfl) fun hf C S K hC1 hC hS hK=>?_;simp (disch:=first|omega|assumption) only [go_sem,decide_true,decide_false,ne_eq,not_true_eq_false,not_false_eq_true]
 (repeat' (first|(refine bd (fun hv=>?_) (fun hv=>?_)<;>(try simp only [zb1,zb2,zb3,zb4,zb5] at hv)<;>simp (disch:=first|omega|assumption) only [go_sem,hv,decide_true,decide_false,ne_eq,not_true_eq_false,not_false_eq_true])|(refine hK ?_;clear hK hS hC hC1 K S C hf)))
 all_goals ((repeat (first|(refine ah rfl rfl ?_)|(refine aj rfl rfl ?_)|(refine af nmd [] hng (by kernel_rfl) fun hf C S K hC1 hC hS hK=>?_;simp (disch:=first|omega|assumption) only [go_sem];refine hK ?_;clear hK hS hC hC1 K S C hf)|((first|refine zn ?_|refine ze ?_|refine zk ?_);with_reducible (constructor;repeat constructor);try refine zl ?_)));refine aC (aT ?_);refine (congrArg AV.bool ?_:AV.bool _=_);first|exact (decide_eq_true (by omega)).symm|exact (decide_eq_false (by omega)).symm|exact decide_eq_decide.2 (by omega))
theorem zH (c:UInt8) (hc:nmC c=true) (p:Oid):aA Tryz.prog 184 [.str [c]] (Oid.under p) ⟨[],.str [c],[]⟩:=by
 have hL:=fun p=>ue c p
 rw [hc] at hL
 have ha:c.toNat < 128:=by rw [p8] at hc;have:=of_decide_eq_true hc;omega
 refine aN (n:=27) (rs:=[.tmp 2]) Tryz.func184 rfl rfl (by decide) rfl rfl rfl ?_;rintro x rfl hrd hng
 (repeat (first|(refine ah rfl rfl ?_)|(refine aj rfl rfl ?_)|(refine af nmd [] hng (by kernel_rfl) fun hf C S K hC1 hC hS hK=>?_;simp (disch:=first|omega|assumption) only [go_sem];refine hK ?_;clear hK hS hC hC1 K S C hf)|((first|refine zn ?_|refine ze ?_|refine zk ?_);with_reducible (constructor;repeat constructor);try refine zl ?_)))
 refine a6 [0,6] (fun k s'=>∃ (i d:Nat),s' = ⟨[(0,.str [c]),(6,.iter (.sub 1 1 x.p))],Mem.of [(.sub 1 1 x.p,.siter [c] i)],d,[]⟩∧k=1 - i∧i≤1) _ ⟨0,_,rfl,rfl,Nat.zero_le _⟩ ?_
 rintro k s' ⟨i,d,rfl,rfl,hi⟩
 have hi2:i=0∨i=1:=by omega
 rcases hi2 with rfl|rfl
 ·(repeat (first|(refine ah rfl rfl ?_)|(refine aj rfl rfl ?_)|(refine af nmd [] hng (by kernel_rfl) fun hf C S K hC1 hC hS hK=>?_;simp (disch:=first|omega|assumption) only [go_sem];refine hK ?_;clear hK hS hC hC1 K S C hf)|((first|refine zn ?_|refine ze ?_|refine zk ?_);with_reducible (constructor;repeat constructor);try refine zl ?_)))
  refine af nmd [] hng (by kernel_rfl) fun hf C S K hC1 hC hS hK=>?_;simp (disch:=first|omega|assumption) only [go_sem]
  refine hS _ _ _ (fun o' hd ho'=>(zG (s:=[c]) (pos:=0) ho' rfl (Nat.lt_succ_self 0) ha).nd) (by simp (disch:=first|omega|assumption) only [go_sem]) ?_ (fun _ _ h=>h.elim)
  rintro _ _ ⟨rfl,rfl⟩
  simp (disch:=first|omega|assumption) only [go_sem]
  refine hK ?_;clear hK hS hC hC1 K S C hf
  (repeat (first|(refine ah rfl rfl ?_)|(refine aj rfl rfl ?_)|(refine af nmd [] hng (by kernel_rfl) fun hf C S K hC1 hC hS hK=>?_;simp (disch:=first|omega|assumption) only [go_sem];refine hK ?_;clear hK hS hC hC1 K S C hf)|((first|refine zn ?_|refine ze ?_|refine zk ?_);with_reducible (constructor;repeat constructor);try refine zl ?_)))
  refine af nmd [(3,14),(6,17)] hng (by kernel_rfl) fun hf C S K hC1 hC hS hK=>?_;simp (disch:=first|omega|assumption) only [go_sem,decide_true,decide_false,ne_eq,not_true_eq_false,not_false_eq_true,Bool.not_true]
  refine hC1 _ (hL _) (fun _ h=>by cases h) ?_
  simp (disch:=first|omega|assumption) only [go_sem,decide_true,decide_false,ne_eq,not_true_eq_false,not_false_eq_true,Bool.not_true]
  refine hK ?_;clear hK hS hC hC1 K S C hf
  (repeat (first|(refine ah rfl rfl ?_)|(refine aj rfl rfl ?_)|(refine af nmd [] hng (by kernel_rfl) fun hf C S K hC1 hC hS hK=>?_;simp (disch:=first|omega|assumption) only [go_sem];refine hK ?_;clear hK hS hC hC1 K S C hf)|((first|refine zn ?_|refine ze ?_|refine zk ?_);with_reducible (constructor;repeat constructor);try refine zl ?_)))
  exact ⟨_,_,by decide,fun _ _ h=>h,1,_,rfl,rfl,Nat.le_refl _⟩
 ·(repeat (first|(refine ah rfl rfl ?_)|(refine aj rfl rfl ?_)|(refine af nmd [] hng (by kernel_rfl) fun hf C S K hC1 hC hS hK=>?_;simp (disch:=first|omega|assumption) only [go_sem];refine hK ?_;clear hK hS hC hC1 K S C hf)|((first|refine zn ?_|refine ze ?_|refine zk ?_);with_reducible (constructor;repeat constructor);try refine zl ?_)))
  refine af nmd [] hng (by kernel_rfl) fun hf C S K hC1 hC hS hK=>?_;simp (disch:=first|omega|assumption) only [go_sem]
  refine hS _ _ _ (fun o' hd ho'=>(zh (s:=[c]) (pos:=1) ho' rfl (Nat.lt_irrefl 1)).nd) (by simp (disch:=first|omega|assumption) only [go_sem]) ?_ (fun _ _ h=>h.elim)
  rintro _ _ ⟨rfl,rfl⟩
  simp (disch:=first|omega|assumption) only [go_sem]
  refine hK ?_;clear hK hS hC hC1 K S C hf
  (repeat (first|(refine ah rfl rfl ?_)|(refine aj rfl rfl ?_)|(refine af nmd [] hng (by kernel_rfl) fun hf C S K hC1 hC hS hK=>?_;simp (disch:=first|omega|assumption) only [go_sem];refine hK ?_;clear hK hS hC hC1 K S C hf)|((first|refine zn ?_|refine ze ?_|refine zk ?_);with_reducible (constructor;repeat constructor);try refine zl ?_)))
  exact aC (aT rfl)
theorem Dk (p:Oid):aA Tryz.prog 154 [.str [],.str [58]] (Oid.under p) ⟨[],.tuple [.str [],.bool false],[]⟩:=by
 have hH:=fun p=>jX [] [58] (by decide) (by decide) p
 rw [show gE [] [58]=false from rfl] at hH
 have h2:∀ p:Oid,aA Tryz.prog 187 [.str [],.str [58]] (Oid.under p) ⟨[],.tuple [.str [],.bool false],[]⟩:=fun p=>by
  refine aN (n:=15) (rs:=[.tmp 4,.tmp 5]) Tryz.func187 rfl rfl (by decide) rfl rfl rfl ?_;rintro x rfl hrd hng
  (repeat (first|(refine ah rfl rfl ?_)|(refine aj rfl rfl ?_)|(refine af nmd [] hng (by kernel_rfl) fun hf C S K hC1 hC hS hK=>?_;simp (disch:=first|omega|assumption) only [go_sem];(repeat ((first|refine hC1 _ (hH _) (by simp (disch:=first|omega|assumption) only [go_sem]) ?_);simp (disch:=first|omega|assumption) only [go_sem]));refine hK ?_;clear hK hS hC hC1 K S C hf)|((first|refine zn ?_|refine ze ?_|refine zk ?_);with_reducible (constructor;repeat constructor);try refine zl ?_)))
  exact aC (aE (by simp (disch:=first|omega|assumption) only [go_sem]))
 refine aN (n:=11) (rs:=[.tmp 4,.tmp 5]) Tryz.func154 rfl rfl (by decide) rfl rfl rfl ?_;rintro x rfl hrd hng
 (repeat (first|(refine ah rfl rfl ?_)|(refine aj rfl rfl ?_)|(refine af nmd [] hng (by kernel_rfl) fun hf C S K hC1 hC hS hK=>?_;simp (disch:=first|omega|assumption) only [go_sem];(repeat ((first|refine hC1 _ (h2 _) (by simp (disch:=first|omega|assumption) only [go_sem]) ?_);simp (disch:=first|omega|assumption) only [go_sem]));refine hK ?_;clear hK hS hC hC1 K S C hf)|((first|refine zn ?_|refine ze ?_|refine zk ?_);with_reducible (constructor;repeat constructor);try refine zl ?_)))
 exact aC (aE (by simp (disch:=first|omega|assumption) only [go_sem]))
end Go.Proofs.YtlfeacmbhldjcaaGreatDoor
namespace Go.Proofs.YtlfeacmbhldjcaaGreatDoor
open Go Go.Ab
set_option maxRecDepth 20000
set_option maxHeartbeats 4000000
def ER (q:Oid) (J:Oid→Prop) (A B F D:AV) (acc:List (Nat × Str)) (M:List (Oid × ar)):Prop :=
 (acc=[]∧M=[(q,.cells [A,B,F,D,.nilSl])])∨∃ ro,J ro∧ro.tyd=none∧¬ ro=q∧M=[(q,.cells [A,B,F,D,.sl ro 2 acc.length]),(ro,.arr 2 (acc.map bK))]
theorem ER.mono {q:Oid} {J J':Oid→Prop} {A B F D:AV} {acc:List (Nat × Str)} {M:List (Oid × ar)} (h:ER q J A B F D acc M) (hJ:∀ i,J i→J' i):ER q J' A B F D acc M:=h.imp id fun ⟨r,k,k'⟩=>⟨r,hJ _ k,k'⟩
def dv (q:Oid) (J:Oid→Prop) (p:Oid) (A B F D:AV) (acc:List (Nat × Str)) (M:List (Oid × ar)) (u:List (Oid × Option ar)):Prop :=
 (∃ M',ER q (fun i=>J i∨Oid.under p i) A B F D acc M'∧∀ m:Mem,(∀ e,e ∈ M→m e.1=some e.2)→∀ e,e ∈ M'→(m.aF u) e.1=some e.2)∧∀ e,e ∈ u→e.1=q∨J e.1∨Oid.under p e.1
theorem dv.same {q:Oid} {J:Oid→Prop} {p:Oid} {A B F D:AV} {acc:List (Nat × Str)} {M:List (Oid × ar)} {u:List (Oid × Option ar)} (h:dv q J p A B F D acc M u) {m:Mem} {i:Oid} (h1:¬ i=q) (h2:¬ J i) (h3:¬ Oid.under p i):(m.aF u) i=m i :=
 aU fun e he k=>by
  rcases h.2 e he with h|h|h
  ·exact h1 (k ▸ h)
  ·exact h2 (k ▸ h)
  ·exact h3 (k ▸ h)
theorem ER.names {q:Oid} {J:Oid→Prop} {A B F D:AV} {acc:List (Nat × Str)} {M:List (Oid × ar)} (h:ER q J A B F D acc M):∀ e,e ∈ M→e.1=q∨J e.1:=by
 rcases h with ⟨_,rfl⟩|⟨r,hr,_,_,rfl⟩
 ·intro e he;rw [List.mem_singleton.1 he];exact .inl rfl
 ·intro e he
  simp only [List.mem_cons,List.not_mem_nil,or_false] at he
  rcases he with rfl|rfl
  ·exact .inl rfl
  ·exact .inr hr
theorem ER.func {q:Oid} {J:Oid→Prop} {A B F D:AV} {acc:List (Nat × Str)} {M:List (Oid × ar)} (h:ER q J A B F D acc M):sB M:=by
 rcases h with ⟨_,rfl⟩|⟨r,_,_,hq,rfl⟩
 ·intro e he e' he' _
  rw [List.mem_singleton.1 he,List.mem_singleton.1 he']
 ·intro e he e' he' k
  simp only [List.mem_cons,List.not_mem_nil,or_false] at he he'
  rcases he with rfl|rfl<;>rcases he' with rfl|rfl
  ·rfl
  ·exact absurd k.symm hq
  ·exact absurd k hq
  ·rfl
theorem ER.cons {q:Oid} {J:Oid→Prop} {A B F D:AV} {acc:List (Nat × Str)} {M:List (Oid × ar)} (h:ER q J A B F D acc M):∃ O rest,M=(q,.cells [A,B,F,D,O])::rest:=by
 rcases h with ⟨_,rfl⟩|⟨r,_,_,_,rfl⟩<;>exact ⟨_,_,rfl⟩
theorem XD (q:Oid) (J:Oid→Prop) (A B F D:AV) (acc:List (Nat × Str)) (M:List (Oid × ar)) (hn:acc.length≤1000000) (K G N O W:AV) (qd:Bool) (s:Str) (p:Oid) (hq:¬ Oid.under p q) (hJ:∀ i,J i→¬ Oid.under p i) (hM:ER q J A B F D acc M) :
  aX Tryz.prog 119 [.ptr q 0,.agg [K,.bool qd,G,N,O,W],.str s] (Oid.under p) M (fun v u=>v = .tuple []∧dv q J p A B F D (acc++[(if qd=true then 1 else 2,s)]) M u) (fun _ _=>False):=by
 have key:∀ (j:Nat) (k:Nat),¬ Oid.sub j k p=q:=fun j k e=>hq (by rw [← e];exact Oid.ay (Oid.az _))
 rcases hM with ⟨rfl,rfl⟩|⟨r,hr,hrt,hrq,rfl⟩
 ·have go:∀ (j k:Nat) (a:Nat) (u:List (Oid × Option ar)),u=[(q,some (.cells [A,B,F,D,.sl (.sub j k p) 2 1])),(.sub j k p,some (.arr 2 [bK (a,s)]))]→dv q J p A B F D ([]++[(a,s)]) [(q,.cells [A,B,F,D,.nilSl])] u:=fun j k a u hu=>by
   subst hu
   refine ⟨⟨_,.inr ⟨.sub j k p,.inr (Oid.ay (Oid.az _)),rfl,key j k,rfl⟩,fun m _ e he=>?_⟩,fun e he=>?_⟩
   ·simp only [List.mem_cons,List.not_mem_nil,or_false] at he
    rcases he with rfl|rfl
    ·simp only [Mem.aF,Mem.set,Ne.symm (key j k),if_true,if_false];rfl
    ·simp only [Mem.aF,Mem.set,if_true];rfl
   ·simp only [List.mem_cons,List.not_mem_nil,or_false] at he
    rcases he with rfl|rfl
    ·exact .inl rfl
    ·exact .inr (.inr (Oid.ay (Oid.az _)))
  cases qd
  ·refine (zD q A B F D K G N O W s p hq).nd.weaken ?_ (fun _ _ h=>h)
   rintro v u ⟨rfl,rfl⟩
   exact ⟨rfl,go _ _ _ _ rfl⟩
  ·refine (Dh q A B F D K G N O W s p hq).nd.weaken ?_ (fun _ _ h=>h)
   rintro v u ⟨rfl,rfl⟩
   exact ⟨rfl,go _ _ _ _ rfl⟩
 ·have go:∀ (j k:Nat) (a:Nat) (u:List (Oid × Option ar)),u=[(q,some (.cells [A,B,F,D,.sl (.sub j k p) 2 (acc.length+1)])),(r,none),(.sub j k p,some (.arr 2 ((acc++[(a,s)]).map bK)))]→dv q J p A B F D (acc++[(a,s)]) [(q,.cells [A,B,F,D,.sl r 2 acc.length]),(r,.arr 2 (acc.map bK))] u:=fun j k a u hu=>by
   subst hu
   refine ⟨⟨_,.inr ⟨.sub j k p,.inr (Oid.ay (Oid.az _)),rfl,key j k,rfl⟩,fun m _ e he=>?_⟩,fun e he=>?_⟩
   ·simp only [List.mem_cons,List.not_mem_nil,or_false] at he
    rcases he with rfl|rfl
    ·simp only [Mem.aF,Mem.set,Ne.symm (key j k),Ne.symm hrq,if_true,if_false,List.length_append,List.length_singleton]
    ·simp only [Mem.aF,Mem.set,if_true]
   ·simp only [List.mem_cons,List.not_mem_nil,or_false] at he
    rcases he with rfl|rfl|rfl
    ·exact .inl rfl
    ·exact .inr (.inl hr)
    ·exact .inr (.inr (Oid.ay (Oid.az _)))
  cases qd
  ·refine (ua q r acc hn A B F D K G N O W s p hq (hJ _ hr) hrq).nd.weaken ?_ (fun _ _ h=>h)
   rintro v u ⟨rfl,rfl⟩
   exact ⟨rfl,go _ _ _ _ rfl⟩
  ·refine (zE q r acc hn A B F D K G N O W s p hq (hJ _ hr) hrq).nd.weaken ?_ (fun _ _ h=>h)
   rintro v u ⟨rfl,rfl⟩
   exact ⟨rfl,go _ _ _ _ rfl⟩
theorem ER.leaves {q:Oid} {J:Oid→Prop} {p:Oid} {A0 B0 F0 D0 A B F D:AV} {acc0 acc:List (Nat × Str)} {M M':List (Oid × ar)} (hM:ER q J A0 B0 F0 D0 acc0 M) (h:ER q (fun i=>J i∨Oid.under p i) A B F D acc M'):dv q J p A B F D acc M (nP M M') :=
 ⟨⟨M',h,fun m _ e he=>qh h.func m e he⟩,fun e he=>by
  rw [nP] at he
  rcases List.mem_append.1 he with he|he
  ·obtain ⟨a,ha,rfl⟩:=List.mem_map.1 he
   exact (hM.names a ha).imp id .inl
  ·obtain ⟨a,ha,rfl⟩:=List.mem_map.1 he
   exact h.names a ha⟩
theorem ER.qo {q:Oid} {J:Oid→Prop} {A B F D:AV} {acc:List (Nat × Str)} {M:List (Oid × ar)} (h:ER q J A B F D acc M) {i:Oid} (hq:¬ i=q) (hJ:¬ J i):∀ e,e ∈ M→¬ e.1=i:=fun e he k=>(h.names e he).elim (fun h=>hq (k ▸ h)) (fun h=>hJ (k ▸ h))
end Go.Proofs.YtlfeacmbhldjcaaGreatDoor
namespace Go.Proofs.YtlfeacmbhldjcaaGreatDoor
open Go Go.Ab
set_option maxRecDepth 20000
set_option maxHeartbeats 4000000
theorem Dl (q:Oid) (J:Oid→Prop) (A B F D:AV) (acc:List (Nat × Str)) (M:List (Oid × ar)) (hn:acc.length≤1000000) (Kd G O W:AV) (qd:Bool) (nm v:Str) (b:Bool) (h1:¬ nm=[42]) (h2:¬ nm=[64]) (p:Oid) (hq:¬ Oid.under p q) (hJ:∀ i,J i→¬ Oid.under p i) (hM:ER q J A B F D acc M) :
  aX Tryz.prog 147 [.ptr q 0,AV.agg [Kd,.bool qd,G,.str nm,O,W],.str v,.bool b] (Oid.under p) M (fun v' u=>v' = .tuple []∧(dv q J p A B F D (acc++[(if qd=true then 1 else 2,v)]) M u)) (fun _ _=>False):=by
 have hev:=fun p=>kc nm p
 rw [decide_eq_false h1,decide_eq_false h2] at hev
 refine ml (n:=71) (rs:=[]) Tryz.func147 rfl rfl (by decide) rfl rfl rfl ?_;rintro x rfl hrd hng
 (try ((first|refine zn ?_|refine ze ?_|refine zk ?_);with_reducible (constructor;repeat constructor));try refine zl ?_)
 refine af nmd [] hng (by kernel_rfl) fun hf C S K hC1 hC hS hK=>?_;simp (disch:=first|omega|assumption) only [go_sem]
 refine hK ?_;clear hK hS hC hC1 K S C hf
 (try ((first|refine zn ?_|refine ze ?_|refine zk ?_);with_reducible (constructor;repeat constructor));try refine zl ?_)
 have hnm:=hM.qo (i:=.sub 0 0 x.p) (fun e=>hq (by rw [← e];exact Oid.ay (Oid.az _))) (fun h=>hJ _ h (Oid.ay (Oid.az _)))
 have hfn:=cb hM.func
 refine bp ((.sub 0 0 x.p,.cells [Kd,.bool qd,G,.str nm,O,W])::M) ?_ ?_
 ·intro e he
  rcases List.mem_cons.1 he with rfl|he
  ·rw [aJ,if_pos rfl]
  ·rw [aJ,if_neg (hnm e he)];exact hfn e he
 refine af nmd [(3,19)] hng (by kernel_rfl) fun hf C S K hC1 hC hS hK=>?_;simp (disch:=first|omega|assumption) only [go_sem,h1,decide_true,decide_false,ne_eq,not_true_eq_false,not_false_eq_true]
 refine hK ?_;clear hK hS hC hC1 K S C hf
 (repeat (first|(refine ah rfl rfl ?_)|(refine aj rfl rfl ?_)|(refine af nmd [] hng (by kernel_rfl) fun hf C S K hC1 hC hS hK=>?_;simp (disch:=first|omega|assumption) only [go_sem];(repeat ((first|refine hC1 _ (hev _) (by simp (disch:=first|omega|assumption) only [go_sem]) ?_);simp (disch:=first|omega|assumption) only [go_sem]));refine hK ?_;clear hK hS hC hC1 K S C hf)|((first|refine zn ?_|refine ze ?_|refine zk ?_);with_reducible (constructor;repeat constructor);try refine zl ?_)))
 have hmem:∀ e,e ∈ M→Mem.of ((Oid.sub 0 0 x.p,ar.cells [Kd,.bool qd,G,.str nm,O,W])::M) e.1=some e.2:=fun e he=>by
  rw [Mem.ae,if_neg (hnm e he)];exact hfn e he
 have hP:=fun (p:Oid) hq' hJ'=>XD q J A B F D acc M hn Kd G (.str nm) O W qd v p hq' hJ' hM
 refine af nmd [] hng (by kernel_rfl) fun hf C S K hC1 hC hS hK=>?_;simp (disch:=first|omega|assumption) only [go_sem]
 refine hC _ _ _ (hP _ (bP _ _ hq) (fun i h h'=>hJ i h (Oid.ay h'))) hmem ?_ (fun _ _ h=>h.elim)
 rintro _ u ⟨rfl,⟨M2,hR2,hM2⟩,_⟩
 have hM2:=hM2 _ hmem
 generalize Mem.aF _ u=m2 at hM2 ⊢
 simp (disch:=first|omega|assumption) only [go_sem]
 refine hK ?_;clear hK hS hC hC1 K S C hf
 refine fe ?_
 exact br (bA (.tuple []) rfl ⟨rfl,hM.leaves (hR2.mono fun i h=>h.imp id (fun h=>Oid.ay h))⟩ hM2)
theorem nh:∀ (l:List Str) (a:Str),l≠[]→bF (l++[a])=bF l++[(3,[]),(1,a)]
 | [b],a,_=>rfl
 | b::c::l,a,_=>by
  have ih:=nh (c::l) a (by simp)
  show (1,b)::(3,[])::bF (c::(l++[a]))=_
  rw [List.cons_append] at ih
  rw [ih];rfl
theorem iO:∀ l:List Str,(bF l).length≤2 * l.length
 | []=>Nat.le_refl _
 | [a]=>by simp [bF]
 | a::b::l=>by
  have:=iO (b::l)
  simp only [bF,List.length_cons] at this ⊢;omega
theorem Dm (q:Oid) (J:Oid→Prop) (A F D:AV) (args:List Str) (hal:args.length≤1000) (acc:List (Nat × Str)) (M:List (Oid × ar)) (hn:acc.length≤100000) (Kd G O W:AV) (v:Str) (b:Bool) (p:Oid) (hq:¬ Oid.under p q) (hJ:∀ i,J i→¬ Oid.under p i) (hM:ER q J A (.list 1 (args.map AV.str)) F D acc M) :
  aX Tryz.prog 147 [.ptr q 0,AV.agg [Kd,.bool true,G,.str [64],O,W],.str v,.bool b] (Oid.under p) M (fun v' u=>v' = .tuple []∧(dv q J p A (.list 1 (args.map AV.str)) F D (acc++bF args) M u)) (fun _ _=>False):=by
 have hev:=fun p=>kc [64] p
 rw [decide_eq_true rfl,Bool.true_or] at hev
 have hx0:¬ ([64]:Str)=[42]:=by decide
 refine ml (n:=71) (rs:=[]) Tryz.func147 rfl rfl (by decide) rfl rfl rfl ?_;rintro x rfl hrd hng
 (try ((first|refine zn ?_|refine ze ?_|refine zk ?_);with_reducible (constructor;repeat constructor));try refine zl ?_)
 refine af nmd [] hng (by kernel_rfl) fun hf C S K hC1 hC hS hK=>?_;simp (disch:=first|omega|assumption) only [go_sem]
 refine hK ?_;clear hK hS hC hC1 K S C hf
 (try ((first|refine zn ?_|refine ze ?_|refine zk ?_);with_reducible (constructor;repeat constructor));try refine zl ?_)
 have hnq:¬ Oid.sub 0 0 x.p=q:=fun e=>hq (by rw [← e];exact Oid.ay (Oid.az _))
 have hnJ:¬ J (Oid.sub 0 0 x.p):=fun h=>hJ _ h (Oid.ay (Oid.az _))
 have hnm:=hM.qo hnq hnJ
 have hfn:=cb hM.func
 refine bp ((Oid.sub 0 0 x.p,ar.cells [Kd,.bool true,G,.str [64],O,W])::M) ?_ ?_
 ·intro e he
  rcases List.mem_cons.1 he with rfl|he
  ·rw [aJ,if_pos rfl]
  ·rw [aJ,if_neg (hnm e he)];exact hfn e he
 obtain ⟨O1,rest1,rfl⟩:=hM.cons
 refine af nmd [(3,19)] hng (by kernel_rfl) fun hf C S K hC1 hC hS hK=>?_;simp (disch:=first|omega|assumption) only [go_sem,hx0,decide_true,decide_false,ne_eq,not_true_eq_false,not_false_eq_true]
 refine hK ?_;clear hK hS hC hC1 K S C hf
 (repeat (first|(refine ah rfl rfl ?_)|(refine aj rfl rfl ?_)|(refine af nmd [] hng (by kernel_rfl) fun hf C S K hC1 hC hS hK=>?_;simp (disch:=first|omega|assumption) only [go_sem,hnq,Ne.symm hnq,if_false,List.length_map];(repeat ((first|refine hC1 _ (hev _) (by simp (disch:=first|omega|assumption) only [go_sem]) ?_);simp (disch:=first|omega|assumption) only [go_sem]));refine hK ?_;clear hK hS hC hC1 K S C hf)|((first|refine zn ?_|refine ze ?_|refine zk ?_);with_reducible (constructor;repeat constructor);try refine zl ?_)))
 have hJ0:∀ c i,J i→(fun (c:Nat) (i:Oid)=>(J i∨Oid.under x.p i)∧Old x.p c i∧¬ i = .sub 0 0 x.p) c i:=fun c i h=>⟨.inl h,fun c' j _ k=>hJ i h (Oid.ay k),fun e=>hnJ (e ▸ h)⟩
 have hJm:∀ c d i,c≤d→(fun (c:Nat) (i:Oid)=>(J i∨Oid.under x.p i)∧Old x.p c i∧¬ i = .sub 0 0 x.p) c i→(fun (c:Nat) (i:Oid)=>(J i∨Oid.under x.p i)∧Old x.p c i∧¬ i = .sub 0 0 x.p) d i:=fun c d i hc h=>⟨h.1,h.2.1.mono hc,h.2.2⟩
 have hJn:∀ c d j i,0 < c→c < d→Oid.under (.sub c j x.p) i→(fun (c:Nat) (i:Oid)=>(J i∨Oid.under x.p i)∧Old x.p c i∧¬ i = .sub 0 0 x.p) d i:=fun c d j i h0 hc h=>⟨.inr (Oid.b7 (Oid.ay (Oid.az _)) h),(Old.made h).mono hc,fun e=>by
  subst e
  have:=Oid.cG h (Oid.az _) rfl
  injection this with e1 _ _
  omega⟩
 refine a6 [0,5,47,48,49] (fun k s'=>∃ (i c:Nat) (M1:List (Oid × ar)),s' = ⟨[(0,.ptr q 0),(5,.ptr (.sub 0 0 x.p) 0),(47,.list 1 (args.map AV.str)),(48,.int .i64 args.length),(49,.int .i64 i)],Mem.of ((Oid.sub 0 0 x.p,ar.cells [Kd,.bool true,G,.str [64],O,W])::M1),c,[]⟩∧k=args.length - i∧i≤args.length∧0 < c ∧
  ER q ((fun (c:Nat) (i:Oid)=>(J i∨Oid.under x.p i)∧Old x.p c i∧¬ i = .sub 0 0 x.p) c) A (.list 1 (args.map AV.str)) F D (acc++bF (args.take i)) M1) _ ⟨0,_,_,rfl,rfl,Nat.zero_le _,by omega,by rw [List.take_zero,bF,List.append_nil];exact hM.mono (hJ0 _)⟩ ?_
 clear hnm hfn
 rintro k s' ⟨i,c,M1,rfl,rfl,hi,hc0,hR⟩
 have hnm:=hR.qo (i:=.sub 0 0 x.p) hnq (fun h=>h.2.2 rfl)
 have hfn:=cb hR.func
 have hmem:∀ e,e ∈ M1→Mem.of ((Oid.sub 0 0 x.p,ar.cells [Kd,.bool true,G,.str [64],O,W])::M1) e.1=some e.2:=fun e he=>by
  rw [Mem.ae,if_neg (hnm e he)];exact hfn e he
 by_cases hlt:i < args.length
 ·have hI:(i:Int) < args.length:=by omega
  have hlx:i < (args.map AV.str).length:=by rw [List.length_map];exact hlt
  have hg:(args.map AV.str).getD i .undef = .str (args.getD i []):=by
   rw [List.getD_eq_getElem?_getD,List.getElem?_map,List.getElem?_eq_getElem hlt,List.getD_eq_getElem?_getD,List.getElem?_eq_getElem hlt];rfl
  have htk:args.take (i+1)=args.take i++[args.getD i []]:=by
   rw [List.take_add_one,List.getElem?_eq_getElem hlt,List.getD_eq_getElem?_getD,List.getElem?_eq_getElem hlt];rfl
  have hal2:=iO (args.take i)
  rw [List.length_take] at hal2
  generalize args.getD i []=a at hg htk
  by_cases h0:i=0
  ·subst h0
   have h0I:¬ (((0:Nat):Int) > 0):=by decide
   have hacc:acc++bF (args.take (0+1))=(acc++bF (args.take 0))++[(if true=true then 1 else 2,a)]:=by
    rw [htk];simp [bF]
   have hP:=fun (p:Oid) hq' hJ'=>XD q ((fun (c:Nat) (i:Oid)=>(J i∨Oid.under x.p i)∧Old x.p c i∧¬ i = .sub 0 0 x.p) (c+1+1+1)) A (.list 1 (args.map AV.str)) F D _ M1 (by simp [bF];omega) Kd G (.str [64]) O W true a p hq' hJ' (hR.mono (hJm _ _ · (by omega)))
   rw [← hacc] at hP
   (repeat (first|(refine ah rfl rfl ?_)|(refine aj rfl rfl ?_)|(refine af nmd [] hng (by kernel_rfl) fun hf C S K hC1 hC hS hK=>?_;simp (disch:=first|omega|assumption) only [go_sem,hI,hlx,hg,h0I,decide_true,decide_false,ne_eq,not_true_eq_false,not_false_eq_true];refine hK ?_;clear hK hS hC hC1 K S C hf)|((first|refine zn ?_|refine ze ?_|refine zk ?_);with_reducible (constructor;repeat constructor);try refine zl ?_)))
   refine af nmd [] hng (by kernel_rfl) fun hf C S K hC1 hC hS hK=>?_;simp (disch:=first|omega|assumption) only [go_sem]
   refine hC _ _ _ (hP _ (bP _ _ hq) (fun i h=>h.2.1 _ _ (Nat.le_refl _))) hmem ?_ (fun _ _ h=>h.elim)
   rintro _ u ⟨rfl,hL⟩
   have hkeep:=hL.same (m:=Mem.of ((Oid.sub 0 0 x.p,ar.cells [Kd,.bool true,G,.str [64],O,W])::M1)) hnq (fun h=>h.2.2 rfl) (fun h=>by have:=Oid.cG h (Oid.az _) rfl;injection this with e1 _ _;omega)
   rw [Mem.ae,if_pos rfl] at hkeep
   obtain ⟨⟨M2,hR2,hM2⟩,_⟩:=hL
   have hM2:=hM2 _ hmem
   generalize Mem.aF _ u=m2 at hM2 hkeep ⊢
   simp (disch:=first|omega|assumption) only [go_sem]
   refine hK ?_;clear hK hS hC hC1 K S C hf
   refine fe ?_
   (try ((first|refine zn ?_|refine ze ?_|refine zk ?_);with_reducible (constructor;repeat constructor));try refine zl ?_)
   refine bp ((Oid.sub 0 0 x.p,ar.cells [Kd,.bool true,G,.str [64],O,W])::M2) (fun e he=>by
    rcases List.mem_cons.1 he with rfl|he
    ·exact hkeep
    ·exact hM2 e he) ?_
   (repeat (first|(refine ah rfl rfl ?_)|(refine aj rfl rfl ?_)|(refine af nmd [] hng (by kernel_rfl) fun hf C S K hC1 hC hS hK=>?_;simp (disch:=first|omega|assumption) only [go_sem];refine hK ?_;clear hK hS hC hC1 K S C hf)|((first|refine zn ?_|refine ze ?_|refine zk ?_);with_reducible (constructor;repeat constructor);try refine zl ?_)))
   exact ⟨_,_,by omega,fun _ _ h=>h,0+1,_,M2,rfl,rfl,by omega,by omega,hR2.mono fun i h=>h.elim (hJm _ _ i (by omega)) (hJn _ _ _ i (by omega) (by omega))⟩
  ·have h0I:(i:Int) > 0:=by omega
   have htn:args.take i≠[]:=fun e=>by have:=congrArg List.length e;rw [List.length_take] at this;simp only [List.length_nil] at this;omega
   have hane:∀ l:List Str,l≠[]→bF l≠[]:=fun l hl=>by
    match l,hl with
    | [a],_=>simp [bF]
    | a::b::l,_=>simp [bF]
   have hacc:acc++bF (args.take (i+1))=(acc++bF (args.take i)++[(3,[])])++[(if true=true then 1 else 2,a)]:=by
    rw [htk,nh _ _ htn];simp
   have han:acc++bF (args.take i)≠[]:=fun e=>hane _ htn (List.append_eq_nil_iff.1 e).2
   have hsl:(acc++bF (args.take i)).length≤200000:=by rw [List.length_append];omega
   rcases hR with ⟨h,_⟩|⟨ro,hro,hrt,hrq,rfl⟩
   ·exact absurd h han
   generalize acc++bF (args.take i)=acc1 at hacc han hsl
   have hnr:¬ Oid.sub 0 0 x.p=ro:=fun e=>hro.2.2 e.symm
   have hn1:¬ Oid.sub (c+1+1+1) 7 x.p=ro:=fun e=>hro.2.1 (c+1+1+1) 7 (by omega) (by rw [← e];exact Oid.az _)
   have hn2:¬ Oid.sub (c+1+1+1) 7 x.p=q:=fun e=>hq (by rw [← e];exact Oid.ay (Oid.az _))
   have hR':ER q ((fun (c:Nat) (i:Oid)=>(J i∨Oid.under x.p i)∧Old x.p c i∧¬ i = .sub 0 0 x.p) (c+1+1+1+1)) A (.list 1 (args.map AV.str)) F D (acc1++[(3,[])]) [(q,.cells [A,.list 1 (args.map AV.str),F,D,.sl (.sub (c+1+1+1) 7 x.p) 2 (acc1.length+1)]),(.sub (c+1+1+1) 7 x.p,.arr 2 (acc1.map bK++[.agg [.int .i64 3,.str []]]))] :=
    .inr ⟨_,hJn (c+1+1+1) _ 7 _ (by omega) (by omega) (Oid.az _),rfl,hn2,by rw [List.length_append,List.map_append];rfl⟩
   have hP:=fun (p:Oid) hq' hJ'=>XD q ((fun (c:Nat) (i:Oid)=>(J i∨Oid.under x.p i)∧Old x.p c i∧¬ i = .sub 0 0 x.p) (c+1+1+1+1)) A (.list 1 (args.map AV.str)) F D _ _ (by rw [List.length_append,List.length_singleton];omega) Kd G (.str [64]) O W true a p hq' hJ' hR'
   rw [← hacc] at hP
   (repeat (first|(refine ah rfl rfl ?_)|(refine aj rfl rfl ?_)|(refine af nmd [] hng (by kernel_rfl) fun hf C S K hC1 hC hS hK=>?_;simp (disch:=first|omega|assumption) only [go_sem,hI,hlx,hg,h0I,hnq,hnr,hn1,hn2,hrq,Ne.symm hnq,Ne.symm hnr,Ne.symm hn1,Ne.symm hn2,Ne.symm hrq,if_false,List.length_map,fD,decide_true,decide_false,ne_eq,not_true_eq_false,not_false_eq_true];refine hK ?_;clear hK hS hC hC1 K S C hf)|((first|refine zn ?_|refine ze ?_|refine zk ?_);with_reducible (constructor;repeat constructor);try refine zl ?_)))
   have hmem2:∀ e,e ∈ [(q,ar.cells [A,.list 1 (args.map AV.str),F,D,.sl (.sub (c+1+1+1) 7 x.p) 2 (acc1.length+1)]),(Oid.sub (c+1+1+1) 7 x.p,ar.arr 2 (acc1.map bK++[.agg [.int .i64 3,.str []]]))]→Mem.of ((Oid.sub 0 0 x.p,ar.cells [Kd,.bool true,G,.str [64],O,W])::[(q,ar.cells [A,.list 1 (args.map AV.str),F,D,.sl (.sub (c+1+1+1) 7 x.p) 2 (acc1.length+1)]),(Oid.sub (c+1+1+1) 7 x.p,ar.arr 2 (acc1.map bK++[.agg [.int .i64 3,.str []]]))]) e.1=some e.2:=fun e he=>by
    have h1:=cb hR'.func e he
    have h2:=hR'.qo (i:=.sub 0 0 x.p) hnq (fun h=>h.2.2 rfl) e he
    rw [Mem.ae,if_neg h2];exact h1
   refine af nmd [] hng (by kernel_rfl) fun hf C S K hC1 hC hS hK=>?_;simp (disch:=first|omega|assumption) only [go_sem]
   refine hC _ _ _ (hP _ (bP _ _ hq) (fun i h=>h.2.1 _ _ (Nat.le_refl _))) hmem2 ?_ (fun _ _ h=>h.elim)
   rintro _ u ⟨rfl,hL⟩
   have hkeep:=hL.same (m:=Mem.of ((Oid.sub 0 0 x.p,ar.cells [Kd,.bool true,G,.str [64],O,W])::[(q,ar.cells [A,.list 1 (args.map AV.str),F,D,.sl (.sub (c+1+1+1) 7 x.p) 2 (acc1.length+1)]),(Oid.sub (c+1+1+1) 7 x.p,ar.arr 2 (acc1.map bK++[.agg [.int .i64 3,.str []]]))])) hnq (fun h=>h.2.2 rfl) (fun h=>by have:=Oid.cG h (Oid.az _) rfl;injection this with e1 _ _;omega)
   rw [Mem.ae,if_pos rfl] at hkeep
   obtain ⟨⟨M2,hR2,hM2⟩,_⟩:=hL
   have hM2:=hM2 _ hmem2
   generalize Mem.aF _ u=m2 at hM2 hkeep ⊢
   simp (disch:=first|omega|assumption) only [go_sem]
   refine hK ?_;clear hK hS hC hC1 K S C hf
   refine fe ?_
   (try ((first|refine zn ?_|refine ze ?_|refine zk ?_);with_reducible (constructor;repeat constructor));try refine zl ?_)
   refine bp ((Oid.sub 0 0 x.p,ar.cells [Kd,.bool true,G,.str [64],O,W])::M2) (fun e he=>by
    rcases List.mem_cons.1 he with rfl|he
    ·exact hkeep
    ·exact hM2 e he) ?_
   (repeat (first|(refine ah rfl rfl ?_)|(refine aj rfl rfl ?_)|(refine af nmd [] hng (by kernel_rfl) fun hf C S K hC1 hC hS hK=>?_;simp (disch:=first|omega|assumption) only [go_sem];refine hK ?_;clear hK hS hC hC1 K S C hf)|((first|refine zn ?_|refine ze ?_|refine zk ?_);with_reducible (constructor;repeat constructor);try refine zl ?_)))
   exact ⟨_,_,by omega,fun _ _ h=>h,i+1,_,M2,rfl,rfl,by omega,by omega,hR2.mono fun i h=>h.elim (hJm _ _ i (by omega)) (hJn _ _ _ i (by omega) (by omega))⟩
 ·obtain rfl:i=args.length:=by omega
  have hI:¬ (args.length:Int) < args.length:=by omega
  rw [List.take_length] at hR
  (repeat (first|(refine ah rfl rfl ?_)|(refine aj rfl rfl ?_)|(refine af nmd [] hng (by kernel_rfl) fun hf C S K hC1 hC hS hK=>?_;simp (disch:=first|omega|assumption) only [go_sem,hI,decide_true,decide_false,ne_eq,not_true_eq_false,not_false_eq_true];refine hK ?_;clear hK hS hC hC1 K S C hf)|((first|refine zn ?_|refine ze ?_|refine zk ?_);with_reducible (constructor;repeat constructor);try refine zl ?_)))
  exact br (bA (.tuple []) rfl ⟨rfl,hM.leaves (hR.mono fun i h=>h.1)⟩ hmem)
end Go.Proofs.YtlfeacmbhldjcaaGreatDoor
namespace Go.Proofs.YtlfeacmbhldjcaaGreatDoor
open Go Go.Ab
set_option maxRecDepth 20000
set_option maxHeartbeats 4000000
def sG (args:List Str):Str:=if args=[] then [] else Lib.join args [32]
theorem zI (q:Oid) (A F D O:AV) (args:List Str) (hl:args.length≤1000000) (hj:(Lib.join args [32]).length≤1000000000) (p:Oid) (hp:p.mono=false) (hq:¬ Oid.under p q) :
  aA Tryz.prog 153 [.ptr q 0,.str [64]] (Oid.under p) ⟨[(q,.cells [A,.list 1 (args.map AV.str),F,D,O])],.tuple [.str (sG args),.bool (decide (0 < args.length))],[]⟩:=by
 have hev:=fun p=>kc [64] p
 rw [decide_eq_true rfl,Bool.true_or] at hev
 have x1:¬ ([64]:Str)=[35]:=by decide
 have x2:¬ ([64]:Str)=[63]:=by decide
 have x3:¬ ([64]:Str)=[48]:=by decide
 have hJn:∀ p:Oid,p.mono=false→aA Tryz.prog 179 [.list 1 (args.map AV.str),.str [32]] (Oid.under p) ⟨[],.str (sG args),[]⟩:=fun p hp=>by
  unfold sG
  by_cases h:args=[]
  ·subst h;rw [if_pos rfl];exact sF [32] p
  ·rw [if_neg h];exact XA args h [32] (by omega) (by omega) p hp
 have hdec:decide ((args.length:Int) > 0)=decide (0 < args.length):=decide_eq_decide.2 (by omega)
 generalize sG args=jv at hJn
 refine aN (n:=99) (rs:=[.tmp 4,.tmp 5]) Tryz.func153 rfl rfl (by decide) rfl rfl rfl ?_;rintro x rfl hrd hng
 (repeat (first|(refine ah rfl rfl ?_)|(refine aj rfl rfl ?_)|(refine af nmd [] hng (by kernel_rfl) fun hf C S K hC1 hC hS hK=>?_;simp (disch:=first|omega|assumption) only [go_sem,x1,x2,x3,decide_true,decide_false,ne_eq,not_true_eq_false,not_false_eq_true];(repeat ((first|refine hC1 _ (hev _) (by simp (disch:=first|omega|assumption) only [go_sem]) ?_);simp (disch:=first|omega|assumption) only [go_sem]));refine hK ?_;clear hK hS hC hC1 K S C hf)|((first|refine zn ?_|refine ze ?_|refine zk ?_);with_reducible (constructor;repeat constructor);try refine zl ?_)))
 refine bE nmd [] [(5,10),(5,11)] mixed hng (by kernel_rfl) [4,5] fun hf C S K hC hS hK=>?_;simp (disch:=first|omega|assumption) only [go_sem,List.length_map]
 refine hC _ (hJn _ (aH rfl hp)) (fun _ h=>by cases h) ?_
 simp (disch:=first|omega|assumption) only [go_sem,List.length_map,hdec]
 (first|refine hK (aM rfl) ?_|refine hK (by simp (disch:=first|omega|assumption) only [go_sem,List.reverse_cons,List.reverse_nil,ne_eq,not_false_eq_true,implies_true]) ?_);clear hK hS hC K S C hf
 (repeat (first|(refine ah rfl rfl ?_)|(refine aj rfl rfl ?_)|(refine af nmd [] hng (by kernel_rfl) fun hf C S K hC1 hC hS hK=>?_;simp (disch:=first|omega|assumption) only [go_sem];refine hK ?_;clear hK hS hC hC1 K S C hf)|((first|refine zn ?_|refine ze ?_|refine zk ?_);with_reducible (constructor;repeat constructor);try refine zl ?_)))
 exact aC (aP (by simp (disch:=first|omega|assumption) only [go_sem]) (fun _ h=>by cases h) (fun q' h' _=>by rw [List.mem_singleton.1 h',Mem.ae,if_pos rfl]))
theorem zJ (q:Oid) (vs:List Vr) (hv:vs.length≤1) (B F D O:AV) (c:UInt8) (hc:nmC c=true) (p:Oid) (hq:¬ Oid.under p q) :
  aA Tryz.prog 153 [.ptr q 0,.str [c]] (Oid.under p) ⟨[(q,.cells [.list 4 (vs.map Vr.av),B,F,D,O])],.tuple [.str (kO vs [c]).v,.bool (dr vs [c]).2],[]⟩:=by
 have hN:=fun p=>zH c hc p
 have hG:=fun p=>vj vs hv [c] p
 have hne:∀ d:UInt8,nmC d=false→¬ ([c]:Str)=[d]:=fun d hd e=>by injection e with e1 _;rw [e1,hd] at hc;cases hc
 have x1:=hne 35 (by decide)
 have x2:=hne 63 (by decide)
 have x3:=hne 48 (by decide)
 have x4:=hne 64 (by decide)
 have x5:=hne 42 (by decide)
 have x6:¬ ([c]:Str)=[]:=by simp
 have hev:=fun p=>kc [c] p
 rw [decide_eq_false x4,decide_eq_false x5,Bool.or_self] at hev
 generalize (dr vs [c]).2=b at hG ⊢
 generalize kO vs [c]=v at hG ⊢
 obtain ⟨vn,vv,ve,vo⟩:=v
 rw [Vr.av] at hG
 simp only at hG ⊢
 refine aN (n:=99) (rs:=[.tmp 4,.tmp 5]) Tryz.func153 rfl rfl (by decide) rfl rfl rfl ?_;rintro x rfl hrd hng
 (repeat (first|(refine ah rfl rfl ?_)|(refine aj rfl rfl ?_)|(refine af nmd [] hng (by kernel_rfl) fun hf C S K hC1 hC hS hK=>?_;simp (disch:=first|omega|assumption) only [go_sem,x1,x2,x3,decide_true,decide_false,ne_eq,not_true_eq_false,not_false_eq_true];(repeat ((first|refine hC1 _ (hev _) (by simp (disch:=first|omega|assumption) only [go_sem]) ?_);simp (disch:=first|omega|assumption) only [go_sem]));refine hK ?_;clear hK hS hC hC1 K S C hf)|((first|refine zn ?_|refine ze ?_|refine zk ?_);with_reducible (constructor;repeat constructor);try refine zl ?_)))
 refine af nmd [] hng (by kernel_rfl) fun hf C S K hC1 hC hS hK=>?_;simp (disch:=first|omega|assumption) only [go_sem]
 refine hC1 _ (hN _) (fun _ h=>by cases h) ?_
 simp (disch:=first|omega|assumption) only [go_sem,x6,decide_true,decide_false,ne_eq,not_true_eq_false,not_false_eq_true]
 refine hK ?_;clear hK hS hC hC1 K S C hf
 (repeat (first|(refine ah rfl rfl ?_)|(refine aj rfl rfl ?_)|(refine af nmd [] hng (by kernel_rfl) fun hf C S K hC1 hC hS hK=>?_;simp (disch:=first|omega|assumption) only [go_sem];(repeat ((first|refine hC1 _ (hG _) (by simp (disch:=first|omega|assumption) only [go_sem]) ?_);simp (disch:=first|omega|assumption) only [go_sem]));refine hK ?_;clear hK hS hC hC1 K S C hf)|((first|refine zn ?_|refine ze ?_|refine zk ?_);with_reducible (constructor;repeat constructor);try refine zl ?_)))
 exact aC (aP (by simp (disch:=first|omega|assumption) only [go_sem]) (fun _ h=>by cases h) (fun q' h' _=>by rw [List.mem_singleton.1 h',Mem.ae,if_pos rfl]))
def ahn:List ME:=[⟨.str [],.fn (.func 147) [] [],0⟩,⟨.str [108,101,110],.fn (.func 148) [] [],1⟩,⟨.str [45],.fn (.func 149) [] [],2⟩,⟨.str [61],.fn (.func 150) [] [],3⟩,⟨.str [63],.fn (.func 151) [] [],4⟩,⟨.str [43],.fn (.func 152) [] [],5⟩]
def WM (n:Nat):List ME:=ahn.take n
theorem agN:dB (.str []) (.fn (.func 147) [] []) 0 []=WM 1:=by kernel_rfl
theorem agO:cH (.str []) []=false:=by kernel_rfl
theorem agP:dB (.str [108,101,110]) (.fn (.func 148) [] []) 1 (WM 1)=WM 2:=by kernel_rfl
theorem agQ:cH (.str [108,101,110]) (WM 1)=false:=by kernel_rfl
theorem agR:dB (.str [45]) (.fn (.func 149) [] []) 2 (WM 2)=WM 3:=by kernel_rfl
theorem agS:cH (.str [45]) (WM 2)=false:=by kernel_rfl
theorem agT:dB (.str [61]) (.fn (.func 150) [] []) 3 (WM 3)=WM 4:=by kernel_rfl
theorem agU:cH (.str [61]) (WM 3)=false:=by kernel_rfl
theorem agV:dB (.str [63]) (.fn (.func 151) [] []) 4 (WM 4)=WM 5:=by kernel_rfl
theorem agW:cH (.str [63]) (WM 4)=false:=by kernel_rfl
theorem agX:dB (.str [43]) (.fn (.func 152) [] []) 5 (WM 5)=WM 6:=by kernel_rfl
theorem agY:cH (.str [43]) (WM 5)=false:=by kernel_rfl
theorem agZ:fH (.str []) .nilFn (WM 6) = .fn (.func 147) [] []:=by kernel_rfl
theorem oU (q:Oid) (J:Oid→Prop) (A B F D:AV) (acc acc':List (Nat × Str)) (M:List (Oid × ar)) (Kd G W:AV) (qd:Bool) (nm v:Str) (ok:Bool)
  (hval:∀ O p,p.mono=false→¬ Oid.under p q→aA Tryz.prog 153 [.ptr q 0,.str nm] (Oid.under p) ⟨[(q,.cells [A,B,F,D,O])],.tuple [.str v,.bool ok],[]⟩)
  (hbare:∀ p,¬ Oid.under p q→(∀ i,J i→¬ Oid.under p i)→aX Tryz.prog 147 [.ptr q 0,AV.agg [Kd,.bool qd,G,.str nm,.str [],W],.str v,.bool ok] (Oid.under p) M (fun v' u=>v' = .tuple []∧dv q J p A B F D acc' M u) (fun _ _=>False))
  (p:Oid) (hp:p.mono=false) (hq:¬ Oid.under p q) (hJ:∀ i,J i→¬ Oid.under p i) (hM:ER q J A B F D acc M) :
  aX Tryz.prog 116 [.ptr q 0,AV.agg [Kd,.bool qd,G,.str nm,.str [],W]] (Oid.under p) M (fun v' u=>v' = .tuple []∧dv q J p A B F D acc' M u) (fun _ _=>False):=by
 refine ml (n:=48) (rs:=[]) Tryz.func116 rfl rfl (by decide) rfl rfl rfl ?_;rintro x rfl hrd hng
 (try ((first|refine zn ?_|refine ze ?_|refine zk ?_);with_reducible (constructor;repeat constructor));try refine zl ?_)
 refine af nmd [] hng (by kernel_rfl) fun hf C S K hC1 hC hS hK=>?_;simp (disch:=first|omega|assumption) only [go_sem]
 refine hK ?_;clear hK hS hC hC1 K S C hf
 (try ((first|refine zn ?_|refine ze ?_|refine zk ?_);with_reducible (constructor;repeat constructor));try refine zl ?_)
 have hnq:¬ Oid.sub 0 0 x.p=q:=fun e=>hq (by rw [← e];exact Oid.ay (Oid.az _))
 have hnJ:¬ J (Oid.sub 0 0 x.p):=fun h=>hJ _ h (Oid.ay (Oid.az _))
 have hnm:=hM.qo hnq hnJ
 have hfn:=cb hM.func
 refine bp ((Oid.sub 0 0 x.p,ar.cells [Kd,.bool qd,G,.str nm,.str [],W])::M) ?_ ?_
 ·intro e he
  rcases List.mem_cons.1 he with rfl|he
  ·rw [aJ,if_pos rfl]
  ·rw [aJ,if_neg (hnm e he)];exact hfn e he
 refine af nmd [] hng (by kernel_rfl) fun hf C S K hC1 hC hS hK=>?_;simp (disch:=first|omega|assumption) only [go_sem,aJ,if_true,Nat.reduceAdd,Bool.false_eq_true,if_false,agN,agO,agP,agQ,agR,agS,agT,agU,agV,agW,agX,agY]
 refine hK ?_;clear hK hS hC hC1 K S C hf
 (try ((first|refine zn ?_|refine ze ?_|refine zk ?_);with_reducible (constructor;repeat constructor));try refine zl ?_)
 have hnq1:¬ Oid.sub 1 0 x.p=q:=fun e=>hq (by rw [← e];exact Oid.ay (Oid.az _))
 have hnm1:=hM.qo hnq1 (fun h=>hJ _ h (Oid.ay (Oid.az _)))
 have hmem:∀ e,e ∈ M→Mem.of ((Oid.sub 0 0 x.p,ar.cells [Kd,.bool qd,G,.str nm,.str [],W])::(Oid.sub 1 0 x.p,ar.map [TyS.ss] false (WM 6) 6)::M) e.1=some e.2:=fun e he=>by
  rw [Mem.ae,if_neg (hnm e he),Mem.ae,if_neg (hnm1 e he)];exact hfn e he
 refine bp ((Oid.sub 0 0 x.p,ar.cells [Kd,.bool qd,G,.str nm,.str [],W])::(Oid.sub 1 0 x.p,ar.map [TyS.ss] false (WM 6) 6)::M) ?_ ?_
 ·intro e he
  rcases List.mem_cons.1 he with rfl|he
  ·rw [Mem.ae,if_pos rfl]
  ·rcases List.mem_cons.1 he with rfl|he
   ·rw [Mem.ae,if_neg (by simp),aJ,if_pos rfl]
   ·rw [Mem.ae,if_neg (hnm e he)]
    iterate 7 rw [aJ,if_neg (hnm1 e he)]
    exact hfn e he
 obtain ⟨O1,rest1,rfl⟩:=hM.cons
 have hmq:=hmem _ (List.mem_cons_self ..)
 have hcp:=fun p=>Dk p
 refine af nmd [] hng (by kernel_rfl) fun hf C S K hC1 hC hS hK=>?_;simp (disch:=first|omega|assumption) only [go_sem]
 refine hC1 _ (hval O1 _ (aH rfl hp) (bP _ _ hq)) (fun q' h'=>by rw [List.mem_singleton.1 h'];exact hmq) ?_
 simp (disch:=first|omega|assumption) only [go_sem]
 refine hK ?_;clear hK hS hC hC1 K S C hf
 (repeat (first|(refine ah rfl rfl ?_)|(refine aj rfl rfl ?_)|(refine af nmd [] hng (by kernel_rfl) fun hf C S K hC1 hC hS hK=>?_;simp (disch:=first|omega|assumption) only [go_sem];(repeat ((first|refine hC1 _ (hcp _) (by simp (disch:=first|omega|assumption) only [go_sem]) ?_);simp (disch:=first|omega|assumption) only [go_sem]));refine hK ?_;clear hK hS hC hC1 K S C hf)|((first|refine zn ?_|refine ze ?_|refine zk ?_);with_reducible (constructor;repeat constructor);try refine zl ?_)))
 cases ok
 ·refine af nmd [(5,39),(8,42)] hng (by kernel_rfl) fun hf C S K hC1 hC hS hK=>?_;simp (disch:=first|omega|assumption) only [go_sem,agZ,decide_true,decide_false,ne_eq,not_true_eq_false,not_false_eq_true]
  refine hC _ _ _ (hbare _ (bP _ _ hq) (fun i h h'=>hJ i h (Oid.ay h'))) hmem ?_ (fun _ _ h=>h.elim)
  (rintro _ u ⟨rfl,⟨M2,hR2,hM2⟩,_⟩;have hM2:=hM2 _ hmem;generalize Mem.aF _ u=m2 at hM2 ⊢;simp (disch:=first|omega|assumption) only [go_sem];refine hK ?_;clear hK hS hC hC1 K S C hf;exact br (bA (.tuple []) rfl ⟨rfl,hM.leaves (hR2.mono fun i h=>h.imp id (fun h=>Oid.ay h))⟩ hM2))
 ·refine af nmd [(5,39),(8,42)] hng (by kernel_rfl) fun hf C S K hC1 hC hS hK=>?_;simp (disch:=first|omega|assumption) only [go_sem,agZ,decide_true,decide_false,ne_eq,not_true_eq_false,not_false_eq_true,Bool.not_false]
  refine hC _ _ _ (hbare _ (bP _ _ hq) (fun i h h'=>hJ i h (Oid.ay h'))) hmem ?_ (fun _ _ h=>h.elim)
  (rintro _ u ⟨rfl,⟨M2,hR2,hM2⟩,_⟩;have hM2:=hM2 _ hmem;generalize Mem.aF _ u=m2 at hM2 ⊢;simp (disch:=first|omega|assumption) only [go_sem];refine hK ?_;clear hK hS hC hC1 K S C hf;exact br (bA (.tuple []) rfl ⟨rfl,hM.leaves (hR2.mono fun i h=>h.imp id (fun h=>Oid.ay h))⟩ hM2))
end Go.Proofs.YtlfeacmbhldjcaaGreatDoor
namespace Go.Proofs.YtlfeacmbhldjcaaGreatDoor
open Go Go.Ab
set_option maxRecDepth 20000
set_option maxHeartbeats 4000000
def pcs (vs:List Vr) (args:List Str) (p:Pt):List (Nat × Str) :=
 if p.kind=1 then (if p.name=[64] then bF args else [(if p.quoted=true then 1 else 2,(kO vs p.name).v)]) else [(if p.quoted=true then 1 else 0,p.text)]
def oV (p:Pt):Prop:=p.kind=0∨(p.kind=1∧p.op=[]∧((p.name=[64]∧p.quoted=true)∨∃ c,nmC c=true∧p.name=[c]))
theorem XE (vs:List Vr) (args:List Str) (p:Pt):(pcs vs args p).length≤2 * args.length+1:=by
 unfold pcs
 have:=iO args
 split
 ·split
  ·omega
  ·simp
 ·simp
theorem sH (vs:List Vr) (args:List Str):∀ l:List Pt,(l.flatMap (pcs vs args)).length≤l.length * (2 * args.length+1)
 | []=>by simp
 | p::l=>by
  have h1:=XE vs args p
  have h2:=sH vs args l
  rw [List.flatMap_cons,List.length_append,List.length_cons,Nat.add_mul];omega
theorem zK (q:Oid) (J:Oid→Prop) (vs:List Vr) (hv:vs.length≤1) (args:List Str) (hal:args.length≤1000) (hj:(Lib.join args [32]).length≤1000000000) (F D:AV) (acc:List (Nat × Str)) (M:List (Oid × ar)) (hn:acc.length≤100000) (pt:Pt) (hk:pt.kind=1) (hs:oV pt) (p:Oid) (hp:p.mono=false) (hq:¬ Oid.under p q) (hJ:∀ i,J i→¬ Oid.under p i) (hM:ER q J (.list 4 (vs.map Vr.av)) (.list 1 (args.map AV.str)) F D acc M) :
  aX Tryz.prog 116 [.ptr q 0,pt.av] (Oid.under p) M (fun v' u=>v' = .tuple []∧dv q J p (.list 4 (vs.map Vr.av)) (.list 1 (args.map AV.str)) F D (acc++pcs vs args pt) M u) (fun _ _=>False):=by
 obtain ⟨pk,pq,pt,pn,po,pw⟩:=pt
 simp only [Pt.kind] at hk
 subst hk
 rcases hs with h|⟨_,h2,h3⟩
 ·cases h
 simp only [Pt.op,Pt.name,Pt.quoted] at h2 h3
 subst h2
 rcases h3 with ⟨rfl,rfl⟩|⟨c,hc,rfl⟩
 ·rw [show pcs vs args (.mk 1 true pt [64] [] pw)=bF args from by simp [pcs,Pt.kind,Pt.name],Pt.av]
  exact oU q J _ _ F D acc _ M _ _ _ true [64] (sG args) (decide (0 < args.length)) (fun O p hp hq=>zI q _ F D O args (by omega) hj p hp hq) (fun p hq hJ=>Dm q J _ F D args hal acc M hn _ _ _ _ _ _ p hq hJ hM) p hp hq hJ hM
 ·have x4:¬ ([c]:Str)=[64]:=fun e=>by injection e with e1 _;rw [e1] at hc;exact absurd hc (by decide)
  have x5:¬ ([c]:Str)=[42]:=fun e=>by injection e with e1 _;rw [e1] at hc;exact absurd hc (by decide)
  rw [show pcs vs args (.mk 1 pq pt [c] [] pw)=[(if pq=true then 1 else 2,(kO vs [c]).v)] from (if_pos rfl).trans (if_neg x4),Pt.av]
  exact oU q J _ _ F D acc _ M _ _ _ pq [c] (kO vs [c]).v (dr vs [c]).2 (fun O p _ hq=>zJ q vs hv _ F D O c hc p hq) (fun p hq hJ=>Dl q J _ _ F D acc M (by omega) _ _ _ _ pq [c] _ _ x5 x4 p hq hJ hM) p hp hq hJ hM
theorem afx (q:Oid) (J:Oid→Prop) (vs:List Vr) (hv:vs.length≤1) (args:List Str) (hal:args.length≤20) (hj:(Lib.join args [32]).length≤1000000000) (F D:AV) (l:List Pt) (hl:l.length≤500) (hs:∀ p,p ∈ l→oV p) (M:List (Oid × ar)) (p:Oid) (hp:p.mono=false) (hq:¬ Oid.under p q) (hJ:∀ i,J i→¬ Oid.under p i) (hM:ER q J (.list 4 (vs.map Vr.av)) (.list 1 (args.map AV.str)) F D [] M) :
  aX Tryz.prog 74 [.ptr q 0,.list 6 (Pt.avs l)] (Oid.under p) M (fun v' u=>v' = .tuple []∧dv q J p (.list 4 (vs.map Vr.av)) (.list 1 (args.map AV.str)) F D (l.flatMap (pcs vs args)) M u) (fun _ _=>False):=by
 have hx:=j6 l
 refine ml (n:=49) (rs:=[]) Tryz.func74 rfl rfl (by decide) rfl rfl rfl ?_;rintro x rfl hrd hng
 (repeat (first|(refine ah rfl rfl ?_)|(refine aj rfl rfl ?_)|(refine af nmd [] hng (by kernel_rfl) fun hf C S K hC1 hC hS hK=>?_;simp (disch:=first|omega|assumption) only [go_sem,hx];refine hK ?_;clear hK hS hC hC1 K S C hf)|((first|refine zn ?_|refine ze ?_|refine zk ?_);with_reducible (constructor;repeat constructor);try refine zl ?_)))
 refine a6 [0,6,7,8] (fun k s'=>∃ (i c:Nat) (M1:List (Oid × ar)),s' = ⟨[(0,.ptr q 0),(6,.list 6 (Pt.avs l)),(7,.int .i64 l.length),(8,.int .i64 i)],Mem.of M1,c,[]⟩∧k=l.length - i∧i≤l.length ∧
  ER q ((fun (c:Nat) (i:Oid)=>(J i∨Oid.under x.p i)∧Old x.p c i) c) (.list 4 (vs.map Vr.av)) (.list 1 (args.map AV.str)) F D ((l.take i).flatMap (pcs vs args)) M1) _ ⟨0,_,M,rfl,rfl,Nat.zero_le _,hM.mono fun i h=>⟨.inl h,fun c' j _ k=>hJ i h (Oid.ay k)⟩⟩ ?_
 rintro k s' ⟨i,c,M1,rfl,rfl,hi,hR⟩
 by_cases hlt:i < l.length
 ·have hI:(i:Int) < l.length:=by omega
  obtain ⟨pt,hm,hdr,hg⟩:=qc hlt
  have hlx:i < (Pt.avs l).length:=by omega
  have htk:(l.take (i+1)).flatMap (pcs vs args)=(l.take i).flatMap (pcs vs args)++pcs vs args pt:=by
   have:l.take (i+1)=l.take i++[pt]:=by
    have h1:=List.take_append_drop i l
    rw [hdr] at h1
    conv=>lhs;rw [← h1]
    rw [List.take_append,List.length_take,Nat.min_eq_left (by omega),List.take_of_length_le (by rw [List.length_take];omega)]
    simp
   rw [this,List.flatMap_append];simp
  have hsl:=sH vs args (l.take i)
  rw [List.length_take,Nat.min_eq_left (by omega)] at hsl
  have hsl2:i * (2 * args.length+1)≤500 * 41:=Nat.mul_le_mul (by omega) (by omega)
  have hsp:=hs pt hm
  have hnq:¬ Oid.sub (c+1) 2 x.p=q:=fun e=>hq (by rw [← e];exact Oid.ay (Oid.az _))
  have hnJ:¬ (fun (c:Nat) (i:Oid)=>(J i∨Oid.under x.p i)∧Old x.p c i) c (Oid.sub (c+1) 2 x.p):=fun h=>h.2 (c+1) 2 (by omega) (Oid.az _)
  have hnm:=hR.qo hnq hnJ
  have hfn:=cb hR.func
  generalize (l.take i).flatMap (pcs vs args)=acc1 at hR htk hsl
  obtain ⟨pk,pq,pt,pn,po,pw⟩:=pt
  have hmem:∀ e,e ∈ M1→Mem.of ((Oid.sub (c+1) 2 x.p,ar.cells [.int .i64 pk,.bool pq,.str pt,.str pn,.str po,.list 6 (Pt.avs pw)])::M1) e.1=some e.2:=fun e he=>by
   rw [Mem.ae,if_neg (hnm e he)];exact hfn e he
  simp only [Pt.av] at hg
  (repeat (first|(refine ah rfl rfl ?_)|(refine aj rfl rfl ?_)|(refine af nmd [] hng (by kernel_rfl) fun hf C S K hC1 hC hS hK=>?_;simp (disch:=first|omega|assumption) only [go_sem,hI,hg,hlx,decide_true,decide_false,ne_eq,not_true_eq_false,not_false_eq_true];refine hK ?_;clear hK hS hC hC1 K S C hf)|((first|refine zn ?_|refine ze ?_|refine zk ?_);with_reducible (constructor;repeat constructor);try refine zl ?_)))
  refine af nmd [] hng (by kernel_rfl) fun hf C S K hC1 hC hS hK=>?_;simp (disch:=first|omega|assumption) only [go_sem,hg,hlx,aJ,if_true]
  refine hK ?_;clear hK hS hC hC1 K S C hf
  (try ((first|refine zn ?_|refine ze ?_|refine zk ?_);with_reducible (constructor;repeat constructor));try refine zl ?_)
  refine bp ((Oid.sub (c+1) 2 x.p,ar.cells [.int .i64 pk,.bool pq,.str pt,.str pn,.str po,.list 6 (Pt.avs pw)])::M1) ?_ ?_
  ·intro e he
   rcases List.mem_cons.1 he with rfl|he
   ·rw [aJ,if_pos rfl]
   ·rw [aJ,if_neg (hnm e he)]
    try rw [aJ,if_neg (hnm e he)]
    exact hfn e he
  have fin:∀ (cc d j:Nat) (M2:List (Oid × ar)),c+1≤cc→cc < d→ER q (fun i=>(fun (c:Nat) (i:Oid)=>(J i∨Oid.under x.p i)∧Old x.p c i) (c+1+1) i∨Oid.under (.sub cc j x.p) i) (.list 4 (vs.map Vr.av)) (.list 1 (args.map AV.str)) F D ((l.take (i+1)).flatMap (pcs vs args)) M2→ER q ((fun (c:Nat) (i:Oid)=>(J i∨Oid.under x.p i)∧Old x.p c i) d) (.list 4 (vs.map Vr.av)) (.list 1 (args.map AV.str)) F D ((l.take (i+1)).flatMap (pcs vs args)) M2:=fun cc d j M2 hcc hd h=>h.mono fun i h=>h.elim (fun h=>⟨h.1,h.2.mono (by omega)⟩) (fun h=>⟨.inr (Oid.b7 (Oid.ay (Oid.az _)) h),(Old.made h).mono (by omega)⟩)
  rcases hsp with hk0|⟨hk1,ho,hnn⟩
  ·simp only [Pt.kind] at hk0
   subst hk0
   have n1:¬ ((0:Nat):Int)=1:=by decide
   have n2:¬ ((0:Nat):Int)=2:=by decide
   have n3:¬ ((0:Nat):Int)=3:=by decide
   cases pq
   ·have e:∀ a:List (Nat × Str),a=acc1→(l.take (i+1)).flatMap (pcs vs args)=a++[(0,pt)]:=fun a h=>by rw [htk,h];rfl
    have hN1:¬ Oid.sub (c+1+1+1+1+1+1+1) 9 x.p=q:=fun e=>hq (by rw [← e];exact Oid.ay (Oid.az _))
    rcases hR with ⟨h,rfl⟩|⟨ro,hro,hrt,hrq,rfl⟩
    ·have hR':ER q ((fun (c:Nat) (i:Oid)=>(J i∨Oid.under x.p i)∧Old x.p c i) (c+1+1+1+1+1+1+1+1)) (.list 4 (vs.map Vr.av)) (.list 1 (args.map AV.str)) F D ((l.take (i+1)).flatMap (pcs vs args)) [(q,.cells [(.list 4 (vs.map Vr.av)),(.list 1 (args.map AV.str)),F,D,.sl (Oid.sub (c+1+1+1+1+1+1+1) 9 x.p) 2 1]),(Oid.sub (c+1+1+1+1+1+1+1) 9 x.p,.arr 2 [.agg [.int .i64 0,.str pt]])] :=
      .inr ⟨_,⟨.inr (Oid.ay (Oid.az _)),Old.made (Oid.az _)⟩,rfl,hN1,by rw [e acc1 rfl,h];rfl⟩
     (repeat (first|(refine ah rfl rfl ?_)|(refine aj rfl rfl ?_)|(refine af nmd [] hng (by kernel_rfl) fun hf C S K hC1 hC hS hK=>?_;simp (disch:=first|omega|assumption) only [go_sem,n1,n2,n3,decide_true,decide_false,ne_eq,not_true_eq_false,not_false_eq_true];refine hK ?_;clear hK hS hC hC1 K S C hf)|((first|refine zn ?_|refine ze ?_|refine zk ?_);with_reducible (constructor;repeat constructor);try refine zl ?_)))
     refine bE nmd [] [(4,8)] mixed hng (by kernel_rfl) [0,6,7,8] fun hf C S K hC hS hK=>?_;simp (disch:=first|omega|assumption) only [go_sem,hnq,Ne.symm hnq,hN1,Ne.symm hN1,if_false,↓reduceIte,fD]
     (first|refine hK (aM rfl) ?_|refine hK (by simp (disch:=first|omega|assumption) only [go_sem,List.reverse_cons,List.reverse_nil,ne_eq,not_false_eq_true,implies_true]) ?_);clear hK hS hC K S C hf
     refine fe (fe ?_)
     (try ((first|refine zn ?_|refine ze ?_|refine zk ?_);with_reducible (constructor;repeat constructor));try refine zl ?_)
     refine bp [(q,.cells [(.list 4 (vs.map Vr.av)),(.list 1 (args.map AV.str)),F,D,.sl (Oid.sub (c+1+1+1+1+1+1+1) 9 x.p) 2 1]),(Oid.sub (c+1+1+1+1+1+1+1) 9 x.p,.arr 2 [.agg [.int .i64 0,.str pt]])] (fun e he=>by simp only [List.mem_cons,List.not_mem_nil,or_false] at he;rcases he with rfl|rfl<;>simp [Mem.ae,hnq,Ne.symm hnq,hN1,Ne.symm hN1]) ?_
     (repeat (first|(refine ah rfl rfl ?_)|(refine aj rfl rfl ?_)|(refine af nmd [] hng (by kernel_rfl) fun hf C S K hC1 hC hS hK=>?_;simp (disch:=first|omega|assumption) only [go_sem];refine hK ?_;clear hK hS hC hC1 K S C hf)|((first|refine zn ?_|refine ze ?_|refine zk ?_);with_reducible (constructor;repeat constructor);try refine zl ?_)))
     exact ⟨_,_,by omega,fun _ _ h=>h,i+1,_,_,rfl,rfl,by omega,hR'.mono fun i h=>⟨h.1,h.2.mono (by omega)⟩⟩
    ·have hN2:¬ Oid.sub (c+1+1+1+1+1+1+1) 9 x.p=ro:=fun e=>hro.2 (c+1+1+1+1+1+1+1) 9 (by omega) (by rw [← e];exact Oid.az _)
     have hN3:¬ Oid.sub (c+1) 2 x.p=ro:=fun e=>hro.2 (c+1) 2 (by omega) (by rw [← e];exact Oid.az _)
     have hR':ER q ((fun (c:Nat) (i:Oid)=>(J i∨Oid.under x.p i)∧Old x.p c i) (c+1+1+1+1+1+1+1+1)) (.list 4 (vs.map Vr.av)) (.list 1 (args.map AV.str)) F D ((l.take (i+1)).flatMap (pcs vs args)) [(q,.cells [(.list 4 (vs.map Vr.av)),(.list 1 (args.map AV.str)),F,D,.sl (Oid.sub (c+1+1+1+1+1+1+1) 9 x.p) 2 (acc1.length+1)]),(Oid.sub (c+1+1+1+1+1+1+1) 9 x.p,.arr 2 (acc1.map bK++[.agg [.int .i64 0,.str pt]]))] :=
      .inr ⟨_,⟨.inr (Oid.ay (Oid.az _)),Old.made (Oid.az _)⟩,rfl,hN1,by rw [e acc1 rfl,List.length_append,List.map_append];rfl⟩
     (repeat (first|(refine ah rfl rfl ?_)|(refine aj rfl rfl ?_)|(refine af nmd [] hng (by kernel_rfl) fun hf C S K hC1 hC hS hK=>?_;simp (disch:=first|omega|assumption) only [go_sem,n1,n2,n3,decide_true,decide_false,ne_eq,not_true_eq_false,not_false_eq_true];refine hK ?_;clear hK hS hC hC1 K S C hf)|((first|refine zn ?_|refine ze ?_|refine zk ?_);with_reducible (constructor;repeat constructor);try refine zl ?_)))
     refine bE nmd [] [(4,8)] mixed hng (by kernel_rfl) [0,6,7,8] fun hf C S K hC hS hK=>?_;simp (disch:=first|omega|assumption) only [go_sem,hnq,Ne.symm hnq,hN1,Ne.symm hN1,hN2,Ne.symm hN2,hN3,Ne.symm hN3,hrq,Ne.symm hrq,if_false,↓reduceIte,List.length_map,fD]
     (first|refine hK (aM rfl) ?_|refine hK (by simp (disch:=first|omega|assumption) only [go_sem,List.reverse_cons,List.reverse_nil,ne_eq,not_false_eq_true,implies_true]) ?_);clear hK hS hC K S C hf
     refine fe (fe ?_)
     (try ((first|refine zn ?_|refine ze ?_|refine zk ?_);with_reducible (constructor;repeat constructor));try refine zl ?_)
     refine bp [(q,.cells [(.list 4 (vs.map Vr.av)),(.list 1 (args.map AV.str)),F,D,.sl (Oid.sub (c+1+1+1+1+1+1+1) 9 x.p) 2 (acc1.length+1)]),(Oid.sub (c+1+1+1+1+1+1+1) 9 x.p,.arr 2 (acc1.map bK++[.agg [.int .i64 0,.str pt]]))] (fun e he=>by simp only [List.mem_cons,List.not_mem_nil,or_false] at he;rcases he with rfl|rfl<;>simp [Mem.ae,hnq,Ne.symm hnq,hN1,Ne.symm hN1]) ?_
     (repeat (first|(refine ah rfl rfl ?_)|(refine aj rfl rfl ?_)|(refine af nmd [] hng (by kernel_rfl) fun hf C S K hC1 hC hS hK=>?_;simp (disch:=first|omega|assumption) only [go_sem];refine hK ?_;clear hK hS hC hC1 K S C hf)|((first|refine zn ?_|refine ze ?_|refine zk ?_);with_reducible (constructor;repeat constructor);try refine zl ?_)))
     exact ⟨_,_,by omega,fun _ _ h=>h,i+1,_,_,rfl,rfl,by omega,hR'.mono fun i h=>⟨h.1,h.2.mono (by omega)⟩⟩
   ·(repeat (first|(refine ah rfl rfl ?_)|(refine aj rfl rfl ?_)|(refine af nmd [] hng (by kernel_rfl) fun hf C S K hC1 hC hS hK=>?_;simp (disch:=first|omega|assumption) only [go_sem,n1,n2,n3,decide_true,decide_false,ne_eq,not_true_eq_false,not_false_eq_true];refine hK ?_;clear hK hS hC hC1 K S C hf)|((first|refine zn ?_|refine ze ?_|refine zk ?_);with_reducible (constructor;repeat constructor);try refine zl ?_)))
    have hP:=fun (p:Oid) hq' hJ'=>XD q ((fun (c:Nat) (i:Oid)=>(J i∨Oid.under x.p i)∧Old x.p c i) (c+1+1)) _ _ F D acc1 M1 (by omega) (.int .i64 (0:Nat)) (.str pt) (.str pn) (.str po) (.list 6 (Pt.avs pw)) true pt p hq' hJ' (hR.mono fun i h=>⟨h.1,h.2.mono (by omega)⟩)
    have e:acc1++[(if true=true then 1 else 2,pt)]=(l.take (i+1)).flatMap (pcs vs args):=by rw [htk];rfl
    rw [e] at hP
    refine af nmd [] hng (by kernel_rfl) fun hf C S K hC1 hC hS hK=>?_;simp (disch:=first|omega|assumption) only [go_sem]
    refine hC _ _ _ (hP _ (bP _ _ hq) (fun i h=>h.2 _ _ (by omega))) hmem ?_ (fun _ _ h=>h.elim)
    rintro _ u ⟨rfl,⟨M2,hR2,hM2⟩,_⟩;have hM2:=hM2 _ hmem;generalize Mem.aF _ u=m2 at hM2 ⊢;simp (disch:=first|omega|assumption) only [go_sem];refine hK ?_;clear hK hS hC hC1 K S C hf
    refine fe (fe ?_)
    (try ((first|refine zn ?_|refine ze ?_|refine zk ?_);with_reducible (constructor;repeat constructor));try refine zl ?_)
    refine bp M2 hM2 ?_
    (repeat (first|(refine ah rfl rfl ?_)|(refine aj rfl rfl ?_)|(refine af nmd [] hng (by kernel_rfl) fun hf C S K hC1 hC hS hK=>?_;simp (disch:=first|omega|assumption) only [go_sem];refine hK ?_;clear hK hS hC hC1 K S C hf)|((first|refine zn ?_|refine ze ?_|refine zk ?_);with_reducible (constructor;repeat constructor);try refine zl ?_)))
    exact ⟨_,_,by omega,fun _ _ h=>h,i+1,_,M2,rfl,rfl,by omega,fin _ _ _ M2 (by omega) (by omega) hR2⟩
  ·simp only [Pt.kind] at hk1
   subst hk1
   have n1:(((1:Nat):Int)=1)=True:=eq_true rfl
   have hP:=fun (p:Oid) hp' hq' hJ'=>zK q ((fun (c:Nat) (i:Oid)=>(J i∨Oid.under x.p i)∧Old x.p c i) (c+1+1)) vs hv args (by omega) hj F D acc1 M1 (by omega) (.mk 1 pq pt pn po pw) rfl (.inr ⟨rfl,ho,hnn⟩) p hp' hq' hJ' (hR.mono fun i h=>⟨h.1,h.2.mono (by omega)⟩)
   rw [← htk] at hP
   (repeat (first|(refine ah rfl rfl ?_)|(refine aj rfl rfl ?_)|(refine af nmd [] hng (by kernel_rfl) fun hf C S K hC1 hC hS hK=>?_;simp (disch:=first|omega|assumption) only [go_sem,n1,decide_true,decide_false,ne_eq,not_true_eq_false,not_false_eq_true];refine hK ?_;clear hK hS hC hC1 K S C hf)|((first|refine zn ?_|refine ze ?_|refine zk ?_);with_reducible (constructor;repeat constructor);try refine zl ?_)))
   refine af nmd [] hng (by kernel_rfl) fun hf C S K hC1 hC hS hK=>?_;simp (disch:=first|omega|assumption) only [go_sem]
   refine hC _ _ _ (hP _ (aH rfl hp) (bP _ _ hq) (fun i h=>h.2 _ _ (by omega))) hmem ?_ (fun _ _ h=>h.elim)
   rintro _ u ⟨rfl,⟨M2,hR2,hM2⟩,_⟩;have hM2:=hM2 _ hmem;generalize Mem.aF _ u=m2 at hM2 ⊢;simp (disch:=first|omega|assumption) only [go_sem];refine hK ?_;clear hK hS hC hC1 K S C hf
   refine fe (fe ?_)
   (try ((first|refine zn ?_|refine ze ?_|refine zk ?_);with_reducible (constructor;repeat constructor));try refine zl ?_)
   refine bp M2 hM2 ?_
   (repeat (first|(refine ah rfl rfl ?_)|(refine aj rfl rfl ?_)|(refine af nmd [] hng (by kernel_rfl) fun hf C S K hC1 hC hS hK=>?_;simp (disch:=first|omega|assumption) only [go_sem];refine hK ?_;clear hK hS hC hC1 K S C hf)|((first|refine zn ?_|refine ze ?_|refine zk ?_);with_reducible (constructor;repeat constructor);try refine zl ?_)))
   exact ⟨_,_,by omega,fun _ _ h=>h,i+1,_,M2,rfl,rfl,by omega,fin _ _ _ M2 (by omega) (by omega) hR2⟩
 ·obtain rfl:i=l.length:=by omega
  have hI:¬ (l.length:Int) < l.length:=by omega
  rw [List.take_length] at hR
  (repeat (first|(refine ah rfl rfl ?_)|(refine aj rfl rfl ?_)|(refine af nmd [] hng (by kernel_rfl) fun hf C S K hC1 hC hS hK=>?_;simp (disch:=first|omega|assumption) only [go_sem,hI,decide_true,decide_false,ne_eq,not_true_eq_false,not_false_eq_true];refine hK ?_;clear hK hS hC hC1 K S C hf)|((first|refine zn ?_|refine ze ?_|refine zk ?_);with_reducible (constructor;repeat constructor);try refine zl ?_)))
  exact br (bA (.tuple []) rfl ⟨rfl,hM.leaves (hR.mono fun i h=>h.1)⟩ (cb hR.func))
end Go.Proofs.YtlfeacmbhldjcaaGreatDoor
namespace Go.Ab
theorem Dn {P:Program} [Laid P] {x:Ctx} {n:Nat} {Q:AX→AS→Prop} {id:Nat} {o1 o2:Oper} {k:FuncId} {ys:Array Operand} {ts:Array TypeId} {fr:List (Nat × AV)} {m:Mem} {c t:Nat} {ds:List AD} (hng:Fit P x)
  (hrd:x.rd=none) (ho1:o1.op = .makeFunc (.func k) #[] ys) (hd1:o1.dst=some t) (hg1:o1.guard=none) (ho2:o2.op = .defer ⟨.value (.tmp t),#[],ts⟩) (hd2:o2.dst=none) (hg2:o2.guard=none) (hok:dV n P.globals.size #[o1,o2] o1=true) (ht:(Nat.blt t n)=true)
  (h:Q .normal ⟨(t,.fn (.func k) [] (ys.toList.map (evA fr)))::fr,m,c+1,.call (.func k) (ys.toList.map (evA fr)) []::ds⟩):T P x n (.region id #[o1,o2] false) ⟨fr,m,c,ds⟩ Q:=by
 intro g a w hr
 have ht:t < n:=by simpa using ht
 refine wpIn_region ?_
 have hop:=(RR.of hr).operands hng.1 hok (f':=F fr) (fun _ _=>rfl)
 have hcap:VRs g (ys.toList.map (evA fr)) (ys.map a.eval):=VRs.map fun t ht=>hop t (by
  have:t ∈ ys:=by simpa using ht
  simp [Op.operands,ho1,this])
 have hrun1:(execOp a.eval o1).run P w = .ok (.value (.func (.func k) #[] (ys.map a.eval))) w:=by
  simp [execOp,ho1,Instr.makeFunc]
 have hw1:∀ y,Region.wanted o1 y=true:=fun y=>by simp [Region.wanted,hg1]
 have hw2:∀ y,Region.wanted o2 y=true:=fun y=>by simp [Region.wanted,hg2]
 have hfn:VR g (.fn (.func k) [] (ys.toList.map (evA fr))) (.func (.func k) #[] (ys.map a.eval)):=.fn _ _ _ _ _ rfl hcap.1 (fun j hj=>absurd hj (Nat.not_lt_zero _)) hcap.2
 have hro:(Fc x.rd).round=none:=hrd
 show wpOpsIn (Fc x.rd) 0 P #[o1,o2] _ [0,1] a w
 simp only [wpOpsIn,List.getElem?_toArray,List.getElem?_cons_zero,hw1,if_true]
 refine ⟨fun _ _=>trivial,?_⟩
 rw [hro,Oper.semAt_none,hrun1,Oper.uponIn_value,hd1]
 have h1:=(RR.of hr).put (Gh.le_refl g) hr.mr (some t) hfn
 have hev:(a.put (some t) (.func (.func k) #[] (ys.map a.eval))).eval (.tmp t) = .func (.func k) #[] (ys.map a.eval):=by
  simp only [Act.eval]
  rw [lO (by rw [hr.tm];exact ht),if_pos rfl]
 have hrun2:(execOp (a.put (some t) (.func (.func k) #[] (ys.map a.eval))).eval o2).run P w = .ok (.defer ⟨.fn (.func k) (ys.map a.eval),#[]⟩) w:=by
  simp [execOp,ho2,resolve,hev,Deferred.ofValue]
 have h2o:([o1,o2]:List Oper)[1]? = some o2:=rfl
 simp only [h2o,hw2,if_true]
 refine ⟨fun _ _=>trivial,?_⟩
 rw [hro,Oper.semAt_none,hrun2,Oper.uponIn_defer,hd2]
 rw [← kP] at h1
 exact ⟨g,.normal,⟨(t,.fn (.func k) [] (ys.toList.map (evA fr)))::fr,m,c+1,.call (.func k) (ys.toList.map (evA fr)) []::ds⟩,⟨h1.mr,h1.tm,.cons (.call _ _ _ _ _ hcap ⟨rfl,fun j hj=>absurd hj (Nat.not_lt_zero _)⟩) h1.df,h1.fr,fun i hi=>hr.young i (hi.mono (Nat.le_succ _))⟩,trivial,h⟩
theorem Dp {P:Program} [Laid P] {x:Ctx} {n:Nat} {Q:AX→AS→Prop} {ks:List Pc} {id:Nat} {o1 o2:Oper} {k:FuncId} {ys:Array Operand} {ts:Array TypeId} {fr:List (Nat × AV)} {m:Mem} {c t:Nat} {ds:List AD} (hng:Fit P x)
  (hrd:x.rd=none) (ho1:o1.op = .makeFunc (.func k) #[] ys) (hd1:o1.dst=some t) (hg1:o1.guard=none) (ho2:o2.op = .defer ⟨.value (.tmp t),#[],ts⟩) (hd2:o2.dst=none) (hg2:o2.guard=none) (hok:dV n P.globals.size #[o1,o2] o1=true) (ht:(Nat.blt t n)=true)
  (h:after P x n Q ks .normal ⟨(t,.fn (.func k) [] (ys.toList.map (evA fr)))::fr,m,c+1,.call (.func k) (ys.toList.map (evA fr)) []::ds⟩):T P x n (.region id #[o1,o2] false) ⟨fr,m,c,ds⟩ (after P x n Q ks):=Dn hng hrd ho1 hd1 hg1 ho2 hd2 hg2 hok ht h
end Go.Ab
namespace Go.Proofs.YtlfeacmbhldjcaaGreatDoor
open Go Go.Ab
set_option maxRecDepth 20000
set_option maxHeartbeats 4000000
theorem XF (a b c:Oid) (p:Oid):CT Tryz.prog 73 [.ptr a 0,.ptr b 0,.ptr c 0] (Oid.under p) [] [] (fun _ _=>False):=by
 refine CV (n:=12) (id:=0) (a:=4) (b:=3) Tryz.func73 rfl rfl (by decide) rfl rfl rfl rfl rfl rfl rfl rfl rfl rfl (fun x hp hrd hng=>?_) (fun pv u h=>h.elim)
 (repeat (first|(refine ah rfl rfl ?_)|(refine aj rfl rfl ?_)|(refine af nmd [] hng (by kernel_rfl) fun hf C S K hC1 hC hS hK=>?_;simp (disch:=first|omega|assumption) only [go_sem];refine hK ?_;clear hK hS hC hC1 K S C hf)|((first|refine zn ?_|refine ze ?_|refine zk ?_);with_reducible (constructor;repeat constructor);try refine zl ?_)))
 exact br ⟨rfl,fun i o h=>h⟩
def aho (p:Oid) (A B F:AV) (acc:List (Nat × Str)) (v:AV) (u:List (Oid × Option ar)):Prop :=
 ∃ q M',v = .tuple [.ptr q 0,.int .i64 0]∧Oid.under p q∧ER q (Oid.under p) A B F .nilSl acc M'∧(∀ m:Mem,∀ e,e ∈ M'→(m.aF u) e.1=some e.2)∧∀ e,e ∈ u→Oid.under p e.1
theorem Dq (vs:List Vr) (hv:vs.length≤1) (args:List Str) (hal:args.length≤20) (hj:(Lib.join args [32]).length≤1000000000) (F:AV) (l:List Pt) (hl:l.length≤500) (hs:∀ p,p ∈ l→oV p) (p:Oid) (hp:p.mono=false) :
  aX Tryz.prog 31 [.list 6 (Pt.avs l),.agg [(.list 4 (vs.map Vr.av)),(.list 1 (args.map AV.str)),F],.nilSl] (Oid.under p) [] (aho p (.list 4 (vs.map Vr.av)) (.list 1 (args.map AV.str)) F (l.flatMap (pcs vs args))) (fun _ _=>False):=by
 refine kC (n:=17) (rs:=[.cell 6 76,.cell 7 43]) Tryz.func31 rfl rfl (by decide) rfl rfl rfl ?_
 rintro x rfl hrd hng
 (try ((first|refine zn ?_|refine ze ?_|refine zk ?_);with_reducible (constructor;repeat constructor));try refine zl ?_)
 refine af nmd [] hng (by kernel_rfl) fun hf C S K hC1 hC hS hK=>?_;simp (disch:=first|omega|assumption) only [go_sem]
 refine hK ?_;clear hK hS hC hC1 K S C hf
 (try ((first|refine zn ?_|refine ze ?_|refine zk ?_);with_reducible (constructor;repeat constructor));try refine zl ?_)
 refine Dp hng hrd rfl rfl rfl rfl rfl rfl (by kernel_rfl) rfl (show after _ _ _ _ _ _ ⟨_,_,_,[.call (.func 73) [.ptr (.sub 0 0 x.p) 0,.ptr (.sub 0 1 x.p) 0,.ptr (.sub 0 2 x.p) 0] []]⟩ from ?_)
 (try ((first|refine zn ?_|refine ze ?_|refine zk ?_);with_reducible (constructor;repeat constructor));try refine zl ?_)
 refine af nmd [] hng (by kernel_rfl) fun hf C S K hC1 hC hS hK=>?_;simp (disch:=first|omega|assumption) only [go_sem]
 refine hK ?_;clear hK hS hC hC1 K S C hf
 (try ((first|refine zn ?_|refine ze ?_|refine zk ?_);with_reducible (constructor;repeat constructor));try refine zl ?_)
 have hR0:ER (.sub 2 3 x.p) (fun _=>False) (.list 4 (vs.map Vr.av)) (.list 1 (args.map AV.str)) F .nilSl [] [(.sub 2 3 x.p,.cells [(.list 4 (vs.map Vr.av)),(.list 1 (args.map AV.str)),F,.nilSl,.nilSl])]:=.inl ⟨rfl,rfl⟩
 have hrun:=fun (p:Oid) hp' hq'=>afx (.sub 2 3 x.p) (fun _=>False) vs hv args hal hj F .nilSl l hl hs _ p hp' hq' (fun _ h=>h.elim) hR0
 have nu3:∀ j,¬ Oid.under (.sub 3 2 x.p) (.sub 0 j x.p):=fun j h=>by
  have:=Oid.cG h (Oid.az _) rfl
  injection this with e1 _ _
  exact absurd e1 (by decide)
 have nq3:∀ j,¬ Oid.sub 0 j x.p = .sub 2 3 x.p:=fun j e=>by injection e with e1 _ _;exact absurd e1 (by decide)
 have hmem:∀ e,e ∈ [(Oid.sub 2 3 x.p,ar.cells [(.list 4 (vs.map Vr.av)),(.list 1 (args.map AV.str)),F,.nilSl,.nilSl])]→Mem.of [(Oid.sub 0 0 x.p,ar.cells [(.list 4 (vs.map Vr.av)),(.list 1 (args.map AV.str)),F]),(Oid.sub 0 1 x.p,ar.cells [.ptr (.sub 2 3 x.p) 0]),(Oid.sub 0 2 x.p,ar.cells [.int .i64 0]),(Oid.sub 2 3 x.p,ar.cells [(.list 4 (vs.map Vr.av)),(.list 1 (args.map AV.str)),F,.nilSl,.nilSl])] e.1=some e.2:=fun e he=>by
  rw [List.mem_singleton.1 he,Mem.ae,if_neg (Ne.symm (nq3 0)),Mem.ae,if_neg (Ne.symm (nq3 1)),Mem.ae,if_neg (Ne.symm (nq3 2)),Mem.ae,if_pos rfl]
 refine af nmd [] hng (by kernel_rfl) fun hf C S K hC1 hC hS hK=>?_;simp (disch:=first|omega|assumption) only [go_sem]
 refine hC _ _ _ (hrun _ (aH rfl hp) (fun h=>by have:=Oid.cG h (Oid.az _) rfl;injection this with e1 _ _;exact absurd e1 (by decide))) hmem ?_ (fun _ _ h=>h.elim)
 rintro _ u ⟨rfl,hL⟩
 have hk:=fun j=>hL.same (m:=Mem.of [(Oid.sub 0 0 x.p,ar.cells [(.list 4 (vs.map Vr.av)),(.list 1 (args.map AV.str)),F]),(Oid.sub 0 1 x.p,ar.cells [.ptr (.sub 2 3 x.p) 0]),(Oid.sub 0 2 x.p,ar.cells [.int .i64 0]),(Oid.sub 2 3 x.p,ar.cells [(.list 4 (vs.map Vr.av)),(.list 1 (args.map AV.str)),F,.nilSl,.nilSl])]) (i:=.sub 0 j x.p) (nq3 j) (fun h=>h) (nu3 j)
 have k1:=hk 1
 have k2:=hk 2
 rw [Mem.ae,if_neg (by simp),Mem.ae,if_pos rfl] at k1
 rw [Mem.ae,if_neg (by simp),Mem.ae,if_neg (by simp),Mem.ae,if_pos rfl] at k2
 obtain ⟨⟨M2,hR2,hM2⟩,_⟩:=hL
 have hM2:=hM2 _ hmem
 clear hk
 generalize Mem.aF _ u=m2 at hM2 k1 k2 ⊢
 simp (disch:=first|omega|assumption) only [go_sem]
 refine hK ?_;clear hK hS hC hC1 K S C hf
 (try ((first|refine zn ?_|refine ze ?_|refine zk ?_);with_reducible (constructor;repeat constructor));try refine zl ?_)
 refine bp ((Oid.sub 0 1 x.p,ar.cells [.ptr (.sub 2 3 x.p) 0])::(Oid.sub 0 2 x.p,ar.cells [.int .i64 0])::M2) (fun e he=>by
  rcases List.mem_cons.1 he with rfl|he
  ·exact k1
  ·rcases List.mem_cons.1 he with rfl|he
   ·exact k2
   ·exact hM2 e he) ?_
 refine af nmd [] hng (by kernel_rfl) fun hf C S K hC1 hC hS hK=>?_;simp (disch:=first|omega|assumption) only [go_sem]
 refine hK ?_;clear hK hS hC hC1 K S C hf
 have hfn:=cb hR2.func
 have hU:∀ i,Oid.under (.sub 3 2 x.p) i→Oid.under x.p i:=fun i h=>Oid.ay h
 have haw:∀ j,∀ e,e ∈ M2→¬ e.1 = .sub 0 j x.p:=fun j=>hR2.qo (nq3 j) (fun h=>h.elim (fun h=>h) (nu3 j))
 (try ((first|refine zn ?_|refine ze ?_|refine zk ?_);with_reducible (constructor;repeat constructor));try refine zl ?_)
 refine aC ?_
 simp only [XZ,jy]
 refine ⟨_,[],[],_,rfl,XF _ _ _ _,(fun _ h=>by cases h),?_⟩
 refine ⟨_,nP [] M2,by simp (disch:=first|omega|assumption) only [go_sem],⟨.sub 2 3 x.p,M2,rfl,Oid.ay (Oid.az _),hR2.mono fun i h=>h.elim (fun h=>h.elim) (hU i),fun m e he=>qh hR2.func m e he,fun e he=>by
  rw [nP,List.map_nil,List.nil_append] at he
  obtain ⟨a,ha,rfl⟩:=List.mem_map.1 he
  rcases hR2.names a ha with h|h|h
  ·simp only;rw [h];exact Oid.ay (Oid.az _)
  ·exact h.elim
  ·exact hU _ h⟩,fun i o h=>?_⟩
 have h1:=sC h
 have h2:=hfn _ h1
 simp only at h2
 rw [Mem.aF,Mem.ae,if_neg (haw 1 _ h1),Mem.ae,if_neg (haw 2 _ h1)]
 exact h2
end Go.Proofs.YtlfeacmbhldjcaaGreatDoor
namespace Go.Proofs.YtlfeacmbhldjcaaGreatDoor
open Go Go.Ab
set_option maxRecDepth 20000
set_option maxHeartbeats 4000000
structure gX (acc:List (Nat × Str)):Prop where
 n:acc.length≤10000
 k:∀ e,e ∈ acc→e.1≤3
 s:(acc.map fun e=>e.2.length).sum≤50000
theorem gX.le {acc:List (Nat × Str)} (h:gX acc):∀ e,e ∈ acc→e.2.length≤50000:=fun e he=>by
 have:∀ (L:List (Nat × Str)),e ∈ L→e.2.length≤(L.map fun e=>e.2.length).sum:=by
  intro L
  induction L with
  | nil=>intro h;cases h
  | cons a L ih =>
   intro h
   simp only [List.map_cons,List.sum_cons]
   rcases List.mem_cons.1 h with rfl|h
   ·omega
   ·have:=ih h;omega
 have:=this acc he
 have:=h.s
 omega
theorem oW (pat:Bool) (e:Nat × Str):(cO pat e).length≤2 * e.2.length+1:=by
 have h1:=dU e.2
 have h2:=nc e.2
 unfold cO
 repeat' split
 all_goals first|omega|(simp only [List.length_singleton];omega)
theorem gX.ni {acc:List (Nat × Str)} (h:gX acc) (pat:Bool) (p:Oid) (hp:p.mono=false):aA Tryz.prog 35 [.list 2 (acc.map bK),.bool pat] (Oid.under p) ⟨[],.str (acc.flatMap (cO pat)),[]⟩:=by
 have hb:∀ L:List (Nat × Str),(L.flatMap (cO pat)).length≤2 * (L.map fun e=>e.2.length).sum+L.length:=by
  intro L
  induction L with
  | nil=>exact Nat.zero_le _
  | cons a L ih =>
   have:=oW pat a
   simp only [List.flatMap_cons,List.length_append,List.map_cons,List.sum_cons,List.length_cons]
   omega
 have htk:∀ i,((acc.take i).map fun e=>e.2.length).sum≤(acc.map fun e=>e.2.length).sum:=fun i=>by
  conv=>rhs;rw [← List.take_append_drop i acc,List.map_append,List.sum_append]
  omega
 refine tV acc pat (by have:=h.n;omega) (fun e he=>⟨h.k e he,by have:=h.le e he;omega⟩) (fun i=>?_) (fun e he=>?_) p hp
 ·have h1:=hb (acc.take i)
  have h2:=htk i
  have h3:=h.s
  have h4:=h.n
  have h5:(acc.take i).length≤acc.length:=by rw [List.length_take];omega
  omega
 ·have h1:=oW pat e
  have h2:=h.le e he
  omega
theorem ag0 {P:Program} [Laid P] {x:Ctx} {n:Nat} {a:Code} {Q:AX→AS→Prop} {fr:List (Nat × AV)} {m:Mem} {c:Nat} {ds:List AD} {q:Oid} {J:Oid→Prop} {A B F D:AV} {acc:List (Nat × Str)} {M:List (Oid × ar)} (h:ER q J A B F D acc M) (hm:∀ e,e ∈ M→m e.1=some e.2) (hfr:∀ i sz xs,frz i sz xs fr=fr)
  (i2:Oid) (o2:ar) (hi2:m i2=some o2) (hq2:¬ i2=q) (hJ2:¬ J i2) (hT:T P x n a ⟨fr,Mem.of [(i2,o2),(q,.cells [A,B,F,D,.list 2 (acc.map bK)])],c,ds⟩ Q):T P x n a ⟨fr,m,c,ds⟩ Q:=by
 rcases h with ⟨rfl,rfl⟩|⟨r,hr,_,hrq,rfl⟩
 ·refine dQ q _ [A,B,F,D,.list 2 []] (hm _ (List.mem_cons_self ..)) (.cons (.refl _) (.cons (.refl _) (.cons (.refl _) (.cons (.refl _) (.cons (.bR 2) .nil))))) ?_
  refine bp [(i2,o2),(q,.cells [A,B,F,D,.list 2 []])] (fun e he=>?_) hT
  simp only [List.mem_cons,List.not_mem_nil,or_false] at he
  rcases he with rfl|rfl
  ·simp only [Mem.set,if_neg hq2];exact hi2
  ·simp only [Mem.set,if_true]
 ·have h2r:¬ i2=r:=fun e=>hJ2 (e ▸ hr)
  refine yU r q 2 (acc.map bK) _ [A,B,F,D,.list 2 (acc.map bK)] (hm _ (List.mem_cons_of_mem _ (List.mem_cons_self ..))) (hm _ (List.mem_cons_self ..)) (Ne.symm hrq) (.keep (.keep (.keep (.keep (.fX (List.length_map _).symm .nil))))) ?_
  rw [hfr]
  refine bp [(i2,o2),(q,.cells [A,B,F,D,.list 2 (acc.map bK)])] (fun e he=>?_) hT
  simp only [List.mem_cons,List.not_mem_nil,or_false] at he
  rcases he with rfl|rfl
  ·simp only [Mem.set,if_neg hq2,if_neg h2r];exact hi2
  ·simp only [Mem.set,if_true]
theorem vk (vs:List Vr) (hv:vs.length≤1) (args:List Str) (hal:args.length≤20) (hj:(Lib.join args [32]).length≤1000000000) (st:Int) (l:List Pt) (hl:l.length≤500) (hs:∀ p,p ∈ l→oV p) (hb:gX (l.flatMap (pcs vs args))) (pat:Bool) (p:Oid) (hp:p.mono=false) :
  aA Tryz.prog 14 [.list 6 (Pt.avs l),.agg [(.list 4 (vs.map Vr.av)),(.list 1 (args.map AV.str)),(.int .i64 st)],.nilSl,.bool pat] (Oid.under p) ⟨[],.tuple [.str ((l.flatMap (pcs vs args)).flatMap (cO pat)),.agg [(.list 4 (vs.map Vr.av)),(.list 1 (args.map AV.str)),(.int .i64 st)],.int .i64 0],[]⟩:=by
 have hA:=fun p hp=>Dq vs hv args hal hj (.int .i64 st) l hl hs p hp
 have hJn:=fun p hp=>hb.ni pat p hp
 generalize l.flatMap (pcs vs args)=acc at hA hJn
 refine aN (n:=31) (rs:=[.tmp 8,.cell 9 42,.tmp 10]) Tryz.func14 rfl rfl (by decide) rfl rfl rfl ?_;rintro x rfl hrd hng
 (try ((first|refine zn ?_|refine ze ?_|refine zk ?_);with_reducible (constructor;repeat constructor));try refine zl ?_)
 refine af nmd [] hng (by kernel_rfl) fun hf C S K hC1 hC hS hK=>?_;simp (disch:=first|omega|assumption) only [go_sem]
 refine hK ?_;clear hK hS hC hC1 K S C hf
 (try ((first|refine zn ?_|refine ze ?_|refine zk ?_);with_reducible (constructor;repeat constructor));try refine zl ?_)
 refine af nmd [] hng (by kernel_rfl) fun hf C S K hC1 hC hS hK=>?_;simp (disch:=first|omega|assumption) only [go_sem]
 refine hC _ _ _ (hA _ (aH rfl hp)) (fun _ h=>by cases h) ?_ (fun _ _ h=>h.elim)
 rintro _ u ⟨q,M2,rfl,hq,hR2,hM2,hu⟩
 have hM2:=hM2 (Mem.of [(.sub 0 0 x.p,.cells [(.list 4 (vs.map Vr.av)),(.list 1 (args.map AV.str)),(.int .i64 st)]),(.sub 0 2 x.p,.cells [.nilSl,.nilSl,.int .i64 0])])
 have nu3:∀ j k,¬ Oid.under (.sub 1 k x.p) (.sub 0 j x.p):=fun j k h=>by
  have:=Oid.cG h (Oid.az _) rfl
  injection this with e1 _ _
  exact absurd e1 (by decide)
 have k2:((Mem.of [(.sub 0 0 x.p,.cells [(.list 4 (vs.map Vr.av)),(.list 1 (args.map AV.str)),(.int .i64 st)]),(.sub 0 2 x.p,.cells [.nilSl,.nilSl,.int .i64 0])]).aF u) (.sub 0 2 x.p)=some (.cells [.nilSl,.nilSl,.int .i64 0]):=by
  rw [aU fun e he k=>nu3 2 _ (k ▸ hu e he),Mem.ae,if_neg (by simp),Mem.ae,if_pos rfl]
 generalize Mem.aF _ u=m2 at hM2 k2 ⊢
 simp (disch:=first|omega|assumption) only [go_sem]
 refine hK ?_;clear hK hS hC hC1 K S C hf
 (try ((first|refine zn ?_|refine ze ?_|refine zk ?_);with_reducible (constructor;repeat constructor));try refine zl ?_)
 have hq2:¬ Oid.sub 0 2 x.p=q:=fun e=>nu3 2 3 (e ▸ hq)
 refine ag0 hR2 hM2 (fun _ _ _=>rfl) (.sub 0 2 x.p) _ k2 hq2 (nu3 2 _) ?_
 refine bE nmd [] [(5,9)] mixed hng (by kernel_rfl) [8,9,10] fun hf C S K hC hS hK=>?_;simp (disch:=first|omega|assumption) only [go_sem,hq2,Ne.symm hq2,if_false]
 refine hC _ (hJn _ (aH rfl hp)) (fun _ h=>by cases h) ?_
 simp (disch:=first|omega|assumption) only [go_sem,hq2,Ne.symm hq2,if_false]
 (first|refine hK (aM rfl) ?_|refine hK (by simp (disch:=first|omega|assumption) only [go_sem,List.reverse_cons,List.reverse_nil,ne_eq,not_false_eq_true,implies_true]) ?_);clear hK hS hC K S C hf
 (try ((first|refine zn ?_|refine ze ?_|refine zk ?_);with_reducible (constructor;repeat constructor));try refine zl ?_)
 exact aC (aE (by simp (disch:=first|omega|assumption) only [go_sem]))
end Go.Proofs.YtlfeacmbhldjcaaGreatDoor
namespace Go.Proofs.YtlfeacmbhldjcaaGreatDoor
open Go Go.Ab
set_option maxRecDepth 20000
set_option maxHeartbeats 4000000
theorem gP (r:Oid) (vs:List Vr) (hv:vs.length≤1) (args:List Str) (hal:args.length≤20) (hj:(Lib.join args [32]).length≤1000000000) (st:Int) (l:List Pt) (hl:l.length≤500) (hs:∀ p,p ∈ l→oV p) (L:List Str) (hL:eg (l.flatMap (pcs vs args)) (Dj vs)=L) (hb:gX (l.flatMap (pcs vs args)))
  (hn:L.length≤1000000) (hf1:∀ f,f ∈ L→f.length≤1000000∧gS f=false) (p:Oid) (hp:p.mono=false) :
  aA Tryz.prog 13 [.ptr r 0,.list 6 (Pt.avs l),.agg [(.list 4 (vs.map Vr.av)),(.list 1 (args.map AV.str)),.int .i64 st],.nilSl] (Oid.under p) ⟨[],.tuple [.list 1 ((L.map bO).map AV.str),.agg [(.list 4 (vs.map Vr.av)),(.list 1 (args.map AV.str)),.int .i64 st],.int .i64 0],[]⟩:=by
 have hA:=fun p hp=>Dq vs hv args hal hj (.int .i64 st) l hl hs p hp
 have hF:=fun p hp=>tY (l.flatMap (pcs vs args)) (Dj vs) hb.n hb.k hb.s p hp
 rw [hL] at hF
 generalize l.flatMap (pcs vs args)=acc at hA hF
 refine aN (n:=49) (rs:=[.tmp 8,.cell 9 42,.tmp 10]) Tryz.func13 rfl rfl (by decide) rfl rfl rfl ?_;rintro x rfl hrd hng
 (try ((first|refine zn ?_|refine ze ?_|refine zk ?_);with_reducible (constructor;repeat constructor));try refine zl ?_)
 refine af nmd [] hng (by kernel_rfl) fun hf C S K hC1 hC hS hK=>?_;simp (disch:=first|omega|assumption) only [go_sem]
 refine hK ?_;clear hK hS hC hC1 K S C hf
 (try ((first|refine zn ?_|refine ze ?_|refine zk ?_);with_reducible (constructor;repeat constructor));try refine zl ?_)
 refine af nmd [] hng (by kernel_rfl) fun hf C S K hC1 hC hS hK=>?_;simp (disch:=first|omega|assumption) only [go_sem]
 refine hC _ _ _ (hA _ (aH rfl hp)) (fun _ h=>by cases h) ?_ (fun _ _ h=>h.elim)
 rintro _ u ⟨q,M2,rfl,hq,hR2,hM2,hu⟩
 have hM2:=hM2 (Mem.of [(.sub 0 0 x.p,.cells [(.list 4 (vs.map Vr.av)),(.list 1 (args.map AV.str)),.int .i64 st]),(Oid.sub 0 2 x.p,ar.cells [.nilSl,.nilSl,.int .i64 0])])
 have nu3:∀ j k,¬ Oid.under (.sub 1 k x.p) (.sub 0 j x.p):=fun j k h=>by
  have:=Oid.cG h (Oid.az _) rfl
  injection this with e1 _ _
  exact absurd e1 (by decide)
 have k2:((Mem.of [(.sub 0 0 x.p,.cells [(.list 4 (vs.map Vr.av)),(.list 1 (args.map AV.str)),.int .i64 st]),(Oid.sub 0 2 x.p,ar.cells [.nilSl,.nilSl,.int .i64 0])]).aF u) (.sub 0 2 x.p)=some (.cells [.nilSl,.nilSl,.int .i64 0]):=by
  rw [aU fun e he k=>nu3 2 _ (k ▸ hu e he),Mem.ae,if_neg (by simp),Mem.ae,if_pos rfl]
 generalize Mem.aF _ u=m2 at hM2 k2 ⊢
 simp (disch:=first|omega|assumption) only [go_sem]
 refine hK ?_;clear hK hS hC hC1 K S C hf
 (try ((first|refine zn ?_|refine ze ?_|refine zk ?_);with_reducible (constructor;repeat constructor));try refine zl ?_)
 refine af nmd [] hng (by kernel_rfl) fun hf C S K hC1 hC hS hK=>?_;simp (disch:=first|omega|assumption) only [go_sem,decide_true,decide_false,ne_eq,not_true_eq_false,not_false_eq_true]
 refine hK ?_;clear hK hS hC hC1 K S C hf
 (try ((first|refine zn ?_|refine ze ?_|refine zk ?_);with_reducible (constructor;repeat constructor));try refine zl ?_)
 have hq2:¬ Oid.sub 0 2 x.p=q:=fun e=>nu3 2 3 (e ▸ hq)
 refine ag0 hR2 hM2 (fun _ _ _=>rfl) (.sub 0 2 x.p) _ k2 hq2 (nu3 2 _) ?_
 have nq:∀ c j,1 < c→¬ Oid.under (.sub c j x.p) q:=fun c j hc h=>by
  have:=Oid.cG h hq rfl
  injection this with e1 _ _
  omega
 (repeat (first|(refine ah rfl rfl ?_)|(refine aj rfl rfl ?_)|(refine af nmd [] hng (by kernel_rfl) fun hf C S K hC1 hC hS hK=>?_;simp (disch:=first|omega|assumption) only [go_sem];refine hK ?_;clear hK hS hC hC1 K S C hf)|((first|refine zn ?_|refine ze ?_|refine zk ?_);with_reducible (constructor;repeat constructor);try refine zl ?_)))
 refine bE nmd [] [(3,5)] mixed hng (by kernel_rfl) [0,8,9,11,31,32,33] fun hf C S K hC hS hK=>?_;simp (disch:=first|omega|assumption) only [go_sem,hq2,Ne.symm hq2,if_false]
 refine hC _ (XC vs hv q _ _ _ _ _ (nq _ _ (by omega))) (fun e he=>by rw [List.mem_singleton.1 he,Mem.ae,if_neg (Ne.symm hq2),Mem.ae,if_pos rfl]) ?_
 simp (disch:=first|omega|assumption) only [go_sem,hq2,Ne.symm hq2,if_false]
 refine hC _ (hF _ (aH rfl hp)) (fun _ h=>by cases h) ?_
 simp (disch:=first|omega|assumption) only [go_sem,hq2,Ne.symm hq2,if_false,List.length_map]
 (first|refine hK (aM rfl) ?_|refine hK (by simp (disch:=first|omega|assumption) only [go_sem,List.reverse_cons,List.reverse_nil,ne_eq,not_false_eq_true,implies_true]) ?_);clear hK hS hC K S C hf
 (try ((first|refine zn ?_|refine ze ?_|refine zk ?_);with_reducible (constructor;repeat constructor));try refine zl ?_)
 refine b6 8 1 rfl ?_
 refine a6 [0,8,9,11,31,32,33] (fun k s'=>∃ (i c:Nat),s' = ⟨[(0,.ptr r 0),(8,.list 1 (((L.take i).map bO).map AV.str)),(9,.ptr (.sub 0 2 x.p) 0),(11,.ptr q 0),(31,.list 1 (L.map AV.str)),(32,.int .i64 L.length),(33,.int .i64 i)],Mem.of [(Oid.sub 0 2 x.p,ar.cells [.nilSl,.nilSl,.int .i64 0]),(q,ar.cells [(.list 4 (vs.map Vr.av)),(.list 1 (args.map AV.str)),.int .i64 st,.nilSl,.list 2 (acc.map bK)])],c,[]⟩∧k=L.length - i∧i≤L.length) _ ⟨0,_,rfl,rfl,Nat.zero_le _⟩ ?_
 rintro k s' ⟨i,c,rfl,rfl,hi⟩
 by_cases hlt:i < L.length
 ·have hI:(i:Int) < L.length:=by omega
  have hlx:i < (L.map AV.str).length:=by rw [List.length_map];exact hlt
  have hg:(L.map AV.str).getD i .undef = .str (L.getD i []):=by
   rw [List.getD_eq_getElem?_getD,List.getElem?_map,List.getElem?_eq_getElem hlt,List.getD_eq_getElem?_getD,List.getElem?_eq_getElem hlt];rfl
  have htk:L.take (i+1)=L.take i++[L.getD i []]:=by
   rw [List.take_add_one,List.getElem?_eq_getElem hlt,List.getD_eq_getElem?_getD,List.getElem?_eq_getElem hlt];rfl
  have hfb:=hf1 (L.getD i []) (by rw [List.getD_eq_getElem?_getD,List.getElem?_eq_getElem hlt];exact List.getElem_mem hlt)
  generalize L.getD i []=f at hg htk hfb
  have hG:=fun p=>tZ r f (by omega) hfb.2 p
  have hCc:∀ p,aA Tryz.prog 34 [.list 1 [.list 1 (((L.take i).map bO).map AV.str),.list 1 [.str (bO f)]]] (Oid.under p) ⟨[],.list 1 (((L.take (i+1)).map bO).map AV.str),[]⟩:=fun p=>by
   have h:=zF [(L.take i).map bO,[bO f]] (by simp [gW]) (by simp [gW];omega) (by simp) p
   rw [htk]
   simpa using h
  (repeat (first|(refine ah rfl rfl ?_)|(refine aj rfl rfl ?_)|(refine af nmd [] hng (by kernel_rfl) fun hf C S K hC1 hC hS hK=>?_;simp (disch:=first|omega|assumption) only [go_sem,hI,hlx,hg,List.length_map,decide_true,decide_false,ne_eq,not_true_eq_false,not_false_eq_true];refine hK ?_;clear hK hS hC hC1 K S C hf)|((first|refine zn ?_|refine ze ?_|refine zk ?_);with_reducible (constructor;repeat constructor);try refine zl ?_)))
  refine af nmd [] hng (by kernel_rfl) fun hf C S K hC1 hC hS hK=>?_;simp (disch:=first|omega|assumption) only [go_sem]
  refine hC1 _ (hG _) (fun _ h=>by cases h) ?_
  simp (disch:=first|omega|assumption) only [go_sem]
  refine hC1 _ (hCc _) (fun _ h=>by cases h) ?_
  simp (disch:=first|omega|assumption) only [go_sem]
  refine hK ?_;clear hK hS hC hC1 K S C hf
  (repeat (first|(refine ah rfl rfl ?_)|(refine aj rfl rfl ?_)|(refine af nmd [] hng (by kernel_rfl) fun hf C S K hC1 hC hS hK=>?_;simp (disch:=first|omega|assumption) only [go_sem];refine hK ?_;clear hK hS hC hC1 K S C hf)|((first|refine zn ?_|refine ze ?_|refine zk ?_);with_reducible (constructor;repeat constructor);try refine zl ?_)))
  exact ⟨_,_,by omega,fun _ _ h=>h,i+1,_,rfl,rfl,by omega⟩
 ·obtain rfl:i=L.length:=by omega
  have hI:¬ (L.length:Int) < L.length:=by omega
  rw [List.take_length]
  (repeat (first|(refine ah rfl rfl ?_)|(refine aj rfl rfl ?_)|(refine af nmd [] hng (by kernel_rfl) fun hf C S K hC1 hC hS hK=>?_;simp (disch:=first|omega|assumption) only [go_sem,hI,decide_true,decide_false,ne_eq,not_true_eq_false,not_false_eq_true];refine hK ?_;clear hK hS hC hC1 K S C hf)|((first|refine zn ?_|refine ze ?_|refine zk ?_);with_reducible (constructor;repeat constructor);try refine zl ?_)))
  refine bE nmd [] [] mixed hng (by kernel_rfl) [8,9,10] fun hf C S K hC hS hK=>?_;simp (disch:=first|omega|assumption) only [go_sem,hq2,Ne.symm hq2,if_false]
  (first|refine hK (aM rfl) ?_|refine hK (by simp (disch:=first|omega|assumption) only [go_sem,List.reverse_cons,List.reverse_nil,ne_eq,not_false_eq_true,implies_true]) ?_);clear hK hS hC K S C hf
  (try ((first|refine zn ?_|refine ze ?_|refine zk ?_);with_reducible (constructor;repeat constructor));try refine zl ?_)
  exact aC (aE (by simp (disch:=first|omega|assumption) only [go_sem]))
end Go.Proofs.YtlfeacmbhldjcaaGreatDoor
namespace Go.Proofs.YtlfeacmbhldjcaaGreatDoor
open Go Go.Ab
set_option maxRecDepth 20000
set_option maxHeartbeats 4000000
theorem Dr (vs:List Vr) (hv:vs.length≤1000) (p:Oid):aA Tryz.prog 36 [(.list 4 (vs.map Vr.av)),(.list 4 (vs.map Vr.av))] (Oid.under p) ⟨[],.bool true,[]⟩:=by
 refine aN (n:=26) (rs:=[.tmp 4]) Tryz.func36 rfl rfl (by decide) rfl rfl rfl ?_;rintro x rfl hrd hng
 (repeat (first|(refine ah rfl rfl ?_)|(refine aj rfl rfl ?_)|(refine af nmd [] hng (by kernel_rfl) fun hf C S K hC1 hC hS hK=>?_;simp (disch:=first|omega|assumption) only [go_sem,List.length_map,decide_true,decide_false,ne_eq,not_true_eq_false,not_false_eq_true];refine hK ?_;clear hK hS hC hC1 K S C hf)|((first|refine zn ?_|refine ze ?_|refine zk ?_);with_reducible (constructor;repeat constructor);try refine zl ?_)))
 refine a6 [0,1,5] (fun k s'=>∃ (i c:Nat),k=vs.length - i∧i≤vs.length∧s' = ⟨[(0,(.list 4 (vs.map Vr.av))),(1,(.list 4 (vs.map Vr.av))),(5,.int .i64 i)],Mem.of [],c,[]⟩) _ ⟨0,_,rfl,Nat.zero_le _,rfl⟩ ?_
 rintro k s' ⟨i,c,rfl,hi,rfl⟩
 by_cases hlt:i < vs.length
 ·have hI:(i:Int) < vs.length:=by omega
  have hlx:i < (vs.map Vr.av).length:=by rw [List.length_map];exact hlt
  have hg:(vs.map Vr.av).getD i .undef=(vs.getD i vr0).av:=by
   rw [List.getD_eq_getElem?_getD,List.getElem?_map,List.getElem?_eq_getElem hlt,List.getD_eq_getElem?_getD,List.getElem?_eq_getElem hlt];rfl
  generalize vs.getD i vr0=v at hg
  obtain ⟨vn,vv,ve,vo⟩:=v
  rw [Vr.av] at hg
  (repeat (first|(refine ah rfl rfl ?_)|(refine aj rfl rfl ?_)|(refine af nmd [] hng (by kernel_rfl) fun hf C S K hC1 hC hS hK=>?_;simp (disch:=first|omega|assumption) only [go_sem,hI,hlx,hg,List.length_map,decide_true,decide_false,ne_eq,not_true_eq_false,not_false_eq_true];refine hK ?_;clear hK hS hC hC1 K S C hf)|((first|refine zn ?_|refine ze ?_|refine zk ?_);with_reducible (constructor;repeat constructor);try refine zl ?_)))
  refine dG [0,1,5,25] (fun s'=>∃ c':Nat,s' = ⟨[(0,(.list 4 (vs.map Vr.av))),(1,(.list 4 (vs.map Vr.av))),(5,.int .i64 i),(25,.bool false)],Mem.of [],c',[]⟩) ?_ ?_
  ·refine bE nmd [] [] mixed hng (by kernel_rfl) [0,1,5,25] fun hf C S K hC hS hK=>?_;simp (disch:=first|omega|assumption) only [go_sem,hlx,hg,decide_true,decide_false,ne_eq,not_true_eq_false,not_false_eq_true]
   (first|refine hK (aM rfl) ?_|refine hK (by simp (disch:=first|omega|assumption) only [go_sem,List.reverse_cons,List.reverse_nil,ne_eq,not_false_eq_true,implies_true]) ?_);clear hK hS hC K S C hf
   exact aQ ⟨_,rfl⟩
  rintro s' ⟨c',rfl⟩
  (repeat (first|(refine ah rfl rfl ?_)|(refine aj rfl rfl ?_)|(refine af nmd [] hng (by kernel_rfl) fun hf C S K hC1 hC hS hK=>?_;simp (disch:=first|omega|assumption) only [go_sem];refine hK ?_;clear hK hS hC hC1 K S C hf)|((first|refine zn ?_|refine ze ?_|refine zk ?_);with_reducible (constructor;repeat constructor);try refine zl ?_)))
  exact ⟨_,_,by omega,fun _ _ h=>h,i+1,_,rfl,by omega,rfl⟩
 ·obtain rfl:i=vs.length:=by omega
  have hI:¬ (vs.length:Int) < vs.length:=by omega
  (repeat (first|(refine ah rfl rfl ?_)|(refine aj rfl rfl ?_)|(refine af nmd [] hng (by kernel_rfl) fun hf C S K hC1 hC hS hK=>?_;simp (disch:=first|omega|assumption) only [go_sem,hI,List.length_map,decide_true,decide_false,ne_eq,not_true_eq_false,not_false_eq_true];refine hK ?_;clear hK hS hC hC1 K S C hf)|((first|refine zn ?_|refine ze ?_|refine zk ?_);with_reducible (constructor;repeat constructor);try refine zl ?_)))
  exact aC (aE (by simp (disch:=first|omega|assumption) only [go_sem]))
theorem qp (vs:List Vr) (hv:vs.length≤1000) (args:List Str) (hal:args.length≤1000) (st:Int) (p:Oid) (hp:p.mono=false):aA Tryz.prog 15 [.agg [(.list 4 (vs.map Vr.av)),(.list 1 (args.map AV.str)),.int .i64 st],.agg [(.list 4 (vs.map Vr.av)),(.list 1 (args.map AV.str)),.int .i64 st]] (Oid.under p) ⟨[],.bool true,[]⟩:=by
 have hV:=fun p=>Dr vs hv p
 have hS1:=fun p=>lF args args (by omega) (by omega) p
 rw [decide_eq_true rfl] at hS1
 refine aN (n:=24) (rs:=[.tmp 4]) Tryz.func15 rfl rfl (by decide) rfl rfl rfl ?_;rintro x rfl hrd hng
 (try ((first|refine zn ?_|refine ze ?_|refine zk ?_);with_reducible (constructor;repeat constructor));try refine zl ?_)
 refine af nmd [] hng (by kernel_rfl) fun hf C S K hC1 hC hS hK=>?_;simp (disch:=first|omega|assumption) only [go_sem]
 refine hK ?_;clear hK hS hC hC1 K S C hf
 (try ((first|refine zn ?_|refine ze ?_|refine zk ?_);with_reducible (constructor;repeat constructor));try refine zl ?_)
 refine af nmd [(5,10),(12,17)] hng (by kernel_rfl) fun hf C S K hC1 hC hS hK=>?_;simp (disch:=first|omega|assumption) only [go_sem]
 (repeat' (first|(refine bd (fun hv=>?_) (fun hv=>?_)<;>(try simp only [zb1,zb2,zb3,zb4,zb5] at hv)<;>simp (disch:=first|omega|assumption) only [go_sem,hv,decide_true,decide_false,ne_eq,not_true_eq_false,not_false_eq_true])|(refine hC1 _ (hV _) (by simp (disch:=first|omega|assumption) only [go_sem,decide_true,decide_false,ne_eq,not_true_eq_false,not_false_eq_true]) ?_;simp (disch:=first|omega|assumption) only [go_sem,decide_true,decide_false,ne_eq,not_true_eq_false,not_false_eq_true])|(refine hC1 _ (hS1 _) (by simp (disch:=first|omega|assumption) only [go_sem,decide_true,decide_false,ne_eq,not_true_eq_false,not_false_eq_true]) ?_;simp (disch:=first|omega|assumption) only [go_sem,decide_true,decide_false,ne_eq,not_true_eq_false,not_false_eq_true])|(refine hK ?_;clear hK hS hC hC1 K S C hf)))
 (repeat (first|(refine ah rfl rfl ?_)|(refine aj rfl rfl ?_)|(refine af nmd [] hng (by kernel_rfl) fun hf C S K hC1 hC hS hK=>?_;simp (disch:=first|omega|assumption) only [go_sem];refine hK ?_;clear hK hS hC hC1 K S C hf)|((first|refine zn ?_|refine ze ?_|refine zk ?_);with_reducible (constructor;repeat constructor);try refine zl ?_)))
 exact aC (aE (by simp (disch:=first|omega|assumption) only [go_sem]))
end Go.Proofs.YtlfeacmbhldjcaaGreatDoor
namespace Go.Proofs.YtlfeacmbhldjcaaGreatDoor
open Go Go.Ab
set_option maxRecDepth 20000
set_option maxHeartbeats 4000000
theorem ag1:tL [97,36,120,34,36,120,34]=([Pt.mk 0 false [97] [] [] [],Pt.mk 1 false [] [120] [] [],Pt.mk 1 true [] [120] [] []],0):=by kernel_rfl
theorem gX.mk' {acc:List (Nat × Str)} (h1:acc.length≤100) (h2:∀ e,e ∈ acc→e.1≤3∧e.2.length≤500):gX acc:=by
 refine ⟨by omega,fun e he=>(h2 e he).1,?_⟩
 have:∀ L:List (Nat × Str),(∀ e,e ∈ L→e.1≤3∧e.2.length≤500)→(L.map fun e=>e.2.length).sum≤500 * L.length:=by
  intro L
  induction L with
  | nil=>intro _;exact Nat.zero_le _
  | cons a L ih =>
   intro h
   have h1:=(h a (List.mem_cons_self ..)).2
   have h2:=ih fun e he=>h e (List.mem_cons_of_mem _ he)
   simp only [List.map_cons,List.sum_cons,List.length_cons]
   omega
 have:=this acc h2
 omega
theorem Ds:∀ p,p ∈ [Pt.mk 0 false [97] [] [] [],Pt.mk 1 false [] [120] [] [],Pt.mk 1 true [] [120] [] []]→oV p:=by
 intro p hp
 simp only [List.mem_cons,List.not_mem_nil,or_false] at hp
 rcases hp with rfl|rfl|rfl
 ·exact .inl rfl
 ·exact .inr ⟨rfl,rfl,.inr ⟨120,rfl,rfl⟩⟩
 ·exact .inr ⟨rfl,rfl,.inr ⟨120,rfl,rfl⟩⟩
theorem ag2:([Pt.mk 0 false [97] [] [] [],Pt.mk 1 false [] [120] [] [],Pt.mk 1 true [] [120] [] []]).flatMap (pcs [Vr.mk [120] [49,32,50] false false] [])=[(0,[97]),(2,[49,32,50]),(1,[49,32,50])]:=by kernel_rfl
theorem Dt:([Pt.mk 0 false [97] [] [] [],Pt.mk 1 false [] [120] [] [],Pt.mk 1 true [] [120] [] []]).flatMap (pcs [] [])=[(0,[97]),(2,[]),(1,[])]:=by kernel_rfl
theorem ahp:eg (([Pt.mk 0 false [97] [] [] [],Pt.mk 1 false [] [120] [] [],Pt.mk 1 true [] [120] [] []]).flatMap (pcs [Vr.mk [120] [49,32,50] false false] [])) (Dj [Vr.mk [120] [49,32,50] false false])=[[97,49],[50,92,49,92,32,92,50]]:=by kernel_rfl
theorem ahq:([[97,49],[50,92,49,92,32,92,50]].map bO).map AV.str=[.str [97,49],.str [50,49,32,50]]:=by kernel_rfl
theorem ahr:[(0,[97]),(2,[]),(1,[])].flatMap (cO false)=[97]:=by kernel_rfl
theorem uf (p:Oid) (hp:p.mono=false):aA Tryz.prog 11 [] (Oid.under p) ⟨[],.bool true,[]⟩:=by
 have hPa:=fun p=>Db [97,36,120,34,36,120,34] (by decide) p
 rw [ag1] at hPa
 have hS1:=fun p=>lF [[97,49],[50,49,32,50]] [[97,49],[50,49,32,50]] (by decide) (by decide) p
 rw [decide_eq_true rfl] at hS1
 refine aN (n:=52) (rs:=[.tmp 0]) Tryz.func11 rfl rfl (by decide) rfl rfl rfl ?_;rintro x rfl hrd hng
 obtain ⟨y,u,s1,s2,s3,s4,hy,hu,hm,hB⟩:=C6 0 (.sub 1 0 x.p) (aH rfl hp)
 (try ((first|refine zn ?_|refine ze ?_|refine zk ?_);with_reducible (constructor;repeat constructor));try refine zl ?_)
 refine af nmd [] hng (by kernel_rfl) fun hf C S K hC1 hC hS hK=>?_;simp (disch:=first|omega|assumption) only [go_sem]
 refine hK ?_;clear hK hS hC hC1 K S C hf
 (try ((first|refine zn ?_|refine ze ?_|refine zk ?_);with_reducible (constructor;repeat constructor));try refine zl ?_)
 refine af nmd [] hng (by kernel_rfl) fun hf C S K hC1 hC hS hK=>?_;simp (disch:=first|omega|assumption) only [go_sem]
 refine hC1 _ hB (fun _ h=>by cases h) ?_
 simp (disch:=first|omega|assumption) only [go_sem]
 refine hK ?_;clear hK hS hC hC1 K S C hf
 (try ((first|refine zn ?_|refine ze ?_|refine zk ?_);with_reducible (constructor;repeat constructor));try refine zl ?_)
 refine bp [(y,.cells [.ptr s1 0,.ptr s2 0,.ptr s3 0,.ptr s4 0])] (fun e he=>by rw [List.mem_singleton.1 he,← Mem.bs];exact hm _) ?_
 (repeat (first|(refine ah rfl rfl ?_)|(refine aj rfl rfl ?_)|(refine af nmd [] hng (by kernel_rfl) fun hf C S K hC1 hC hS hK=>?_;simp (disch:=first|omega|assumption) only [go_sem];(repeat ((first|refine hC1 _ (hPa _) (by simp (disch:=first|omega|assumption) only [go_sem]) ?_);simp (disch:=first|omega|assumption) only [go_sem]));refine hK ?_;clear hK hS hC hC1 K S C hf)|((first|refine zn ?_|refine ze ?_|refine zk ?_);with_reducible (constructor;repeat constructor);try refine zl ?_)))
 have ny:∀ c j,1 < c→¬ .sub c j x.p=y:=fun c j hc h=>by
  rw [← h] at hy
  have:=Oid.cG hy (Oid.az _) rfl
  injection this with e1 _ _
  omega
 have hF:=fun p hp=>(gP s2 [Vr.mk [120] [49,32,50] false false] (by decide) [] (by decide) (by decide) 0 [Pt.mk 0 false [97] [] [] [],Pt.mk 1 false [] [120] [] [],Pt.mk 1 true [] [120] [] []] (by decide) Ds _ ahp (by rw [ag2];exact gX.mk' (by decide) (by decide)) (by decide) (by decide +kernel) p hp).ko (.cons (.refl _) (.cons (.refl _) (.cons (dI.agg (.cons (.refl _) (.cons (dI.nil 1) (.cons (.refl _) .nil)))) (.cons (.refl _) .nil))))
 rw [ahq] at hF
 have hT:=fun p hp=>(vk [] (by decide) [] (by decide) (by decide) 3 [Pt.mk 0 false [97] [] [] [],Pt.mk 1 false [] [120] [] [],Pt.mk 1 true [] [120] [] []] (by decide) Ds (by rw [Dt];exact gX.mk' (by decide) (by decide)) false p hp).ko (.cons (.refl _) (.cons (dI.agg (.cons (dI.nil 4) (.cons (dI.nil 1) (.cons (.refl _) .nil)))) (.cons (.refl _) (.cons (.refl _) .nil))))
 rw [Dt,ahr] at hT
 have n4:=ny 4 13 (by omega)
 have n4':=Ne.symm n4
 refine af nmd [] hng (by kernel_rfl) fun hf C S K hC1 hC hS hK=>?_;simp (disch:=first|omega|assumption) only [go_sem]
 refine hC1 _ (hF _ (aH rfl hp)) (fun _ h=>by cases h) ?_
 simp (disch:=first|omega|assumption) only [go_sem,n4,n4',if_false]
 refine hK ?_;clear hK hS hC hC1 K S C hf
 (try ((first|refine zn ?_|refine ze ?_|refine zk ?_);with_reducible (constructor;repeat constructor));try refine zl ?_)
 have n5:=ny 5 7 (by omega)
 have n5':=Ne.symm n5
 refine af nmd [] hng (by kernel_rfl) fun hf C S K hC1 hC hS hK=>?_;simp (disch:=first|omega|assumption) only [go_sem]
 refine hC1 _ (hT _ (aH rfl hp)) (fun _ h=>by cases h) ?_
 simp (disch:=first|omega|assumption) only [go_sem,n4,n4',n5,n5',if_false]
 refine hK ?_;clear hK hS hC hC1 K S C hf
 (try ((first|refine zn ?_|refine ze ?_|refine zk ?_);with_reducible (constructor;repeat constructor));try refine zl ?_)
 refine af nmd [(2,39),(7,44),(11,48)] hng (by kernel_rfl) fun hf C S K hC1 hC hS hK=>?_;simp (disch:=first|omega|assumption) only [go_sem]
 (repeat' (first|(refine bd (fun hv=>?_) (fun hv=>?_)<;>(try simp only [zb1,zb2,zb3,zb4,zb5] at hv)<;>simp (disch:=first|omega|assumption) only [go_sem,hv,decide_true,decide_false,ne_eq,not_true_eq_false,not_false_eq_true])|(refine hC1 _ (hS1 _) (by simp (disch:=first|omega|assumption) only [go_sem,decide_true,decide_false,ne_eq,not_true_eq_false,not_false_eq_true]) ?_;simp (disch:=first|omega|assumption) only [go_sem,decide_true,decide_false,ne_eq,not_true_eq_false,not_false_eq_true])|(refine hK ?_;clear hK hS hC hC1 K S C hf)))
 (repeat (first|(refine ah rfl rfl ?_)|(refine aj rfl rfl ?_)|(refine af nmd [] hng (by kernel_rfl) fun hf C S K hC1 hC hS hK=>?_;simp (disch:=first|omega|assumption) only [go_sem];refine hK ?_;clear hK hS hC hC1 K S C hf)|((first|refine zn ?_|refine ze ?_|refine zk ?_);with_reducible (constructor;repeat constructor);try refine zl ?_)))
 exact aC (aE (by simp (disch:=first|omega|assumption) only [go_sem]))
end Go.Proofs.YtlfeacmbhldjcaaGreatDoor
namespace Go.Proofs.YtlfeacmbhldjcaaGreatDoor
open Go Go.Ab
set_option maxRecDepth 20000
set_option maxHeartbeats 4000000
def eP (l:List Str):Nat:=(l.map List.length).sum
theorem zM (l:List Str) {i:Nat} (h:i < l.length):eP (l.take (i+1))=eP (l.take i)+(l.getD i []).length:=by
 unfold eP
 rw [List.take_add_one,List.getElem?_eq_getElem h,List.map_append,List.sum_append,List.getD_eq_getElem?_getD,List.getElem?_eq_getElem h]
 simp [Option.toList]
theorem XG (l:List Str) (n:Nat) (h:∀ a,a ∈ l→a.length≤n):eP l≤n * l.length:=by
 induction l with
 | nil=>exact Nat.zero_le _
 | cons a l ih =>
  have h1:=h a (List.mem_cons_self ..)
  have h2:=ih fun e he=>h e (List.mem_cons_of_mem _ he)
  simp only [eP,List.map_cons,List.sum_cons,List.length_cons,Nat.mul_add,Nat.mul_one] at h2 ⊢
  omega
theorem nj:∀ (l:List Str),∀ a,a ∈ l→a.length≤eP l
 | [],a,h=>by cases h
 | b::l,a,h=>by
  have e:eP (b::l)=b.length+eP l:=by simp [eP]
  rcases List.mem_cons.1 h with rfl|h
  ·omega
  ·have:=nj l a h;omega
theorem oX:∀ (l:List Str),(Lib.join l [32]).length≤eP l+l.length
 | []=>by simp [Lib.join]
 | [a]=>by simp [Lib.join,eP]
 | a::b::l=>by
  have h:=oX (b::l)
  have e:eP (a::b::l)=a.length+eP (b::l):=by simp [eP]
  have e2:(Lib.join (a::b::l) [32]).length=a.length+1+(Lib.join (b::l) [32]).length:=by simp [Lib.join];omega
  rw [e2,e,List.length_cons]
  omega
theorem oY:∀ (l:List Str),∀ e,e ∈ bF l→e=(3,[])∨∃ a,a ∈ l∧e=(1,a)
 | [],e,h=>by cases h
 | [a],e,h=>by
  rw [bF] at h
  exact .inr ⟨a,List.mem_cons_self ..,List.mem_singleton.1 h⟩
 | a::b::l,e,h=>by
  rw [bF] at h
  rcases List.mem_cons.1 h with h|h
  ·exact .inr ⟨a,List.mem_cons_self ..,h⟩
  ·rcases List.mem_cons.1 h with h|h
   ·exact .inl h
   ·rcases oY (b::l) e h with h|⟨c,hc,he⟩
    ·exact .inl h
    ·exact .inr ⟨c,List.mem_cons_of_mem _ hc,he⟩
theorem gX.one {k:Nat} {s:Str} (hk:k≤3) (hs:s.length≤500):gX [(k,s)]:=gX.mk' (Nat.le_of_ble_eq_true rfl) (fun e he=>by rw [List.mem_singleton.1 he];exact ⟨hk,hs⟩)
section
variable (s:Str) (hs:s.length≤200) (args:List Str) (hal:args.length≤10) (ht:eP args≤200)
include hs hal ht
theorem qx:(Lib.join args [32]).length≤1000000000:=by
 have:=oX args
 omega
theorem X5:(kO [(Vr.mk [118] s false false)] [118]).v=s:=by
 have h:Lib.compareBytes [118] [118]=0:=by kernel_rfl
 unfold kO
 have e:dr [(Vr.mk [118] s false false)] [118]=(0,true):=by
  unfold dr
  simp only [h]
  rfl
 rw [e];rfl
theorem q_1 (r p:Oid) (hp:p.mono=false):aA Tryz.prog 13 [.ptr r 0,.list 6 [.agg [.int .i64 0,.bool true,.str s,.str [],.str [],.nilSl]],AV.agg [.list 4 [.agg [.str [118],.str s,.bool false,.bool false]],.list 1 (args.map AV.str),.int .i64 0],.nilSl] (Oid.under p) ⟨[],.tuple [.list 1 [.str s],AV.agg [.list 4 [.agg [.str [118],.str s,.bool false,.bool false]],.list 1 (args.map AV.str),.int .i64 0],.int .i64 0],[]⟩:=by
 have hel:=dU s
 have h:=gP r [(Vr.mk [118] s false false)] (by simp) args (by omega) (qx s hs args hal ht) 0 [Pt.mk 0 true s [] [] []] (by simp) (fun p hp=>by rw [List.mem_singleton.1 hp];exact .inl rfl) [cx s] (lp s _) (show gX [(1,s)] from gX.one (by decide) (by omega)) (by simp) (fun f hf=>by rw [List.mem_singleton.1 hf];exact ⟨by omega,j7 s⟩) p hp
 rw [show [cx s].map bO=[s] by rw [List.map_singleton,iN]] at h
 exact h.ko (.cons (.refl _) (.cons (dI.list (.cons (pE.agg (.cons (.refl _) (.cons (.refl _) (.cons (.refl _) (.cons (.refl _) (.cons (.refl _) (.cons (dI.nil 6) .nil))))))) .nil)) (.cons (.refl _) (.cons (.refl _) .nil))))
theorem q_2 (r p:Oid) (hp:p.mono=false):aA Tryz.prog 13 [.ptr r 0,.list 6 [.agg [.int .i64 1,.bool true,.str [],.str [118],.str [],.nilSl]],AV.agg [.list 4 [.agg [.str [118],.str s,.bool false,.bool false]],.list 1 (args.map AV.str),.int .i64 0],.nilSl] (Oid.under p) ⟨[],.tuple [.list 1 [.str s],AV.agg [.list 4 [.agg [.str [118],.str s,.bool false,.bool false]],.list 1 (args.map AV.str),.int .i64 0],.int .i64 0],[]⟩:=by
 have hel:=dU s
 have e:([Pt.mk 1 true [] [118] [] []]).flatMap (pcs [(Vr.mk [118] s false false)] args)=[(1,s)]:=by
  show [(1,(kO [(Vr.mk [118] s false false)] [118]).v)]=_
  rw [X5 s hs args hal ht]
 have h:=gP r [(Vr.mk [118] s false false)] (by simp) args (by omega) (qx s hs args hal ht) 0 [Pt.mk 1 true [] [118] [] []] (by simp) (fun p hp=>by rw [List.mem_singleton.1 hp];exact .inr ⟨rfl,rfl,.inr ⟨118,rfl,rfl⟩⟩) [cx s] (by rw [e];exact lp s _) (by rw [e];exact gX.one (by decide) (by omega)) (by simp) (fun f hf=>by rw [List.mem_singleton.1 hf];exact ⟨by omega,j7 s⟩) p hp
 rw [show [cx s].map bO=[s] by rw [List.map_singleton,iN]] at h
 exact h.ko (.cons (.refl _) (.cons (dI.list (.cons (pE.agg (.cons (.refl _) (.cons (.refl _) (.cons (.refl _) (.cons (.refl _) (.cons (.refl _) (.cons (dI.nil 6) .nil))))))) .nil)) (.cons (.refl _) (.cons (.refl _) .nil))))
theorem q_3 (r p:Oid) (hp:p.mono=false):aA Tryz.prog 13 [.ptr r 0,.list 6 [.agg [.int .i64 1,.bool true,.str [],.str [64],.str [],.nilSl]],AV.agg [.list 4 [.agg [.str [118],.str s,.bool false,.bool false]],.list 1 (args.map AV.str),.int .i64 0],.nilSl] (Oid.under p) ⟨[],.tuple [.list 1 (args.map AV.str),AV.agg [.list 4 [.agg [.str [118],.str s,.bool false,.bool false]],.list 1 (args.map AV.str),.int .i64 0],.int .i64 0],[]⟩:=by
 have e:([Pt.mk 1 true [] [64] [] []]).flatMap (pcs [(Vr.mk [118] s false false)] args)=bF args:=by
  show bF args++[]=_
  rw [List.append_nil]
 have h:=gP r [(Vr.mk [118] s false false)] (by simp) args (by omega) (qx s hs args hal ht) 0 [Pt.mk 1 true [] [64] [] []] (by simp) (fun p hp=>by rw [List.mem_singleton.1 hp];exact .inr ⟨rfl,rfl,.inl ⟨rfl,rfl⟩⟩) (args.map cx) (by rw [e];exact qj args _) (by
  rw [e]
  refine gX.mk' (by have:=iO args;omega) (fun e he=>?_)
  rcases oY args e he with rfl|⟨a,ha,rfl⟩
  ·exact ⟨by decide,by decide⟩
  ·exact ⟨by simp,by have:=nj args a ha;simp only;omega⟩) (by rw [List.length_map];omega) (fun f hf=>by
  obtain ⟨a,ha,rfl⟩:=List.mem_map.1 hf
  have h1:=nj args a ha
  have h2:=dU a
  exact ⟨by omega,j7 a⟩) p hp
 rw [show (args.map cx).map bO=args by
  rw [List.map_map]
  conv=>rhs;rw [← List.map_id args]
  exact List.map_congr_left fun s _=>iN s] at h
 exact h.ko (.cons (.refl _) (.cons (dI.list (.cons (pE.agg (.cons (.refl _) (.cons (.refl _) (.cons (.refl _) (.cons (.refl _) (.cons (.refl _) (.cons (dI.nil 6) .nil))))))) .nil)) (.cons (.refl _) (.cons (.refl _) .nil))))
theorem q_4 (p:Oid) (hp:p.mono=false):aA Tryz.prog 14 [.list 6 [.agg [.int .i64 1,.bool false,.str [],.str [118],.str [],.nilSl]],AV.agg [.list 4 [.agg [.str [118],.str s,.bool false,.bool false]],.list 1 (args.map AV.str),.int .i64 0],.nilSl,.bool false] (Oid.under p) ⟨[],.tuple [.str s,AV.agg [.list 4 [.agg [.str [118],.str s,.bool false,.bool false]],.list 1 (args.map AV.str),.int .i64 0],.int .i64 0],[]⟩:=by
 have e:([Pt.mk 1 false [] [118] [] []]).flatMap (pcs [(Vr.mk [118] s false false)] args)=[(2,s)]:=by
  show [(2,(kO [(Vr.mk [118] s false false)] [118]).v)]=_
  rw [X5 s hs args hal ht]
 have h:=vk [(Vr.mk [118] s false false)] (by simp) args (by omega) (qx s hs args hal ht) 0 [Pt.mk 1 false [] [118] [] []] (by simp) (fun p hp=>by rw [List.mem_singleton.1 hp];exact .inr ⟨rfl,rfl,.inr ⟨118,rfl,rfl⟩⟩) (by rw [e];exact gX.one (by decide) (by omega)) false p hp
 rw [e,show [((2:Nat),s)].flatMap (cO false)=s by simp [cO]] at h
 exact h.ko (.cons (dI.list (.cons (pE.agg (.cons (.refl _) (.cons (.refl _) (.cons (.refl _) (.cons (.refl _) (.cons (.refl _) (.cons (dI.nil 6) .nil))))))) .nil)) (.cons (.refl _) (.cons (.refl _) (.cons (.refl _) .nil))))
end
end Go.Proofs.YtlfeacmbhldjcaaGreatDoor
