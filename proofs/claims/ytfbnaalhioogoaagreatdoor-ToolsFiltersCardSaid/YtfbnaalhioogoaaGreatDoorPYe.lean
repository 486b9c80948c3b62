/- A part of the proof: the texts Z13, Z12, Z15, Z16, Z17, K1, K2, FwR, FwZ, FwX, K3, K4, K5, K6, K7, K8, KB, KC, KD, KE, KF, KG, TA, SortU, TB, TC, TQ, J1, J2, J3, J4, one behind the other. -/
import Derived.Test.YtfbnaalhioogoaaGreatDoorPYd
import Derived.Shelf.SlMaps.Clone
import Derived.WalkKit
import Derived.Recover
import Derived.Laws.MakeOwn
import Derived.Shelf.Strings.Builder1
import Derived.Shelf.Strings.Builder2
import Derived.Shelf.Strings.OnBuilder
import Derived.Shelf.Strings.Trim
import Derived.Shelf.Small.Utf8
import Derived.Shelf.Small.Bits
import Derived.Shelf.Small.Strs
import Derived.Shelf.Strconv.Atoi
import Derived.Shelf.Strconv.Itoa0
import Derived.Shelf.Strconv.Itoa1
import Derived.Shelf.LaysM
import Derived.Shelf.Strconv.Itoa2
import Derived.Shelf.Strconv.Itoa3
import Derived.Shelf.Strconv.AtoiErrFast
import Derived.Shelf.Strconv.ParseIntEmpty
import Derived.Shelf.Strconv.AtoiFail
import Derived.Shelf.Strconv.Clone
import Derived.Shelf.Strconv.SyntaxError
import Derived.Shelf.LaysC
import Derived.Shelf.Strconv.ToError
import Derived.Shelf.Strconv.Lower
import Derived.Shelf.Strconv.ParseUint10
import Derived.Shelf.Strconv.ParseUint10Empty
import Derived.Shelf.Strconv.ParseUint10Any
import Derived.Shelf.Strconv.ParseInt10
import Derived.Shelf.Strconv.AtoiLong
import Derived.Shelf.Strconv.AtoiInnerAll
import Derived.Shelf.Strconv.RangeError
import Derived.Shelf.Strconv.ToErrorRange
import Derived.Shelf.Strconv.AtoiAll
import Derived.Shelf.Strings.Search1
import Derived.Shelf.Strings.Search2
import Derived.Shelf.Strings.Search3
import Derived.Shelf.Strings.Cut
import Derived.Shelf.Strings.Count
import Derived.Shelf.Strings.Shaped
import Derived.Shelf.Sort.Plain
import Derived.Shelf.Strings.LastIndex
import Derived.Shelf.Strings.Prefix
import Derived.Shelf.Strings.Split
import Derived.Shelf.Strings.SplitShaped
import Derived.Shelf.Unicode.Decode
import Derived.Shelf.Strings.Runes
import Derived.Shelf.Strings.RuneCount
import Derived.Shelf.Strings.AsciiSet
import Derived.Shelf.Unicode.DecodeSlow
import Derived.Shelf.Slices.Turned
import Derived.Shelf.Slices.Equal
import Derived.Ground.Names2Prog
import Derived.Shelf.Slices.ReverseS
import Derived.Shelf.Slices.CompactS
import Derived.Shelf.Slices.Cells
import Derived.Shelf.Slices.In.SortNone
import Derived.Shelf.Slices.Empties2
import Derived.Ground.SlgnProg
import Derived.Shelf.SlicesE.Equal
import Derived.Shelf.SlicesE.Compact
import Derived.Ground.SlgfProg
import Derived.Shelf.SlicesE.IndexFunc
import Derived.Shelf.SlicesE.DeleteFunc
import Derived.Test.YtfbnaalhioogoaaGreatDoorProg
import Derived.Sort.Row
import Derived.Lib.RowBridge
set_option linter.unusedVariables false
set_option linter.unusedSimpArgs false
set_option linter.unusedSectionVars false
namespace Go.Proofs.YtfbnaalhioogoaaGreatDoor
open Go Go.Ab
set_option maxRecDepth 20000
set_option maxHeartbeats 4000000
section
variable (st t tr o rd wr:Oid) (hn:[wr,rd,o,tr,t,st].Nodup) (es eso esr esw:List ME) (clock co cr cw:Nat)
include hn
theorem Kw (old L:PL) (hm:gF eso old) (hs:aY ltB old) (ho:POk old) (hm1:gF es L) (n:Str) (hnl:n.length≤140737488355000) (w h:Bool) (hw:fE (.str n) (.bool false) esw = .bool w) (hh:bM (cK (n,false)) esr=h) (p:Oid) (hp:p.mono=false) (hu:∀ i ∈ [st,t,tr,o,rd,wr],¬ Oid.under p i) :
  af Tryz.prog 37 [.ptr st 0,.str n] (Oid.under p) ⟨[(st,.cells [.map t,.ptr tr 0]),(t,.map [.ss] false es clock),(tr,.cells [.map o,.map rd,.map wr]),(o,.map [.ss] false eso co),(rd,.map [.ss,.sb] true esr cr),(wr,.map [.ss] false esw cw)],(aO L n).av,[(rd,some (.map [.ss,.sb] true (dS false w h (cK (n,false)) (.str (dR old (n,false))) esr cr).1 (dS false w h (cK (n,false)) (.str (dR old (n,false))) esr cr).2))]⟩:=by
 have hrd':=fun p hp hu=>ub st t tr o rd wr hn es eso esr esw clock co cr cw old hm hs ho n hnl false w h hw hh p hp hu
 have hat:=fun p h=>xd t t es clock p h h n ((aM n L).getD Bits.no) (lA hm1 n)
 have hgp:(if n=[] then (⟨2,7,[]⟩:Bits) else (aM n L).getD Bits.no)=aO L n:=rfl
 rw [hgp] at hat
 have hu':∀ c j,∀ i ∈ [st,t,tr,o,rd,wr],¬ Oid.under (.sub c j p) i:=fun c j i hi h=>hu i hi (Oid.ae h)
 simp only [List.nodup_cons,List.mem_cons,List.not_mem_nil,or_false,not_or,not_false_eq_true,List.nodup_nil,and_true] at hn;simp only [List.mem_cons,List.not_mem_nil,or_false,forall_eq_or_imp,forall_eq] at hu;have hd:=hn;obtain ⟨u1,u2,u3,u4,u5,u6⟩:=hu
 have u2':∀ c i,¬ Oid.under (.sub c i p) t:=fun c i h=>u2 (Oid.ae h)
 generalize (dS false w h (cK (n,false)) (.str (dR old (n,false))) esr cr).1=E1 at *
 generalize (dS false w h (cK (n,false)) (.str (dR old (n,false))) esr cr).2=C1 at *
 generalize aO L n=B at *
 simp only [Bits.av,cK] at *
 refine aJ (n:=15) (rs:=[.cell 4 56]) Tryz.func37 rfl rfl (by decide) rfl rfl rfl ?_;rintro x rfl hrd hng
 refine qw (ai hd (ai (uu u1) (ai (uu u2) (ai (uu u3) (ai (uu u4) (ai (uu u5) (uu u6))))))) ?_
 refine aj nmd [] hng (by kernel_rfl) fun hf C S K hC1 hC hS hK=>?_;simp (disch:=first|omega|assumption) only [go_sem,hd,Oid.ab u1,Oid.aa u1,Oid.ab u2,Oid.aa u2,Oid.ab u3,Oid.aa u3,Oid.ab u4,Oid.aa u4,Oid.ab u5,Oid.aa u5,Oid.ab u6,Oid.aa u6]
 refine hC1 _ (hrd' _ (ax rfl hp) (hu' _ _)) (qs (ai hd (ai (uu u1) (ai (uu u2) (ai (uu u3) (ai (uu u4) (ai (uu u5) (uu u6)))))))) ?_
 simp (disch:=first|omega|assumption) only [go_sem,hd,Oid.ab u1,Oid.aa u1,Oid.ab u2,Oid.aa u2,Oid.ab u3,Oid.aa u3,Oid.ab u4,Oid.aa u4,Oid.ab u5,Oid.aa u5,Oid.ab u6,Oid.aa u6]
 refine hK ?_;clear hK hS hC hC1 K S C hf
 refine qr .o (ai hd (ai (uu u1) (ai (uu u2) (ai (uu u3) (ai (uu u4) (ai (uu u5) (uu u6))))))) (cq (hat _ (u2' _ _)) trivial) ?_
 refine qw (ai hd (ai (uu u1) (ai (uu u2) (ai (uu u3) (ai (uu u4) (ai (uu u5) (uu u6))))))) ?_
 refine aA (aZ (qs (ai hd (ai (uu u1) (ai (uu u2) (ai (uu u3) (ai (uu u4) (ai (uu u5) (uu u6)))))))) ?_ ?_)
 all_goals simp only [List.mem_cons,List.not_mem_nil,or_false,forall_eq_or_imp,forall_eq,Option.some.injEq,forall_eq',Mem.ao,eq_self,if_true,↓reduceIte,reduceCtorEq,implies_true,not_true_eq_false,false_imp_iff,true_and,and_true,false_and,and_false,imp_self,hd,Oid.ab u1,Oid.aa u1,Oid.ab u2,Oid.aa u2,Oid.ab u3,Oid.aa u3,Oid.ab u4,Oid.aa u4,Oid.ab u5,Oid.aa u5,Oid.ab u6,Oid.aa u6]
theorem zm (old L:PL) (hm:gF eso old) (hs:aY ltB old) (ho:POk old) (hm1:gF es L) (hs1:aY ltB L) (ho1:POk L) (n:Str) (hnl:n.length≤140737488355000) (w h:Bool) (hw:fE (.str n) (.bool false) esw = .bool w) (hh:bM (cK (n,true)) esr=h) (p:Oid) (hp:p.mono=false) (hu:∀ i ∈ [st,t,tr,o,rd,wr],¬ Oid.under p i) :
  af Tryz.prog 171 [.ptr st 0,.str n] (Oid.under p) ⟨[(st,.cells [.map t,.ptr tr 0]),(t,.map [.ss] false es clock),(tr,.cells [.map o,.map rd,.map wr]),(o,.map [.ss] false eso co),(rd,.map [.ss,.sb] true esr cr),(wr,.map [.ss] false esw cw)],.list 1 ((bp L n).map AV.str),[(rd,some (.map [.ss,.sb] true (dS true w h (cK (n,true)) (.str (dR old (n,true))) esr cr).1 (dS true w h (cK (n,true)) (.str (dR old (n,true))) esr cr).2))]⟩:=by
 have hrd':=fun p hp hu=>ub st t tr o rd wr hn es eso esr esw clock co cr cw old hm hs ho n hnl true w h hw hh p hp hu
 have hkl:=fun e he=>Nat.le_trans (oU hm1 ho1 e he) (show 1000000≤140737488355328 by decide)
 have hol:=ho1.len
 have hel:es.length≤2000000000000:=by rw [lB hm1];omega
 have hnm:=fun p h=>oS t n hnl es clock hkl hel p h
 rw [mi hm1 hs1] at hnm
 have hu':∀ c j,∀ i ∈ [st,t,tr,o,rd,wr],¬ Oid.under (.sub c j p) i:=fun c j i hi h=>hu i hi (Oid.ae h)
 simp only [List.nodup_cons,List.mem_cons,List.not_mem_nil,or_false,not_or,not_false_eq_true,List.nodup_nil,and_true] at hn;simp only [List.mem_cons,List.not_mem_nil,or_false,forall_eq_or_imp,forall_eq] at hu;have hd:=hn;obtain ⟨u1,u2,u3,u4,u5,u6⟩:=hu
 have u2':∀ c i,¬ Oid.under (.sub c i p) t:=fun c i h=>u2 (Oid.ae h)
 generalize (dS true w h (cK (n,true)) (.str (dR old (n,true))) esr cr).1=E1 at *
 generalize (dS true w h (cK (n,true)) (.str (dR old (n,true))) esr cr).2=C1 at *
 generalize bp L n=B at *
 simp only [cK] at *
 refine aJ (n:=15) (rs:=[.tmp 4]) Tryz.func171 rfl rfl (by decide) rfl rfl rfl ?_;rintro x rfl hrd hng
 refine qw (ai hd (ai (uu u1) (ai (uu u2) (ai (uu u3) (ai (uu u4) (ai (uu u5) (uu u6))))))) ?_
 refine aj nmd [] hng (by kernel_rfl) fun hf C S K hC1 hC hS hK=>?_;simp (disch:=first|omega|assumption) only [go_sem,hd,Oid.ab u1,Oid.aa u1,Oid.ab u2,Oid.aa u2,Oid.ab u3,Oid.aa u3,Oid.ab u4,Oid.aa u4,Oid.ab u5,Oid.aa u5,Oid.ab u6,Oid.aa u6]
 refine hC1 _ (hrd' _ (ax rfl hp) (hu' _ _)) (qs (ai hd (ai (uu u1) (ai (uu u2) (ai (uu u3) (ai (uu u4) (ai (uu u5) (uu u6)))))))) ?_
 simp (disch:=first|omega|assumption) only [go_sem,hd,Oid.ab u1,Oid.aa u1,Oid.ab u2,Oid.aa u2,Oid.ab u3,Oid.aa u3,Oid.ab u4,Oid.aa u4,Oid.ab u5,Oid.aa u5,Oid.ab u6,Oid.aa u6]
 refine hK ?_;clear hK hS hC hC1 K S C hf
 refine qr .o (ai hd (ai (uu u1) (ai (uu u2) (ai (uu u3) (ai (uu u4) (ai (uu u5) (uu u6))))))) (cq (hnm _ (u2' _ _)) trivial) ?_
 refine qw (ai hd (ai (uu u1) (ai (uu u2) (ai (uu u3) (ai (uu u4) (ai (uu u5) (uu u6))))))) ?_
 refine aA (aZ rfl ?_ ?_)
 all_goals simp only [List.mem_cons,List.not_mem_nil,or_false,forall_eq_or_imp,forall_eq,Option.some.injEq,forall_eq',Mem.ao,eq_self,if_true,↓reduceIte,reduceCtorEq,implies_true,not_true_eq_false,false_imp_iff,true_and,and_true,false_and,and_false,imp_self,hd,Oid.ab u1,Oid.aa u1,Oid.ab u2,Oid.aa u2,Oid.ab u3,Oid.aa u3,Oid.ab u4,Oid.aa u4,Oid.ab u5,Oid.aa u5,Oid.ab u6,Oid.aa u6]
def lC (n:Str) (es:List ME) (c:Nat):List ME × Nat:=if n=[] then (es,c) else (b7 (.str n) (.bool true) c es,if bM (.str n) es=true then c else c+1)
theorem GM (n:Str) (b:Bits) (p:Oid) (hp:p.mono=false) (hu:∀ i ∈ [st,t,tr,o,rd,wr],¬ Oid.under p i) :
  af Tryz.prog 23 [.ptr st 0,.str n,b.av] (Oid.under p) ⟨[(st,.cells [.map t,.ptr tr 0]),(t,.map [.ss] false es clock),(tr,.cells [.map o,.map rd,.map wr]),(o,.map [.ss] false eso co),(rd,.map [.ss,.sb] true esr cr),(wr,.map [.ss] false esw cw)],.tuple [],[(t,some (.map [.ss] false (rY n b es clock) (rZ n b es clock))),(wr,some (.map [.ss] false (lC n esw cw).1 (lC n esw cw).2))]⟩:=by
 simp only [List.nodup_cons,List.mem_cons,List.not_mem_nil,or_false,not_or,not_false_eq_true,List.nodup_nil,and_true] at hn;simp only [List.mem_cons,List.not_mem_nil,or_false,forall_eq_or_imp,forall_eq] at hu;have hd:=hn;obtain ⟨u1,u2,u3,u4,u5,u6⟩:=hu
 simp only [Bits.av]
 by_cases hn0:n=[]
 ·unfold rY rZ lC
  simp only [if_pos hn0]
  refine aJ (n:=35) (rs:=[]) Tryz.func23 rfl rfl (by decide) rfl rfl rfl ?_;rintro x rfl hrd hng
  refine qw (ai hd (ai (uu u1) (ai (uu u2) (ai (uu u3) (ai (uu u4) (ai (uu u5) (uu u6))))))) ?_
  refine aX rfl rfl (fun hb=>?_) (fun hb=>?_)
  ·refine qw (ai hd (ai (uu u1) (ai (uu u2) (ai (uu u3) (ai (uu u4) (ai (uu u5) (uu u6))))))) ?_
   refine aA (fZ rfl ?_ ?_)
   all_goals simp only [List.mem_cons,List.not_mem_nil,or_false,forall_eq_or_imp,forall_eq,Option.some.injEq,forall_eq',Mem.ao,eq_self,if_true,↓reduceIte,reduceCtorEq,implies_true,not_true_eq_false,false_imp_iff,true_and,and_true,false_and,and_false,imp_self,hd,Oid.ab u1,Oid.aa u1,Oid.ab u2,Oid.aa u2,Oid.ab u3,Oid.aa u3,Oid.ab u4,Oid.aa u4,Oid.ab u5,Oid.aa u5,Oid.ab u6,Oid.aa u6]
  ·exact absurd hn0 hb
 ·unfold rY rZ lC
  simp only [if_neg hn0]
  refine aJ (n:=35) (rs:=[]) Tryz.func23 rfl rfl (by decide) rfl rfl rfl ?_;rintro x rfl hrd hng
  refine qw (ai hd (ai (uu u1) (ai (uu u2) (ai (uu u3) (ai (uu u4) (ai (uu u5) (uu u6))))))) ?_
  refine aX rfl rfl (fun hb=>?_) (fun hb=>?_)
  ·exact absurd hb hn0
  ·refine qw (ai hd (ai (uu u1) (ai (uu u2) (ai (uu u3) (ai (uu u4) (ai (uu u5) (uu u6))))))) ?_
   by_cases hk:b.k=0
   ·simp only [if_pos hk]
    refine aX rfl rfl (fun hb=>?_) (fun hb=>?_)
    ·refine qw (ai hd (ai (uu u1) (ai (uu u2) (ai (uu u3) (ai (uu u4) (ai (uu u5) (uu u6))))))) ?_
     refine bZ (bQ rfl ?_ ?_)
     all_goals simp only [List.mem_cons,List.not_mem_nil,or_false,forall_eq_or_imp,forall_eq,Option.some.injEq,forall_eq',Mem.ao,eq_self,if_true,↓reduceIte,reduceCtorEq,implies_true,not_true_eq_false,false_imp_iff,true_and,and_true,false_and,and_false,imp_self,hd,Oid.ab u1,Oid.aa u1,Oid.ab u2,Oid.aa u2,Oid.ab u3,Oid.aa u3,Oid.ab u4,Oid.aa u4,Oid.ab u5,Oid.aa u5,Oid.ab u6,Oid.aa u6]
    ·exact absurd hk hb
   ·simp only [if_neg hk]
    refine aX rfl rfl (fun hb=>?_) (fun hb=>?_)
    ·exact absurd hb hk
    ·(try ((first|refine zn ?_|refine ze ?_|refine zk ?_);with_reducible (constructor;repeat constructor));try refine zl ?_)
     refine qd (.d [] [] [0]) (ai hd (ai (uu u1) (ai (uu u2) (ai (uu u3) (ai (uu u4) (ai (uu u5) (uu u6))))))) trivial ?_
     refine bZ (bQ rfl ?_ ?_)
     all_goals simp only [List.mem_cons,List.not_mem_nil,or_false,forall_eq_or_imp,forall_eq,Option.some.injEq,forall_eq',Mem.ao,eq_self,if_true,↓reduceIte,reduceCtorEq,implies_true,not_true_eq_false,false_imp_iff,true_and,and_true,false_and,and_false,imp_self,Bits.av,hd,Oid.ab u1,Oid.aa u1,Oid.ab u2,Oid.aa u2,Oid.ab u3,Oid.aa u3,Oid.ab u4,Oid.aa u4,Oid.ab u5,Oid.aa u5,Oid.ab u6,Oid.aa u6]
end
end Go.Proofs.YtfbnaalhioogoaaGreatDoor
namespace Go.Proofs.YtfbnaalhioogoaaGreatDoor
open Go Go.Ab
set_option maxRecDepth 100000
set_option maxHeartbeats 2000000
theorem GN (b:Nat) (es:Array MapEntry) (clock:Nat) (w:World) (hb:w.heap[b]? = some (.map es clock)) :
  Calls Tryz.prog 53 #[.map (some b)] w fun e w'=>e = .returned (.map (some w.heap.size))∧w' = w.alloc (.map es clock):=by
 have hq:=fun w=>run_eql_map_nil_sl (P:=Tryz.prog) w 102 _ _ (some b) Tryz.underlying102
 go_enter Tryz.func53,Tryz.ntmps53
 go_wp2
 rw [run_callFunc_extern Tryz.func129 (by kernel_rfl) (by kernel_rfl) (by kernel_rfl) (e:=Extern.MapsClone.clone) (by kernel_rfl),run_maps_clone_sl w 102 hb]
 simp only [Result.andThen]
 rw [Oper.upon_value]
 go_wp2
 rw [run_typeAssert_map_sl _ 102 20 _ _ _ Tryz.underlying102]
 simp only [Result.andThen]
 rw [Oper.upon_value]
 go_wp2
 go_ret
 exact ⟨rfl,rfl⟩
theorem Cz (o:Oid) (ks:List TyS) (ag:Bool) (es:List ME) (clock:Nat) (p:Oid):af Tryz.prog 53 [.map o] (Oid.under p) ⟨[(o,.map ks ag es clock)],.map (.sub 0 0 p),[(.sub 0 0 p,some (.map ks ag es clock))]⟩ :=
 ⟨by kernel_rfl,fun x g args w m hm hn ha hs hx=>by
  obtain ⟨v,rfl,hv⟩:=ha.one
  obtain ⟨b,rfl,hb⟩:=hv.eY
  have hmi:=hn (o,.map ks ag es clock) (by simp)
  obtain ⟨b',h1,_,_,h4⟩:=hm.obj o _ hmi
  rw [hb] at h1;simp only [Option.some.injEq] at h1;subst h1
  obtain ⟨⟨ents,k1,k2⟩,k3⟩:=h4
  refine (GN b ents clock w k1).mono ?_
  rintro e w' ⟨rfl,rfl⟩
  obtain ⟨hl,hu⟩:=hs (.sub 0 0 p) (Oid.ae (Oid.az _))
  have hle:=Gh.bT (b:=w.heap.size) hl
  have hnew:=hm.new (i:=.sub 0 0 p) hl hu (o:=.map ks ag es clock) (ob:=.map ents clock) ⟨⟨ents,b6 _ _,k2.mono hle⟩,k3⟩ (fun t9 h9=>by cases h9)
  refine ⟨g.bind (.sub 0 0 p) w.heap.size,_,rfl,hle,fun i hi=>?_,.map _ _ ?_,hnew⟩
  ·simp only [Gh.bind]
   rw [if_neg]
   rintro rfl
   exact hi (Oid.ae (Oid.az _))
  ·simp [Gh.bind]⟩
theorem CA (st t:Oid) (tv:AV) (es:List ME) (clock:Nat) (hts:¬ t=st) (p:Oid) (hs:¬ Oid.under p st) (ht:¬ Oid.under p t) :
  af Tryz.prog 19 [.ptr st 0] (Oid.under p) ⟨[(st,.cells [.map t,tv]),(t,.map [.ss] false es clock)],.tuple [],[(st,some (.cells [.map t,.ptr (.sub 0 9 p) 0])),(.sub 0 9 p,some (.cells [.map (.sub 0 0 (.sub 0 5 p)),.map (.sub 0 6 p),.map (.sub 0 7 p)])),(.sub 0 0 (.sub 0 5 p),some (.map [.ss] false es clock)),(.sub 0 6 p,some (.map [.ss,.sb] true [] 0)),(.sub 0 7 p,some (.map [.ss] false [] 0))]⟩:=by
 have hs5:¬ Oid.under (.sub 0 5 p) st:=fun h=>hs (Oid.ae h)
 have ht5:¬ Oid.under (.sub 0 5 p) t:=fun h=>ht (Oid.ae h)
 refine aJ (n:=14) (rs:=[]) Tryz.func19 rfl rfl (by decide) rfl rfl rfl ?_;rintro x rfl hrd hng
 refine qr .o (ai (uu ht) (ai (uu hs) (ai hts (ai (Oid.aa hs5) (ai (Oid.ab hs5) (ai (Oid.aa ht5) (Oid.ab ht5))))))) (cq (Cz t [.ss] false es clock _) trivial) ?_
 refine qw0 ?_
 refine bZ (bQ rfl ?_ ?_)
 all_goals simp only [List.mem_cons,List.not_mem_nil,or_false,forall_eq_or_imp,forall_eq,Option.some.injEq,forall_eq',Mem.ao,eq_self,if_true,↓reduceIte,reduceCtorEq,implies_true,not_true_eq_false,false_imp_iff,true_and,and_true,false_and,and_false,imp_self,Oid.sub.injEq,Nat.reduceEqDiff,Oid.ab ht,Oid.aa ht,Oid.ab hs,Oid.aa hs,hts,Oid.aa hs5,Oid.ab hs5,Oid.aa ht5,Oid.ab ht5]
end Go.Proofs.YtfbnaalhioogoaaGreatDoor
namespace Go.Proofs.YtfbnaalhioogoaaGreatDoor
open Go Go.Ab
structure Tr where
 old:PL
 R:RL
 W:WL
structure St where
 L:PL
 t:Option Tr
def Tr.read (q:Tr) (f:Str × Bool):Tr:={ q with R:=ff q.old q.W f q.R }
def Tr.put (q:Tr) (n:Str):Tr:={ q with W:=fe true n q.W }
def St.read (s:St) (f:Str × Bool):St:=⟨s.L,s.t.map fun q=>q.read f⟩
def St.put (s:St) (n:Str) (b:Bits):St:=⟨eU n b s.L,s.t.map fun q=>q.put n⟩
def St.begin (s:St):St:=⟨s.L,some ⟨s.L,[],[]⟩⟩
structure TOK (q:Tr):Prop where
 so:aY ltB q.old
 sr:aY ltF q.R
 sw:aY ltB q.W
 po:POk q.old
 no:Cy q.old
structure SOK (s:St):Prop where
 sl:aY ltB s.L
 po:POk s.L
 no:Cy s.L
 tr:∀ q,s.t=some q→TOK q
theorem vT {old:PL} {W:WL} {f:Str × Bool} {R:RL} (h:aY ltF R):aY ltF (ff old W f R):=by
 unfold ff
 split
 ·exact h
 ·split
  ·exact h
  ·exact fX ni _ _ h
theorem jY {old:PL} {W:WL} {f:Str × Bool} {R:RL} (h:aY ltF R):(ff old W f R).length≤R.length+1:=by
 unfold ff
 split
 ·omega
 ·split
  ·omega
  ·have:=(cJ ni f (some (dR old f)) h).length_eq
   rw [this,List.length_append]
   have:=List.length_filter_le (fun q=>decide (¬ q.1=f)) R
   simp only [eI,List.length_singleton];omega
theorem zo {tr:Bool} {n:Str} {W:WL} (h:aY ltB W):aY ltB (fe tr n W):=by
 unfold fe
 split
 ·exact h
 ·split
  ·exact fX fM _ _ h
  ·exact h
theorem SOK.read {s:St} (h:SOK s) (f:Str × Bool):SOK (s.read f) :=
 ⟨h.sl,h.po,h.no,fun q hq=>by
  simp only [St.read,Option.map_eq_some_iff] at hq
  obtain ⟨a,h1,rfl⟩:=hq
  have k:=h.tr a h1
  exact ⟨k.so,vT k.sr,k.sw,k.po,k.no⟩⟩
def dA (st:Oid) (s:St) (N:List Oid) (F:Oid→aw):Prop:=N.Nodup∧match s.t with
 | none=>∃ (t:Oid) (es:List ME) (clock:Nat),N=[st,t]∧F st = .cells [.map t,.nilPtr]∧F t = .map [.ss] false es clock∧gF es s.L
 | some q=>∃ (t tr o rd wr:Oid) (es eso esr esw:List ME) (clock co cr cw:Nat),N=[st,t,tr,o,rd,wr]∧F st = .cells [.map t,.ptr tr 0]∧F t = .map [.ss] false es clock∧F tr = .cells [.map o,.map rd,.map wr] ∧
   F o = .map [.ss] false eso co∧F rd = .map [.ss,.sb] true esr cr∧F wr = .map [.ss] false esw cw∧gF es s.L∧gF eso q.old∧jc cK AV.str esr q.R∧jc AV.str (fun _:Unit=>.bool true) esw q.W
theorem zp {esw:List ME} {W:WL} (h:jc AV.str (fun _:Unit=>.bool true) esw W) (n:Str):fE (.str n) (.bool false) esw = .bool (aM n W).isSome:=by
 rw [tS encS h]
 cases aM n W<;>rfl
theorem zq {old:PL} {W:WL} {esr:List ME} {R:RL} (h:jc cK AV.str esr R) (hs:aY ltF R) (n:Str) (f:Bool) (cr:Nat) :
  jc cK AV.str (dS f (aM n W).isSome (aM (n,f) R).isSome (cK (n,f)) (.str (dR old (n,f))) esr cr).1 (ff old W (n,f) R):=by
 unfold dS ff
 by_cases h1:f=false∧(aM n W).isSome=true
 ·rw [if_pos h1,if_pos (by rw [h1.1,h1.2];rfl)];exact h
 ·rw [if_neg h1]
  by_cases h2:(aM (n,f) R).isSome=true
  ·rw [if_pos h2,if_pos (by rw [h2,Bool.or_true])];exact h
  ·rw [if_neg h2,if_neg]
   ·exact oH L6 h (n,f) (dR old (n,f)) cr ((cJ ni (n,f) (some (dR old (n,f))) hs).trans (.refl _))
   ·intro h3
    rw [Bool.or_eq_true,Bool.and_eq_true,Bool.not_eq_true'] at h3
    rcases h3 with h3|h3
    ·exact h1 h3
    ·exact h2 h3
theorem uc {st:Oid} {s:St} {N:List Oid} {F:Oid→aw} (h:dA st s N F) (hs:SOK s) (g:Str × Bool) (f:FuncId) (xs:List AV) (v:AV)
  (h0:∀ (t:Oid) (es:List ME) (clock:Nat),s.t=none→¬ t=st→gF es s.L→∀ p,p.mono=false→¬ Oid.under p st→¬ Oid.under p t→af Tryz.prog f xs (Oid.under p) ⟨[(st,.cells [.map t,.nilPtr]),(t,.map [.ss] false es clock)],v,[]⟩)
  (h1:∀ (q:Tr) (t tr o rd wr:Oid) (es eso esr esw:List ME) (clock co cr cw:Nat),s.t=some q→[wr,rd,o,tr,t,st].Nodup→gF es s.L→gF eso q.old→fE (.str g.1) (.bool false) esw = .bool (aM g.1 q.W).isSome→bM (cK (g.1,g.2)) esr=(aM (g.1,g.2) q.R).isSome →
   ∀ p,p.mono=false→(∀ i ∈ [st,t,tr,o,rd,wr],¬ Oid.under p i)→af Tryz.prog f xs (Oid.under p) ⟨[(st,.cells [.map t,.ptr tr 0]),(t,.map [.ss] false es clock),(tr,.cells [.map o,.map rd,.map wr]),(o,.map [.ss] false eso co),(rd,.map [.ss,.sb] true esr cr),(wr,.map [.ss] false esw cw)],v,
    [(rd,some (.map [.ss,.sb] true (dS g.2 (aM g.1 q.W).isSome (aM (g.1,g.2) q.R).isSome (cK (g.1,g.2)) (.str (dR q.old (g.1,g.2))) esr cr).1 (dS g.2 (aM g.1 q.W).isSome (aM (g.1,g.2) q.R).isSome (cK (g.1,g.2)) (.str (dR q.old (g.1,g.2))) esr cr).2))]⟩) :
  ∃ F',dA st (s.read g) N F'∧∀ p,p.mono=false→bE p N→af Tryz.prog f xs (Oid.under p) ⟨bk (N,F),v,sb N F'⟩:=by
 obtain ⟨L,t0⟩:=s
 obtain ⟨hnd,h⟩:=h
 cases t0 with
 | none =>
  obtain ⟨t,es,clock,rfl,k1,k2,k3⟩:=h
  have hts:¬ t=st:=fun e=>by simp [e] at hnd
  refine ⟨F,⟨hnd,t,es,clock,rfl,k1,k2,k3⟩,fun p hp ho=>?_⟩
  refine (h0 t es clock rfl hts k3 p hp (ho _ (by simp)) (ho _ (by simp))).Cn ?_ (fun _ hq=>by cases hq) fun i hi=>jx hi
  rw [bk2,k1,k2];exact fun q hq=>hq
 | some q =>
  obtain ⟨t,tr,o,rd,wr,es,eso,esr,esw,clock,co,cr,cw,rfl,k1,k2,k3,k4,k5,k6,m1,m2,m3,m4⟩:=h
  have hT:=hs.tr q rfl
  have hnd':[wr,rd,o,tr,t,st].Nodup:=(List.reverse_perm [st,t,tr,o,rd,wr]).nodup_iff.2 hnd
  have hc:=h1 q t tr o rd wr es eso esr esw clock co cr cw rfl hnd' m1 m2 (zp m4 g.1) (Cd L6 m3 (g.1,g.2))
  have hme:=zq (old:=q.old) (W:=q.W) m3 hT.sr g.1 g.2 cr
  generalize (dS g.2 (aM g.1 q.W).isSome (aM (g.1,g.2) q.R).isSome (cK (g.1,g.2)) (.str (dR q.old (g.1,g.2))) esr cr).1=E1 at hc hme
  generalize (dS g.2 (aM g.1 q.W).isSome (aM (g.1,g.2) q.R).isSome (cK (g.1,g.2)) (.str (dR q.old (g.1,g.2))) esr cr).2=C1 at hc
  have hn0:=hnd
  simp only [List.nodup_cons,List.mem_cons,List.not_mem_nil,or_false,not_or] at hn0
  obtain ⟨⟨n1,n2,n3,n4,n5⟩,⟨n6,n7,n8,n9⟩,⟨n10,n11,n12⟩,⟨n13,n14⟩,n15,_⟩:=hn0
  refine ⟨eK F rd (.map [.ss,.sb] true E1 C1),⟨hnd,t,tr,o,rd,wr,es,eso,E1,esw,clock,co,C1,cw,rfl,?_,?_,?_,?_,?_,?_,m1,m2,hme,m4⟩,fun p hp ho=>?_⟩
  ·rw [bz,if_neg n4];exact k1
  ·rw [bz,if_neg n8];exact k2
  ·rw [bz,if_neg n11];exact k3
  ·rw [bz,if_neg n13];exact k4
  ·rw [bz,if_pos rfl]
  ·rw [bz,if_neg fun e=>n15 e.symm];exact k6
  ·refine (hc p hp ho).Cn ?_ (fun q hq=>by rw [List.mem_singleton.1 hq];simp) fun i hi=>?_
   ·rw [bk6,k1,k2,k3,k4,k5,k6];exact fun q hq=>hq
   ·show ((Mem.of _).set rd (some (.map [.ss,.sb] true E1 C1))) i=_
    simp only [Mem.set,bz]
    split
    ·rfl
    ·exact jx hi
theorem CB {st:Oid} {s:St} {N:List Oid} {F:Oid→aw} (h:dA st s N F) (hs:SOK s) (n:Str) (hn:n.length≤140737488355000) :
  ∃ F',dA st (s.read (n,false)) N F'∧∀ p,p.mono=false→bE p N→af Tryz.prog 37 [.ptr st 0,.str n] (Oid.under p) ⟨bk (N,F),(aO s.L n).av,sb N F'⟩ :=
 uc h hs (n,false) _ _ _
  (fun t es clock _ hts hm p _ h1 h2=>vJ st t es clock hts p h1 h2 n ((aM n s.L).getD Bits.no) (lA hm n))
  (fun q t tr o rd wr es eso esr esw clock co cr cw hq hn' hm hmo hw hh p hp hu=>Kw st t tr o rd wr hn' es eso esr esw clock co cr cw q.old s.L hmo (hs.tr q hq).so (hs.tr q hq).po hm n hn _ _ hw hh p hp hu)
theorem zr {st:Oid} {s:St} {N:List Oid} {F:Oid→aw} (h:dA st s N F) (hs:SOK s) (n:Str) (hn:n.length≤140737488355000) :
  ∃ F',dA st (s.read (n,true)) N F'∧∀ p,p.mono=false→bE p N→af Tryz.prog 171 [.ptr st 0,.str n] (Oid.under p) ⟨bk (N,F),.list 1 ((bp s.L n).map AV.str),sb N F'⟩ :=
 uc h hs (n,true) _ _ _
  (fun t es clock _ hts hm p _ h1 h2=>by
   have:=pX st t es clock hts p h1 h2 n hn (fun e he=>Nat.le_trans (oU hm hs.po e he) (by decide)) (by have:=hs.po.len;rw [lB hm];omega)
   rwa [mi hm hs.sl] at this)
  (fun q t tr o rd wr es eso esr esw clock co cr cw hq hn' hm hmo hw hh p hp hu=>zm st t tr o rd wr hn' es eso esr esw clock co cr cw q.old s.L hmo (hs.tr q hq).so (hs.tr q hq).po hm hs.sl hs.po n hn _ _ hw hh p hp hu)
end Go.Proofs.YtfbnaalhioogoaaGreatDoor
namespace Go.Proofs.YtfbnaalhioogoaaGreatDoor
open Go Go.Ab
set_option maxRecDepth 20000
set_option maxHeartbeats 4000000
theorem Kx (r:Oid) (L:PL) (hL:L.length≤1000000) (n:Str) (o1 r1 w1 b1 o2 r2 w2 b2:AV) (hT:∀ p,¬ Oid.under p r→af Tryz.prog 127 [.ptr r 0,.str n,.bool false] (Oid.under p) ⟨[(r,.cells [.list 4 (L.map aL),o1,r1,w1,b1])],.tuple [],[(r,some (.cells [.list 4 (L.map aL),o2,r2,w2,b2]))]⟩)
  (p:Oid) (hr:¬ Oid.under p r):af Tryz.prog 49 [.ptr r 0,.str n] (Oid.under p) ⟨[(r,.cells [.list 4 (L.map aL),o1,r1,w1,b1])],(aO L n).av,[(r,some (.cells [.list 4 (L.map aL),o2,r2,w2,b2]))]⟩:=by
 have hr':∀ c i,¬ Oid.under (.sub c i p) r:=fun c i h=>hr (Oid.ae h)
 have hg:=fun p=>Cu L (by omega) n p
 generalize aO L n=B at hg ⊢
 simp only [Bits.av] at hg ⊢
 refine aJ (n:=14) (rs:=[.cell 4 56]) Tryz.func49 rfl rfl (by decide) rfl rfl rfl ?_;rintro x rfl hrd hng
 (repeat (first|(refine aq rfl rfl ?_)|(refine ar rfl rfl ?_)|(refine aj nmd [] hng (by kernel_rfl) fun hf C S K hC1 hC hS hK=>?_;simp (disch:=first|omega|assumption) only [go_sem,Oid.ab hr,Oid.aa hr];(repeat ((first|refine hC1 _ (hT _ (hr' _ _)) (by simp (disch:=first|omega|assumption) only [go_sem]) ?_|refine hC1 _ (hg _) (by simp (disch:=first|omega|assumption) only [go_sem]) ?_);simp (disch:=first|omega|assumption) only [go_sem]));refine hK ?_;clear hK hS hC hC1 K S C hf)|((first|refine zn ?_|refine ze ?_|refine zk ?_);with_reducible (constructor;repeat constructor);try refine zl ?_)))
 refine aA (aZ (qs (uu hr)) ?_ ?_)
 all_goals simp only [List.mem_cons,List.not_mem_nil,or_false,forall_eq_or_imp,forall_eq,Option.some.injEq,forall_eq',Mem.ao,eq_self,if_true,↓reduceIte,reduceCtorEq,implies_true,not_true_eq_false,false_imp_iff,true_and,and_true,false_and,and_false,imp_self,Oid.ab hr,Oid.aa hr]
theorem zx (r:Oid) (L:PL) (hL:POk L) (n:Str) (hn:n.length≤140737488355000) (o1 r1 w1 b1 o2 r2 w2 b2:AV) (hT:∀ p,¬ Oid.under p r→af Tryz.prog 127 [.ptr r 0,.str n,.bool true] (Oid.under p) ⟨[(r,.cells [.list 4 (L.map aL),o1,r1,w1,b1])],.tuple [],[(r,some (.cells [.list 4 (L.map aL),o2,r2,w2,b2]))]⟩)
  (p:Oid) (hr:¬ Oid.under p r):af Tryz.prog 172 [.ptr r 0,.str n] (Oid.under p) ⟨[(r,.cells [.list 4 (L.map aL),o1,r1,w1,b1])],.list 1 ((bp L n).map AV.str),[(r,some (.cells [.list 4 (L.map aL),o2,r2,w2,b2]))]⟩:=by
 have hr':∀ c i,¬ Oid.under (.sub c i p) r:=fun c i h=>hr (Oid.ae h)
 have hg:=fun p=>qP L hL n hn p
 generalize bp L n=B at hg ⊢
 refine aJ (n:=14) (rs:=[.tmp 4]) Tryz.func172 rfl rfl (by decide) rfl rfl rfl ?_;rintro x rfl hrd hng
 (repeat (first|(refine aq rfl rfl ?_)|(refine ar rfl rfl ?_)|(refine aj nmd [] hng (by kernel_rfl) fun hf C S K hC1 hC hS hK=>?_;simp (disch:=first|omega|assumption) only [go_sem,Oid.ab hr,Oid.aa hr];(repeat ((first|refine hC1 _ (hT _ (hr' _ _)) (by simp (disch:=first|omega|assumption) only [go_sem]) ?_|refine hC1 _ (hg _) (by simp (disch:=first|omega|assumption) only [go_sem]) ?_);simp (disch:=first|omega|assumption) only [go_sem]));refine hK ?_;clear hK hS hC hC1 K S C hf)|((first|refine zn ?_|refine ze ?_|refine zk ?_);with_reducible (constructor;repeat constructor);try refine zl ?_)))
 refine aA (aZ (qs (uu hr)) ?_ ?_)
 all_goals simp only [List.mem_cons,List.not_mem_nil,or_false,forall_eq_or_imp,forall_eq,Option.some.injEq,forall_eq',Mem.ao,eq_self,if_true,↓reduceIte,reduceCtorEq,implies_true,not_true_eq_false,false_imp_iff,true_and,and_true,false_and,and_false,imp_self,Oid.ab hr,Oid.aa hr]
def fO (r:Oid) (s:St) (N:List Oid) (F:Oid→aw):Prop:=N=[r]∧match s.t with
 | none=>∃ OO:AV,F r = .cells [.list 4 (s.L.map aL),OO,.list 3 [],.list 1 [],.bool false]
 | some q=>F r = .cells [.list 4 (s.L.map aL),.list 4 (q.old.map aL),.list 3 (q.R.map bt),.list 1 (q.W.map fun w=>.str w.1),.bool true]
theorem qQ {r:Oid} {s:St} {N:List Oid} {F:Oid→aw} (h:fO r s N F) (hs:SOK s) (hR:∀ q,s.t=some q→q.R.length≤1000000∧q.W.length≤1000000) (g:Str × Bool) (hn:g.1.length≤140737488355000) (f:FuncId) (xs:List AV) (v:AV)
  (h0:∀ (o1 r1 w1 b1 o2 r2 w2 b2:AV),(∀ p,¬ Oid.under p r→af Tryz.prog 127 [.ptr r 0,.str g.1,.bool g.2] (Oid.under p) ⟨[(r,.cells [.list 4 (s.L.map aL),o1,r1,w1,b1])],.tuple [],[(r,some (.cells [.list 4 (s.L.map aL),o2,r2,w2,b2]))]⟩) →
   ∀ p,¬ Oid.under p r→af Tryz.prog f xs (Oid.under p) ⟨[(r,.cells [.list 4 (s.L.map aL),o1,r1,w1,b1])],v,[(r,some (.cells [.list 4 (s.L.map aL),o2,r2,w2,b2]))]⟩) :
  ∃ F',fO r (s.read g) N F'∧∀ p,p.mono=false→bE p N→af Tryz.prog f xs (Oid.under p) ⟨bk (N,F),v,sb N F'⟩:=by
 obtain ⟨L,t0⟩:=s
 obtain ⟨rfl,h⟩:=h
 cases t0 with
 | none =>
  obtain ⟨OO,hF⟩:=h
  refine ⟨eK F r (.cells [.list 4 (L.map aL),OO,.list 3 [],.list 1 [],.bool false]),⟨rfl,OO,by rw [bz,if_pos rfl];rfl⟩,fun p _ ho=>?_⟩
  exact (h0 OO (.list 3 []) (.list 1 []) (.bool false) OO (.list 3 []) (.list 1 []) (.bool false) (fun p hp=>mR (zd r L OO (.list 3 []) (.list 1 []) g.1 g.2 p hp) (by simp)) p (ho r (by simp))).one hF
 | some q =>
  have hT:=hs.tr q rfl
  obtain ⟨hR1,hW1⟩:=hR q rfl
  refine ⟨eK F r (.cells [.list 4 (L.map aL),.list 4 (q.old.map aL),.list 3 ((ff q.old q.W g q.R).map bt),.list 1 (q.W.map fun w=>.str w.1),.bool true]),⟨rfl,by rw [bz,if_pos rfl];rfl⟩,fun p _ ho=>?_⟩
  exact (h0 _ _ _ _ _ _ _ _ (fun p hp=>zi r (.list 4 (L.map aL)) q.old hT.po hT.no q.R hR1 hT.sr q.W hW1 g.1 hn g.2 p hp) p (ho r (by simp))).one h
theorem CD {r:Oid} {s:St} {N:List Oid} {F:Oid→aw} (h:fO r s N F) (hs:SOK s) (hR:∀ q,s.t=some q→q.R.length≤1000000∧q.W.length≤1000000) (n:Str) (hn:n.length≤140737488355000) :
  ∃ F',fO r (s.read (n,false)) N F'∧∀ p,p.mono=false→bE p N→af Tryz.prog 49 [.ptr r 0,.str n] (Oid.under p) ⟨bk (N,F),(aO s.L n).av,sb N F'⟩ :=
 qQ h hs hR (n,false) hn _ _ _ fun o1 r1 w1 b1 o2 r2 w2 b2 hT p hp=>Kx r s.L hs.po.len n o1 r1 w1 b1 o2 r2 w2 b2 hT p hp
theorem vU {r:Oid} {s:St} {N:List Oid} {F:Oid→aw} (h:fO r s N F) (hs:SOK s) (hR:∀ q,s.t=some q→q.R.length≤1000000∧q.W.length≤1000000) (n:Str) (hn:n.length≤140737488355000) :
  ∃ F',fO r (s.read (n,true)) N F'∧∀ p,p.mono=false→bE p N→af Tryz.prog 172 [.ptr r 0,.str n] (Oid.under p) ⟨bk (N,F),.list 1 ((bp s.L n).map AV.str),sb N F'⟩ :=
 qQ h hs hR (n,true) hn _ _ _ fun o1 r1 w1 b1 o2 r2 w2 b2 hT p hp=>zx r s.L hs.po n hn o1 r1 w1 b1 o2 r2 w2 b2 hT p hp
end Go.Proofs.YtfbnaalhioogoaaGreatDoor
namespace Go.Proofs.YtfbnaalhioogoaaGreatDoor
open Go Go.Ab
theorem oW {n:Str} {W:WL} (h:aY ltB W):(fe true n W).length≤W.length+1:=by
 unfold fe
 split
 ·omega
 ·rw [if_pos rfl]
  have:=(cJ fM n (some ()) h).length_eq
  rw [this,List.length_append]
  have:=List.length_filter_le (fun q=>decide (¬ q.1=n)) W
  simp only [eI,List.length_singleton];omega
theorem SOK.put {s:St} (h:SOK s) (n:Str) (b:Bits) (hl:s.L.length < 1000000) (hn:n.length≤1000000) (hb:b.ok) (hb2:0≤b.k∧0≤b.m):SOK (s.put n b) :=
 ⟨jX h.sl n b,⟨Nat.le_trans (jA n b s.L) hl,fun q hq=>by
   rcases oV hq with rfl|hq
   ·exact hn
   ·exact h.po.key q hq,fun q hq=>by
   rcases oV hq with rfl|hq
   ·exact hb
   ·exact h.po.val q hq⟩,fun q hq=>by
   rcases oV hq with rfl|hq
   ·exact hb2
   ·exact h.no q hq,fun q hq=>by
  simp only [St.put,Option.map_eq_some_iff] at hq
  obtain ⟨a,h1,rfl⟩:=hq
  have k:=h.tr a h1
  exact ⟨k.so,k.sr,zo k.sw,k.po,k.no⟩⟩
theorem zy {esw:List ME} {W:WL} (h:jc AV.str (fun _:Unit=>.bool true) esw W) (hs:aY ltB W) (n:Str) (cw:Nat):jc AV.str (fun _:Unit=>.bool true) (lC n esw cw).1 (fe true n W):=by
 unfold lC fe
 split
 ·exact h
 ·rw [if_pos rfl]
  exact oH encS h n () cw ((cJ fM n (some ()) hs).trans (.refl _))
theorem GO {st:Oid} {s:St} {N:List Oid} {F:Oid→aw} (h:dA st s N F) (hs:SOK s) (n:Str) (b:Bits) :
  ∃ F',dA st (s.put n b) N F'∧∀ p,p.mono=false→bE p N→af Tryz.prog 23 [.ptr st 0,.str n,b.av] (Oid.under p) ⟨bk (N,F),.tuple [],sb N F'⟩:=by
 obtain ⟨L,t0⟩:=s
 obtain ⟨hnd,h⟩:=h
 cases t0 with
 | none =>
  obtain ⟨t,es,clock,rfl,k1,k2,k3⟩:=h
  have hts:¬ t=st:=fun e=>by simp [e] at hnd
  refine ⟨eK F t (.map [.ss] false (rY n b es clock) (rZ n b es clock)),⟨hnd,t,_,rZ n b es clock,rfl,?_,?_,tX k3 hs.sl n b clock⟩,fun p hp ho=>?_⟩
  ·rw [bz,if_neg fun e=>hts e.symm];exact k1
  ·rw [bz,if_pos rfl]
  ·refine (Kq st t es clock hts p (ho _ (by simp)) (ho _ (by simp)) n b).Cn ?_ (fun q hq=>by rw [List.mem_singleton.1 hq];simp) fun i hi=>?_
   ·rw [bk2,k1,k2];exact fun q hq=>hq
   ·show ((Mem.of _).set t (some _)) i=_
    simp only [Mem.set,bz]
    split
    ·rfl
    ·exact jx hi
 | some q =>
  obtain ⟨t,tr,o,rd,wr,es,eso,esr,esw,clock,co,cr,cw,rfl,k1,k2,k3,k4,k5,k6,m1,m2,m3,m4⟩:=h
  have hT:=hs.tr q rfl
  have hnd':[wr,rd,o,tr,t,st].Nodup:=(List.reverse_perm [st,t,tr,o,rd,wr]).nodup_iff.2 hnd
  have hn0:=hnd
  simp only [List.nodup_cons,List.mem_cons,List.not_mem_nil,or_false,not_or] at hn0
  obtain ⟨⟨n1,n2,n3,n4,n5⟩,⟨n6,n7,n8,n9⟩,⟨n10,n11,n12⟩,⟨n13,n14⟩,n15,_⟩:=hn0
  refine ⟨eK (eK F t (.map [.ss] false (rY n b es clock) (rZ n b es clock))) wr (.map [.ss] false (lC n esw cw).1 (lC n esw cw).2),⟨hnd,t,tr,o,rd,wr,_,eso,esr,_,rZ n b es clock,co,cr,(lC n esw cw).2,rfl,?_,?_,?_,?_,?_,?_,tX m1 hs.sl n b clock,m2,m3,zy m4 hT.sw n cw⟩,fun p hp ho=>?_⟩
  ·rw [bz,if_neg n5,bz,if_neg n1];exact k1
  ·rw [bz,if_neg n9,bz,if_pos rfl]
  ·rw [bz,if_neg n12,bz,if_neg fun e=>n6 e.symm];exact k3
  ·rw [bz,if_neg n14,bz,if_neg fun e=>n7 e.symm];exact k4
  ·rw [bz,if_neg n15,bz,if_neg fun e=>n8 e.symm];exact k5
  ·rw [bz,if_pos rfl]
  ·refine (GM st t tr o rd wr hnd' es eso esr esw clock co cr cw n b p hp ho).Cn ?_ (fun q hq=>by
    simp only [List.mem_cons,List.not_mem_nil,or_false] at hq
    rcases hq with rfl|rfl<;>simp) fun i hi=>?_
   ·rw [bk6,k1,k2,k3,k4,k5,k6];exact fun q hq=>hq
   ·show (((Mem.of _).set t (some _)).set wr (some _)) i=_
    simp only [Mem.set,bz]
    split
    ·rfl
    ·split
     ·rfl
     ·exact jx hi
theorem CE {r:Oid} {s:St} {N:List Oid} {F:Oid→aw} (h:fO r s N F) (hs:SOK s) (hR:∀ q,s.t=some q→q.R.length≤1000000∧q.W.length≤1000000) (n:Str) (b:Bits) :
  ∃ F',fO r (s.put n b) N F'∧∀ p,p.mono=false→bE p N→af Tryz.prog 46 [.ptr r 0,.str n,b.av] (Oid.under p) ⟨bk (N,F),.tuple [],sb N F'⟩:=by
 obtain ⟨L,t0⟩:=s
 obtain ⟨rfl,h⟩:=h
 cases t0 with
 | none =>
  obtain ⟨OO,hF⟩:=h
  have hw:fe false n []=[]:=by unfold fe;split<;>rfl
  refine ⟨eK F r (.cells [.list 4 ((eU n b L).map aL),OO,.list 3 [],.list 1 [],.bool false]),⟨rfl,OO,by rw [bz,if_pos rfl];rfl⟩,fun p _ ho=>?_⟩
  have:=xq r OO (.list 3 []) L hs.po.len [] (by simp) List.Pairwise.nil false n b p (ho r (by simp))
  rw [hw] at this
  exact af.one this hF
 | some q =>
  have hT:=hs.tr q rfl
  obtain ⟨hR1,hW1⟩:=hR q rfl
  refine ⟨eK F r (.cells [.list 4 ((eU n b L).map aL),.list 4 (q.old.map aL),.list 3 (q.R.map bt),.list 1 ((fe true n q.W).map fun w=>.str w.1),.bool true]),⟨rfl,by rw [bz,if_pos rfl];rfl⟩,fun p _ ho=>?_⟩
  exact af.one (xq r _ _ L hs.po.len q.W hW1 hT.sw true n b p (ho r (by simp))) h
end Go.Proofs.YtfbnaalhioogoaaGreatDoor
namespace Go.Proofs.YtfbnaalhioogoaaGreatDoor
open Go Go.Ab
set_option maxRecDepth 20000
abbrev Rds:=List (Str × Bool)
abbrev Pts:=List (Str × Bits)
def iQ (a b:Int):Int:=IntKind.i64.wrap (BitVec.ofInt IntKind.i64.bits a &&& BitVec.ofInt IntKind.i64.bits b).toNat
def cC (a b:Int):Int:=IntKind.i64.wrap (BitVec.ofInt IntKind.i64.bits a &&& ~~~ BitVec.ofInt IntKind.i64.bits b).toNat
def bD (s:Str):Str:=s.take (bN s 47 s.length).toNat
theorem zA (a b:Int):gE .and .i64 a b=some (.int .i64 (iQ a b)):=rfl
theorem sn (a b:Int):gE .andNot .i64 a b=some (.int .i64 (cC a b)):=rfl
attribute [go_sem high] zA sn
inductive Rs (α:Type) where
 | err (e:Int)
 | go (a:α)
structure Wk where
 pl:Str
 todo:List Str
 links:Nat
 dir:Bool
def inE (b:Bits):Int:=if b.k=0 then 10 else if ¬ b.k=2 then 15 else if iQ b.m 1=0 then 18 else 0
def fg (w:Wk) (t:List Str) (l:Str):Rs Wk :=
 if 8 < w.links+1 then .err 17 else if l=[] then .err 10 else .go ⟨if l.getD 0 0=47 then [] else w.pl,cO l++t,w.links+1,w.dir || (decide (t=[]) && iv l)⟩
def jB (w:Wk) (n:Str):Str:=w.pl++(47::n)
def goF (L:PL) (fol:Bool) (w:Wk) (n:Str) (t:List Str):Rs Wk :=
 if (aO L (jB w n)).k=3∧(¬ t=[]∨fol=true∨w.dir=true) then fg w t (aO L (jB w n)).l
 else if ¬ t=[]∧(aO L (jB w n)).k=0 then .err 10 else .go ⟨jB w n,t,w.links,w.dir⟩
def cn (L:PL) (fol:Bool) (w:Wk) (n:Str) (t:List Str):Rds × Rs Wk :=
 if ¬ inE (aO L w.pl)=0 then ([(w.pl,false)],.err (inE (aO L w.pl)))
 else if 32 < n.length then ([(w.pl,false)],.err 2)
 else if n=[46] then ([(w.pl,false)],.go ⟨w.pl,t,w.links,w.dir⟩)
 else if n=[46,46] then ([(w.pl,false)],.go ⟨bD w.pl,t,w.links,w.dir⟩)
 else ([(w.pl,false),(jB w n,false)],goF L fol w n t)
def dB (L:PL) (fol:Bool):Nat→Wk→Rds × Rs Wk
 | 0,w=>([],if w.todo=[] then .go w else .err 0)
 | k+1,w=>match w.todo with
  | []=>([],.go w)
  | n::t=>match cn L fol w n t with
   | (rd,.err e)=>(rd,.err e)
   | (rd,.go w')=>(rd++(dB L fol k w').1,(dB L fol k w').2)
def wtF:List Str→Nat
 | []=>0
 | n::t=>n.length+1+wtF t
def wkW (w:Wk):Nat:=wtF w.todo+(8 - w.links) * 302
def a8 (cwd path:Str):Wk:=⟨if path.getD 0 0=47 then [] else cwd,cO path,0,iv path⟩
def iZ (L:PL):Rds × Rs Wk→Rds × Rs (Str × Bits)
 | (rd,.err e)=>(rd,.err e)
 | (rd,.go w)=>(rd++[(w.pl,false)],if w.dir=true∧¬ (aO L w.pl).k=0∧¬ (aO L w.pl).k=2 then .err 15 else .go (w.pl,aO L w.pl))
def findF (L:PL) (cwd path:Str) (fol:Bool):Rds × Rs (Str × Bits) :=
 if path=[] then ([],.err 10) else if 200 < path.length then ([],.err 2) else iZ L (dB L fol (wkW (a8 cwd path)) (a8 cwd path))
def dK {α β:Type} (x:Rds × Rs α) (f:α→Rds × Rs β):Rds × Rs β:=match x with
 | (r,.err e)=>(r,.err e)
 | (r,.go a)=>(r++(f a).1,(f a).2)
def jC (L:PL) (cwd path:Str) (fol:Bool):Rds × Rs (Str × Bits):=dK (findF L cwd path fol) fun a=>([],if a.2.k=0 then .err 10 else .go a)
def gy (place:Str) (e:Bits):Int:=if place=[] then 18 else if ¬ e.k=2 then 10 else if ¬ iQ e.m 3=3 then 18 else 0
def gL {α:Type} (L:PL) (place:Str) (a:α):Rds × Rs α:=([(bD place,false)],if ¬ gy place (aO L (bD place))=0 then .err (gy place (aO L (bD place))) else .go a)
def dq (L:PL) (cwd path:Str):Rds × Rs Str:=dK (jC L cwd path true) fun a=>([],if a.2.k=2 then .err 14 else if iQ a.2.m 4=0 then .err 18 else .go a.2.l)
def xr (e:Bits) (more:Bool) (data:Str):Str:=if more=true then e.l++data else data
def eV (at':Str) (e:Bits) (more:Bool) (data:Str):Rs Pts:=if 100000 < (xr e more data).length then .err 2 else .go [(at',⟨e.k,e.m,xr e more data⟩)]
def c7 (L:PL) (cwd:Str) (um:Int) (path data:Str) (more:Bool):Rds × Rs Pts:=dK (findF L cwd path true) fun a =>
 if a.2.k=2 then ([],.err 14)
 else if a.2.k=0 then (if iv path=true then ([],.err 14) else dK (gL L a.1 ()) fun _=>([],eV a.1 ⟨1,cC 6 um,[]⟩ more data))
 else if iQ a.2.m 2=0 then ([],.err 18) else ([],eV a.1 a.2 more data)
def lD (L:PL) (cwd path:Str) (e:Bits):Rds × Rs Pts:=dK (findF L cwd path false) fun a =>
 if ¬ a.2.k=0 then ([],.err 11) else gL L a.1 [(a.1,e)]
def jD (L:PL) (cwd:Str) (um:Int) (path:Str):Rds × Rs Pts:=lD L cwd path ⟨2,cC 7 um,[]⟩
def dI {α:Type}:Rs α→Int
 | .err e=>e
 | .go _=>0
def dP:Rs Pts→Pts
 | .err _=>[]
 | .go l=>l
def St.rds (s:St) (l:Rds):St:=l.foldl St.read s
def St.pts (s:St) (l:Pts):St:=l.foldl (fun s q=>s.put q.1 q.2) s
theorem CF (l:Rds):∀ s:St,(s.rds l).L=s.L:=by
 induction l with
 | nil=>intro s;rfl
 | cons f l ih=>intro s;show ((s.read f).rds l).L=_;rw [ih];rfl
theorem SOK.rds {s:St} (h:SOK s) (l:Rds):SOK (s.rds l):=by
 induction l generalizing s with
 | nil=>exact h
 | cons f l ih=>exact ih (h.read f)
theorem qR {α β:Type} {x:Rds × Rs α} {f:α→Rds × Rs β} {r:Rds} {e:Int} (h:x=(r,.err e)):dK x f=(r,.err e):=by rw [h];rfl
theorem ud {α β:Type} {x:Rds × Rs α} {f:α→Rds × Rs β} {r:Rds} {a:α} (h:x=(r,.go a)):dK x f=(r++(f a).1,(f a).2):=by rw [h];rfl
theorem oX (c:UInt8):∀ s:Str,wtF (aU c s)=s.length+1
 | []=>rfl
 | b::s=>by
  have ih:=oX c s
  rw [aU]
  split
  ·simp only [wtF,ih,List.length_nil,List.length_cons];omega
  ·cases h:aU c s with
   | nil=>exact absurd h (fY c s)
   | cons l r=>rw [h] at ih;simp only [wtF,List.length_cons] at ih ⊢;omega
theorem oY (q:Str→Bool):∀ l:List Str,wtF (l.filter q)≤wtF l
 | []=>Nat.le_refl _
 | n::l=>by
  have ih:=oY q l
  rw [List.filter_cons]
  split<;>simp only [wtF]<;>omega
theorem oZ (s:Str):wtF (cO s)≤s.length+1:=by
 rw [← oX 47 s];exact oY _ _
theorem xt:∀ a b:List Str,wtF (a++b)=wtF a+wtF b
 | [],b=>by simp [wtF]
 | n::a,b=>by have ih:=xt a b;simp only [List.cons_append,wtF,ih];omega
theorem kO (s:Str):(bD s).length≤s.length:=by unfold bD;rw [List.length_take];omega
def kP (L:PL):Prop:=∀ q ∈ L,q.2.k=3→q.2.l.length≤300
theorem zB {L:PL} (hs:aY ltB L) (h:kP L) (n:Str) (h3:(aO L n).k=3):(aO L n).l.length≤300:=by
 unfold aO at h3 ⊢
 split at h3
 ·simp at h3
 ·rename_i hn
  rw [if_neg hn]
  cases hb:aM n L with
  | none=>rw [hb] at h3;simp [Bits.no] at h3
  | some b=>rw [hb] at h3;exact h _ ((bK (hs.nodup fM)).1 hb) h3
theorem ue {L:PL} (hs:aY ltB L) (hl:kP L) {fol:Bool} {w w':Wk} {n:Str} {t:List Str} {rd:Rds} (h:cn L fol w n t=(rd,.go w')) :
  wtF w'.todo+(8 - w'.links) * 302 < wtF (n::t)+(8 - w.links) * 302∧w'.pl.length+(wtF w'.todo+(8 - w'.links) * 302)≤w.pl.length+(wtF (n::t)+(8 - w.links) * 302):=by
 have hw:(wtF (n::t))=n.length+1+wtF t:=rfl
 unfold cn at h
 split at h;· cases h
 split at h;· cases h
 split at h
 ·cases h;simp only;omega
 split at h
 ·cases h;have:=kO w.pl;simp only;omega
 have hn:(jB w n).length=w.pl.length+n.length+1:=by simp only [jB,List.length_append,List.length_cons];omega
 obtain ⟨-,h⟩:=Prod.mk.inj h
 unfold goF at h
 split at h
 ·rename_i h3
  have hb:=zB hs hl _ h3.1
  generalize aO L (jB w n)=b at h hb
  unfold fg at h
  split at h;· cases h
  split at h;· cases h
  have hp:=oZ b.l
  cases h
  simp only [xt]
  have:(if b.l.getD 0 0=47 then ([]:Str) else w.pl).length≤w.pl.length:=by split<;>simp
  omega
 ·split at h;· cases h
  cases h;simp only;omega
theorem zC {L:PL} {fol:Bool} {w:Wk} {n:Str} {t:List Str}:∀ f ∈ (cn L fol w n t).1,f.1.length≤w.pl.length+n.length+1:=by
 have h1:∀ f ∈ [(w.pl,false)],f.1.length≤w.pl.length+n.length+1:=fun f hf=>by rw [List.mem_singleton.1 hf];show w.pl.length≤_;omega
 unfold cn
 split;· exact h1
 split;· exact h1
 split;· exact h1
 split;· exact h1
 intro f hf
 simp only [List.mem_cons,List.not_mem_nil,or_false] at hf
 rcases hf with rfl|rfl
 ·show w.pl.length≤_;omega
 ·show (jB w n).length≤_;simp only [jB,List.length_append,List.length_cons];omega
theorem zD {L:PL} {fol:Bool} {w:Wk} {n:Str} {t:List Str}:(cn L fol w n t).1.length≤2:=by
 unfold cn
 repeat' split
 all_goals simp
theorem xu {L:PL} (hs:aY ltB L) (hl:kP L) (fol:Bool):∀ (k:Nat) (w:Wk),wkW w≤k →
  (∀ f ∈ (dB L fol k w).1,f.1.length≤w.pl.length+wkW w)∧(dB L fol k w).1.length≤2 * k∧∀ w',(dB L fol k w).2 = .go w'→w'.todo=[]∧w'.pl.length≤w.pl.length+wkW w
 | 0,w,h=>by
  obtain ⟨a,todo,l,d⟩:=w
  cases todo with
  | nil=>exact ⟨fun f hf=>(by cases hf),Nat.zero_le _,fun w' h=>(by simp only [dB,if_true,Rs.go.injEq] at h;subst h;exact ⟨rfl,Nat.le_add_right _ _⟩)⟩
  | cons n t=>simp only [wkW,wtF] at h;omega
 | k+1,w,h=>by
  obtain ⟨a,todo,l,d⟩:=w
  cases todo with
  | nil=>exact ⟨fun f hf=>(by cases hf),Nat.zero_le _,fun w' h=>(by simp only [dB,Rs.go.injEq] at h;subst h;exact ⟨rfl,Nat.le_add_right _ _⟩)⟩
  | cons n t =>
   have h1:=zC (L:=L) (fol:=fol) (w:=⟨a,n::t,l,d⟩) (n:=n) (t:=t)
   have h2:=zD (L:=L) (fol:=fol) (w:=⟨a,n::t,l,d⟩) (n:=n) (t:=t)
   have hw:wkW ⟨a,n::t,l,d⟩=n.length+1+wtF t+(8 - l) * 302:=rfl
   simp only [dB]
   cases hst:cn L fol ⟨a,n::t,l,d⟩ n t with
   | mk rd r =>
    rw [hst] at h1 h2
    cases r with
    | err e=>exact ⟨fun f hf=>Nat.le_trans (h1 f hf) (by simp only [hw];omega),by simp only at h2 ⊢;omega,fun w' h=>(by cases h)⟩
    | go w' =>
     obtain ⟨g1,g2⟩:=ue hs hl hst
     simp only at g1 g2
     have hw':wkW w' = wtF w'.todo+(8 - w'.links) * 302:=rfl
     have hwt:wtF (n::t)=n.length+1+wtF t:=rfl
     obtain ⟨k1,k2,k3⟩:=xu hs hl fol k w' (by omega)
     refine ⟨fun f hf=>?_,?_,fun w'' h=>?_⟩
     ·rcases List.mem_append.1 hf with hf|hf
      ·have:=h1 f hf;simp only [hw] at this ⊢;omega
      ·have:=k1 f hf;simp only [hw];omega
     ·rw [List.length_append];simp only at h2;omega
     ·obtain ⟨q1,q2⟩:=k3 w'' h
      exact ⟨q1,by simp only [hw];omega⟩
theorem o8 (cwd path:Str) (hp:path.length≤200):(a8 cwd path).pl.length≤cwd.length∧wkW (a8 cwd path)≤2617:=by
 have h:=oZ path
 constructor
 ·simp only [a8];split<;>simp
 ·simp only [wkW,a8];omega
theorem mj {L:PL} (hs:aY ltB L) (hl:kP L) (cwd path:Str) (fol:Bool) :
  (∀ f ∈ (findF L cwd path fol).1,f.1.length≤cwd.length+2700)∧(findF L cwd path fol).1.length≤6000∧∀ a,(findF L cwd path fol).2 = .go a→a.1.length≤cwd.length+2700∧a.2=aO L a.1:=by
 unfold findF
 split
 ·exact ⟨fun f hf=>(by cases hf),Nat.zero_le _,fun a h=>(by cases h)⟩
 split
 ·exact ⟨fun f hf=>(by cases hf),Nat.zero_le _,fun a h=>(by cases h)⟩
 rename_i hp
 obtain ⟨s1,s2⟩:=o8 cwd path (by omega)
 obtain ⟨h1,h2,h3⟩:=xu hs hl fol (wkW (a8 cwd path)) (a8 cwd path) (Nat.le_refl _)
 generalize dB L fol (wkW (a8 cwd path)) (a8 cwd path)=x at h1 h2 h3
 obtain ⟨rd,r⟩:=x
 simp only at h1 h2 h3
 cases r with
 | err e=>exact ⟨fun f hf=>Nat.le_trans (h1 f hf) (by omega),by simp only [iZ];omega,fun a h=>(by cases h)⟩
 | go w =>
  obtain ⟨h4,h5⟩:=h3 w rfl
  refine ⟨fun f hf=>?_,?_,fun a h=>?_⟩
  ·simp only [iZ] at hf
   rcases List.mem_append.1 hf with hf|hf
   ·exact Nat.le_trans (h1 f hf) (by omega)
   ·rw [List.mem_singleton.1 hf];show w.pl.length≤_;omega
  ·simp only [iZ,List.length_append,List.length_singleton];omega
  ·simp only [iZ] at h
   split at h
   ·cases h
   ·cases h;exact ⟨by simp only;omega,rfl⟩
end Go.Proofs.YtfbnaalhioogoaaGreatDoor
namespace Go.Proofs.YtfbnaalhioogoaaGreatDoor
open Go Go.Ab
set_option maxRecDepth 20000
def sq (fA fN:FuncId) (o:Oid) (N:List Oid) (L:PL) (f:Str × Bool) (F F':Oid→aw):Prop:=match f with
 | (n,false)=>∀ p,p.mono=false→bE p N→af Tryz.prog fA [.ptr o 0,.str n] (Oid.under p) ⟨bk (N,F),(aO L n).av,sb N F'⟩
 | (n,true)=>∀ p,p.mono=false→bE p N→af Tryz.prog fN [.ptr o 0,.str n] (Oid.under p) ⟨bk (N,F),.list 1 ((bp L n).map AV.str),sb N F'⟩
def zF (fA fN:FuncId) (o:Oid) (N:List Oid) (L:PL):Rds→(Oid→aw)→(Oid→aw)→Prop
 | [],F,F'=>F=F'
 | f::l,F,F'=>∃ F1,sq fA fN o N L f F F1∧zF fA fN o N L l F1 F'
theorem fh {fA fN:FuncId} {o:Oid} {N:List Oid} {L:PL} {b:Rds} {F':Oid→aw}:∀ {a:Rds} {F:Oid→aw},zF fA fN o N L (a++b) F F'→∃ F1,zF fA fN o N L a F F1∧zF fA fN o N L b F1 F'
 | [],F,h=>⟨F,rfl,h⟩
 | f::a,F,⟨F1,h1,h2⟩=>by
  obtain ⟨F2,k1,k2⟩:=fh h2
  exact ⟨F2,⟨F1,h1,k1⟩,k2⟩
abbrev RP (st:Oid) (N:List Oid) (L:PL):=zF 37 171 st N L
abbrev RR' (r:Oid) (M:List Oid) (L:PL):=zF 49 172 r M L
theorem CG {st:Oid} {N:List Oid}:∀ (l:Rds) (s:St) (F:Oid→aw),dA st s N F→SOK s→(∀ f ∈ l,f.1.length≤140737488355000)→∃ F',dA st (s.rds l) N F'∧RP st N s.L l F F'
 | [],s,F,h,_,_=>⟨F,h,rfl⟩
 | f::l,s,F,h,hs,hl=>by
  have hf:=hl f List.mem_cons_self
  have key:∃ F1,dA st (s.read f) N F1∧sq 37 171 st N s.L f F F1:=by
   obtain ⟨n,b⟩:=f
   cases b
   ·exact CB h hs n hf
   ·exact zr h hs n hf
  obtain ⟨F1,h1,h2⟩:=key
  obtain ⟨F',k1,k2⟩:=CG l (s.read f) F1 h1 (hs.read f) fun g hg=>hl g (List.mem_cons_of_mem _ hg)
  exact ⟨F',k1,F1,h2,k2⟩
theorem HP {r:Oid} {M:List Oid}:∀ (l:Rds) (s:St) (F:Oid→aw),fO r s M F→SOK s→(∀ q,s.t=some q→q.R.length+l.length≤1000000∧q.W.length≤1000000)→(∀ f ∈ l,f.1.length≤140737488355000)→∃ F',fO r (s.rds l) M F'∧RR' r M s.L l F F'
 | [],s,F,h,_,_,_=>⟨F,h,rfl⟩
 | f::l,s,F,h,hs,hR,hl=>by
  have hf:=hl f List.mem_cons_self
  have hR1:∀ q,s.t=some q→q.R.length≤1000000∧q.W.length≤1000000:=fun q hq=>by have:=hR q hq;omega
  have key:∃ F1,fO r (s.read f) M F1∧sq 49 172 r M s.L f F F1:=by
   obtain ⟨n,b⟩:=f
   cases b
   ·exact CD h hs hR1 n hf
   ·exact vU h hs hR1 n hf
  obtain ⟨F1,h1,h2⟩:=key
  obtain ⟨F',k1,k2⟩:=HP l (s.read f) F1 h1 (hs.read f) (fun q hq=>by
   simp only [St.read,Option.map_eq_some_iff] at hq
   obtain ⟨a,ha,rfl⟩:=hq
   have h3:=hR a ha
   have h4:=jY (old:=a.old) (W:=a.W) (f:=f) (hs.tr a ha).sr
   simp only [List.length_cons] at h3
   refine ⟨?_,h3.2⟩
   show (ff a.old a.W f a.R).length+_≤_
   omega) fun g hg=>hl g (List.mem_cons_of_mem _ hg)
  exact ⟨F',k1,F1,h2,k2⟩
def sv (e:Int):AV:=.iface 28 (.int .i64 e)
abbrev dL (f:FuncId) (xs:List AV) (sp:Oid→Prop) (need:List (Oid × aw)) (r:Rs AV) (u0:List (Oid × Option aw)):Prop :=
 bV Tryz.prog f xs sp need (fun v u=>r = .go v∧u=u0) (fun pv u=>∃ e,r = .err e∧pv=sv e∧u=u0)
theorem dL.ok {f:FuncId} {xs:List AV} {sp:Oid→Prop} {need:List (Oid × aw)} {r:Rs AV} {v:AV} {u0:List (Oid × Option aw)} (h:dL f xs sp need r u0) (hr:r = .go v):af Tryz.prog f xs sp ⟨need,v,u0⟩ :=
 bV.ok (h.weaken (fun w u ⟨h1,h2⟩=>by rw [hr] at h1;exact ⟨(Rs.go.inj h1).symm,h2⟩) fun pv u ⟨e,h1,_⟩=>by rw [hr] at h1;cases h1)
theorem dL.pn {f:FuncId} {xs:List AV} {sp:Oid→Prop} {need:List (Oid × aw)} {r:Rs AV} {e:Int} {u0:List (Oid × Option aw)} (h:dL f xs sp need r u0) (hr:r = .err e):Cm Tryz.prog f xs sp need (sv e) u0 :=
 h.weaken (fun w u ⟨h1,h2⟩=>by rw [hr] at h1;cases h1) fun pv u ⟨e',h1,h2,h3⟩=>by rw [hr] at h1;exact ⟨by rw [h2,Rs.err.inj h1],h3⟩
end Go.Proofs.YtfbnaalhioogoaaGreatDoor
namespace Go.Ab
structure CH (P:Program) [Laid P] (f:FuncId) (xs:List AV) (sp:Oid→Prop) (need:List (Oid × aw)) (u0:List (Oid × Option aw)) (rec:AV→List (Oid × Option aw)→Prop):Prop where
 enters:cj P f=true
 ret:∀ (x:Ctx) (g:Gh) (args:Array Value) (w:World) (m:Mem),aB x g m w→(∀ q,q ∈ need→m q.1=some q.2)→VRs g xs args→(∀ i,sp i→g.loc i=none∧Oid.under x.p i)→Fit P x →
  CallsD P f args .returning w fun en u' w'=>∃ g' v,en = .returned v∧u' = .returning∧g.le g'∧(∀ i,¬ sp i→g'.loc i=g.loc i)∧aB x g' (m.aI u0) w'
 pan:∀ (pv:AV) (u:List (Oid × Option aw)),rec pv u→∀ (x:Ctx) (g:Gh) (args:Array Value) (w:World) (m:Mem) (v:Value),aB x g m w→(∀ q,q ∈ need→m q.1=some q.2)→VRs g xs args→(∀ i,sp i→g.loc i=none∧Oid.under x.p i)→Fit P x →
  VR g pv v→CallsD P f args (.panicking [{ v,recovered:=false,goexit:=false }]) w fun en u' w'=>∃ g' v',en = .returned v'∧u' = .panicking [{ v,recovered:=true,goexit:=false }]∧g.le g'∧(∀ i,¬ sp i→g'.loc i=g.loc i)∧aB x g' (m.aI u) w'
theorem CallsD.HQ {P:Program} {f:FuncId} {args:Array Value} {u:FrameMode} {w:World} {R R':Ending→FrameMode→World→Prop} (h:CallsD P f args u w R) (hr:∀ e u' w',R e u' w'→R' e u' w'):CallsD P f args u w R' :=
 fun c cs hu=>let ⟨e,u',w',fr,r,rest⟩:=h c cs hu;⟨e,u',w',fr,hr _ _ _ r,rest⟩
def ml (P:Program) [Laid P] (p:Oid) (K:Mem→Prop) (Kp:AV→Mem→Prop):List AD→Nat→Option AV→Mem→Prop
 | [],_,none,m=>K m
 | [],_,some pv,m=>Kp pv m
 | .call f cap args::ds,c,mode,m=>∃ (k:FuncId) (need:List (Oid × aw)) (u0:List (Oid × Option aw)) (rec:AV→List (Oid × Option aw)→Prop),f = .func k∧CH P k (args++cap) (Oid.under (.sub c 0 p)) need u0 rec∧(∀ q,q ∈ need→m q.1=some q.2)∧match mode with
  | none=>ml P p K Kp ds (c+1) none (m.aI u0)
  | some pv=>∃ u,rec pv u∧ml P p K Kp ds (c+1) none (m.aI u)
 | .coll _::_,_,_,_=>False
theorem iR {P:Program} [Laid P] {x:Ctx} {fn:Func} {tmps:Array Value} {R:Ending→World→Prop} {K:Mem→Prop} {Kp:AV→Mem→Prop} (hx:Fit P x) {g0:Gh}
  (hK:∀ g m w,g0.le g→aB x g m w→K m→∃ v,(results fn tmps).run P w = .ok v w∧R (.returned v) w) :
  ∀ (ds:List AD) (dl:List Deferred) (c:Nat) (g:Gh) (m:Mem) (w:World),g0.le g→aB x g m w→(∀ i,eo x.p c i→g.loc i=none)→DRs g ds dl→ml P x.p K Kp ds c none m→Leaves P fn tmps R dl .returning w
 | [],_,_,g,m,w,hle,hm,_,hd,h=>by cases hd;exact hK g m w hle hm h
 | .coll _::_,_,_,_,_,_,_,_,_,_,h=>h.elim
 | .call f cap args::ds,_,c,g,m,w,hle,hm,hy,hd,h=>by
  obtain ⟨k,need,u0,rec,rfl,hD,hn,h⟩:=h
  cases hd with
  | cons h1 t =>
   cases h1 with
   | call _ _ _ cv av v1 v2 =>
    refine ⟨by simp,_,_,k,av++cv,rfl,?_,?_⟩
    ·have he:=hD.enters
     unfold cj at he
     cases hfn:P.funcs[k]? with
     | none=>rw [hfn] at he;cases he
     | some fn =>
      rw [hfn] at he
      simp only [Bool.and_eq_true,bne_iff_ne,ne_eq] at he
      obtain ⟨he1,he2⟩:=he
      have hb:fn.body.isNone=false:=by cases hbb:fn.body<;>simp_all
      have hnm:(fn.name == "runtime.NumGoroutine")=false:=by simpa using he2
      simp only [Sem.run_bind,Sem.run_pure,Result.andThen_ok,invoke,callFunc,run_program,hfn,hnm,hb,Bool.false_eq_true,if_false]
    ·refine CallsD.HQ (hD.ret x g _ w m hm hn (v2.append v1) (fun i hi=>⟨hy i ⟨c,0,Nat.le_refl _,hi⟩,Oid.ae hi⟩) hx) fun en u' w' ⟨g',v,e1,e2,e3,e4,e5⟩=>?_
     subst e1;subst e2
     show Leaves P fn tmps R _ .returning w'
     refine iR hx hK ds _ (c+1) g' _ w' (Gh.le_trans hle e3) e5 (fun i hi=>?_) (t.mono e3) h
     rw [e4 i fun hu=>?_]
     ·exact hy i (hi.mono (Nat.le_succ _))
     ·obtain ⟨c',i',h1,h2⟩:=hi
      have:=(Oid.apart hu h2).1
      omega
theorem vV {P:Program} [Laid P] {x:Ctx} {fn:Func} {tmps:Array Value} {R:Ending→World→Prop} {K:Mem→Prop} {Kp:AV→Mem→Prop} (hx:Fit P x) {g0:Gh}
  (hK:∀ g m w,g0.le g→aB x g m w→K m→∃ v,(results fn tmps).run P w = .ok v w∧R (.returned v) w) {pv:AV} {v:Value}
  (hKp:∀ m w,aB x g0 m w→Kp pv m→R (.panicked [{ v,recovered:=false,goexit:=false }]) w) (hv:VR g0 pv v) :
  ∀ (ds:List AD) (dl:List Deferred) (c:Nat) (m:Mem) (w:World),aB x g0 m w→(∀ i,eo x.p c i→g0.loc i=none)→DRs g0 ds dl→ml P x.p K Kp ds c (some pv) m→Leaves P fn tmps R dl (.panicking [{ v,recovered:=false,goexit:=false }]) w
 | [],_,_,m,w,hm,_,hd,h=>by cases hd;exact hKp m w hm h
 | .coll _::_,_,_,_,_,_,_,_,h=>h.elim
 | .call f cap args::ds,_,c,m,w,hm,hy,hd,h=>by
  obtain ⟨k,need,u0,rec,rfl,hD,hn,u,hr,h⟩:=h
  cases hd with
  | cons h1 t =>
   cases h1 with
   | call _ _ _ cv av v1 v2 =>
    refine ⟨by simp,_,_,k,av++cv,rfl,?_,?_⟩
    ·have he:=hD.enters
     unfold cj at he
     cases hfn:P.funcs[k]? with
     | none=>rw [hfn] at he;cases he
     | some fn =>
      rw [hfn] at he
      simp only [Bool.and_eq_true,bne_iff_ne,ne_eq] at he
      obtain ⟨he1,he2⟩:=he
      have hb:fn.body.isNone=false:=by cases hbb:fn.body<;>simp_all
      have hnm:(fn.name == "runtime.NumGoroutine")=false:=by simpa using he2
      simp only [Sem.run_bind,Sem.run_pure,Result.andThen_ok,invoke,callFunc,run_program,hfn,hnm,hb,Bool.false_eq_true,if_false]
    ·refine CallsD.HQ (hD.pan pv u hr x g0 _ w m v hm hn (v2.append v1) (fun i hi=>⟨hy i ⟨c,0,Nat.le_refl _,hi⟩,Oid.ae hi⟩) hx hv) fun en u' w' ⟨g',v',e1,e2,e3,e4,e5⟩=>?_
     subst e1;subst e2
     show Leaves P fn tmps R _ (settle _) w'
     have hs:settle (.panicking [{ v,recovered:=true,goexit:=false }]) = .returning:=rfl
     rw [hs]
     refine iR hx hK ds _ (c+1) g' _ w' e3 e5 (fun i hi=>?_) (t.mono e3) h
     rw [e4 i fun hu=>?_]
     ·exact hy i (hi.mono (Nat.le_succ _))
     ·obtain ⟨c',i',h1,h2⟩:=hi
      have:=(Oid.apart hu h2).1
      omega
def xv (P:Program) [Laid P] (p:Oid) (rs:List ResultVar) (need:List (Oid × aw)) (R Rp:AV→List (Oid × Option aw)→Prop):AX→AS→Prop
 | .normal,s | .ret,s=>ml P p (fun m=>∃ val upd,gR P m s.fr rs=some val∧R val upd∧∀ i o,((Mem.of need).aI upd) i=some o→m i=some o) (fun _ _=>False) s.ds s.c none s.mem
 | .panic pv,s=>ml P p (fun m=>∃ val upd,gR P m s.fr rs=some val∧R val upd∧∀ i o,((Mem.of need).aI upd) i=some o→m i=some o) (fun pv m=>∃ upd,Rp pv upd∧∀ i o,((Mem.of need).aI upd) i=some o→m i=some o) s.ds s.c (some pv) s.mem
 | .exit _,_=>False
theorem mo {P:Program} [Laid P] {f:FuncId} {fn:Func} {n:Nat} {rs:List ResultVar} {c:Code} {xs:List AV} {p:Oid} {need:List (Oid × aw)} {R Rp:AV→List (Oid × Option aw)→Prop} (hf:P.funcs[f]? = some fn) (hn:fn.ntmps=n) (hr:fn.results.toList=rs)
  (hnm:(fn.name != "runtime.NumGoroutine")=true) (hl:(Nat.ble xs.length n)=true) (hok:fj n rs=true) (hb:fn.body=some c)
  (hT:∀ x:Ctx,x.p=p→x.rd=none→Fit P x→T P x n c ⟨cP 0 xs,Mem.of need,0,[]⟩ (after P x n (xv P p rs need R Rp) [])):bV P f xs (Oid.under p) need R Rp:=by
 subst hn;subst hr
 have hl:=Nat.le_of_ble_eq_true hl
 refine ⟨by simp only [cj,hf,hb,Option.isSome_some,Bool.true_and];exact hnm,fun x g args w m hm hneed hargs hsp hng=>?_⟩
 refine calls_of_wp_defers hf hb ?_
 have hin:=hm.enter (p:=p) hneed
 have hsz:(args++Array.replicate (fn.ntmps - args.size) undef).size=fn.ntmps:=by simp [hargs.1];omega
 have hrel:Rel (x.inner g w need p) fn.ntmps g ⟨cP 0 xs,Mem.of need,0,[]⟩ { tmps:=args++Array.replicate (fn.ntmps - args.size) undef,defers:=[] } w:=by
  refine ⟨hin,hsz,.nil,fun t ht=>?_,fun i hi=>(hsp i hi.under).1⟩
  simp only
  rw [nu]
  split
  ·rename_i h
   rw [Nat.sub_zero,bC (by rw [hargs.1];omega)]
   exact hargs.2 t (by omega)
  ·exact .unk _
 have hpx:Oid.under x.p p:=(hsp p (Oid.az p)).2
 have hfit:Fit P (x.inner g w need p):=hng.inner rfl hm.le
 refine (wpIn_wide (n:=0)).1 (wpIn_mono (hT (x.inner g w need p) rfl rfl hfit g _ w hrel) fun en a' w' ⟨g',ex,s',h1,h2,h3⟩=>?_)
 have hK:∀ g2 m2 w2,g'.le g2→aB (x.inner g w need p) g2 m2 w2→(∃ val upd,gR P m2 s'.fr fn.results.toList=some val∧R val upd∧∀ i o,((Mem.of need).aI upd) i=some o→m2 i=some o) →
   ∃ v,(results fn a'.tmps).run P w2 = .ok v w2∧((∃ g' v' val upd,Ending.returned v = .returned v'∧R val upd∧g.le g'∧(∀ i,¬ Oid.under p i→g'.loc i=g.loc i)∧VR g' val v'∧aB x g' (m.aI upd) w2) ∨
   (∃ g' e pv upd,Ending.returned v = .panicked [e]∧Rp pv upd∧g.le g'∧(∀ i,¬ Oid.under p i→g'.loc i=g.loc i)∧VR g' pv e.v∧e.recovered=false∧e.goexit=false∧aB x g' (m.aI upd) w2)):=by
  rintro g2 m2 w2 hle hm2 ⟨val,upd,r1,r2,r3⟩
  obtain ⟨v,v1,v2⟩:=gS (P:=P) hm2 hok r1 fun t ht=>(h1.fr t ht).mono hle
  exact ⟨v,v1,.inl ⟨g2,v,val,upd,rfl,r2,hm2.le,hm2.locs,v2,hm.leave hneed hpx hm2 r3⟩⟩
 cases ex with
 | normal=>cases en<;>simp only [AX.fits] at h2;exact iR hfit hK _ _ _ g' _ _ (Gh.le_refl _) h1.mr h1.young h1.df h3
 | ret=>cases en<;>simp only [AX.fits] at h2;exact iR hfit hK _ _ _ g' _ _ (Gh.le_refl _) h1.mr h1.young h1.df h3
 | exit i=>exact h3.elim
 | panic pv =>
  have:∃ e:PanicEntry,en = .panic [e]∧VR g' pv e.v∧e.recovered=false∧e.goexit=false:=by
   cases en with
   | panic ch =>
    match ch,h2 with
    | [e],h2=>exact ⟨e,rfl,h2⟩
   | _=>exact h2.elim
  obtain ⟨⟨v,rc,ge⟩,rfl,hv,e1,e2⟩:=this
  simp only at e1 e2;subst e1;subst e2
  exact vV hfit hK (fun m2 w2 hm2 ⟨upd,r2,r3⟩=>.inr ⟨g',_,pv,upd,rfl,r2,hm2.le,hm2.locs,hv,rfl,rfl,hm.leave hneed hpx hm2 r3⟩) hv _ _ _ _ _ h1.mr h1.young h1.df h3
theorem GP {P:Program} [Laid P] {f:FuncId} {fn:Func} {n:Nat} {rs:List ResultVar} {c:Code} {xs:List AV} {p:Oid} {e:Eff} (hf:P.funcs[f]? = some fn) (hn:fn.ntmps=n) (hr:fn.results.toList=rs)
  (hnm:(fn.name != "runtime.NumGoroutine")=true) (hl:(Nat.ble xs.length n)=true) (hok:fj n rs=true) (hb:fn.body=some c)
  (hT:∀ x:Ctx,x.p=p→x.rd=none→Fit P x→T P x n c ⟨cP 0 xs,Mem.of e.need,0,[]⟩ (after P x n (xv P p rs e.need (fun v u=>v=e.val∧u=e.upd) fun _ _=>False) [])):af P f xs (Oid.under p) e :=
 (mo hf hn hr hnm hl hok hb hT).ok
theorem GQ {P:Program} [Laid P] {x:Ctx} {n:Nat} {Q:AX→AS→Prop} {id:Nat} {o:Oper} {k:FuncId} {args:Array Operand} {ts:Array TypeId} {fr:List (Nat × AV)} {m:Mem} {c:Nat} {ds:List AD} (hng:Fit P x)
  (hrd:x.rd=none) (ho:o.op = .defer ⟨.value (.func k),args,ts⟩) (hd:o.dst=none) (hgd:o.guard=none) (hok:eO n P.globals.size #[o] o=true)
  (h:Q .normal ⟨fr,m,c+1,.call (.func k) [] (args.toList.map (evA fr))::ds⟩):T P x n (.region id #[o] false) ⟨fr,m,c,ds⟩ Q:=by
 intro g a w hr
 refine wpIn_region ?_
 have hop:=(RR.of hr).operands hng.1 hok (f':=F fr) (fun _ _=>rfl)
 have hargs:VRs g (args.toList.map (evA fr)) (args.map a.eval):=VRs.map fun t ht=>hop t (by
  have:t ∈ args:=by simpa using ht
  simp [Op.operands,Call.operands,ho,this])
 have hrun:(execOp a.eval o).run P w = .ok (.defer ⟨.fn (.func k) #[],args.map a.eval⟩) w:=by
  simp [execOp,ho,resolve,Deferred.ofValue,Act.eval]
 have hw:Region.wanted o (yielded #[o] a.tmps)=true:=by simp [Region.wanted,hgd]
 show wpOpsIn (Fc x.rd) 0 P #[o] _ [0] a w
 simp only [wpOpsIn,List.getElem?_toArray,List.getElem?_cons_zero,hw,if_true]
 refine ⟨fun _ _=>trivial,?_⟩
 have hro:(Fc x.rd).round=none:=hrd
 rw [hro,Oper.semAt_none,hrun,Oper.uponIn_defer,hd]
 exact ⟨g,.normal,⟨fr,m,c+1,.call (.func k) [] (args.toList.map (evA fr))::ds⟩,⟨hr.mr,hr.tm,.cons (.call _ _ _ _ _ ⟨rfl,fun j hj=>absurd hj (Nat.not_lt_zero _)⟩ hargs) hr.df,hr.fr,fun i hi=>hr.young i (hi.mono (Nat.le_succ _))⟩,trivial,h⟩
theorem nC {P:Program} [Laid P] {x:Ctx} {n:Nat} {Q:AX→AS→Prop} {ks:List Pc} {id:Nat} {o:Oper} {k:FuncId} {args:Array Operand} {ts:Array TypeId} {fr:List (Nat × AV)} {m:Mem} {c:Nat} {ds:List AD} (hng:Fit P x)
  (hrd:x.rd=none) (ho:o.op = .defer ⟨.value (.func k),args,ts⟩) (hd:o.dst=none) (hgd:o.guard=none) (hok:eO n P.globals.size #[o] o=true)
  (h:after P x n Q ks .normal ⟨fr,m,c+1,.call (.func k) [] (args.toList.map (evA fr))::ds⟩):T P x n (.region id #[o] false) ⟨fr,m,c,ds⟩ (after P x n Q ks):=GQ hng hrd ho hd hgd hok h
theorem uf {P:Program} {ρ:Operand→Value} {o:Oper} {ts:Array TypeId} (ho:o.op = .call ⟨.builtin .recover,#[],ts⟩) (w:World):(execOp ρ o).run P w = .ok .recover w:=by
 simp [execOp,ho,resolve,invoke,builtin]
def CI (need:List (Oid × aw)) (u:List (Oid × Option aw)):AX→AS→Prop
 | .normal,s | .ret,s=>s.ds=[]∧∀ i o,((Mem.of need).aI u) i=some o→s.mem i=some o
 | _,_=>False
theorem CJ {P:Program} [Laid P] {f:FuncId} {fn:Func} {n id a b:Nat} {r s:Oper} {ts:Array TypeId} {rest:Code} {xs:List AV} {p:Oid} {need:List (Oid × aw)} {u0:List (Oid × Option aw)} {rec:AV→List (Oid × Option aw)→Prop}
  (hf:P.funcs[f]? = some fn) (hn:fn.ntmps=n) (hr:fn.results.toList=[]) (hnm:(fn.name != "runtime.NumGoroutine")=true) (hl:(Nat.ble xs.length n)=true) (hb:fn.body=some (.seq (.region id #[r,s] false) rest))
  (h1:r.op = .call ⟨.builtin .recover,#[],ts⟩) (h2:r.dst=some a) (h3:r.guard=none) (h4:s.op = .assign (.tmp a)) (h5:s.dst=some b) (h6:s.guard=none) (ha:(Nat.blt a n)=true) (hbn:(Nat.blt b n)=true)
  (hR:∀ x:Ctx,x.p=p→x.rd=none→Fit P x→T P x n rest ⟨(b,.nilIface)::(a,.nilIface)::cP 0 xs,Mem.of need,1,[]⟩ (after P x n (CI need u0) []))
  (hP:∀ pv u,rec pv u→∀ x:Ctx,x.p=p→x.rd=none→Fit P x→T P x n rest ⟨(b,pv)::(a,pv)::cP 0 xs,Mem.of need,1,[]⟩ (after P x n (CI need u) [])):CH P f xs (Oid.under p) need u0 rec:=by
 subst hn
 have hl:=Nat.le_of_ble_eq_true hl
 have ha:a < fn.ntmps:=by simpa using ha
 have hbn:b < fn.ntmps:=by simpa using hbn
 have hbody:fn.body.isSome=true:=by rw [hb];rfl
 have hrel:∀ (x:Ctx) (g:Gh) (args:Array Value) (w:World) (m:Mem) (pv:AV) (v:Value),aB x g m w→(∀ q,q ∈ need→m q.1=some q.2)→VRs g xs args→(∀ i,Oid.under p i→g.loc i=none∧Oid.under x.p i)→VR g pv v →
   Rel (x.inner g w need p) fn.ntmps g ⟨(b,pv)::(a,pv)::cP 0 xs,Mem.of need,1,[]⟩ ((Act.put { tmps:=args++Array.replicate (fn.ntmps - args.size) undef,defers:=[] } (some a) v).put (some b) v) w:=by
  intro x g args w m pv v hm hneed hargs hsp hv
  have hin:=hm.enter (p:=p) hneed
  have hsz:(args++Array.replicate (fn.ntmps - args.size) undef).size=fn.ntmps:=by simp [hargs.1];omega
  have h0:RR (x.inner g w need p) fn.ntmps [] g (F (cP 0 xs)) (Mem.of need) { tmps:=args++Array.replicate (fn.ntmps - args.size) undef,defers:=[] } w:=by
   refine ⟨hin,hsz,.nil,fun t ht=>?_⟩
   rw [nu]
   split
   ·rename_i h
    rw [Nat.sub_zero,bC (by rw [hargs.1];omega)]
    exact hargs.2 t (by omega)
   ·exact .unk _
  have h2:=(h0.put (Gh.le_refl g) hin (some a) hv).put (Gh.le_refl g) hin (some b) hv
  rw [← nH,← nH] at h2
  exact h2.rel fun i hi=>(hsp i hi.under).1
 have key:∀ (u u':FrameMode) (pv:AV) (v:Value) (upd:List (Oid × Option aw)) (x:Ctx) (g:Gh) (args:Array Value) (w:World) (m:Mem),aB x g m w→(∀ q,q ∈ need→m q.1=some q.2)→VRs g xs args→(∀ i,Oid.under p i→g.loc i=none∧Oid.under x.p i)→Fit P x→VR g pv v →
   (∀ (c₀:Frame) (cs:List Frame),c₀.mode=u→(recoverD (c₀::cs)=none∧u' = u∧v = .nilIface)∨recoverD (c₀::cs)=some (v,{ c₀ with mode:=u' }::cs)) →
   (∀ x:Ctx,x.p=p→x.rd=none→Fit P x→T P x fn.ntmps rest ⟨(b,pv)::(a,pv)::cP 0 xs,Mem.of need,1,[]⟩ (after P x fn.ntmps (CI need upd) [])) →
   CallsD P f args u w fun en u2 w'=>∃ g' v',en = .returned v'∧u2=u'∧g.le g'∧(∀ i,¬ Oid.under p i→g'.loc i=g.loc i)∧aB x g' (m.aI upd) w':=by
  intro u u' pv v upd x g args w m hm hneed hargs hsp hx hv hrec hT
  refine callsD_of_wpS hf hb fun c₀ cs hc=>?_
  refine wpS_seq (wpS_region ?_)
  have hw1:∀ y,Region.wanted r y=true:=fun y=>by simp [Region.wanted,h3]
  have hw2:∀ y,Region.wanted s y=true:=fun y=>by simp [Region.wanted,h6]
  show wpOpsS P #[r,s] _ [0,1] _ _ _
  have hpx:Oid.under x.p p:=(hsp p (Oid.az p)).2
  have hsz:(args++Array.replicate (fn.ntmps - args.size) undef).size=fn.ntmps:=by simp [hargs.1];omega
  have fin:rest.wpS P (bodyPostS P fn c₀ cs fun en u2 w'=>∃ g' v',en = .returned v'∧u2=u'∧g.le g'∧(∀ i,¬ Oid.under p i→g'.loc i=g.loc i)∧aB x g' (m.aI upd) w') ((Act.put { tmps:=args++Array.replicate (fn.ntmps - args.size) undef,defers:=[] } (some a) v).put (some b) v) ({ c₀ with mode:=u' }::cs) w:=by
   refine wpS_of_wp ((wpIn_wide (n:=0)).1 (wpIn_mono (hT (x.inner g w need p) rfl rfl (hx.inner rfl hm.le) g _ w (hrel x g args w m pv v hm hneed hargs hsp hv)) fun en a' w' ⟨g',ex,s',k1,k2,k3⟩=>?_))
   have done:s'.ds=[]∧(∀ i o,((Mem.of need).aI upd) i=some o→s'.mem i=some o)→a'.defers=[]∧∃ u2,({ c₀ with mode:=u' }::cs:List Frame)={ c₀ with mode:=u2 }::cs∧∃ v2,(results fn a'.tmps).run P w' = .ok v2 w' ∧
     ∃ g' v',Ending.returned v2 = .returned v'∧u2=u'∧g.le g'∧(∀ i,¬ Oid.under p i→g'.loc i=g.loc i)∧aB x g' (m.aI upd) w':=by
    rintro ⟨q1,q2⟩
    have hdf:=k1.df
    rw [q1] at hdf
    obtain ⟨v2,r1,_⟩:=gS (P:=P) (fn:=fn) (n:=fn.ntmps) (fr:=s'.fr) (y:=.tuple []) k1.mr (by rw [hr];rfl) (by rw [hr];rfl) k1.fr
    exact ⟨hdf.DU,u',rfl,v2,r1,g',v2,rfl,rfl,k1.mr.le,k1.mr.locs,hm.leave hneed hpx k1.mr q2⟩
   cases ex with
   | normal=>cases en<;>simp only [AX.fits] at k2;exact done k3
   | ret=>cases en<;>simp only [AX.fits] at k2;exact done k3
   | exit i=>exact k3.elim
   | panic pv=>exact k3.elim
  have step2:wpOpsS P #[r,s] (Exit.thenS (rest.wpS P (bodyPostS P fn c₀ cs fun en u2 w'=>∃ g' v',en = .returned v'∧u2=u'∧g.le g'∧(∀ i,¬ Oid.under p i→g'.loc i=g.loc i)∧aB x g' (m.aI upd) w')) (bodyPostS P fn c₀ cs fun en u2 w'=>∃ g' v',en = .returned v'∧u2=u'∧g.le g'∧(∀ i,¬ Oid.under p i→g'.loc i=g.loc i)∧aB x g' (m.aI upd) w'))
    [1] (Act.put { tmps:=args++Array.replicate (fn.ntmps - args.size) undef,defers:=[] } (some a) v) ({ c₀ with mode:=u' }::cs) w:=by
   have hr2:(execOp (Act.put { tmps:=args++Array.replicate (fn.ntmps - args.size) undef,defers:=[] } (some a) v).eval s).run P w = .ok (.value v) w:=by
    simp only [execOp,h4,Sem.run_pure,Act.eval]
    rw [sR (by rw [hsz];exact ha),if_pos rfl]
   have hs1:(#[r,s]:Array Oper)[1]? = some s:=rfl
   simp only [wpOpsS,hs1,hw2,if_true,hr2]
   simp only [Oper.upon,h5]
   exact fin
  have hs0:(#[r,s]:Array Oper)[0]? = some r:=rfl
  rw [wpOpsS]
  simp only [hs0,hw1,if_true,uf h1,h2]
  rcases hrec c₀ cs hc with ⟨q1,q2,q3⟩|q1
  ·rw [q1]
   subst q2;subst q3
   have:({ c₀ with mode:=u' }:Frame)=c₀:=by rw [← hc]
   rw [this] at step2
   exact step2
  ·rw [q1]
   exact step2
 refine ⟨by simp only [cj,hf,hbody,Bool.true_and];exact hnm,fun x g args w m hm hneed hargs hsp hx=>?_,fun pv u hu x g args w m v hm hneed hargs hsp hx hv=>?_⟩
 ·exact key .returning .returning .nilIface .nilIface u0 x g args w m hm hneed hargs hsp hx .nilIface (fun c₀ cs hc=>.inl ⟨by simp [recoverD,hc],rfl,rfl⟩) hR
 ·exact key _ _ pv v u x g args w m hm hneed hargs hsp hx hv (fun c₀ cs hc=>.inr (by simp [recoverD,hc])) (hP pv u hu)
end Go.Ab
namespace Go.Ab
theorem zG {P:Program} [Laid P] {o:Oper} {ρ:Operand→AV} {sp:Oid→Prop} {y:Operand} {t:TypeId} {v:AV} (ho:o.op = .panic y) (hy:ρ y = .iface t v) :
  lj P o ρ sp [] (fun _ _=>False) (fun pv u=>pv = .iface t v∧u=[]):=by
 intro x g a w m hm _ hop hsp hng next Q _ Kp
 have vy:=hop y (by simp [Op.operands,ho])
 rw [hy] at vy
 obtain ⟨u,hu,hv⟩:=vy.lR
 have hex:(execOp a.eval o).run P w = .halt (.panic (.iface t u)) w:=by
  simp only [execOp,ho,hu]
  rfl
 refine ⟨fun _ _=>trivial,?_⟩
 rw [Oper.semAt_eq _ _ _ (fun c hc=>by rw [ho] at hc;cases hc),hex,Oper.uponIn_panic]
 exact Kp _ [] ⟨rfl,rfl⟩ g _ w (Gh.le_refl g) (fun _ _=>rfl) (by rw [← hu];exact hy ▸ hop y (by simp [Op.operands,ho])) rfl rfl hm
theorem o9 {P:Program} [Laid P] {o:Oper} {ρ:Operand→AV} {sp:Oid→Prop} {y:Operand} {xT t:TypeId} {v:AV} (ho:o.op = .typeAssert y xT t false) (hy:ρ y = .iface t v)
  (hrun:∀ u w,(Instr.typeAssert (.iface t u) xT t false).run P w = .ok u w):aF P o ρ sp ⟨[],v,[]⟩ :=
 aF.plain fun g a w hop=>by
  have vy:=hop y (by simp [Op.operands,ho])
  rw [hy] at vy
  obtain ⟨u,hu,hv⟩:=vy.lR
  exact ⟨u,by simp only [execOp,ho,hu,Sem.run_bind,hrun,Result.andThen_ok,Sem.run_pure],hv⟩
theorem GR (N:List Oid) (F:Oid→aw):kG (sb N F)=N:=by
 induction N with
 | nil=>rfl
 | cons i N ih=>show i::kG (sb N F)=_;rw [ih]
theorem GS (N:List Oid) (F:Oid→aw):kG (bk (N,F))=N:=by
 induction N with
 | nil=>rfl
 | cons i N ih=>show i::kG (bk (N,F))=_;rw [ih]
theorem CK {α β:Type} (a b:List (α × β)):kG (a++b)=kG a++kG b:=by
 induction a with
 | nil=>rfl
 | cons q a ih=>show q.1::kG (a++b)=_;rw [ih];rfl
def gone (N:List Oid):List (Oid × Option aw):=N.map fun i=>(i,none)
theorem zH (N:List Oid):kG (gone N)=N:=by
 induction N with
 | nil=>rfl
 | cons i N ih=>show i::kG (gone N)=_;rw [ih]
theorem GU (K:List Oid) (i:Oid):∀ m:Mem,(m.aI (gone K)) i=if i ∈ K then none else m i:=by
 induction K with
 | nil=>intro m;simp [gone,Mem.aI]
 | cons j K ih =>
  intro m
  show ((m.set j none).aI (gone K)) i=_
  rw [ih]
  by_cases h1:i ∈ K
  ·rw [if_pos h1,if_pos (List.mem_cons_of_mem _ h1)]
  ·rw [if_neg h1]
   by_cases h2:i=j
   ·subst h2;rw [if_pos List.mem_cons_self];simp [Mem.set]
   ·rw [if_neg (fun h=>(List.mem_cons.1 h).elim h2 h1)];simp [Mem.set,h2]
theorem zI {P:Program} {rs:List ResultVar} {fr:List (Nat × AV)} {m:Mem} {c:Nat} {val:AV} {N M:List Oid} {F G:Oid→aw} {Rp:AV→List (Oid × Option aw)→Prop} (h1:gR P m fr rs=some val) :
  ez P rs (bk (N,F)++bk (M,G)) (fun v u=>v=val∧u=gone (N++M)) Rp .ret ⟨fr,m,c,[]⟩ :=
 bO val _ h1 ⟨rfl,rfl⟩ fun i o h=>by
  rw [GU] at h
  split at h
  ·cases h
  ·rename_i h2
   obtain ⟨q,k1,rfl,rfl⟩:=Mem.dM h
   rcases List.mem_append.1 k1 with k1|k1
   ·exact absurd (List.mem_append_left _ (cA.1 k1).1) h2
   ·exact absurd (List.mem_append_right _ (cA.1 k1).1) h2
theorem zJ {p:Oid} {N:List Oid} {c k:Nat} (h:bE p N):(∀ i,i ∈ N→¬ i=Oid.sub c k p)=True:=eq_true fun i hi e=>h.mem (e ▸ hi)
theorem CL {a:Oid} {N:List Oid} (h:a ∉ N):(∀ i,i ∈ N→¬ i=a)=True:=eq_true fun i hi e=>h (e ▸ hi)
theorem CM {a:Oid} {N:List Oid} (h:a ∉ N):(∀ i,i ∈ N→¬ a=i)=True:=eq_true fun i hi e=>h (e ▸ hi)
attribute [go_sem] CK zH GR GS zJ CL CM
end Go.Ab
namespace Go.Ab
theorem aF.nd {P:Program} [Laid P] {o:Oper} {ρ:Operand→AV} {sp:Oid→Prop} {e:Eff} (h:aF P o ρ sp e):lj P o ρ sp e.need (fun v u=>v=e.val∧u=e.upd) (fun _ _=>False) :=
 fun x g a w m hm hn hop hs hng next Q K _=>h x g a w m hm hn hop hs hng next Q fun g' v w' h1 h2 h3 h4=>K _ _ ⟨rfl,rfl⟩ g' v w' h1 h2 h3 h4
end Go.Ab
namespace Go.Proofs.YtfbnaalhioogoaaGreatDoor
open Go Go.Ab
set_option maxRecDepth 20000
set_option maxHeartbeats 4000000
section
variable {rs:List ResultVar} {need:List (Oid × aw)} {fr:List (Nat × AV)} {m:Mem} {c:Nat} {r:Rs AV} {v:AV} {u0:List (Oid × Option aw)} {R Rp:AV→List (Oid × Option aw)→Prop}
theorem sx (h1:gR Tryz.prog m fr rs=some v) (hr:r = .go v) (h3:∀ i o,((Mem.of need).aI u0) i=some o→m i=some o):ez Tryz.prog rs need (fun w u=>r = .go w∧u=u0) Rp .ret ⟨fr,m,c,[]⟩:=bO v u0 h1 ⟨hr,rfl⟩ h3
theorem lE (h1:gR Tryz.prog m fr rs=some v) (hr:r = .go v) (h3:∀ i o,((Mem.of need).aI u0) i=some o→m i=some o):ez Tryz.prog rs need (fun w u=>r = .go w∧u=u0) Rp .normal ⟨fr,m,c,[]⟩:=b8 v u0 h1 ⟨hr,rfl⟩ h3
theorem cD {e:Int} (hr:r = .err e) (h3:∀ i o,((Mem.of need).aI u0) i=some o→m i=some o):ez Tryz.prog rs need R (fun pv u=>∃ e,r = .err e∧pv=sv e∧u=u0) (.panic (sv e)) ⟨fr,m,c,[]⟩:=⟨u0,⟨e,hr,rfl,rfl⟩,h3⟩
end
theorem bW (e:Int) (p:Oid):af Tryz.prog 41 [.bool true,.int .i64 e] (Oid.under p) ⟨[],.tuple [],[]⟩:=by
 refine aJ (n:=8) (rs:=[]) Tryz.func41 rfl rfl (by decide) rfl rfl rfl ?_;rintro x rfl hrd hng
 refine qw0 ?_
 exact bZ (b8 _ _ rfl ⟨rfl,rfl⟩ fun _ _ h=>h)
theorem cL (e:Int) (p:Oid):Cm Tryz.prog 41 [.bool false,.int .i64 e] (Oid.under p) [] (sv e) []:=by
 refine gT (n:=8) (rs:=[]) Tryz.func41 rfl rfl (by decide) rfl rfl rfl ?_;rintro x rfl hrd hng
 refine qr0 ?_
 refine aq rfl rfl ?_
 (try ((first|refine zn ?_|refine ze ?_|refine zk ?_);with_reducible (constructor;repeat constructor));try refine zl ?_)
 refine aj nmd [] hng (by kernel_rfl) fun hf C S K hC1 hC hS hK=>?_;simp (disch:=first|omega|assumption) only [go_sem]
 refine hS _ _ _ (fun o' hd ho'=>zG ho' rfl) (fun _ h=>by cases h) (fun _ _ h=>h.elim) ?_
 rintro _ _ ⟨rfl,rfl⟩
 exact ⟨[],⟨rfl,rfl⟩,fun _ _ h=>h⟩
theorem ug (q:Oid) (z:Int) (p:Oid) (hq:¬ Oid.under p q):CH Tryz.prog 39 [.ptr q 0] (Oid.under p) [(q,.cells [.int .i64 z])] [] (fun pv u=>∃ e,pv=sv e∧u=[(q,some (.cells [.int .i64 e]))]):=by
 refine CJ (n:=10) (id:=0) (a:=3) (b:=2) Tryz.func39 rfl rfl (by decide) rfl rfl rfl rfl rfl rfl rfl rfl rfl rfl (fun x hp hrd hng=>?_) (fun pv u ⟨e,hpv,hu⟩ x hp hrd hng=>?_)
 ·subst hp
  (try ((first|refine zn ?_|refine ze ?_|refine zk ?_);with_reducible (constructor;repeat constructor));try refine zl ?_)
  refine aj nmd [] hng (by kernel_rfl) fun hf C S K hC1 hC hS hK=>?_;simp (disch:=first|omega|assumption) only [go_sem]
  refine hK ?_;clear hK hS hC hC1 K S C hf
  (try ((first|refine zn ?_|refine ze ?_|refine zk ?_);with_reducible (constructor;repeat constructor));try refine zl ?_)
  refine ar rfl rfl ?_
  (try ((first|refine zn ?_|refine ze ?_|refine zk ?_);with_reducible (constructor;repeat constructor));try refine zl ?_)
  exact bZ ⟨rfl,fun i o h=>h⟩
 ·subst hp;subst hpv;subst hu
  (try ((first|refine zn ?_|refine ze ?_|refine zk ?_);with_reducible (constructor;repeat constructor));try refine zl ?_)
  refine aj nmd [] hng (by kernel_rfl) fun hf C S K hC1 hC hS hK=>?_;simp (disch:=first|omega|assumption) only [go_sem,sv]
  refine hK ?_;clear hK hS hC hC1 K S C hf
  (try ((first|refine zn ?_|refine ze ?_|refine zk ?_);with_reducible (constructor;repeat constructor));try refine zl ?_)
  refine aq rfl rfl ?_
  (try ((first|refine zn ?_|refine ze ?_|refine zk ?_);with_reducible (constructor;repeat constructor));try refine zl ?_)
  refine aj nmd [] hng (by kernel_rfl) fun hf C S K hC1 hC hS hK=>?_;simp (disch:=first|omega|assumption) only [go_sem,sv]
  refine hS _ _ _ (fun o' hd ho'=>(o9 ho' rfl (fun u w=>by kernel_rfl)).nd) (fun _ h=>by cases h) ?_ (fun _ _ h=>h.elim)
  rintro _ _ ⟨rfl,rfl⟩
  simp (disch:=first|omega|assumption) only [go_sem,Oid.ab hq,Oid.aa hq]
  refine hK ?_;clear hK hS hC hC1 K S C hf
  refine bZ ⟨rfl,fun i o h=>?_⟩
  simp only [Mem.of,Mem.aI,Mem.set,Mem.emp] at h ⊢
  split at h<;>simp_all
section
variable {p pp q:Oid} {o o':aw} {N:List Oid} {F G:Oid→aw} {fr:List (Nat × AV)} {m:Mem} {c:Nat} {z e:Int} {val:AV} {rs:List ResultVar}
theorem eW {i c:Nat} (h:i < c):¬ Oid.under (.sub c 0 p) (.sub i 1 p)∧¬ Oid.under (.sub c 0 p) (.sub i 0 p)∧¬ Oid.under (.sub c 0 p) (.sub i 2 p):=by
 refine ⟨fun hu=>?_,fun hu=>?_,fun hu=>?_⟩ <;>
 ·have:=(Oid.apart hu (Oid.az _)).1
  omega
theorem mq (hu:¬ Oid.under (.sub c 0 p) q) (hq:m q=some (.cells [.int .i64 z])) (h1:gR Tryz.prog (m.set q (some (.cells [.int .i64 e]))) fr rs=some val)
  (h3:m pp=some o) (h4:∀ x,x ∈ bk (N,G)→m x.1=some x.2) (hqp:¬ pp=q) (hqN:q ∉ N) :
  xv Tryz.prog p rs ((pp,o)::bk (N,F)) (fun v u=>v=val∧u=sb N G) (fun _ _=>False) (.panic (sv e)) ⟨fr,m,c,[.call (.func 39) [] [.ptr q 0]]⟩ :=
 ⟨_,_,_,_,rfl,ug q z _ hu,fun x hx=>by rw [List.mem_singleton.1 hx];exact hq,_,⟨e,rfl,rfl⟩,val,_,h1,⟨rfl,rfl⟩,fL (A0:=[(pp,o)]) (U:=[]) (fun _ h=>by cases h) (fun x hx _=>by
  rw [List.mem_singleton.1 hx]
  show (m.set q _) pp=_
  simp only [Mem.set,if_neg hqp];exact h3) fun x hx=>by
  show (m.set q _) x.1=_
  simp only [Mem.set]
  rw [if_neg fun e:x.1=q=>hqN (e ▸ (cA.1 hx).1)];exact h4 x hx⟩
theorem pa {Rp:AV→List (Oid × Option aw)→Prop} (hu:¬ Oid.under (.sub c 0 p) q) (hq:m q=some (.cells [.int .i64 z])) (h1:gR Tryz.prog m fr rs=some val) (h3:m pp=some o) (h4:∀ x,x ∈ bk (N,G)→m x.1=some x.2) :
  xv Tryz.prog p rs ((pp,o)::bk (N,F)) (fun v u=>v=val∧u=sb N G) Rp .ret ⟨fr,m,c,[.call (.func 39) [] [.ptr q 0]]⟩ :=
 ⟨_,_,_,_,rfl,ug q z _ hu,fun x hx=>by rw [List.mem_singleton.1 hx];exact hq,val,_,h1,⟨rfl,rfl⟩,fL (A0:=[(pp,o)]) (U:=[]) (fun _ h=>by cases h) (fun x hx _=>by rw [List.mem_singleton.1 hx];exact h3) h4⟩
end
theorem uh (s:Str) (hs:s.length≤140737488355328) (p:Oid):af Tryz.prog 111 [.str s] (Oid.under p) ⟨[],.str (bD s),[]⟩:=by
 have hk:=ly s 47 s.length
 refine aJ (n:=8) (rs:=[.tmp 2]) Tryz.func111 rfl rfl (by decide) rfl rfl rfl ?_;rintro x rfl hrd hng
 refine qr0 ?_
 refine aj nmd [] hng (by kernel_rfl) fun hf C S K hC1 hC hS hK=>?_;simp (disch:=first|omega|assumption) only [go_sem]
 refine hC1 _ (kM s 47 hs _) qs0 ?_
 simp (disch:=first|omega|assumption) only [go_sem]
 have hm:(if 0 < bN s 47 s.length then bN s 47 s.length else 0)=((bN s 47 s.length).toNat:Int):=by split<;>omega
 simp (disch:=first|omega|assumption) only [go_sem,hm]
 refine hK ?_;clear hK hS hC hC1 K S C hf
 refine qw0 ?_
 exact aA (bd (congrArg AV.str (by unfold bD;simp)))
end Go.Proofs.YtfbnaalhioogoaaGreatDoor
namespace Go.Proofs.YtfbnaalhioogoaaGreatDoor
open Go Go.Ab
set_option maxRecDepth 20000
set_option maxHeartbeats 4000000
theorem nbu {N:List Oid} {G:Oid→aw} (m:Mem):∀ x,x ∈ bk (N,G)→(m.aI (sb N G)) x.1=some x.2:=fun x hx=>by
 obtain ⟨h1,h2⟩:=cA.1 hx
 rw [dV,if_pos h1,h2]
theorem nbA {A:List (Oid × aw)} {N:List Oid} {F:Oid→aw} (hA:∀ e ∈ A,e.1 ∉ N) (Bs:List Bk):∀ x,x ∈ bk (N,F)→Mem.blk A ((N,F)::Bs) x.1=some x.2:=by
 induction A with
 | nil=>intro x hx;obtain ⟨h1,h2⟩:=cA.1 hx;rw [bG,if_pos h1,h2]
 | cons a A ih =>
  intro x hx
  rw [Mem.gW,if_neg fun e:x.1=a.1=>hA a List.mem_cons_self (e ▸ (cA.1 hx).1)]
  exact ih (fun e he=>hA e (List.mem_cons_of_mem _ he)) x hx
def wkC (pp:Oid) (fol:Bool) (w:Wk):aw:=.cells [.ptr pp 0,.str w.pl,.list 1 (w.todo.map AV.str),.int .i64 w.links,.bool fol,.bool w.dir]
def prC (st:Oid) (cwd:Str) (um:Int):aw:=.cells [.ptr st 0,.str cwd,.int .i64 um]
def inR (b:Bits):Rs AV:=if inE b=0 then .go (.tuple []) else .err (inE b)
theorem zK {wk pp st:Oid} {N:List Oid} {F F1:Oid→aw} {L:PL} (fol:Bool) (w:Wk) (cwd:Str) (um:Int) (h1:¬ wk=pp) (hwN:wk ∉ N) (hpN:pp ∉ N)
  (hA:RP st N L [(w.pl,false)] F F1) (p:Oid) (hp:p.mono=false) (hw:¬ Oid.under p wk) (hpp:¬ Oid.under p pp) (hO:bE p N) :
  dL 189 [.ptr wk 0] (Oid.under p) ((wk,wkC pp fol w)::(pp,prC st cwd um)::bk (N,F)) (inR (aO L w.pl)) (sb N F1):=by
 obtain ⟨_,hA,rfl⟩:=hA
 rename_i F1
 have hA':∀ p,p.mono=false→bE p N→af Tryz.prog 37 [.ptr st 0,.str w.pl] (Oid.under p) ⟨bk (N,F),(aO L w.pl).av,sb N F1⟩:=hA
 clear hA
 generalize aO L w.pl=B at hA' ⊢
 obtain ⟨ek,em,el⟩:=B
 simp only [Bits.av] at hA'
 have h2:¬ pp=wk:=fun e=>h1 e.symm
 have hmem:∀ (o:aw) (i o':_),((Mem.of ((wk,wkC pp fol w)::(pp,prC st cwd um)::bk (N,F))).aI (sb N F1)) i=some o'→Mem.blk [(wk,wkC pp fol w),(pp,prC st cwd um),(.sub 0 12 p,o)] [(N,F1)] i=some o':=fun o =>
  fL (A0:=[(wk,wkC pp fol w),(pp,prC st cwd um)]) (U:=[]) (fun _ h=>by cases h) (fun q hq _=>by
   simp only [List.mem_cons,List.not_mem_nil,or_false] at hq
   rcases hq with rfl|rfl<;>simp [Mem.gW,Oid.ab hw,Oid.aa hw,Oid.ab hpp,Oid.aa hpp,h2]) (by
   show ∀ q,q ∈ bk _→_
   rw [oR hwN,oR hpN,Cl hO,vK];trivial)
 unfold wkC prC at hmem ⊢
 refine gT (n:=28) (rs:=[]) Tryz.func189 rfl rfl (by decide) rfl rfl rfl ?_;rintro x rfl hrd hng
 rw [fm]
 (try ((first|refine zn ?_|refine ze ?_|refine zk ?_);with_reducible (constructor;repeat constructor));try refine zl ?_)
 refine cX nmd [] [(3,12),(6,12),(10,12),(11,12)] mixed hng (by kernel_rfl) [2] fun hf C S K hC hS hK=>?_;simp (disch:=first|omega|assumption) only [go_sem,Oid.ab hw,Oid.aa hw,Oid.ab hpp,Oid.aa hpp,h1,h2]
 refine hC _ (hA' _ (ax rfl hp) (hO.sub _ _)) (by show ∀ q,q ∈ bk _→_;rw [oR hwN,oR hpN,vK];trivial) ?_
 simp (disch:=first|omega|assumption) only [go_sem,Oid.ab hw,Oid.aa hw,Oid.ab hpp,Oid.aa hpp,h1,h2,hwN,hpN,hO]
 (first|refine hK (aV rfl) ?_|refine hK (by simp (disch:=first|omega|assumption) only [go_sem,List.reverse_cons,List.reverse_nil,ne_eq,not_false_eq_true,implies_true]) ?_);clear hK hS hC K S C hf
 by_cases c1:ek=0
 ·(try ((first|refine zn ?_|refine ze ?_|refine zk ?_);with_reducible (constructor;repeat constructor));try refine zl ?_)
  refine aj nmd [] hng (by kernel_rfl) fun hf C S K hC1 hC hS hK=>?_;simp (disch:=first|omega|assumption) only [go_sem,Oid.ab hw,Oid.aa hw,Oid.ab hpp,Oid.aa hpp,c1,decide_true,decide_false,ne_eq,not_true_eq_false,not_false_eq_true]
  refine hC _ _ _ (cL 10 _) (fun _ h=>by cases h) (fun _ _ h=>h.elim) ?_
  rintro _ _ ⟨rfl,rfl⟩
  exact cD (by simp [inR,inE,c1]) (hmem _)
 refine qr .o (ai (uu hw) (ai (uu hpp) c1)) (cq (bW 10 _) trivial) ?_
 by_cases c2:ek=2
 case neg =>
  (try ((first|refine zn ?_|refine ze ?_|refine zk ?_);with_reducible (constructor;repeat constructor));try refine zl ?_)
  refine aj nmd [] hng (by kernel_rfl) fun hf C S K hC1 hC hS hK=>?_;simp (disch:=first|omega|assumption) only [go_sem,Oid.ab hw,Oid.aa hw,Oid.ab hpp,Oid.aa hpp,c2,decide_true,decide_false,ne_eq,not_true_eq_false,not_false_eq_true]
  refine hC _ _ _ (cL 15 _) (fun _ h=>by cases h) (fun _ _ h=>h.elim) ?_
  rintro _ _ ⟨rfl,rfl⟩
  exact cD (by simp [inR,inE,c1,c2]) (hmem _)
 refine qr .o (ai (uu hw) (ai (uu hpp) c2)) (cq (bW 15 _) trivial) ?_
 by_cases c3:iQ em 1=0
 ·(try ((first|refine zn ?_|refine ze ?_|refine zk ?_);with_reducible (constructor;repeat constructor));try refine zl ?_)
  refine aj nmd [] hng (by kernel_rfl) fun hf C S K hC1 hC hS hK=>?_;simp (disch:=first|omega|assumption) only [go_sem,Oid.ab hw,Oid.aa hw,Oid.ab hpp,Oid.aa hpp,c3,decide_true,decide_false,ne_eq,not_true_eq_false,not_false_eq_true]
  refine hC _ _ _ (cL 18 _) (fun _ h=>by cases h) (fun _ _ h=>h.elim) ?_
  rintro _ _ ⟨rfl,rfl⟩
  exact cD (by simp [inR,inE,c1,c2,c3]) (hmem _)
 refine qr .o (ai (uu hw) (ai (uu hpp) c3)) (cq (bW 18 _) trivial) ?_
 exact bZ (lE (v:=.tuple []) rfl (by simp [inR,inE,c1,c2,c3]) (hmem _))
end Go.Proofs.YtfbnaalhioogoaaGreatDoor
namespace Go.Proofs.YtfbnaalhioogoaaGreatDoor
open Go Go.Ab
set_option maxRecDepth 20000
set_option maxHeartbeats 4000000
def unR {α:Type}:Rs α→Rs AV
 | .err e=>.err e
 | .go _=>.go (.tuple [])
def stU (wk pp:Oid) (fol:Bool):Rs Wk→List (Oid × Option aw)
 | .err _=>[(wk,none)]
 | .go w=>[(wk,some (wkC pp fol w))]
theorem GV {a:Oid} {o o':aw} {m:Mem} (h:m a=some o'):∀ i q,((Mem.of [(a,o)]).aI [(a,some o')]) i=some q→m i=some q:=fun i q k=>by
 simp only [Mem.of,Mem.aI,Mem.set,Mem.emp] at k
 split at k
 ·rename_i e;rw [e,h];exact k
 ·first|cases k|(split at k<;>first|contradiction|cases k)
theorem ui {a:Oid} {o:aw} {m:Mem}:∀ i q,((Mem.of [(a,o)]).aI [(a,none)]) i=some q→m i=some q:=fun i q k=>by
 simp only [Mem.of,Mem.aI,Mem.set,Mem.emp] at k
 split at k
 ·cases k
 ·first|cases k|(split at k<;>first|contradiction|cases k)
theorem GW {wk pp:Oid} (fol:Bool) (w:Wk) (d:Str) (hl:w.links≤8) (hd:d.length≤4000000) (ht:w.todo.length≤4000000) (p:Oid) (hw:¬ Oid.under p wk) :
  dL 190 [.ptr wk 0,.str d] (Oid.under p) [(wk,wkC pp fol w)] (unR (fg w w.todo d)) (stU wk pp fol (fg w w.todo d)):=by
 obtain ⟨pl,t,l,dir⟩:=w
 simp only at hl ht
 have hpc:=fun p=>qL d (by omega) p
 have hpl:(cO d).length≤d.length+1:=by
  have h1:=oP 47 d
  have h2:=List.length_filter_le (fun t:Str=>!t.isEmpty) (aU 47 d)
  unfold cO;omega
 have hsf:=fun p=>iO d (by omega) p
 unfold wkC
 refine gT (n:=52) (rs:=[]) Tryz.func190 rfl rfl (by decide) rfl rfl rfl ?_;rintro x rfl hrd hng
 refine qr .o (uu hw) trivial ?_
 by_cases c1:8 < l+1
 ·have e1:¬ (l:Int)+1≤8:=by omega
  have hL:fg ⟨pl,t,l,dir⟩ t d = .err 17:=by simp only [fg,if_pos c1]
  simp only [hL]
  refine aj nmd [] hng (by kernel_rfl) fun hf C S K hC1 hC hS hK=>?_;simp (disch:=first|omega|assumption) only [go_sem,Oid.ab hw,Oid.aa hw,e1,decide_false]
  refine hC _ _ _ (cL 17 _) (fun _ h=>by cases h) (fun _ _ h=>h.elim) ?_
  rintro _ _ ⟨rfl,rfl⟩
  exact cD rfl ui
 have e1:(l:Int)+1≤8:=by omega
 refine qr .o (ai (uu hw) e1) (cq (bW 17 _) trivial) ?_
 by_cases c2:d=[]
 ·have hL:fg ⟨pl,t,l,dir⟩ t d = .err 10:=by simp only [fg,if_neg c1,if_pos c2]
  simp only [hL]
  refine aj nmd [] hng (by kernel_rfl) fun hf C S K hC1 hC hS hK=>?_;simp (disch:=first|omega|assumption) only [go_sem,Oid.ab hw,Oid.aa hw,c2,decide_true,decide_false,ne_eq,not_true_eq_false,not_false_eq_true]
  refine hC _ _ _ (cL 10 _) (fun _ h=>by cases h) (fun _ _ h=>h.elim) ?_
  rintro _ _ ⟨rfl,rfl⟩
  exact cD rfl ui
 have hL:fg ⟨pl,t,l,dir⟩ t d = .go ⟨if d.getD 0 0=47 then [] else pl,cO d++t,l+1,dir || (decide (t=[]) && iv d)⟩:=by simp only [fg,if_neg c1,if_neg c2]
 simp only [hL]
 have hpx:=fun p=>pW d c2 (by omega) p
 generalize iv d=ed at hsf hL
 refine qr .o (ai (uu hw) c2) (cq (bW 10 _) trivial) ?_
 (repeat (first|(refine aq rfl rfl ?_)|(refine ar rfl rfl ?_)|(refine aj nmd [] hng (by kernel_rfl) fun hf C S K hC1 hC hS hK=>?_;simp (disch:=first|omega|assumption) only [go_sem,List.length_map];refine hK ?_;clear hK hS hC hC1 K S C hf)|((first|refine zn ?_|refine ze ?_|refine zk ?_);with_reducible (constructor;repeat constructor);try refine zl ?_)))
 refine cQ [0,1] (fun s'=>∃ c':Nat,s' = ⟨[(0,.ptr wk 0),(1,.str d)],Mem.of [(wk,.cells [.ptr pp 0,.str pl,.list 1 (t.map AV.str),.int .i64 ((l:Int)+1),.bool fol,.bool (dir || (decide (t=[]) && ed))])],c',[]⟩) ?_ ?_
 ·refine aX rfl rfl (fun hb=>?_) (fun hb=>?_)
  ·obtain rfl:t=[]:=List.eq_nil_of_length_eq_zero (by omega)
   cases dir with
   | true =>
    refine qr (.d [] [(5,31)] []) (uu hw) trivial ?_
    exact aT ⟨_,rfl⟩
   | false =>
    refine qr (.d [] [(5,31)] []) (uu hw) (cq (hsf _) trivial) ?_
    exact aT ⟨_,rfl⟩
  ·have ht0:¬ t=[]:=fun e=>hb (by rw [e];rfl)
   refine qw0 ?_
   rw [decide_eq_false ht0,Bool.false_and,Bool.or_false]
   exact aT ⟨_,rfl⟩
 rintro s' ⟨c,rfl⟩
 (repeat (first|(refine aq rfl rfl ?_)|(refine ar rfl rfl ?_)|(refine aj nmd [] hng (by kernel_rfl) fun hf C S K hC1 hC hS hK=>?_;simp (disch:=first|omega|assumption) only [go_sem];(repeat ((first|refine hC1 _ (hpx _) (by simp (disch:=first|omega|assumption) only [go_sem]) ?_);simp (disch:=first|omega|assumption) only [go_sem]));refine hK ?_;clear hK hS hC hC1 K S C hf)|((first|refine zn ?_|refine ze ?_|refine zk ?_);with_reducible (constructor;repeat constructor);try refine zl ?_)))
 refine cQ [0,1] (fun s'=>∃ c':Nat,s' = ⟨[(0,.ptr wk 0),(1,.str d)],Mem.of [(wk,.cells [.ptr pp 0,.str (if d.getD 0 0=47 then [] else pl),.list 1 (t.map AV.str),.int .i64 ((l:Int)+1),.bool fol,.bool (dir || (decide (t=[]) && ed))])],c',[]⟩) ?_ ?_
 ·refine aX rfl rfl (fun hb=>?_) (fun hb=>?_)
  ·refine qw (uu hw) ?_
   rw [if_pos hb]
   exact aT ⟨_,rfl⟩
  ·refine qw0 ?_
   rw [if_neg hb]
   exact aT ⟨_,rfl⟩
 clear c
 rintro s' ⟨c,rfl⟩
 have hw2:¬ Oid.under (.sub 1 1 (.sub c 2 x.p)) wk:=fun h=>hw (Oid.ae (Oid.ae h))
 refine oT ?_
 (try ((first|refine zn ?_|refine ze ?_|refine zk ?_);with_reducible (constructor;repeat constructor));try refine zl ?_)
 refine cX nmd [] [(2,6)] mixed hng (by kernel_rfl) [] fun hf C S K hC hS hK=>?_;simp (disch:=first|omega|assumption) only [go_sem,Oid.ab hw,Oid.aa hw,List.length_map]
 refine hC _ (hpc _) qs0 ?_
 simp (disch:=first|omega|assumption) only [go_sem,Oid.ab hw,Oid.aa hw,List.length_map,Oid.ab hw2,Oid.aa hw2]
 (first|refine hK (aV rfl) ?_|refine hK (by simp (disch:=first|omega|assumption) only [go_sem,List.reverse_cons,List.reverse_nil,ne_eq,not_false_eq_true,implies_true]) ?_);clear hK hS hC K S C hf
 refine bZ (iw (.sub c 7 x.p) wk 1 (List.map AV.str (cO d)++List.map AV.str t) _ [.ptr pp 0,.str (if d.getD 0 0=47 then [] else pl),.list 1 (List.map AV.str (cO d)++List.map AV.str t),.int .i64 ((l:Int)+1),.bool fol,.bool (dir || (decide (t=[]) && ed))]
  (by simp [Mem.ao,Oid.ab hw,Oid.aa hw]) (by simp [Mem.ao];rfl) (by simp [Oid.ab hw,Oid.aa hw]) (.keep (.keep (.gD (by simp) (.keep (.keep (.keep .nil)))))) (.now (lE (v:=.tuple []) rfl rfl (GV ?_))))
 simp only [Mem.set,if_true,wkC,List.map_append]
 rfl
end Go.Proofs.YtfbnaalhioogoaaGreatDoor
namespace Go.Proofs.YtfbnaalhioogoaaGreatDoor
open Go Go.Ab
set_option maxRecDepth 20000
set_option maxHeartbeats 4000000
def stR (x:Rds × Rs Wk):Rs AV:=unR x.2
def stM (wk pp:Oid) (fol:Bool) (N:List Oid) (F:Oid→aw) (r:Rs Wk):List (Oid × Option aw):=stU wk pp fol r++sb N F
section
variable {wk pp:Oid} {o o' q:aw} {N:List Oid} {F G:Oid→aw} {m:Mem}
theorem sy (fol:Bool) (w:Wk) (h1:m wk=some (wkC pp fol w)) (h2:m pp=some q) (h3:∀ x,x ∈ bk (N,G)→m x.1=some x.2) :
  ∀ i v,((Mem.of ((wk,o)::(pp,q)::bk (N,F))).aI (stM wk pp fol N G (.go w))) i=some v→m i=some v :=
 fL (A0:=[(wk,o),(pp,q)]) (U:=[(wk,some (wkC pp fol w))]) (fun x hx v h=>by
  rw [List.mem_singleton.1 hx] at h ⊢
  rw [← h];exact h1) (fun x hx h=>by
  simp only [List.mem_cons,List.not_mem_nil,or_false] at hx
  rcases hx with rfl|rfl
  ·exact absurd rfl (h _ (List.mem_singleton.2 rfl))
  ·exact h2) h3
theorem sA (fol:Bool) (e:Int) (h2:m pp=some q) (h3:∀ x,x ∈ bk (N,G)→m x.1=some x.2) :
  ∀ i v,((Mem.of ((wk,o)::(pp,q)::bk (N,F))).aI (stM wk pp fol N G (.err e))) i=some v→m i=some v :=
 fL (A0:=[(wk,o),(pp,q)]) (U:=[(wk,none)]) (fun x hx v h=>by
  rw [List.mem_singleton.1 hx] at h
  cases h) (fun x hx h=>by
  simp only [List.mem_cons,List.not_mem_nil,or_false] at hx
  rcases hx with rfl|rfl
  ·exact absurd rfl (h _ (List.mem_singleton.2 rfl))
  ·exact h2) h3
end
theorem GX {wk pp st:Oid} {N:List Oid} {F F':Oid→aw} {L:PL} (hL:∀ n,(aO L n).l.length≤4000000) (fol:Bool) (pl n:Str) (t:List Str) (l:Nat) (dir:Bool) (cwd:Str) (um:Int) (h1:¬ wk=pp) (hwN:wk ∉ N) (hpN:pp ∉ N)
  (hl:l≤8) (ht:t.length≤4000000) (hpl:pl.length≤100000000) (hn:n.length≤100000000)
  (hA:RP st N L (cn L fol ⟨pl,n::t,l,dir⟩ n t).1 F F') (p:Oid) (hp:p.mono=false) (hw:¬ Oid.under p wk) (hpp:¬ Oid.under p pp) (hO:bE p N) :
  dL 109 [.ptr wk 0] (Oid.under p) ((wk,wkC pp fol ⟨pl,n::t,l,dir⟩)::(pp,prC st cwd um)::bk (N,F))
   (stR (cn L fol ⟨pl,n::t,l,dir⟩ n t)) (stM wk pp fol N F' (cn L fol ⟨pl,n::t,l,dir⟩ n t).2):=by
 have h2:¬ pp=wk:=fun e=>h1 e.symm
 have hin:∀ F1,RP st N L [(pl,false)] F F1→∀ p,p.mono=false→¬ Oid.under p wk→¬ Oid.under p pp→bE p N→dL 189 [.ptr wk 0] (Oid.under p) ((wk,wkC pp fol ⟨pl,t,l,dir⟩)::(pp,prC st cwd um)::bk (N,F)) (inR (aO L pl)) (sb N F1) :=
  fun F1 h p hp hw hpp hO=>zK fol ⟨pl,t,l,dir⟩ cwd um h1 hwN hpN h p hp hw hpp hO
 have hab:=fun p=>uh pl (by omega) p
 have hal:=kO pl
 by_cases c0:inE (aO L pl)=0
 case neg =>
  have hS:cn L fol ⟨pl,n::t,l,dir⟩ n t=([(pl,false)],.err (inE (aO L pl))):=by simp only [cn,if_pos c0]
  rw [hS] at hA ⊢
  have hin':=hin _ hA
  unfold inR at hin'
  simp only [if_neg c0] at hin'
  generalize inE (aO L pl)=e at hin' hS ⊢
  unfold wkC prC at hin' ⊢
  refine gT (n:=96) (rs:=[]) Tryz.func109 rfl rfl (by decide) rfl rfl rfl ?_;rintro x rfl hrd hng
  rw [fm]
  refine qr .o (ai (uu hw) (ai (uu hpp) (ai h1 h2))) trivial ?_
  refine qr .o (ai (uu hw) (ai (uu hpp) (ai h1 h2))) trivial ?_
  refine aj nmd [] hng (by kernel_rfl) fun hf C S K hC1 hC hS hK=>?_;simp (disch:=first|omega|assumption) only [go_sem,Oid.ab hw,Oid.aa hw,Oid.ab hpp,Oid.aa hpp,h1,h2]
  refine hC _ _ _ (dL.pn (hin' _ (ax rfl hp) (fun h=>hw (Oid.ae h)) (fun h=>hpp (Oid.ae h)) (hO.sub _ _)) rfl) ?_ (fun _ _ h=>h.elim) ?_
  ·exact (by simp only [List.mem_cons,forall_eq_or_imp];exact ⟨by simp (disch:=first|omega|assumption) only [go_sem,Oid.ab hw,Oid.aa hw,Oid.ab hpp,Oid.aa hpp,h1,h2,hwN,hpN,hO],by simp (disch:=first|omega|assumption) only [go_sem,Oid.ab hw,Oid.aa hw,Oid.ab hpp,Oid.aa hpp,h1,h2,hwN,hpN,hO],(by first|exact nbu _|exact nbA (by simp [hwN,hpN,hO.mem]) _)⟩)
  ·rintro _ _ ⟨rfl,rfl⟩
   exact cD rfl (sA fol e (by show _=some _;simp (disch:=first|omega|assumption) only [go_sem,Oid.ab hw,Oid.aa hw,Oid.ab hpp,Oid.aa hpp,h1,h2,hwN,hpN,hO]) (by first|exact nbu _|exact nbA (by simp [hwN,hpN,hO.mem]) _))
 have hi0:∀ (rd:Rds) (r:Rs Wk),cn L fol ⟨pl,n::t,l,dir⟩ n t=((pl,false)::rd,r)→∃ F1,RP st N L rd F1 F'∧∀ p,p.mono=false→¬ Oid.under p wk→¬ Oid.under p pp→bE p N→af Tryz.prog 189 [.ptr wk 0] (Oid.under p) ⟨(wk,wkC pp fol ⟨pl,t,l,dir⟩)::(pp,prC st cwd um)::bk (N,F),.tuple [],sb N F1⟩:=fun rd r hS=>by
  rw [hS] at hA
  obtain ⟨F1,k1,k2⟩:=hA
  refine ⟨F1,k2,fun p hp hw hpp hO=>dL.ok (hin F1 ⟨F1,k1,rfl⟩ p hp hw hpp hO) ?_⟩
  unfold inR;rw [if_pos c0]
 by_cases c1:32 < n.length
 ·have hS:cn L fol ⟨pl,n::t,l,dir⟩ n t=([(pl,false)],.err 2):=by simp only [cn,c0,not_true_eq_false,if_false,if_pos c1]
  obtain ⟨F1,rfl,hin'⟩:=hi0 _ _ hS
  rw [hS]
  have e1:¬ (n.length:Int)≤32:=by omega
  unfold wkC prC at hin' ⊢
  refine gT (n:=96) (rs:=[]) Tryz.func109 rfl rfl (by decide) rfl rfl rfl ?_;rintro x rfl hrd hng
  rw [fm]
  refine kr .o (ai (uu hw) (ai h1 (ai h2 hwN))) trivial ?_
  refine kr .o (ai (uu hw) (ai h1 (ai h2 hwN))) trivial ?_
  refine aj nmd [] hng (by kernel_rfl) fun hf C S K hC1 hC hS hK=>?_;simp (disch:=first|omega|assumption) only [go_sem,Oid.ab hw,Oid.aa hw,Oid.ab hpp,Oid.aa hpp,h1,h2,hwN,hpN,hO]
  refine hC1 _ (hin' _ (ax rfl hp) (fun h=>hw (Oid.ae h)) (fun h=>hpp (Oid.ae h)) (hO.sub _ _)) (by simp only [List.mem_cons,forall_eq_or_imp];exact ⟨by simp (disch:=first|omega|assumption) only [go_sem,Oid.ab hw,Oid.aa hw,Oid.ab hpp,Oid.aa hpp,h1,h2,hwN,hpN,hO],by simp (disch:=first|omega|assumption) only [go_sem,Oid.ab hw,Oid.aa hw,Oid.ab hpp,Oid.aa hpp,h1,h2,hwN,hpN,hO],(by first|exact nbu _|exact nbA (by simp [hwN,hpN,hO.mem]) _)⟩) ?_
  simp (disch:=first|omega|assumption) only [go_sem,Oid.ab hw,Oid.aa hw,Oid.ab hpp,Oid.aa hpp,h1,h2,hwN,hpN,hO]
  refine hK ?_;clear hK hS hC hC1 K S C hf
  (try ((first|refine zn ?_|refine ze ?_|refine zk ?_);with_reducible (constructor;repeat constructor));try refine zl ?_)
  refine aj nmd [] hng (by kernel_rfl) fun hf C S K hC1 hC hS hK=>?_;simp (disch:=first|omega|assumption) only [go_sem,Oid.ab hw,Oid.aa hw,Oid.ab hpp,Oid.aa hpp,h1,h2,hwN,hpN,hO,e1,decide_true,decide_false,ne_eq,not_true_eq_false,not_false_eq_true]
  refine hC _ _ _ (cL 2 _) (fun _ h=>by cases h) (fun _ _ h=>h.elim) ?_
  rintro _ _ ⟨rfl,rfl⟩
  exact cD rfl (sA fol 2 (by show _=some _;simp (disch:=first|omega|assumption) only [go_sem,Oid.ab hw,Oid.aa hw,Oid.ab hpp,Oid.aa hpp,h1,h2,hwN,hpN,hO]) (by first|exact nbu _|exact nbA (by simp [hwN,hpN,hO.mem]) _))
 have e1:(n.length:Int)≤32:=by omega
 by_cases c2:n=[46]
 ·have hS:cn L fol ⟨pl,n::t,l,dir⟩ n t=([(pl,false)],.go ⟨pl,t,l,dir⟩):=by simp only [cn,c0,not_true_eq_false,if_false,if_neg c1,if_pos c2]
  obtain ⟨F1,rfl,hin'⟩:=hi0 _ _ hS
  rw [hS]
  unfold prC at hin' ⊢
  unfold wkC at hin'
  refine gT (n:=96) (rs:=[]) Tryz.func109 rfl rfl (by decide) rfl rfl rfl ?_;rintro x rfl hrd hng
  rw [fm]
  simp only [wkC]
  refine kr .o (ai (uu hw) (ai h1 (ai h2 hwN))) trivial ?_
  refine kr .o (ai (uu hw) (ai h1 (ai h2 hwN))) trivial ?_
  refine aj nmd [] hng (by kernel_rfl) fun hf C S K hC1 hC hS hK=>?_;simp (disch:=first|omega|assumption) only [go_sem,Oid.ab hw,Oid.aa hw,Oid.ab hpp,Oid.aa hpp,h1,h2,hwN,hpN,hO]
  refine hC1 _ (hin' _ (ax rfl hp) (fun h=>hw (Oid.ae h)) (fun h=>hpp (Oid.ae h)) (hO.sub _ _)) (by simp only [List.mem_cons,forall_eq_or_imp];exact ⟨by simp (disch:=first|omega|assumption) only [go_sem,Oid.ab hw,Oid.aa hw,Oid.ab hpp,Oid.aa hpp,h1,h2,hwN,hpN,hO],by simp (disch:=first|omega|assumption) only [go_sem,Oid.ab hw,Oid.aa hw,Oid.ab hpp,Oid.aa hpp,h1,h2,hwN,hpN,hO],(by first|exact nbu _|exact nbA (by simp [hwN,hpN,hO.mem]) _)⟩) ?_
  simp (disch:=first|omega|assumption) only [go_sem,Oid.ab hw,Oid.aa hw,Oid.ab hpp,Oid.aa hpp,h1,h2,hwN,hpN,hO]
  refine hK ?_;clear hK hS hC hC1 K S C hf
  refine kr .o (ai (uu hw) (ai h1 (ai h2 (ai hwN e1)))) (cq (bW 2 _) trivial) ?_
  refine qw c2 ?_
  exact aA (sx (v:=.tuple []) rfl rfl (sy fol ⟨pl,t,l,dir⟩ (by show _=some (wkC _ _ _);simp only [wkC];simp (disch:=first|omega|assumption) only [go_sem,Oid.ab hw,Oid.aa hw,Oid.ab hpp,Oid.aa hpp,h1,h2,hwN,hpN,hO]) (by show _=some _;simp (disch:=first|omega|assumption) only [go_sem,Oid.ab hw,Oid.aa hw,Oid.ab hpp,Oid.aa hpp,h1,h2,hwN,hpN,hO]) (by first|exact nbu _|exact nbA (by simp [hwN,hpN,hO.mem]) _)))
 by_cases c3:n=[46,46]
 ·have hS:cn L fol ⟨pl,n::t,l,dir⟩ n t=([(pl,false)],.go ⟨bD pl,t,l,dir⟩):=by simp only [cn,c0,not_true_eq_false,if_false,if_neg c1,if_neg c2,if_pos c3]
  obtain ⟨F1,rfl,hin'⟩:=hi0 _ _ hS
  rw [hS]
  unfold prC at hin' ⊢
  unfold wkC at hin'
  refine gT (n:=96) (rs:=[]) Tryz.func109 rfl rfl (by decide) rfl rfl rfl ?_;rintro x rfl hrd hng
  rw [fm]
  simp only [wkC]
  refine kr .o (ai (uu hw) (ai h1 (ai h2 hwN))) trivial ?_
  refine kr .o (ai (uu hw) (ai h1 (ai h2 hwN))) trivial ?_
  refine aj nmd [] hng (by kernel_rfl) fun hf C S K hC1 hC hS hK=>?_;simp (disch:=first|omega|assumption) only [go_sem,Oid.ab hw,Oid.aa hw,Oid.ab hpp,Oid.aa hpp,h1,h2,hwN,hpN,hO]
  refine hC1 _ (hin' _ (ax rfl hp) (fun h=>hw (Oid.ae h)) (fun h=>hpp (Oid.ae h)) (hO.sub _ _)) (by simp only [List.mem_cons,forall_eq_or_imp];exact ⟨by simp (disch:=first|omega|assumption) only [go_sem,Oid.ab hw,Oid.aa hw,Oid.ab hpp,Oid.aa hpp,h1,h2,hwN,hpN,hO],by simp (disch:=first|omega|assumption) only [go_sem,Oid.ab hw,Oid.aa hw,Oid.ab hpp,Oid.aa hpp,h1,h2,hwN,hpN,hO],(by first|exact nbu _|exact nbA (by simp [hwN,hpN,hO.mem]) _)⟩) ?_
  simp (disch:=first|omega|assumption) only [go_sem,Oid.ab hw,Oid.aa hw,Oid.ab hpp,Oid.aa hpp,h1,h2,hwN,hpN,hO]
  refine hK ?_;clear hK hS hC hC1 K S C hf
  refine kr .o (ai (uu hw) (ai h1 (ai h2 (ai hwN e1)))) (cq (bW 2 _) trivial) ?_
  refine qw c3 ?_
  refine kr .o (ai (uu hw) (ai h1 (ai h2 hwN))) (cq (hab _) trivial) ?_
  exact aA (sx (v:=.tuple []) rfl rfl (sy fol ⟨bD pl,t,l,dir⟩ (by show _=some (wkC _ _ _);simp only [wkC];simp (disch:=first|omega|assumption) only [go_sem,Oid.ab hw,Oid.aa hw,Oid.ab hpp,Oid.aa hpp,h1,h2,hwN,hpN,hO]) (by show _=some _;simp (disch:=first|omega|assumption) only [go_sem,Oid.ab hw,Oid.aa hw,Oid.ab hpp,Oid.aa hpp,h1,h2,hwN,hpN,hO]) (by first|exact nbu _|exact nbA (by simp [hwN,hpN,hO.mem]) _)))
 have hS:cn L fol ⟨pl,n::t,l,dir⟩ n t=([(pl,false),(pl++(47::n),false)],goF L fol ⟨pl,n::t,l,dir⟩ n t):=by simp only [cn,c0,not_true_eq_false,if_false,if_neg c1,if_neg c2,if_neg c3,jB]
 obtain ⟨F1,⟨F2,hat,rfl⟩,hin'⟩:=hi0 _ _ hS
 have hat':∀ p,p.mono=false→bE p N→af Tryz.prog 37 [.ptr st 0,.str (pl++(47::n))] (Oid.under p) ⟨bk (N,F1),(aO L (pl++(47::n))).av,sb N F2⟩:=hat
 rw [hS]
 have hdl:=hL (pl++(47::n))
 have hgo:goF L fol ⟨pl,n::t,l,dir⟩ n t=if (aO L (pl++(47::n))).k=3∧(¬ t=[]∨fol=true∨dir=true) then fg ⟨pl,n::t,l,dir⟩ t (aO L (pl++(47::n))).l
  else if ¬ t=[]∧(aO L (pl++(47::n))).k=0 then .err 10 else .go ⟨pl++(47::n),t,l,dir⟩:=rfl
 rw [hgo]
 clear hgo hS hin hat hi0
 generalize aO L (pl++(47::n))=B at hat' hdl ⊢
 obtain ⟨ek,em,el⟩:=B
 simp only [Bits.av] at hat' hdl ⊢
 have hlk:=fun p=>GW (wk:=wk) (pp:=pp) fol ⟨pl,t,l,dir⟩ el hl hdl ht p
 have hlf:fg ⟨pl,n::t,l,dir⟩ t el=fg ⟨pl,t,l,dir⟩ t el:=rfl
 rw [hlf]
 simp only at hlk
 unfold prC at hin' ⊢
 unfold wkC at hin' hlk
 refine gT (n:=96) (rs:=[]) Tryz.func109 rfl rfl (by decide) rfl rfl rfl ?_;rintro x rfl hrd hng
 rw [fm]
 simp only [wkC]
 refine kr .o (ai (uu hw) (ai h1 (ai h2 hwN))) trivial ?_
 refine kr .o (ai (uu hw) (ai h1 (ai h2 hwN))) trivial ?_
 refine aj nmd [] hng (by kernel_rfl) fun hf C S K hC1 hC hS hK=>?_;simp (disch:=first|omega|assumption) only [go_sem,Oid.ab hw,Oid.aa hw,Oid.ab hpp,Oid.aa hpp,h1,h2,hwN,hpN,hO]
 refine hC1 _ (hin' _ (ax rfl hp) (fun h=>hw (Oid.ae h)) (fun h=>hpp (Oid.ae h)) (hO.sub _ _)) (by simp only [List.mem_cons,forall_eq_or_imp];exact ⟨by simp (disch:=first|omega|assumption) only [go_sem,Oid.ab hw,Oid.aa hw,Oid.ab hpp,Oid.aa hpp,h1,h2,hwN,hpN,hO],by simp (disch:=first|omega|assumption) only [go_sem,Oid.ab hw,Oid.aa hw,Oid.ab hpp,Oid.aa hpp,h1,h2,hwN,hpN,hO],(by first|exact nbu _|exact nbA (by simp [hwN,hpN,hO.mem]) _)⟩) ?_
 simp (disch:=first|omega|assumption) only [go_sem,Oid.ab hw,Oid.aa hw,Oid.ab hpp,Oid.aa hpp,h1,h2,hwN,hpN,hO]
 refine hK ?_;clear hK hS hC hC1 K S C hf
 refine kr .o (ai (uu hw) (ai h1 (ai h2 (ai hwN e1)))) (cq (bW 2 _) trivial) ?_
 have hcat:pl++[47]++n=pl++(47::n):=by simp
 refine kw (ai (uu hw) (ai h1 (ai h2 (ai hwN (ai c2 (ai c3 hcat)))))) ?_
 refine kr .o (ai (uu hw) (ai h1 (ai h2 hwN))) (cq hat' trivial) ?_
 (repeat (first|(refine aq rfl rfl ?_)|(refine ar rfl rfl ?_)|(refine aj nmd [] hng (by kernel_rfl) fun hf C S K hC1 hC hS hK=>?_;simp (disch:=first|omega|assumption) only [go_sem,Oid.ab hw,Oid.aa hw,Oid.ab hpp,Oid.aa hpp,h1,h2,hwN,hpN,hO,List.length_map];refine hK ?_;clear hK hS hC hC1 K S C hf)|((first|refine zn ?_|refine ze ?_|refine zk ?_);with_reducible (constructor;repeat constructor);try refine zl ?_)))
 rw [show decide ((t.length:Int)=0)=decide (t=[]) from decide_eq_decide.2 ⟨fun h=>List.eq_nil_of_length_eq_zero (by omega),fun h=>by rw [h];rfl⟩]
 refine cQ [0,3,4,5,72] (fun s'=>∃ c':Nat,s' = ⟨[(0,.ptr wk 0),(3,.str (pl++(47::n))),(4,.ptr (.sub 8 9 x.p) 0),(5,.bool (decide (t=[]))),(72,.bool (decide (ek=3∧(¬ t=[]∨fol=true∨dir=true))))],Mem.blk [(wk,.cells [.ptr pp 0,.str pl,.list 1 (t.map AV.str),.int .i64 l,.bool fol,.bool dir]),(pp,.cells [.ptr st 0,.str cwd,.int .i64 um]),(.sub 8 9 x.p,.cells [.int .i64 ek,.int .i64 em,.str el])] [(N,F2)],c',[]⟩∧8 < c') ?_ ?_
 ·by_cases k3:ek=3
  ·cases t with
   | cons t0 tr =>
    rw [show decide (ek=3∧(¬ (t0::tr)=[]∨fol=true∨dir=true))=true from by simp [k3]]
    refine kr (.d [] [(3,76),(6,79),(12,85)] []) (ai (uu hw) (ai h1 (ai h2 (ai hwN k3)))) trivial ?_
    exact aT ⟨_,by rw [k3];rfl,by omega⟩
   | nil =>
    rw [show decide (ek=3∧(¬ ([]:List Str)=[]∨fol=true∨dir=true))=(fol || dir) from by cases fol<;>cases dir<;>simp [k3]]
    cases fol with
    | true =>
     refine kr (.d [] [(3,76),(6,79),(12,85)] []) (ai (uu hw) (ai h1 (ai h2 (ai hwN k3)))) trivial ?_
     exact aT ⟨_,by rw [k3];rfl,by omega⟩
    | false =>
     cases dir with
     | true =>
      refine kr (.d [] [(3,76),(6,79),(12,85)] []) (ai (uu hw) (ai h1 (ai h2 (ai hwN k3)))) trivial ?_
      exact aT ⟨_,by rw [k3];rfl,by omega⟩
     | false =>
      refine kr (.d [] [(3,76),(6,79),(12,85)] []) (ai (uu hw) (ai h1 (ai h2 (ai hwN k3)))) trivial ?_
      exact aT ⟨_,by rw [k3];rfl,by omega⟩
  ·rw [show decide (ek=3∧(¬ t=[]∨fol=true∨dir=true))=false from by simp [k3]]
   refine kr (.d [] [(3,76),(6,79),(12,85)] []) (ai (uu hw) (ai h1 (ai h2 (ai hwN k3)))) trivial ?_
   exact aT ⟨_,rfl,by omega⟩
 rintro s' ⟨c,rfl,hc⟩
 by_cases k3:ek=3∧(¬ t=[]∨fol=true∨dir=true)
 ·rw [decide_eq_true k3,if_pos k3]
  (try ((first|refine zn ?_|refine ze ?_|refine zk ?_);with_reducible (constructor;repeat constructor));try refine zl ?_)
  refine aq rfl rfl ?_
  generalize fg ⟨pl,t,l,dir⟩ t el=LR at hlk
  cases LR with
  | err e =>
   (try ((first|refine zn ?_|refine ze ?_|refine zk ?_);with_reducible (constructor;repeat constructor));try refine zl ?_)
   refine aj nmd [] hng (by kernel_rfl) fun hf C S K hC1 hC hS hK=>?_;simp (disch:=first|omega|assumption) only [go_sem,Oid.ab hw,Oid.aa hw,Oid.ab hpp,Oid.aa hpp,h1,h2,hwN,hpN,hO]
   refine hC _ _ _ (dL.pn (hlk _ (fun h=>hw (Oid.ae h))) rfl) (by simp only [List.mem_singleton,forall_eq];simp (disch:=first|omega|assumption) only [go_sem,Oid.ab hw,Oid.aa hw,Oid.ab hpp,Oid.aa hpp,h1,h2,hwN,hpN,hO]) (fun _ _ h=>h.elim) ?_
   rintro _ _ ⟨rfl,rfl⟩
   refine cD rfl (sA fol e ?_ ?_)
   ·show (Mem.set _ wk none) pp=_
    simp only [Mem.set,if_neg h2];simp (disch:=first|omega|assumption) only [go_sem,Oid.ab hw,Oid.aa hw,Oid.ab hpp,Oid.aa hpp,h1,h2,hwN,hpN,hO]
   ·intro y hy
    show (Mem.set _ wk none) y.1=_
    simp only [Mem.set]
    rw [if_neg fun e:y.1=wk=>hwN (e ▸ (cA.1 hy).1)]
    exact nbA (by simp [hwN,hpN,hO.mem]) _ y hy
  | go w' =>
   (try ((first|refine zn ?_|refine ze ?_|refine zk ?_);with_reducible (constructor;repeat constructor));try refine zl ?_)
   refine aj nmd [] hng (by kernel_rfl) fun hf C S K hC1 hC hS hK=>?_;simp (disch:=first|omega|assumption) only [go_sem,Oid.ab hw,Oid.aa hw,Oid.ab hpp,Oid.aa hpp,h1,h2,hwN,hpN,hO]
   refine hC1 _ (dL.ok (hlk _ (fun h=>hw (Oid.ae h))) rfl) (by simp only [List.mem_singleton,forall_eq];simp (disch:=first|omega|assumption) only [go_sem,Oid.ab hw,Oid.aa hw,Oid.ab hpp,Oid.aa hpp,h1,h2,hwN,hpN,hO]) ?_
   simp only [stU]
   simp (disch:=first|omega|assumption) only [go_sem,Oid.ab hw,Oid.aa hw,Oid.ab hpp,Oid.aa hpp,h1,h2,hwN,hpN,hO]
   refine hK ?_;clear hK hS hC hC1 K S C hf
   (try ((first|refine zn ?_|refine ze ?_|refine zk ?_);with_reducible (constructor;repeat constructor));try refine zl ?_)
   refine bZ (lE (v:=.tuple []) rfl rfl (sy fol w' ?_ ?_ ?_))
   ·simp (disch:=first|omega|assumption) only [go_sem,Oid.ab hw,Oid.aa hw,Oid.ab hpp,Oid.aa hpp,h1,h2,hwN,hpN,hO]
   ·simp (disch:=first|omega|assumption) only [go_sem,Oid.ab hw,Oid.aa hw,Oid.ab hpp,Oid.aa hpp,h1,h2,hwN,hpN,hO]
   ·exact (by first|exact nbu _|exact nbA (by simp [hwN,hpN,hO.mem]) _)
 ·rw [decide_eq_false k3,if_neg k3]
  (try ((first|refine zn ?_|refine ze ?_|refine zk ?_);with_reducible (constructor;repeat constructor));try refine zl ?_)
  refine ar rfl rfl ?_
  by_cases k4:¬ t=[]∧ek=0
  ·rw [if_pos k4]
   have ht0:=k4.1
   have he0:=k4.2
   (try ((first|refine zn ?_|refine ze ?_|refine zk ?_);with_reducible (constructor;repeat constructor));try refine zl ?_)
   refine aj nmd [(1,62)] hng (by kernel_rfl) fun hf C S K hC1 hC hS hK=>?_;simp (disch:=first|omega|assumption) only [go_sem,Oid.ab hw,Oid.aa hw,Oid.ab hpp,Oid.aa hpp,h1,h2,hwN,hpN,hO,ht0,he0,decide_true,decide_false,ne_eq,not_true_eq_false,not_false_eq_true]
   refine hC _ _ _ (cL 10 _) (fun _ h=>by cases h) (fun _ _ h=>h.elim) ?_
   rintro _ _ ⟨rfl,rfl⟩
   exact cD rfl (sA fol 10 (by show _=some _;simp (disch:=first|omega|assumption) only [go_sem,Oid.ab hw,Oid.aa hw,Oid.ab hpp,Oid.aa hpp,h1,h2,hwN,hpN,hO]) (by first|exact nbu _|exact nbA (by simp [hwN,hpN,hO.mem]) _))
  ·rw [if_neg k4]
   (try ((first|refine zn ?_|refine ze ?_|refine zk ?_);with_reducible (constructor;repeat constructor));try refine zl ?_)
   refine cQ [0,3] (fun s'=>∃ c':Nat,s' = ⟨[(0,.ptr wk 0),(3,.str (pl++(47::n)))],Mem.blk [(wk,.cells [.ptr pp 0,.str pl,.list 1 (t.map AV.str),.int .i64 l,.bool fol,.bool dir]),(pp,.cells [.ptr st 0,.str cwd,.int .i64 um]),(.sub 8 9 x.p,.cells [.int .i64 ek,.int .i64 em,.str el])] [(N,F2)],c',[]⟩∧8 < c') ?_ ?_
   ·by_cases ht0:t=[]
    ·refine kr (.d [] [(1,62)] []) (ai (uu hw) (ai h1 (ai h2 (ai hwN ht0)))) (cq (bW 10 _) trivial) ?_
     exact aT ⟨_,by simp only [ht0];rfl,by omega⟩
    ·have he0:¬ ek=0:=fun e=>k4 ⟨ht0,e⟩
     refine kr (.d [] [(1,62)] []) (ai (uu hw) (ai h1 (ai h2 (ai hwN (ai ht0 he0))))) (cq (bW 10 _) trivial) ?_
     exact aT ⟨_,rfl,by omega⟩
   clear hc c
   rintro s' ⟨c,rfl,hc⟩
   refine kw (ai (uu hw) (ai h1 (ai h2 hwN))) ?_
   refine bZ (lE (v:=.tuple []) rfl rfl (sy fol ⟨pl++(47::n),t,l,dir⟩ ?_ ?_ ?_))
   ·simp only [wkC];simp (disch:=first|omega|assumption) only [go_sem,Oid.ab hw,Oid.aa hw,Oid.ab hpp,Oid.aa hpp,h1,h2,hwN,hpN,hO]
   ·simp (disch:=first|omega|assumption) only [go_sem,Oid.ab hw,Oid.aa hw,Oid.ab hpp,Oid.aa hpp,h1,h2,hwN,hpN,hO]
   ·exact (by first|exact nbu _|exact nbA (by simp [hwN,hpN,hO.mem]) _)
end Go.Proofs.YtfbnaalhioogoaaGreatDoor
namespace Go.Proofs.YtfbnaalhioogoaaGreatDoor
open Go Go.Ab
set_option maxRecDepth 20000
set_option maxHeartbeats 4000000
def fdR:Rs (Str × Bits)→Rs AV
 | .err e=>.err e
 | .go a=>.go (.tuple [.str a.1,a.2.av])
theorem ja {pp:Oid} {q:aw} {N:List Oid} {F G:Oid→aw} {m:Mem} (h2:m pp=some q) (h3:∀ x,x ∈ bk (N,G)→m x.1=some x.2):∀ i v,((Mem.of ((pp,q)::bk (N,F))).aI (sb N G)) i=some v→m i=some v :=
 fL (A0:=[(pp,q)]) (U:=[]) (fun x hx=>by cases hx) (fun x hx _=>by rw [List.mem_singleton.1 hx];exact h2) h3
theorem CN:∀ t:List Str,t.length≤wtF t
 | []=>Nat.le_refl _
 | n::t=>by have:=CN t;simp only [wtF,List.length_cons];omega
theorem uj {L:PL} {fol:Bool} {w w':Wk} {n:Str} {t:List Str} {rd:Rds} (h:cn L fol w n t=(rd,.go w')) (hl:w.links≤8):w'.links≤8:=by
 unfold cn at h
 split at h;· cases h
 split at h;· cases h
 split at h;· cases h;exact hl
 split at h;· cases h;exact hl
 obtain ⟨-,h⟩:=Prod.mk.inj h
 unfold goF at h
 split at h
 ·unfold fg at h
  split at h;· cases h
  split at h;· cases h
  cases h;simp only;omega
 ·split at h;· cases h
  cases h;exact hl
theorem nD {pp st:Oid} {N:List Oid} {F F':Oid→aw} {L:PL} (hs:aY ltB L) (hlk:kP L) (hL:∀ n,(aO L n).l.length≤4000000) (path cwd:Str) (um:Int) (fol:Bool) (hpN:pp ∉ N) (hc:cwd.length≤1000000) (hpath:path.length≤140737488355328)
  (hA:RP st N L (findF L cwd path fol).1 F F') (p:Oid) (hp:p.mono=false) (hpp:¬ Oid.under p pp) (hO:bE p N) :
  dL 40 [.ptr pp 0,.str path,.bool fol] (Oid.under p) ((pp,prC st cwd um)::bk (N,F)) (fdR (findF L cwd path fol).2) (sb N F'):=by
 by_cases c1:path=[]
 ·have hF:findF L cwd path fol=([],.err 10):=by simp only [findF,if_pos c1]
  rw [hF] at hA ⊢
  obtain rfl:F=F':=hA
  unfold prC
  refine gT (n:=73) (rs:=[.tmp 6,.cell 7 56]) Tryz.func40 rfl rfl (by decide) rfl rfl rfl ?_;rintro x rfl hrd hng
  rw [fk]
  refine kr0 ?_
  refine aj nmd [] hng (by kernel_rfl) fun hf C S K hC1 hC hS hK=>?_;simp (disch:=first|omega|assumption) only [go_sem,Oid.ab hpp,Oid.aa hpp,hpN,hO,c1,decide_true,decide_false,ne_eq,not_true_eq_false,not_false_eq_true]
  refine hC _ _ _ (cL 10 _) (fun _ h=>by cases h) (fun _ _ h=>h.elim) ?_
  rintro _ _ ⟨rfl,rfl⟩
  exact cD rfl (ja (by show _=some _;simp (disch:=first|omega|assumption) only [go_sem,Oid.ab hpp,Oid.aa hpp,hpN,hO]) (by first|exact nbu _|exact nbA (by simp [hpN,hO.mem]) _))
 by_cases c2:200 < path.length
 ·have hF:findF L cwd path fol=([],.err 2):=by simp only [findF,if_neg c1,if_pos c2]
  rw [hF] at hA ⊢
  obtain rfl:F=F':=hA
  have e2:¬ (path.length:Int)≤200:=by omega
  unfold prC
  refine gT (n:=73) (rs:=[.tmp 6,.cell 7 56]) Tryz.func40 rfl rfl (by decide) rfl rfl rfl ?_;rintro x rfl hrd hng
  rw [fk]
  refine kr0 ?_
  refine kr .o c1 (cq (bW 10 _) trivial) ?_
  refine aj nmd [] hng (by kernel_rfl) fun hf C S K hC1 hC hS hK=>?_;simp (disch:=first|omega|assumption) only [go_sem,Oid.ab hpp,Oid.aa hpp,hpN,hO,e2,decide_true,decide_false,ne_eq,not_true_eq_false,not_false_eq_true]
  refine hC _ _ _ (cL 2 _) (fun _ h=>by cases h) (fun _ _ h=>h.elim) ?_
  rintro _ _ ⟨rfl,rfl⟩
  exact cD rfl (ja (by show _=some _;simp (disch:=first|omega|assumption) only [go_sem,Oid.ab hpp,Oid.aa hpp,hpN,hO]) (by first|exact nbu _|exact nbA (by simp [hpN,hO.mem]) _))
 have hF:findF L cwd path fol=iZ L (dB L fol (wkW (a8 cwd path)) (a8 cwd path)):=by simp only [findF,if_neg c1,if_neg c2]
 rw [hF] at hA ⊢
 have e2:(path.length:Int)≤200:=by omega
 obtain ⟨s1,s2⟩:=o8 cwd path (by omega)
 have hpc:=fun p=>qL path (by omega) p
 have hsf:=fun p=>iO path (by omega) p
 have h0l:0 < path.length:=List.length_pos_iff.2 c1
 have hrun:∃ F1,RP st N L (dB L fol (wkW (a8 cwd path)) (a8 cwd path)).1 F F1 ∧
   match (dB L fol (wkW (a8 cwd path)) (a8 cwd path)).2 with
   | .err e=>F1=F'∧iZ L (dB L fol (wkW (a8 cwd path)) (a8 cwd path))=((dB L fol (wkW (a8 cwd path)) (a8 cwd path)).1,.err e)
   | .go w=>RP st N L [(w.pl,false)] F1 F':=by
  generalize dB L fol (wkW (a8 cwd path)) (a8 cwd path)=y at hA
  obtain ⟨rd,r⟩:=y
  cases r with
  | err e=>exact ⟨F',hA,rfl,rfl⟩
  | go w=>exact fh hA
 obtain ⟨F1,hrq,hlast⟩:=hrun
 obtain ⟨res,hres⟩:∃ res,(dB L fol (wkW (a8 cwd path)) (a8 cwd path)).2=res:=⟨_,rfl⟩
 have hfin:(iZ L (dB L fol (wkW (a8 cwd path)) (a8 cwd path))).2=(iZ L ([],res)).2:=by
  rw [← hres]
  generalize dB L fol (wkW (a8 cwd path)) (a8 cwd path)=y
  obtain ⟨rd,r⟩:=y
  cases r<;>rfl
 rw [hres] at hlast
 rw [hfin]
 have hw0:(a8 cwd path).pl.length+wkW (a8 cwd path)≤cwd.length+2617:=by omega
 have hst:a8 cwd path=⟨if path.getD 0 0=47 then [] else cwd,cO path,0,iv path⟩:=rfl
 generalize hK:wkW (a8 cwd path)=K at hres hrq s2 hfin
 have hKle:wkW (a8 cwd path)≤K:=by omega
 clear hfin hF hA
 unfold prC
 refine gT (n:=73) (rs:=[.tmp 6,.cell 7 56]) Tryz.func40 rfl rfl (by decide) rfl rfl rfl ?_;rintro x rfl hrd hng
 rw [fk]
 refine kr0 ?_
 refine kr .o c1 (cq (bW 10 _) trivial) ?_
 refine kr .o e2 (cq (bW 2 _) trivial) ?_
 have hpp2:¬ Oid.under (.sub 1 1 (.sub 3 6 x.p)) pp:=fun h=>hpp (Oid.ae (Oid.ae h))
 refine kd (.d [(4,6),(4,9)] [] [0,1,7,8]) (uu hpp2) (cq (hpc _) (cq (hsf _) trivial)) ?_
 have hO3:bE (.sub 1 1 (.sub 3 6 x.p)) N:=(hO.sub 3 6).sub 1 1
 refine za (.sub 0 0 (.sub 1 1 (.sub 3 6 x.p))) (.sub 3 11 x.p) 1 ((cO path).map AV.str) _ [.ptr pp 0,.str cwd,.list 1 ((cO path).map AV.str),.int .i64 0,.bool fol,.bool (iv path)]
  (ks (uu hpp2)) ks0 (by simp) (.keep (.keep (.gD (n:=(cO path).length) (by simp) (.keep (.keep (.keep .nil)))))) ?_
 simp (disch:=first|omega|assumption) only [go_sem,Oid.ab hpp,Oid.aa hpp,hpN,hO,hO3,Oid.ab hpp2,Oid.aa hpp2]
 refine kr0 ?_
 refine cQ [0,7,8] (fun s'=>∃ c':Nat,s' = ⟨[(0,.ptr pp 0),(7,.ptr (.sub 0 1 x.p) 0),(8,.ptr (.sub 3 11 x.p) 0)],Mem.blk [(pp,.cells [.ptr st 0,.str cwd,.int .i64 um]),(.sub 0 1 x.p,.cells [.int .i64 0,.int .i64 0,.str []]),(.sub 3 11 x.p,wkC pp fol (a8 cwd path))] [(N,F)],c',[]⟩∧3 < c') ?_ ?_
 ·rw [hst]
  simp only [wkC]
  refine aX rfl rfl (fun hb=>?_) (fun hb=>?_)
  ·rw [if_pos (UInt8.toNat_inj.1 (by show _=47;omega):path.getD 0 0=47)]
   refine kw0 ?_
   exact aT ⟨_,rfl,by omega⟩
  ·rw [if_neg (fun e:path.getD 0 0=47=>hb (by rw [e];rfl))]
   refine qw0 ?_
   exact aT ⟨_,rfl,by omega⟩
 rintro s' ⟨c,rfl,hc3⟩
 (try ((first|refine zn ?_|refine ze ?_|refine zk ?_);with_reducible (constructor;repeat constructor));try refine zl ?_)
 have hwp:¬ Oid.sub 3 11 x.p=pp:=by rw [Oid.aa hpp];exact not_false
 have hwn:Oid.sub 3 11 x.p ∉ N:=hO.mem
 have hl0:(a8 cwd path).links≤8:=by rw [hst];exact Nat.zero_le _
 clear hst hpc hsf
 generalize a8 cwd path=w0 at hKle hw0 hrq hres hl0
 refine bm [0,7,8] (fun k s'=>∃ (w:Wk) (c:Nat) (G:Oid→aw),s' = ⟨[(0,.ptr pp 0),(7,.ptr (.sub 0 1 x.p) 0),(8,.ptr (.sub 3 11 x.p) 0)],Mem.blk [(pp,.cells [.ptr st 0,.str cwd,.int .i64 um]),(.sub 0 1 x.p,.cells [.int .i64 0,.int .i64 0,.str []]),(.sub 3 11 x.p,wkC pp fol w)] [(N,G)],c,[]⟩∧3 < c∧wkW w≤k∧w.links≤8∧w.pl.length+wkW w≤cwd.length+2617∧(dB L fol k w).2=res∧RP st N L (dB L fol k w).1 G F1) _ ⟨w0,_,_,rfl,hc3,hKle,hl0,hw0,hres,hrq⟩ ?_
 clear hrq hres hw0 hKle hl0 hc3 hK
 rintro k s' ⟨⟨pl,todo,l,dir⟩,c,G,rfl,hc3,hKle,hl0,hw0,hres,hrq⟩
 simp only at hl0 hw0
 simp only [wkC]
 cases todo with
 | nil =>
  have hrn:dB L fol k ⟨pl,[],l,dir⟩=([],.go ⟨pl,[],l,dir⟩):=by cases k<;>rfl
  rw [hrn] at hres hrq
  obtain rfl:G=F1:=hrq
  subst hres
  simp only at hlast
  obtain ⟨_,hat,rfl⟩:=hlast
  rename_i F2
  have hat':∀ p,p.mono=false→bE p N→af Tryz.prog 37 [.ptr st 0,.str pl] (Oid.under p) ⟨bk (N,G),(aO L pl).av,sb N F2⟩:=hat
  simp only [iZ]
  generalize aO L pl=B at hat' ⊢
  obtain ⟨ek,em,el⟩:=B
  simp only [Bits.av] at hat' ⊢
  refine kw0 ?_
  refine kd (.d [(3,9),(7,9),(8,9)] [] [0,7,8,9]) trivial (cq hat' trivial) ?_
  by_cases c4:dir=true∧¬ ek=0∧¬ ek=2
  ·rw [if_pos c4]
   obtain ⟨rfl,c5,c6⟩:=c4
   (try ((first|refine zn ?_|refine ze ?_|refine zk ?_);with_reducible (constructor;repeat constructor));try refine zl ?_)
   refine aj nmd [(5,57),(10,62)] hng (by kernel_rfl) fun hf C S K hC1 hC hS hK=>?_;simp (disch:=first|omega|assumption) only [go_sem,Oid.ab hpp,Oid.aa hpp,hpN,hO,c5,c6,decide_true,decide_false,ne_eq,not_true_eq_false,not_false_eq_true]
   refine hC _ _ _ (cL 15 _) (fun _ h=>by cases h) (fun _ _ h=>h.elim) ?_
   rintro _ _ ⟨rfl,rfl⟩
   exact cD rfl (ja (by show _=some _;simp (disch:=first|omega|assumption) only [go_sem,Oid.ab hpp,Oid.aa hpp,hpN,hO]) (by first|exact nbu _|exact nbA (by simp [hpN,hO.mem]) _))
  ·rw [if_neg c4]
   (try ((first|refine zn ?_|refine ze ?_|refine zk ?_);with_reducible (constructor;repeat constructor));try refine zl ?_)
   refine cQ [0,7,8,9] (fun s'=>∃ c':Nat,s' = ⟨[(0,.ptr pp 0),(7,.ptr (.sub 0 1 x.p) 0),(8,.ptr (.sub 3 11 x.p) 0),(9,.ptr (.sub (c+1) 9 x.p) 0)],Mem.blk [(pp,.cells [.ptr st 0,.str cwd,.int .i64 um]),(.sub 0 1 x.p,.cells [.int .i64 0,.int .i64 0,.str []]),(.sub 3 11 x.p,.cells [.ptr pp 0,.str pl,.list 1 [],.int .i64 l,.bool fol,.bool dir]),(.sub (c+1) 9 x.p,.cells [.int .i64 ek,.int .i64 em,.str el])] [(N,F2)],c',[]⟩) ?_ ?_
   ·cases dir with
    | false =>
     refine kr (.d [] [(5,57),(10,62)] []) trivial (cq (bW 15 _) trivial) ?_
     exact aT ⟨_,rfl⟩
    | true =>
     by_cases c5:ek=0
     ·refine aj nmd [(5,57),(10,62)] hng (by kernel_rfl) fun hf C S K hC1 hC hS hK=>?_;simp (disch:=first|omega|assumption) only [go_sem,Oid.ab hpp,Oid.aa hpp,hpN,hO,c5,decide_true,decide_false,ne_eq,not_true_eq_false,not_false_eq_true]
      refine hC1 _ (bW 15 _) (fun _ h=>by cases h) ?_
      simp (disch:=first|omega|assumption) only [go_sem,Oid.ab hpp,Oid.aa hpp,hpN,hO]
      refine hK ?_;clear hK hS hC hC1 K S C hf
      exact aT ⟨_,by rw [c5];rfl⟩
     ·have c6:ek=2:=Decidable.of_not_not fun h=>c4 ⟨rfl,c5,h⟩
      have h20:¬ (2:Int)=0:=by decide
      refine kr (.d [] [(5,57),(10,62)] []) (ai c6 h20) (cq (bW 15 _) trivial) ?_
      exact aT ⟨_,by rw [c6];rfl⟩
   rintro s' ⟨c',rfl⟩
   refine kd (.d [] [] [6,7]) hc3 trivial ?_
   refine aA (sx (v:=.tuple [.str pl,.agg [.int .i64 ek,.int .i64 em,.str el]]) ks0 rfl (ja (by show _=some _;simp (disch:=first|omega|assumption) only [go_sem,Oid.ab hpp,Oid.aa hpp,hpN,hO]) (by first|exact nbu _|exact nbA (by simp [hpN,hO.mem]) _)))
 | cons n t =>
  have hap:∀ c i,3 < c→¬ Oid.under (.sub c i x.p) (.sub 3 11 x.p):=fun c i h hu=>by
   have:=(Oid.apart hu (Oid.az _)).1
   omega
  have hwk:wkW ⟨pl,n::t,l,dir⟩=n.length+1+wtF t+(8 - l) * 302:=rfl
  obtain ⟨k,rfl⟩:∃ k',k=k' + 1:=⟨k - 1,by omega⟩
  have htl:=CN t
  have hrn:dB L fol (k+1) ⟨pl,n::t,l,dir⟩=match cn L fol ⟨pl,n::t,l,dir⟩ n t with
   | (rd,.err e)=>(rd,.err e)
   | (rd,.go w')=>(rd++(dB L fol k w').1,(dB L fol k w').2):=rfl
  have hgo:=fun w' rd (h:cn L fol ⟨pl,n::t,l,dir⟩ n t=(rd,.go w'))=>And.intro (ue hs hlk h) (uj h hl0)
  have hstp:=fun F2 h p hp hw hpp hO=>GX (wk:=.sub 3 11 x.p) (pp:=pp) (st:=st) (N:=N) (F:=G) (F':=F2) hL fol pl n t l dir cwd um hwp hwn hpN hl0 (by omega) (by omega) (by omega) h p hp hw hpp hO
  rw [hrn] at hres hrq
  generalize cn L fol ⟨pl,n::t,l,dir⟩ n t=y at hres hrq hgo hstp
  obtain ⟨rd,r⟩:=y
  simp only [wkC,prC] at hstp
  have hwt:wtF (n::t)=n.length+1+wtF t:=rfl
  cases r with
  | err e =>
   subst hres
   obtain ⟨rfl,hle⟩:=hlast
   have hst2:=hstp _ hrq
   refine kw0 ?_
   refine aX rfl rfl (fun hb=>?_) (fun hb=>?_)
   case refine_2=>exact absurd (by omega) hb
   refine qw0 ?_
   refine aj nmd [] hng (by kernel_rfl) fun hf C S K hC1 hC hS hK=>?_;simp (disch:=first|omega|assumption) only [go_sem,Oid.ab hpp,Oid.aa hpp,hpN,hO]
   refine hC _ _ _ (dL.pn (hst2 _ (ax rfl hp) (hap _ _ (by omega)) (fun h=>hpp (Oid.ae h)) (hO.sub _ _)) rfl) (by simp only [List.mem_cons,forall_eq_or_imp];exact ⟨by simp (disch:=first|omega|assumption) only [go_sem,Oid.ab hpp,Oid.aa hpp,hpN,hO],by simp (disch:=first|omega|assumption) only [go_sem,Oid.ab hpp,Oid.aa hpp,hpN,hO],(by first|exact nbu _|exact nbA (by simp [hpN,hO.mem]) _)⟩) (fun _ _ h=>h.elim) ?_
   rintro _ _ ⟨rfl,rfl⟩
   simp only [stM,stU]
   refine cD rfl (ja ?_ ?_)
   ·simp (disch:=first|omega|assumption) only [go_sem,Oid.ab hpp,Oid.aa hpp,hpN,hO,cW]
   ·rw [cW];exact nbu _
  | go w' =>
   obtain ⟨G2,hq1,hq2⟩:=fh hrq
   have hst2:=hstp _ hq1
   obtain ⟨⟨g1,g2⟩,g3⟩:=hgo w' rd rfl
   have hwk':wkW w' = wtF w'.todo+(8 - w'.links) * 302:=rfl
   simp only at g1 g2
   refine kw0 ?_
   refine aX rfl rfl (fun hb=>?_) (fun hb=>?_)
   case refine_2=>exact absurd (by omega) hb
   refine qw0 ?_
   refine aj nmd [] hng (by kernel_rfl) fun hf C S K hC1 hC hS hK=>?_;simp (disch:=first|omega|assumption) only [go_sem,Oid.ab hpp,Oid.aa hpp,hpN,hO]
   refine hC1 _ (dL.ok (hst2 _ (ax rfl hp) (hap _ _ (by omega)) (fun h=>hpp (Oid.ae h)) (hO.sub _ _)) rfl) (by simp only [List.mem_cons,forall_eq_or_imp];exact ⟨by simp (disch:=first|omega|assumption) only [go_sem,Oid.ab hpp,Oid.aa hpp,hpN,hO],by simp (disch:=first|omega|assumption) only [go_sem,Oid.ab hpp,Oid.aa hpp,hpN,hO],(by first|exact nbu _|exact nbA (by simp [hpN,hO.mem]) _)⟩) ?_
   simp only [stM,stU]
   simp (disch:=first|omega|assumption) only [go_sem,Oid.ab hpp,Oid.aa hpp,hpN,hO,cW]
   refine hK ?_;clear hK hS hC hC1 K S C hf
   (try ((first|refine zn ?_|refine ze ?_|refine zk ?_);with_reducible (constructor;repeat constructor));try refine zl ?_)
   exact ⟨_,_,by omega,fun _ _ h=>h,w',_,_,rfl,by omega,by omega,g3,by omega,hres,hq2⟩
end Go.Proofs.YtfbnaalhioogoaaGreatDoor
namespace Go.Proofs.YtfbnaalhioogoaaGreatDoor
open Go Go.Ab
set_option maxRecDepth 20000
set_option maxHeartbeats 4000000
theorem pb {α β:Type} (r:Rds) (a:α) (f:α→Rds × Rs β):dK (r,.go a) f=(r++(f a).1,(f a).2):=rfl
theorem vW {β:Type} {L:PL} {place:Str} {f:Unit→Rds × Rs β} (h:gy place (aO L (bD place))=0):dK (gL L place ()) f=([(bD place,false)]++(f ()).1,(f ()).2):=by
 simp only [gL,h,not_true_eq_false,if_false];rfl
theorem vX {β:Type} {L:PL} {place:Str} {f:Unit→Rds × Rs β} (h:¬ gy place (aO L (bD place))=0):dK (gL L place ()) f=([(bD place,false)],.err (gy place (aO L (bD place)))):=by
 simp only [gL,h,not_false_eq_true,if_true];rfl
structure KL (L:PL):Prop where
 so:aY ltB L
 lk:kP L
 da:∀ n,(aO L n).l.length≤4000000
def Ky (fP:FuncId) (o:Oid) (N:List Oid):Pts→(Oid→aw)→(Oid→aw)→Prop
 | [],F,F'=>F=F'
 | q::l,F,F'=>∃ F1,(∀ p,p.mono=false→bE p N→af Tryz.prog fP [.ptr o 0,.str q.1,q.2.av] (Oid.under p) ⟨bk (N,F),.tuple [],sb N F1⟩)∧Ky fP o N l F1 F'
abbrev PP (st:Oid) (N:List Oid):=Ky 23 st N
abbrev PR (r:Oid) (M:List Oid):=Ky 46 r M
section
variable {pp st:Oid} {N:List Oid} {F F1 F2:Oid→aw} {L:PL} (hK:KL L) {cwd:Str} (hc:cwd.length≤1000000) (um:Int) (hpN:pp ∉ N) {p:Oid} (hp:p.mono=false) (hpp:¬ Oid.under p pp) (hO:bE p N)
include hK hc hpN hp hpp hO
theorem CO (path:Str) (hpath:path.length≤140737488355328) (fol:Bool) (hA:RP st N L (jC L cwd path fol).1 F F1) :
  dL 107 [.ptr pp 0,.str path,.bool fol] (Oid.under p) ((pp,prC st cwd um)::bk (N,F)) (fdR (jC L cwd path fol).2) (sb N F1):=by
 have hf:=fun F' h p hp hpp hO=>nD (pp:=pp) (st:=st) (N:=N) (F:=F) (F':=F') hK.so hK.lk hK.da path cwd um fol hpN hc hpath h p hp hpp hO
 unfold jC at hA ⊢
 generalize findF L cwd path fol=y at hf hA ⊢
 obtain ⟨rd,r⟩:=y
 unfold prC at hf ⊢
 cases r with
 | err e =>
  have hf':=hf _ hA
  refine gT (n:=23) (rs:=[.tmp 6,.cell 7 56]) Tryz.func107 rfl rfl (by decide) rfl rfl rfl ?_;rintro x rfl hrd hng
  rw [fk]
  refine kr0 ?_
  refine aj nmd [] hng (by kernel_rfl) fun hf C S K hC1 hC hS hK=>?_;simp (disch:=first|omega|assumption) only [go_sem,Oid.ab hpp,Oid.aa hpp,hpN,hO]
  refine hC _ _ _ (dL.pn (hf' _ (ax rfl hp) (fun h=>hpp (Oid.ae h)) (hO.sub _ _)) rfl) (by simp only [List.mem_cons,forall_eq_or_imp];exact ⟨by simp (disch:=first|omega|assumption) only [go_sem,Oid.ab hpp,Oid.aa hpp,hpN,hO],(by first|exact nbu _|exact nbA (by simp [hpN,hO.mem]) _)⟩) (fun _ _ h=>h.elim) ?_
  rintro _ _ ⟨rfl,rfl⟩
  exact cD rfl (ja ks0 (by first|exact nbu _|exact nbA (by simp [hpN,hO.mem]) _))
 | go a =>
  obtain ⟨F0,hA1,hA2⟩:=fh hA
  obtain rfl:F0=F1:=hA2
  have hf':=hf _ hA1
  obtain ⟨pl,ek,em,el⟩:=a
  simp only [dK,fdR,Bits.av] at hf' ⊢
  refine gT (n:=23) (rs:=[.tmp 6,.cell 7 56]) Tryz.func107 rfl rfl (by decide) rfl rfl rfl ?_;rintro x rfl hrd hng
  rw [fk]
  refine kr0 ?_
  refine kr1 hf' ?_
  by_cases c1:ek=0
  ·refine aj nmd [] hng (by kernel_rfl) fun hf C S K hC1 hC hS hK=>?_;simp (disch:=first|omega|assumption) only [go_sem,Oid.ab hpp,Oid.aa hpp,hpN,hO,c1,decide_true,decide_false,ne_eq,not_true_eq_false,not_false_eq_true]
   refine hC _ _ _ (cL 10 _) (fun _ h=>by cases h) (fun _ _ h=>h.elim) ?_
   rintro _ _ ⟨rfl,rfl⟩
   exact cD (by simp only [c1,if_true]) (ja (by show _=some _;simp (disch:=first|omega|assumption) only [go_sem,Oid.ab hpp,Oid.aa hpp,hpN,hO]) (by first|exact nbu _|exact nbA (by simp [hpN,hO.mem]) _))
  ·refine kr .o c1 (cq (bW 10 _) trivial) ?_
   refine kd (.d [] [] [6,7]) trivial trivial ?_
   refine aA (sx (v:=.tuple [.str pl,.agg [.int .i64 ek,.int .i64 em,.str el]]) ks0 (by simp only [c1,if_false]) (ja (by show _=some _;simp (disch:=first|omega|assumption) only [go_sem,Oid.ab hpp,Oid.aa hpp,hpN,hO]) (by first|exact nbu _|exact nbA (by simp [hpN,hO.mem]) _)))
omit hK hc in
theorem vY (place:Str) (hpl:place.length≤140737488355328) (hA:RP st N L [(bD place,false)] F F1) :
  dL 43 [.ptr pp 0,.str place] (Oid.under p) ((pp,prC st cwd um)::bk (N,F)) (if gy place (aO L (bD place))=0 then .go (.tuple []) else .err (gy place (aO L (bD place)))) (sb N F1):=by
 obtain ⟨_,hA,rfl⟩:=hA
 rename_i F1
 have hA':∀ p,p.mono=false→bE p N→af Tryz.prog 37 [.ptr st 0,.str (bD place)] (Oid.under p) ⟨bk (N,F),(aO L (bD place)).av,sb N F1⟩:=hA
 have hab:=fun p=>uh place hpl p
 generalize aO L (bD place)=B at hA' ⊢
 generalize bD place=A at hA' hab
 obtain ⟨ek,em,el⟩:=B
 simp only [Bits.av] at hA'
 unfold prC
 refine gT (n:=24) (rs:=[]) Tryz.func43 rfl rfl (by decide) rfl rfl rfl ?_;rintro x rfl hrd hng
 rw [fk]
 refine kd (.d [(3,5),(3,7),(5,7),(6,7)] [] [1,4]) trivial (cq (hab _) (cq hA' trivial)) ?_
 by_cases c1:place=[]
 ·refine aj nmd [] hng (by kernel_rfl) fun hf C S K hC1 hC hS hK=>?_;simp (disch:=first|omega|assumption) only [go_sem,Oid.ab hpp,Oid.aa hpp,hpN,hO,c1,decide_true,decide_false,ne_eq,not_true_eq_false,not_false_eq_true]
  refine hC _ _ _ (cL 18 _) (fun _ h=>by cases h) (fun _ _ h=>h.elim) ?_
  rintro _ _ ⟨rfl,rfl⟩
  exact cD (by simp [gy,c1]) (ja (by show _=some _;simp (disch:=first|omega|assumption) only [go_sem,Oid.ab hpp,Oid.aa hpp,hpN,hO]) (by first|exact nbu _|exact nbA (by simp [hpN,hO.mem]) _))
 refine kr .o c1 (cq (bW 18 _) trivial) ?_
 by_cases c2:ek=2
 case neg =>
  refine aj nmd [] hng (by kernel_rfl) fun hf C S K hC1 hC hS hK=>?_;simp (disch:=first|omega|assumption) only [go_sem,Oid.ab hpp,Oid.aa hpp,hpN,hO,c2,decide_true,decide_false,ne_eq,not_true_eq_false,not_false_eq_true]
  refine hC _ _ _ (cL 10 _) (fun _ h=>by cases h) (fun _ _ h=>h.elim) ?_
  rintro _ _ ⟨rfl,rfl⟩
  exact cD (by simp [gy,c1,c2]) (ja (by show _=some _;simp (disch:=first|omega|assumption) only [go_sem,Oid.ab hpp,Oid.aa hpp,hpN,hO]) (by first|exact nbu _|exact nbA (by simp [hpN,hO.mem]) _))
 refine kr .o c2 (cq (bW 10 _) trivial) ?_
 by_cases c3:iQ em 3=3
 case neg =>
  refine aj nmd [] hng (by kernel_rfl) fun hf C S K hC1 hC hS hK=>?_;simp (disch:=first|omega|assumption) only [go_sem,Oid.ab hpp,Oid.aa hpp,hpN,hO,c3,decide_true,decide_false,ne_eq,not_true_eq_false,not_false_eq_true]
  refine hC _ _ _ (cL 18 _) (fun _ h=>by cases h) (fun _ _ h=>h.elim) ?_
  rintro _ _ ⟨rfl,rfl⟩
  exact cD (by simp [gy,c1,c2,c3]) (ja (by show _=some _;simp (disch:=first|omega|assumption) only [go_sem,Oid.ab hpp,Oid.aa hpp,hpN,hO]) (by first|exact nbu _|exact nbA (by simp [hpN,hO.mem]) _))
 refine kr .o c3 (cq (bW 18 _) trivial) ?_
 exact bZ (lE (v:=.tuple []) rfl (by simp [gy,c1,c2,c3]) (ja (by show _=some _;simp (disch:=first|omega|assumption) only [go_sem,Oid.ab hpp,Oid.aa hpp,hpN,hO]) (by first|exact nbu _|exact nbA (by simp [hpN,hO.mem]) _)))
end
end Go.Proofs.YtfbnaalhioogoaaGreatDoor
namespace Go.Proofs.YtfbnaalhioogoaaGreatDoor
open Go Go.Ab
set_option maxRecDepth 20000
set_option maxHeartbeats 4000000
def rdS:Rs Str→Str
 | .err _=>[]
 | .go s=>s
def rdL:Rs (List Str)→List Str
 | .err _=>[]
 | .go l=>l
def rdB:Rs (Str × Bits)→Str × Bits
 | .err _=>([],Bits.no)
 | .go a=>a
def rdV (r:Rs Str):AV:=.tuple [.str (rdS r),.int .i64 (dI r)]
def lsV (r:Rs (List Str)):AV:=.tuple [.list 1 ((rdL r).map AV.str),.int .i64 (dI r)]
def fnV (r:Rs (Str × Bits)):AV:=.tuple [.str (rdB r).1,.agg [.int .i64 (rdB r).2.k,.int .i64 (rdB r).2.m,.str (rdB r).2.l],.int .i64 (dI r)]
def cdN (cwd:Str):Rs Str→Str
 | .err _=>cwd
 | .go a=>a
section
variable {pp st:Oid} {N:List Oid} {F F1 F2:Oid→aw} {L:PL} (hK:KL L) {cwd:Str} (hc:cwd.length≤1000000) (um:Int) (hpN:pp ∉ N) {p:Oid} (hp:p.mono=false) (hpp:¬ Oid.under p pp) (hO:bE p N)
include hK hc in
theorem lF (path:Str) (fol:Bool):∀ a,(findF L cwd path fol).2 = .go a→a.1.length≤140737488355328:=fun a h=>by
 have:=((mj hK.so hK.lk cwd path fol).2.2 a h).1;omega
include hK hc in
theorem zM (path:Str) (fol:Bool):∀ a,(jC L cwd path fol).2 = .go a→a.1.length≤140737488355328:=fun a h=>by
 have hb:=lF hK hc path fol
 unfold jC at h
 generalize findF L cwd path fol=y at hb h
 obtain ⟨rd,r⟩:=y
 cases r with
 | err e=>cases h
 | go b =>
  simp only [dK] at h
  split at h
  ·cases h
  ·cases h;exact hb _ rfl
include hK hc hpN hp hpp hO
end
end Go.Proofs.YtfbnaalhioogoaaGreatDoor
namespace Go.Proofs.YtfbnaalhioogoaaGreatDoor
open Go Go.Ab
set_option maxRecDepth 20000
set_option maxHeartbeats 4000000
section
variable {pp st:Oid} {N:List Oid} {F F1 F2:Oid→aw} {L:PL} (hK:KL L) {cwd:Str} (hc:cwd.length≤1000000) (um:Int) (hpN:pp ∉ N) {p:Oid} (hp:p.mono=false) (hpp:¬ Oid.under p pp) (hO:bE p N)
include hK hc hpN hp hpp hO
theorem vZ (path:Str) (hpath:path.length≤140737488355328) (hA:RP st N L (dq L cwd path).1 F F1) :
  af Tryz.prog 38 [.ptr pp 0,.str path] (Oid.under p) ⟨(pp,prC st cwd um)::bk (N,F),rdV (dq L cwd path).2,sb N F1⟩:=by
 have hf:=fun F' h p hp hpp hO=>CO (pp:=pp) (st:=st) (N:=N) (F:=F) (F1:=F') hK hc um hpN (p:=p) hp hpp hO path hpath true h
 have hlen:=zM hK hc path true
 unfold dq at hA ⊢
 generalize jC L cwd path true=y at hf hlen hA ⊢
 obtain ⟨rd,r⟩:=y
 unfold prC at hf ⊢
 refine GP (n:=25) (rs:=[.tmp 4,.cell 5 28]) Tryz.func38 rfl rfl (by decide) rfl rfl rfl ?_;rintro x rfl hrd hng
 rw [fk]
 refine kr0 ?_
 refine nC hng hrd rfl rfl rfl (by kernel_rfl) (show after _ _ _ _ _ _ ⟨_,_,_,[.call (.func 39) [] [.ptr (.sub 0 1 x.p) 0]]⟩ from ?_)
 (try ((first|refine zn ?_|refine ze ?_|refine zk ?_);with_reducible (constructor;repeat constructor));try refine zl ?_)
 cases r with
 | err e =>
  have hf':=hf _ hA
  exact kp1 trivial trivial hf'
 | go a =>
  obtain ⟨F0,hA1,hA2⟩:=fh hA
  have hf':=hf _ hA1
  obtain ⟨pl,ek,em,el⟩:=a
  have hpl:=hlen _ rfl
  simp only [pb,fdR,Bits.av] at hf' hA2 hpl ⊢
  generalize hX:((if ek=2 then .err 14 else if iQ em 4=0 then .err 18 else .go el):Rs Str)=X at ⊢
  refine kr1 hf' ?_
  obtain rfl:F0=F1:=hA2
  have hA2:F0=F0:=rfl
  by_cases c1:ek=2
  ·rw [if_pos c1] at hX
   subst hX
   exact kp1 c1 trivial (cL 14 _)
  rw [if_neg c1] at hX
  refine kr .o c1 (cq (bW 14 _) trivial) ?_
  by_cases c2:iQ em 4=0
  ·rw [if_pos c2] at hX
   subst hX
   exact kp1 c2 trivial (cL 18 _)
  rw [if_neg c2] at hX
  subst hX
  refine kr .o c2 (cq (bW 18 _) trivial) ?_
  refine kw0 ?_
  exact kz1
theorem L7 (path:Str) (hpath:path.length≤140737488355328) (fol:Bool) (hA:RP st N L (findF L cwd path fol).1 F F1) :
  af Tryz.prog 135 [.ptr pp 0,.str path,.bool fol] (Oid.under p) ⟨(pp,prC st cwd um)::bk (N,F),fnV (findF L cwd path fol).2,sb N F1⟩:=by
 have hf:=fun F' h p hp hpp hO=>nD (pp:=pp) (st:=st) (N:=N) (F:=F) (F':=F') hK.so hK.lk hK.da path cwd um fol hpN hc hpath h p hp hpp hO
 have hlen:=lF hK hc path fol
 generalize findF L cwd path fol=y at hf hlen hA ⊢
 obtain ⟨rd,r⟩:=y
 unfold prC at hf ⊢
 refine GP (n:=18) (rs:=[.tmp 6,.cell 7 56,.cell 8 28]) Tryz.func135 rfl rfl (by decide) rfl rfl rfl ?_;rintro x rfl hrd hng
 rw [fk]
 refine kr0 ?_
 refine nC hng hrd rfl rfl rfl (by kernel_rfl) (show after _ _ _ _ _ _ ⟨_,_,_,[.call (.func 39) [] [.ptr (.sub 0 2 x.p) 0]]⟩ from ?_)
 (try ((first|refine zn ?_|refine ze ?_|refine zk ?_);with_reducible (constructor;repeat constructor));try refine zl ?_)
 cases r with
 | err e =>
  have hf':=hf _ hA
  refine aj nmd [] hng (by kernel_rfl) fun hf C S K hC1 hC hS hK=>?_;simp (disch:=first|omega|assumption) only [go_sem,Oid.ab hpp,Oid.aa hpp,hpN,hO]
  refine hC _ _ _ (dL.pn (hf' _ (ax rfl hp) (fun h=>hpp (Oid.ae h)) (hO.sub _ _)) rfl) (by simp only [List.mem_cons,forall_eq_or_imp];exact ⟨by simp (disch:=first|omega|assumption) only [go_sem,Oid.ab hpp,Oid.aa hpp,hpN,hO],(by first|exact nbu _|exact nbA (by simp [hpN,hO.mem]) _)⟩) (fun _ _ h=>h.elim) ?_
  rintro _ _ ⟨rfl,rfl⟩
  simp only [fnV,rdB,Bits.no]
  exact kx2
 | go a =>
  have hf':=hf _ hA
  obtain ⟨pl,ek,em,el⟩:=a
  simp only [fdR,Bits.av] at hf'
  refine kr1 hf' ?_
  refine kd (.d [] [] [0,6,7,8]) trivial trivial ?_
  refine kw0 ?_
  exact kz2
end
end Go.Proofs.YtfbnaalhioogoaaGreatDoor
namespace Go.Proofs.YtfbnaalhioogoaaGreatDoor
open Go Go.Ab
set_option maxRecDepth 20000
set_option maxHeartbeats 4000000
section
variable {pp st:Oid} {N:List Oid} {F F1 F2:Oid→aw} {L:PL} (hK:KL L) {cwd:Str} (hc:cwd.length≤1000000) (um:Int) (hpN:pp ∉ N) {p:Oid} (hp:p.mono=false) (hpp:¬ Oid.under p pp) (hO:bE p N)
include hK hc hpN hp hpp hO
theorem Kz (path:Str) (hpath:path.length≤140737488355328) (e:Bits) (hA:RP st N L (lD L cwd path e).1 F F1) (hP:PP st N (dP (lD L cwd path e).2) F1 F2) :
  af Tryz.prog 169 [.ptr pp 0,.str path,e.av] (Oid.under p) ⟨(pp,prC st cwd um)::bk (N,F),.int .i64 (dI (lD L cwd path e).2),sb N F2⟩:=by
 have hf:=fun F' h p hp hpp hO=>nD (pp:=pp) (st:=st) (N:=N) (F:=F) (F':=F') hK.so hK.lk hK.da path cwd um false hpN hc hpath h p hp hpp hO
 have hlen:=lF hK hc path false
 obtain ⟨ak,am,al⟩:=e
 unfold lD at hA hP ⊢
 generalize findF L cwd path false=y at hf hlen hA hP ⊢
 obtain ⟨rd,r⟩:=y
 unfold prC at hf ⊢
 simp only [Bits.av]
 refine GP (n:=29) (rs:=[.cell 6 28]) Tryz.func169 rfl rfl (by decide) rfl rfl rfl ?_;rintro x rfl hrd hng
 rw [fk]
 refine kr0 ?_
 refine nC hng hrd rfl rfl rfl (by kernel_rfl) (show after _ _ _ _ _ _ ⟨_,_,_,[.call (.func 39) [] [.ptr (.sub 0 1 x.p) 0]]⟩ from ?_)
 (try ((first|refine zn ?_|refine ze ?_|refine zk ?_);with_reducible (constructor;repeat constructor));try refine zl ?_)
 cases r with
 | err e =>
  obtain rfl:F1=F2:=hP
  have hf':=hf _ hA
  exact kp1 trivial trivial hf'
 | go a =>
  obtain ⟨F0,hA1,hA2⟩:=fh hA
  have hf':=hf _ hA1
  obtain ⟨pl,ek,em,el⟩:=a
  have hpl:=hlen _ rfl
  simp only [pb,fdR,Bits.av] at hf' hA2 hP hpl ⊢
  generalize hX:(if ¬ ek=0 then (([],.err 11):Rds × Rs Pts) else gL L pl [(pl,⟨ak,am,al⟩)])=X at hA2 hP ⊢
  refine kr1 hf' ?_
  by_cases c1:ek=0
  case neg =>
   rw [if_pos c1] at hX
   subst hX
   obtain rfl:F0=F1:=hA2
   obtain rfl:F0=F2:=hP
   exact kp1 c1 trivial (cL 11 _)
  rw [if_neg (fun h=>h c1)] at hX
  subst hX
  refine kr .o c1 (cq (bW 11 _) trivial) ?_
  have hr:=fun p hp hpp hO=>vY (pp:=pp) (st:=st) (N:=N) (F:=F0) (F1:=F1) (L:=L) (cwd:=cwd) um hpN (p:=p) hp hpp hO pl hpl hA2
  simp only [gL] at hP ⊢
  generalize gy pl (aO L (bD pl))=re at hr hP ⊢
  unfold prC at hr
  by_cases c2:re=0
  case neg =>
   rw [if_pos c2] at hP ⊢
   simp only [if_neg c2] at hr
   obtain rfl:F1=F2:=hP
   exact kp1 trivial trivial hr
  rw [if_neg (fun h=>h c2)] at hP ⊢
  simp only [if_pos c2] at hr
  obtain ⟨_,hput,rfl⟩:=hP
  simp only [Bits.av] at hput
  refine kr1 hr ?_
  refine kd (.d [] [] [0,6]) trivial (cq hput trivial) ?_
  refine kw0 ?_
  exact kz1
end
end Go.Proofs.YtfbnaalhioogoaaGreatDoor
namespace Go.Proofs.YtfbnaalhioogoaaGreatDoor
open Go Go.Ab
set_option maxRecDepth 20000
set_option maxHeartbeats 4000000
section
variable {pp st:Oid} {N:List Oid} {F F1 F2:Oid→aw} {L:PL} (hK:KL L) {cwd:Str} (hc:cwd.length≤1000000) (um:Int) (hpN:pp ∉ N) {p:Oid} (hp:p.mono=false) (hpp:¬ Oid.under p pp) (hO:bE p N)
include hK hc hpN hp hpp hO
end
end Go.Proofs.YtfbnaalhioogoaaGreatDoor
namespace Go.Proofs.YtfbnaalhioogoaaGreatDoor
open Go Go.Ab
set_option maxRecDepth 20000
set_option maxHeartbeats 4000000
section
variable {pp st:Oid} {N:List Oid} {F F1 F2:Oid→aw} {L:PL} (hK:KL L) {cwd:Str} (hc:cwd.length≤1000000) (um:Int) (hpN:pp ∉ N) {p:Oid} (hp:p.mono=false) (hpp:¬ Oid.under p pp) (hO:bE p N)
include hK hc hpN hp hpp hO
theorem xw (path:Str) (hpath:path.length≤140737488355328) (data:Str) (hdata:data.length≤140737488355328) (more:Bool) (hA:RP st N L (c7 L cwd um path data more).1 F F1) (hP:PP st N (dP (c7 L cwd um path data more).2) F1 F2) :
  af Tryz.prog 12 [.ptr pp 0,.str path,.str data,.bool more] (Oid.under p) ⟨(pp,prC st cwd um)::bk (N,F),.int .i64 (dI (c7 L cwd um path data more).2),sb N F2⟩:=by
 have hf:=fun F' h p hp hpp hO=>nD (pp:=pp) (st:=st) (N:=N) (F:=F) (F':=F') hK.so hK.lk hK.da path cwd um true hpN hc hpath h p hp hpp hO
 have hlen:=lF hK hc path true
 have hsf:=fun p=>iO path (by omega) p
 have hda:=hK.da
 have hdl:∀ a,(findF L cwd path true).2 = .go a→a.2.l.length≤4000000:=fun a h=>by
  rw [((mj hK.so hK.lk cwd path true).2.2 a h).2];exact hda _
 unfold c7 at hA hP ⊢
 generalize findF L cwd path true=y at hf hlen hdl hA hP ⊢
 obtain ⟨rd,r⟩:=y
 unfold prC at hf ⊢
 refine GP (n:=60) (rs:=[.cell 8 28]) Tryz.func12 rfl rfl (by decide) rfl rfl rfl ?_;rintro x rfl hrd hng
 rw [fk]
 refine kr0 ?_
 refine nC hng hrd rfl rfl rfl (by kernel_rfl) (show after _ _ _ _ _ _ ⟨_,_,_,[.call (.func 39) [] [.ptr (.sub 0 0 x.p) 0]]⟩ from ?_)
 (try ((first|refine zn ?_|refine ze ?_|refine zk ?_);with_reducible (constructor;repeat constructor));try refine zl ?_)
 cases r with
 | err e =>
  obtain rfl:F1=F2:=hP
  have hf':=hf _ hA
  exact kp0 trivial trivial hf'
 | go a =>
  obtain ⟨F0,hA1,hA2⟩:=fh hA
  have hf':=hf _ hA1
  obtain ⟨pl,ek,em,el⟩:=a
  have hpl:=hlen _ rfl
  have hel:=hdl _ rfl
  simp only [pb,fdR,Bits.av] at hf' hA2 hP hpl hel ⊢
  refine kr1 hf' ?_
  by_cases c1:ek=2
  ·rw [if_pos c1] at hA2 hP ⊢
   obtain rfl:F0=F1:=hA2
   obtain rfl:F0=F2:=hP
   exact kp0 c1 trivial (cL 14 _)
  rw [if_neg c1] at hA2 hP ⊢
  refine kr .o c1 (cq (bW 14 _) trivial) ?_
  refine kw0 ?_
  refine cQ [0,2,3,8,9,10] (fun s'=>∃ (c':Nat) (e':Bits),s' = ⟨[(0,.ptr pp 0),(2,.str data),(3,.bool more),(8,.ptr (.sub 0 0 x.p) 0),(9,.str pl),(10,.ptr (.sub 2 6 x.p) 0)],Mem.blk [(pp,.cells [.ptr st 0,.str cwd,.int .i64 um]),(.sub 0 0 x.p,.cells [.int .i64 0]),(.sub 2 6 x.p,.cells [.int .i64 e'.k,.int .i64 e'.m,.str e'.l])] [(N,F1)],c',[.call (.func 39) [] [.ptr (.sub 0 0 x.p) 0]]⟩∧2 < c'∧e'.l.length≤4000000 ∧
    (if ek=0 then (if iv path=true then (([],.err 14):Rds × Rs Pts) else dK (gL L pl ()) fun _=>([],eV pl ⟨1,cC 6 um,[]⟩ more data)) else if iQ em 2=0 then ([],.err 18) else ([],eV pl ⟨ek,em,el⟩ more data)).2=eV pl e' more data) ?_ ?_
  ·refine aX rfl rfl (fun hb=>?_) (fun hb=>?_)
   ·rw [if_pos hb] at hA2 hP ⊢
    subst hb
    generalize iv path=es at hsf hA2 hP ⊢
    (try ((first|refine zn ?_|refine ze ?_|refine zk ?_);with_reducible (constructor;repeat constructor));try refine zl ?_)
    cases es with
    | true =>
     rw [if_pos rfl] at hA2 hP ⊢
     obtain rfl:F0=F1:=hA2
     obtain rfl:F0=F2:=hP
     exact kp0 trivial (cq (hsf _) trivial) (cL 14 _)
    | false =>
     rw [if_neg Bool.false_ne_true] at hA2 hP ⊢
     refine kr .o trivial (cq (hsf _) (cq (bW 14 _) trivial)) ?_
     by_cases c9:gy pl (aO L (bD pl))=0
     case neg =>
      rw [vX c9] at hA2 hP ⊢
      have hr:=fun p hp hpp hO=>vY (pp:=pp) (st:=st) (N:=N) (F:=F0) (F1:=F1) (L:=L) (cwd:=cwd) um hpN (p:=p) hp hpp hO pl hpl hA2
      simp only [if_neg c9] at hr
      generalize gy pl (aO L (bD pl))=re at hr hP ⊢
      unfold prC at hr
      obtain rfl:F1=F2:=hP
      exact kp0 trivial trivial hr
     rw [vW c9] at hA2 hP ⊢
     obtain ⟨F4,hC1',hC2'⟩:=fh hA2
     obtain rfl:F4=F1:=hC2'
     have hr:=fun p hp hpp hO=>vY (pp:=pp) (st:=st) (N:=N) (F:=F0) (F1:=F4) (L:=L) (cwd:=cwd) um hpN (p:=p) hp hpp hO pl hpl hC1'
     simp only [if_pos c9] at hr
     unfold prC at hr
     refine kr1 hr ?_
     refine kw0 ?_
     exact aT ⟨_,⟨1,cC 6 um,[]⟩,rfl,by omega,by simp,rfl⟩
   ·rw [if_neg hb] at hA2 hP ⊢
    (try ((first|refine zn ?_|refine ze ?_|refine zk ?_);with_reducible (constructor;repeat constructor));try refine zl ?_)
    by_cases c2:iQ em 2=0
    ·rw [if_pos c2] at hA2 hP ⊢
     obtain rfl:F0=F1:=hA2
     obtain rfl:F0=F2:=hP
     exact kp0 c2 trivial (cL 18 _)
    rw [if_neg c2] at hA2 hP ⊢
    obtain rfl:F0=F1:=hA2
    refine kr .o c2 (cq (bW 18 _) trivial) ?_
    exact aT ⟨_,⟨ek,em,el⟩,rfl,by omega,hel,rfl⟩
  rintro s' ⟨c',e',rfl,hc',hel',hres⟩
  rw [hres] at hP ⊢
  obtain ⟨k',m',l'⟩:=e'
  simp only at hel' ⊢
  unfold eV at hP ⊢
  refine kr0 ?_
  refine cQ [0,2,8,9,10] (fun s'=>∃ c':Nat,s' = ⟨[(0,.ptr pp 0),(2,.str (xr ⟨k',m',l'⟩ more data)),(8,.ptr (.sub 0 0 x.p) 0),(9,.str pl),(10,.ptr (.sub 2 6 x.p) 0)],Mem.blk [(pp,.cells [.ptr st 0,.str cwd,.int .i64 um]),(.sub 0 0 x.p,.cells [.int .i64 0]),(.sub 2 6 x.p,.cells [.int .i64 k',.int .i64 m',.str l'])] [(N,F1)],c',[.call (.func 39) [] [.ptr (.sub 0 0 x.p) 0]]⟩∧2 < c') ?_ ?_
  ·cases more with
   | true =>
    refine kw0 ?_
    exact aT ⟨_,rfl,by omega⟩
   | false =>
    refine kw0 ?_
    exact aT ⟨_,rfl,by omega⟩
  clear hc' c'
  rintro s' ⟨c',rfl,hc'⟩
  generalize xr ⟨k',m',l'⟩ more data=D at hP ⊢
  (try ((first|refine zn ?_|refine ze ?_|refine zk ?_);with_reducible (constructor;repeat constructor));try refine zl ?_)
  by_cases c5:100000 < D.length
  ·rw [if_pos c5] at hP ⊢
   obtain rfl:F1=F2:=hP
   have e5:¬ (D.length:Int)≤100000:=by omega
   exact kp0 e5 trivial (cL 2 _)
  rw [if_neg c5] at hP ⊢
  have e5:(D.length:Int)≤100000:=by omega
  obtain ⟨_,hput,rfl⟩:=hP
  simp only [Bits.av] at hput
  refine kr .o e5 (cq (bW 2 _) trivial) ?_
  refine kr0 ?_
  refine kd (.d [] [] [0,8]) trivial (cq hput trivial) ?_
  refine kw0 ?_
  exact kz0
end
end Go.Proofs.YtfbnaalhioogoaaGreatDoor
namespace Go.Proofs.YtfbnaalhioogoaaGreatDoor
open Go Go.Ab
set_option maxRecDepth 20000
set_option maxHeartbeats 4000000
section
variable {p pp q:Oid} {o o':aw} {N:List Oid} {F G:Oid→aw} {fr:List (Nat × AV)} {m:Mem} {c:Nat} {z e:Int} {val:AV} {rs:List ResultVar}
end
section
variable {pp st:Oid} {N:List Oid} {F F1 F2:Oid→aw} {L:PL} (hK:KL L) {cwd:Str} (hc:cwd.length≤1000000) (um:Int) (hpN:pp ∉ N) {p:Oid} (hp:p.mono=false) (hpp:¬ Oid.under p pp) (hO:bE p N)
include hK hc hpN hp hpp hO
theorem GY (path:Str) (hpath:path.length≤140737488355328) (hA:RP st N L (jD L cwd um path).1 F F1) (hP:PP st N (dP (jD L cwd um path).2) F1 F2) :
  af Tryz.prog 82 [.ptr pp 0,.str path] (Oid.under p) ⟨(pp,prC st cwd um)::bk (N,F),.int .i64 (dI (jD L cwd um path).2),sb N F2⟩:=by
 have hm:=fun p hp hpp hO=>Kz (pp:=pp) (st:=st) (N:=N) (F:=F) (F1:=F1) (F2:=F2) hK hc um hpN (p:=p) hp hpp hO path hpath _ hA hP
 unfold jD at hA hP ⊢
 generalize dI (lD L cwd path ⟨2,cC 7 um,[]⟩).2=E at hm ⊢
 simp only [Bits.av] at hm
 unfold prC at hm ⊢
 refine aJ (n:=14) (rs:=[.tmp 4]) Tryz.func82 rfl rfl (by decide) rfl rfl rfl ?_;rintro x rfl hrd hng
 rw [fk]
 refine kr0 ?_
 refine kr1 hm ?_
 refine aA (xj rfl (by show _=some _;simp (disch:=first|omega|assumption) only [go_sem,Oid.ab hpp,Oid.aa hpp,hpN,hO]) (by first|exact nbu _|exact nbA (by simp [hpN,hO.mem]) _))
end
end Go.Proofs.YtfbnaalhioogoaaGreatDoor
namespace Go.Proofs.YtfbnaalhioogoaaGreatDoor
open Go Go.Ab
set_option maxRecDepth 20000
set_option maxHeartbeats 4000000
structure Res where
 st:Int
 out:Str
 err:Str
 deriving DecidableEq
def Res.av (r:Res):AV:=.agg [.int .i64 r.st,.str r.out,.str r.err]
def bh (n:Str):Res:=⟨2,[],n++[58,32,117,115,97,103,101,10]⟩
def a6 (s:Str):Res:=⟨0,s,[]⟩
def bj:Res:=⟨0,[],[]⟩
theorem CP (s:Str) (hl:s.length≤4000000000) (p:Oid):af Tryz.prog 153 [.str s] (Oid.under p) ⟨[],(bh s).av,[]⟩:=by
 refine aJ (n:=6) (rs:=[.cell 2 45]) Tryz.func153 rfl rfl (by decide) rfl rfl rfl ?_;rintro x rfl hrd hng
 (repeat (first|(refine aq rfl rfl ?_)|(refine ar rfl rfl ?_)|(refine aj nmd [] hng (by kernel_rfl) fun hf C S K hC1 hC hS hK=>?_;simp (disch:=first|omega|assumption) only [go_sem];refine hK ?_;clear hK hS hC hC1 K S C hf)|((first|refine zn ?_|refine ze ?_|refine zk ?_);with_reducible (constructor;repeat constructor);try refine zl ?_)))
 exact aA (ay (by simp (disch:=first|omega|assumption) only [go_sem,Res.av,a6,bj,bh]))
theorem gX (s t:Str) (hl:s.length≤9223372036854775807) (sp:Oid→Prop):af Tryz.prog 210 [.str s,.str t] sp ⟨[],.str (Lib.trimSuffix s t),[]⟩ :=
 cm (by kernel_rfl) fun g args w ha _=>by
  obtain ⟨v,u,rfl,hv,hu⟩:=ha.two
  obtain ⟨b,rfl,hb⟩:=hv.br
  obtain ⟨d,rfl,hd⟩:=hu.br
  rw [gu hb,gu hd]
  refine (Tryz.strings_TrimSuffix ⟨s.toArray⟩ ⟨t.toArray⟩ w (by show s.toArray.size≤_;simpa using hl)).mono ?_
  rintro e w' ⟨rfl,rfl⟩
  exact ⟨_,rfl,.str _ _ rfl,rfl⟩
theorem sB (s:Str) (hl:s.length≤9223372036854775807) (sp:Oid→Prop):af Tryz.prog 279 [.str s,.str [47]] sp ⟨[],.str (Lib.trimRightB s 47),[]⟩ :=
 cm (by kernel_rfl) fun g args w ha _=>by
  obtain ⟨v,u,rfl,hv,hu⟩:=ha.two
  obtain ⟨b,rfl,hb⟩:=hv.br
  obtain ⟨d,rfl,hd⟩:=hu.br
  rw [gu hb,gu hd]
  refine (Tryz.strings_TrimRight_one ⟨s.toArray⟩ 47 (by decide) w (by show s.toArray.size≤_;simpa using hl)).mono ?_
  rintro e w' ⟨rfl,rfl⟩
  exact ⟨_,rfl,.str _ _ rfl,rfl⟩
def bX (s:Str):Nat→Nat
 | 0=>0
 | k+1=>if s.getD k 0=47 then bX s k else k+1
theorem jZ (s:Str):∀ k,bX s k≤k
 | 0=>Nat.le_refl _
 | k+1=>by have:=jZ s k;rw [bX];split<;>omega
theorem ko (s:Str):∀ k j,bX s k≤j→j < k→s.getD j 0=47
 | 0,_,_,h=>absurd h (Nat.not_lt_zero _)
 | k+1,j,h1,h2=>by
  rw [bX] at h1
  split at h1
  ·rename_i he
   by_cases hj:j=k
   ·subst hj;exact he
   ·exact ko s k j h1 (by omega)
  ·omega
theorem qS (s:Str):∀ k,0 < bX s k→¬ s.getD (bX s k - 1) 0=47
 | 0,h=>absurd h (Nat.lt_irrefl _)
 | k+1,h=>by
  rw [bX] at h ⊢
  split
  ·rename_i he;rw [if_pos he] at h;exact qS s k h
  ·rename_i he;exact he
theorem pc (s:Str):Lib.trimRightB s 47=s.take (bX s s.length):=by
 refine Lib.trimRightB_take s 47 _ (jZ _ _) (fun j b hj hb=>?_) (fun b h0 hb=>?_)
 ·obtain ⟨hj2,rfl⟩:=List.getElem?_eq_some_iff.1 hb
  have:=ko s _ j hj hj2
  rwa [List.getD_eq_getElem?_getD,hb,Option.getD_some] at this
 ·have:=qS s _ h0
  rwa [List.getD_eq_getElem?_getD,hb,Option.getD_some] at this
def qT (s:Str):Nat→Nat
 | 0=>0
 | 1=>1
 | k+2=>if s.getD (k+1) 0=47 then qT s (k+1) else k+2
theorem mT (s:Str):∀ k,(0 < bX s k∧qT s k=bX s k)∨(bX s k=0∧k=0)∨(bX s k=0∧0 < k∧qT s k=1∧s.getD 0 0=47)
 | 0=>.inr (.inl ⟨rfl,rfl⟩)
 | 1=>by
  rw [bX,qT]
  by_cases h:s.getD 0 0=47
  ·rw [if_pos h];exact .inr (.inr ⟨rfl,by omega,rfl,h⟩)
  ·rw [if_neg h];exact .inl ⟨by omega,rfl⟩
 | k+2=>by
  have ih:=mT s (k+1)
  rw [bX,qT]
  by_cases h:s.getD (k+1) 0=47
  ·rw [if_pos h,if_pos h]
   rcases ih with h1|h1|h1
   ·exact .inl h1
   ·omega
   ·exact .inr (.inr ⟨h1.1,by omega,h1.2.2⟩)
  ·rw [if_neg h,if_neg h];exact .inl ⟨by omega,rfl⟩
def bF (s:Str):Str:=s.take (qT s s.length)
theorem take_one {s:Str} (h0:0 < s.length):s.take 1=[s.getD 0 0]:=by
 cases s with
 | nil=>simp at h0
 | cons b s=>simp
theorem uk (s:Str):bF s=if ¬ Lib.trimRightB s 47=[]∨s=[] then Lib.trimRightB s 47 else [47]:=by
 rw [pc];unfold bF
 have hl:=jZ s s.length
 rcases mT s s.length with ⟨h1,h2⟩|⟨h1,h2⟩|⟨h1,h2,h3,h4⟩
 ·rw [if_pos (.inl fun e=>by have:=congrArg List.length e;rw [List.length_take,List.length_nil] at this;omega),h2]
 ·have:s=[]:=List.eq_nil_of_length_eq_zero h2
  subst this;rfl
 ·rw [if_neg (fun hh=>hh.elim (fun h=>h (by rw [h1,List.take_zero])) (fun e=>by rw [e] at h2;simp at h2)),h3,take_one h2,h4]
theorem j0 (s:Str):(bF s).length≤s.length:=by unfold bF;rw [List.length_take];omega
theorem sC (s:Str) (hl:s.length≤4000000000) (p:Oid):af Tryz.prog 234 [.str s] (Oid.under p) ⟨[],.str (bF s),[]⟩:=by
 rw [uk]
 refine aJ (n:=13) (rs:=[.tmp 2]) Tryz.func234 rfl rfl (by decide) rfl rfl rfl ?_;rintro x rfl hrd hng
 (repeat (first|(refine aq rfl rfl ?_)|(refine ar rfl rfl ?_)|(refine aj nmd [] hng (by kernel_rfl) fun hf C S K hC1 hC hS hK=>?_;simp (disch:=first|omega|assumption) only [go_sem];(repeat ((first|refine hC1 _ (sB s (by omega) _) (by simp (disch:=first|omega|assumption) only [go_sem]) ?_);simp (disch:=first|omega|assumption) only [go_sem]));refine hK ?_;clear hK hS hC hC1 K S C hf)|((first|refine zn ?_|refine ze ?_|refine zk ?_);with_reducible (constructor;repeat constructor);try refine zl ?_)))
 by_cases h0:Lib.trimRightB s 47=[]
 ·by_cases h1:s=[]
  ·rw [if_pos (.inr h1)]
   refine aj nmd [(2,8)] hng (by kernel_rfl) fun hf C S K hC1 hC hS hK=>?_;simp (disch:=first|omega|assumption) only [go_sem,h0,h1,decide_true,decide_false,ne_eq,not_true_eq_false,not_false_eq_true]
   (repeat' (first|(refine aD (fun hv=>?_) (fun hv=>?_)<;>(try simp only [zb1,zb2,zb3,zb4,zb5] at hv)<;>simp (disch:=first|omega|assumption) only [go_sem,hv,h0,h1,decide_true,decide_false,ne_eq,not_true_eq_false,not_false_eq_true])|(refine hK ?_;clear hK hS hC hC1 K S C hf)))
   all_goals first|exact absurd rfl hv|((repeat (first|(refine aq rfl rfl ?_)|(refine ar rfl rfl ?_)|(refine aj nmd [] hng (by kernel_rfl) fun hf C S K hC1 hC hS hK=>?_;simp (disch:=first|omega|assumption) only [go_sem];refine hK ?_;clear hK hS hC hC1 K S C hf)|((first|refine zn ?_|refine ze ?_|refine zk ?_);with_reducible (constructor;repeat constructor);try refine zl ?_)));exact aA (bd (congrArg AV.str (by subst h1;exact h0))))
  ·rw [if_neg (fun hh=>hh.elim (fun h=>h h0) h1)]
   refine aj nmd [(2,8)] hng (by kernel_rfl) fun hf C S K hC1 hC hS hK=>?_;simp (disch:=first|omega|assumption) only [go_sem,h0,h1,decide_true,decide_false,ne_eq,not_true_eq_false,not_false_eq_true]
   (repeat' (first|(refine aD (fun hv=>?_) (fun hv=>?_)<;>(try simp only [zb1,zb2,zb3,zb4,zb5] at hv)<;>simp (disch:=first|omega|assumption) only [go_sem,hv,h0,h1,decide_true,decide_false,ne_eq,not_true_eq_false,not_false_eq_true])|(refine hK ?_;clear hK hS hC hC1 K S C hf)))
   all_goals first|exact absurd rfl hv|((repeat (first|(refine aq rfl rfl ?_)|(refine ar rfl rfl ?_)|(refine aj nmd [] hng (by kernel_rfl) fun hf C S K hC1 hC hS hK=>?_;simp (disch:=first|omega|assumption) only [go_sem];refine hK ?_;clear hK hS hC hC1 K S C hf)|((first|refine zn ?_|refine ze ?_|refine zk ?_);with_reducible (constructor;repeat constructor);try refine zl ?_)));exact aA (bd rfl))
 ·rw [if_pos (.inl h0)]
  refine aj nmd [(2,8)] hng (by kernel_rfl) fun hf C S K hC1 hC hS hK=>?_;simp (disch:=first|omega|assumption) only [go_sem,h0,decide_true,decide_false,ne_eq,not_true_eq_false,not_false_eq_true]
  (repeat' (first|(refine aD (fun hv=>?_) (fun hv=>?_)<;>(try simp only [zb1,zb2,zb3,zb4,zb5] at hv)<;>simp (disch:=first|omega|assumption) only [go_sem,hv,h0,decide_true,decide_false,ne_eq,not_true_eq_false,not_false_eq_true])|(refine hK ?_;clear hK hS hC hC1 K S C hf)))
  all_goals first|exact absurd rfl hv|((repeat (first|(refine aq rfl rfl ?_)|(refine ar rfl rfl ?_)|(refine aj nmd [] hng (by kernel_rfl) fun hf C S K hC1 hC hS hK=>?_;simp (disch:=first|omega|assumption) only [go_sem];refine hK ?_;clear hK hS hC hC1 K S C hf)|((first|refine zn ?_|refine ze ?_|refine zk ?_);with_reducible (constructor;repeat constructor);try refine zl ?_)));exact aA (bd rfl))
def lG (s:Str):Str:=if bF s=[47] then [47] else (bF s).drop (bN (bF s) 47 (bF s).length+1).toNat
theorem qU (s:Str):(lG s).length≤s.length+1:=by
 have:=j0 s
 unfold lG;split
 ·simp
 ·rw [List.length_drop];omega
theorem xx (s:Str) (hl:s.length≤4000000000) (p:Oid):af Tryz.prog 211 [.str s] (Oid.under p) ⟨[],.str (lG s),[]⟩:=by
 have hbl:=j0 s
 have hk:=ly (bF s) 47 (bF s).length
 refine aJ (n:=13) (rs:=[.tmp 2]) Tryz.func211 rfl rfl (by decide) rfl rfl rfl ?_;rintro x rfl hrd hng
 (repeat (first|(refine aq rfl rfl ?_)|(refine ar rfl rfl ?_)|(refine aj nmd [] hng (by kernel_rfl) fun hf C S K hC1 hC hS hK=>?_;simp (disch:=first|omega|assumption) only [go_sem];(repeat ((first|refine hC1 _ (sC s hl _) (by simp (disch:=first|omega|assumption) only [go_sem]) ?_);simp (disch:=first|omega|assumption) only [go_sem]));refine hK ?_;clear hK hS hC hC1 K S C hf)|((first|refine zn ?_|refine ze ?_|refine zk ?_);with_reducible (constructor;repeat constructor);try refine zl ?_)))
 refine aX rfl rfl (fun hb=>?_) (fun hb=>?_)
 ·(repeat (first|(refine aq rfl rfl ?_)|(refine ar rfl rfl ?_)|(refine aj nmd [] hng (by kernel_rfl) fun hf C S K hC1 hC hS hK=>?_;simp (disch:=first|omega|assumption) only [go_sem];refine hK ?_;clear hK hS hC hC1 K S C hf)|((first|refine zn ?_|refine ze ?_|refine zk ?_);with_reducible (constructor;repeat constructor);try refine zl ?_)))
  exact aA (bd (congrArg AV.str (hb.trans (by rw [lG,if_pos hb]))))
 ·(repeat (first|(refine aq rfl rfl ?_)|(refine ar rfl rfl ?_)|(refine aj nmd [] hng (by kernel_rfl) fun hf C S K hC1 hC hS hK=>?_;simp (disch:=first|omega|assumption) only [go_sem];(repeat ((first|refine hC1 _ (kM (bF s) 47 (by omega) _) (by simp (disch:=first|omega|assumption) only [go_sem]) ?_);simp (disch:=first|omega|assumption) only [go_sem]));refine hK ?_;clear hK hS hC hC1 K S C hf)|((first|refine zn ?_|refine ze ?_|refine zk ?_);with_reducible (constructor;repeat constructor);try refine zl ?_)))
  exact aA (bd (congrArg AV.str (by rw [lG,if_neg hb])))
end Go.Proofs.YtfbnaalhioogoaaGreatDoor
namespace Go.Proofs
open Go.Shelf
def Tryz.mU:Go.Shelf.Ren:=⟨fun|156=>217|165=>275|166=>178|169=>179|240=>253|241=>312|276=>298|277=>334|n=>n,fun|31=>27|9=>9|3=>3|4=>4|0=>0|20=>20|72=>194|76=>197|70=>190|37=>192|75=>196|127=>250|164=>272|5=>5|80=>185|n=>n,fun|n=>n⟩
theorem Tryz.xy:Go.Proofs.Lays.n156 Tryz.prog Tryz.mU:={
 mixed:=by kernel_rfl
 f156:=Tryz.func217.trans (congrArg some (by kernel_rfl))
 f165:=Tryz.func275.trans (congrArg some (by kernel_rfl))
 f166:=Tryz.func178.trans (congrArg some (by kernel_rfl))
 f169:=Tryz.func179.trans (congrArg some (by kernel_rfl))
 f240:=Tryz.func253.trans (congrArg some (by kernel_rfl))
 f241:=Tryz.func312.trans (congrArg some (by kernel_rfl))
 f276:=Tryz.func298.trans (congrArg some (by kernel_rfl))
 f277:=Tryz.func334.trans (congrArg some (by kernel_rfl))
 t0:=Tryz.underlying0
 a0:=Tryz.isAgg0
 z0:=Tryz.sizeOf0
 v0:=Tryz.zeroValue0
 t3:=Tryz.underlying3
 a3:=Tryz.isAgg3
 z3:=Tryz.sizeOf3
 v3:=Tryz.zeroValue3
 t4:=Tryz.underlying4
 a4:=Tryz.isAgg4
 z4:=Tryz.sizeOf4
 v4:=Tryz.zeroValue4
 t9:=Tryz.underlying9
 a9:=Tryz.isAgg9
 z9:=Tryz.sizeOf9
 v9:=Tryz.zeroValue9
 t20:=Tryz.underlying20
 a20:=Tryz.isAgg20
 z20:=Tryz.sizeOf20
 v20:=Tryz.zeroValue20
 t31:=Tryz.underlying27
 a31:=Tryz.isAgg27
 z31:=Tryz.sizeOf27
 v31:=Tryz.zeroValue27
 t37:=Tryz.underlying192
 a37:=Tryz.isAgg192
 z37:=Tryz.sizeOf192
 v37:=Tryz.zeroValue192
 t70:=Tryz.underlying190
 a70:=Tryz.isAgg190
 z70:=Tryz.sizeOf190
 v70:=Tryz.zeroValue190
 t72:=Tryz.underlying194
 a72:=Tryz.isAgg194
 z72:=Tryz.sizeOf194
 v72:=Tryz.zeroValue194
 t75:=Tryz.underlying196
 a75:=Tryz.isAgg196
 z75:=Tryz.sizeOf196
 v75:=Tryz.zeroValue196
 t76:=Tryz.underlying197
 a76:=Tryz.isAgg197
 z76:=Tryz.sizeOf197
 v76:=Tryz.zeroValue197
 t127:=Tryz.underlying250
 a127:=Tryz.isAgg250
 z127:=Tryz.sizeOf250
 v127:=Tryz.zeroValue250
 t164:=Tryz.underlying272
 a164:=Tryz.isAgg272
 z164:=Tryz.sizeOf272
 v164:=Tryz.zeroValue272 }
theorem Tryz.gM:Builder.Extra Tryz.prog Tryz.mU:={
 sizeBuilder:=by kernel_rfl
 liesBuilder:=by kernel_rfl
 t5:=Tryz.underlying5
 a5:=Tryz.isAgg5
 z5:=Tryz.sizeOf5
 v5:=Tryz.zeroValue5
 infoByte:=by kernel_rfl
 cellsByte:=by kernel_rfl
 sizeByte:=by kernel_rfl
 neB5:=by decide }
open Go.RowKit in
theorem Tryz.strings_Join_none (a:Option Addr) (c:Nat) (sep:ByteArray) (w:World) :
  Calls Tryz.prog 217 #[.slice a 0 c,.string sep] w fun e w'=>e = .returned (.string ⟨#[]⟩)∧w' = w:=Any.strings_Join_none Tryz.xy Tryz.gM a c sep w
open Go.RowKit in
theorem Tryz.strings_Join (bk o c:Nat) (xs:List ByteArray) (sep:ByteArray) (w:World) (hcells:∀ (j:Nat) x,xs[j]? = some x→w.cell? ⟨bk,o+j,none⟩=some (.string x)) (hbk:bk < w.heap.size) (hN:xs.length≤140737488355328) (hcap:xs.length≤c) (hlen:(Lib.join (xs.map (·.data.toList)) sep.data.toList).length≤140737488355328) :
  Calls Tryz.prog 217 #[.slice (some ⟨bk,o,none⟩) xs.length c,.string sep] w fun e w'=>e = .returned (.string ⟨(Lib.join (xs.map (·.data.toList)) sep.data.toList).toArray⟩)∧Below w.heap.size w w':=Any.strings_Join Tryz.xy Tryz.gM bk o c xs sep w hcells hbk hN hcap hlen
theorem Tryz.strings_Contains (s sub:ByteArray) (m:Int) (w:World) (hs:s.size < 4294967281) (hm:w.cell? ⟨0,0,none⟩=some (.int .i64 m)) :
  Calls Tryz.prog 233 #[.string s,.string sub] w fun e w'=>e = .returned (.bool (Lib.contains s.data.toList sub.data.toList))∧w' = w:=Any.strings_Contains Tryz.w9 s sub m w hs hm
def Tryz.uo:Go.Shelf.Ren:=⟨fun|138=>222|195=>276|218=>277|143=>278|219=>303|217=>326|225=>327|224=>328|267=>329|266=>341|314=>342|n=>n,fun|9=>9|3=>3|4=>4|5=>5|0=>0|46=>179|146=>311|51=>187|n=>n,fun|1=>0|n=>n⟩
theorem Tryz.GZ:Go.Proofs.Lays.n138 Tryz.prog Tryz.uo:={
 mixed:=by kernel_rfl
 f138:=Tryz.func222.trans (congrArg some (by kernel_rfl))
 f143:=Tryz.func278.trans (congrArg some (by kernel_rfl))
 f195:=Tryz.func276.trans (congrArg some (by kernel_rfl))
 f217:=Tryz.func326.trans (congrArg some (by kernel_rfl))
 f218:=Tryz.func277.trans (congrArg some (by kernel_rfl))
 f219:=Tryz.func303.trans (congrArg some (by kernel_rfl))
 f224:=Tryz.func328.trans (congrArg some (by kernel_rfl))
 f225:=Tryz.func327.trans (congrArg some (by kernel_rfl))
 f266:=Tryz.func341.trans (congrArg some (by kernel_rfl))
 f267:=Tryz.func329.trans (congrArg some (by kernel_rfl))
 f314:=Tryz.func342.trans (congrArg some (by kernel_rfl))
 t0:=Tryz.underlying0
 a0:=Tryz.isAgg0
 z0:=Tryz.sizeOf0
 v0:=Tryz.zeroValue0
 t3:=Tryz.underlying3
 a3:=Tryz.isAgg3
 z3:=Tryz.sizeOf3
 v3:=Tryz.zeroValue3
 t4:=Tryz.underlying4
 a4:=Tryz.isAgg4
 z4:=Tryz.sizeOf4
 v4:=Tryz.zeroValue4
 t5:=Tryz.underlying5
 a5:=Tryz.isAgg5
 z5:=Tryz.sizeOf5
 v5:=Tryz.zeroValue5
 t9:=Tryz.underlying9
 a9:=Tryz.isAgg9
 z9:=Tryz.sizeOf9
 v9:=Tryz.zeroValue9
 t46:=Tryz.underlying179
 a46:=Tryz.isAgg179
 z46:=Tryz.sizeOf179
 v46:=Tryz.zeroValue179
 t51:=Tryz.underlying187
 a51:=Tryz.isAgg187
 z51:=Tryz.sizeOf187
 v51:=Tryz.zeroValue187
 t146:=Tryz.underlying311
 a146:=Tryz.isAgg311
 z146:=Tryz.sizeOf311
 v146:=Tryz.zeroValue311
 g1:=by kernel_rfl }
open Go.RowKit Go.Lib in
theorem Tryz.strings_Count_one (s:ByteArray) (c:UInt8) (w:World) :
  Calls Tryz.prog 222 #[.string s,.string ⟨#[c]⟩] w fun e w'=>e = .returned (.int .i64 (Lib.countByte s.data.toList c))∧w' = w:=Any.strings_Count_one Tryz.GZ s c w
def Tryz.pY:Go.Shelf.Ren:=⟨fun|17=>229|n=>n,fun|24=>27|9=>9|3=>3|4=>4|0=>0|n=>n,fun|n=>n⟩
theorem Tryz.qV:Go.Proofs.Lays2.n17 Tryz.prog Tryz.pY:={
 mixed:=by kernel_rfl
 f17:=Tryz.func229.trans (congrArg some (by kernel_rfl))
 t0:=Tryz.underlying0
 a0:=Tryz.isAgg0
 z0:=Tryz.sizeOf0
 v0:=Tryz.zeroValue0
 t3:=Tryz.underlying3
 a3:=Tryz.isAgg3
 z3:=Tryz.sizeOf3
 v3:=Tryz.zeroValue3
 t4:=Tryz.underlying4
 a4:=Tryz.isAgg4
 z4:=Tryz.sizeOf4
 v4:=Tryz.zeroValue4
 t9:=Tryz.underlying9
 a9:=Tryz.isAgg9
 z9:=Tryz.sizeOf9
 v9:=Tryz.zeroValue9
 t24:=Tryz.underlying27
 a24:=Tryz.isAgg27
 z24:=Tryz.sizeOf27
 v24:=Tryz.zeroValue27 }
open Go.RowKit Go.Lib Go.Sort in
theorem Tryz.slices_Reverse_string (blk off cap:Nat) (zs:List (List UInt8)) (w:World) (hH:Holds encStr w blk off zs.toArray) (hsz:zs.length≤9223372036854775807) :
  Calls Tryz.prog 229 #[.slice (some ⟨blk,off,none⟩) zs.length cap] w fun e w'=>e = .returned (.tuple #[])∧∃ n,w' = putRow encStr (Sort.ahead w n) blk off zs.reverse.toArray:=Any.slices_Reverse_string Tryz.qV blk off cap zs w hH hsz
open Go.RowKit Go.Lib Go.Sort in
theorem Tryz.slices_Reverse_string_empty (a:Option Addr) (cap:Nat) (w:World) :
  Calls Tryz.prog 229 #[.slice a 0 cap] w fun e w'=>e = .returned (.tuple #[])∧w' = w:=Any.slices_Reverse_string_empty Tryz.qV a cap w
def Tryz.uq:Go.Shelf.Ren:=⟨fun|194=>228|n=>n,fun|31=>27|9=>9|3=>3|4=>4|0=>0|n=>n,fun|n=>n⟩
theorem Tryz.xz:Go.Proofs.Lays.n194 Tryz.prog Tryz.uq:={
 mixed:=by kernel_rfl
 f194:=Tryz.func228.trans (congrArg some (by kernel_rfl))
 t0:=Tryz.underlying0
 a0:=Tryz.isAgg0
 z0:=Tryz.sizeOf0
 v0:=Tryz.zeroValue0
 t3:=Tryz.underlying3
 a3:=Tryz.isAgg3
 z3:=Tryz.sizeOf3
 v3:=Tryz.zeroValue3
 t4:=Tryz.underlying4
 a4:=Tryz.isAgg4
 z4:=Tryz.sizeOf4
 v4:=Tryz.zeroValue4
 t9:=Tryz.underlying9
 a9:=Tryz.isAgg9
 z9:=Tryz.sizeOf9
 v9:=Tryz.zeroValue9
 t31:=Tryz.underlying27
 a31:=Tryz.isAgg27
 z31:=Tryz.sizeOf27
 v31:=Tryz.zeroValue27 }
open Go.RowKit Go.Lib Go.Sort in
theorem Tryz.slices_Compact_string (blk off cap:Nat) (zs:List (List UInt8)) (w:World) (hH:Holds encStr w blk off zs.toArray) (hsz:zs.length≤9223372036854775807) (hcap:zs.length≤cap) :
  Calls Tryz.prog 228 #[.slice (some ⟨blk,off,none⟩) zs.length cap] w fun e w'=>e = .returned (.slice (some ⟨blk,off,none⟩) (Lib.compact zs).length cap)∧∃ q,w' = putRow encStr (Sort.ahead w q) blk off (Lib.compact zs++List.replicate (zs.length - (Lib.compact zs).length) []).toArray:=Any.slices_Compact_string Tryz.xz blk off cap zs w hH hsz hcap
open Go.RowKit Go.Lib Go.Sort in
theorem Tryz.slices_Compact_string_empty (a:Option Addr) (cap:Nat) (w:World) :
  Calls Tryz.prog 228 #[.slice a 0 cap] w fun e w'=>e = .returned (.slice a 0 cap)∧w' = w:=Any.slices_Compact_string_empty Tryz.xz a cap w
end Go.Proofs
namespace Go.Proofs.YtfbnaalhioogoaaGreatDoor
open Go Go.Ab
set_option maxRecDepth 20000
set_option maxHeartbeats 4000000
def ML:List ME:=[⟨.str [99,97,116],.fn (.func 54) [] [],0⟩,⟨.str [99,112],.fn (.func 55) [] [],1⟩,⟨.str [109,118],.fn (.func 56) [] [],2⟩,⟨.str [108,110],.fn (.func 57) [] [],3⟩,⟨.str [114,109],.fn (.func 58) [] [],4⟩,⟨.str [109,107,100,105,114],.fn (.func 59) [] [],5⟩,⟨.str [114,109,100,105,114],.fn (.func 60) [] [],6⟩,⟨.str [116,111,117,99,104],.fn (.func 61) [] [],7⟩,⟨.str [99,104,109,111,100],.fn (.func 62) [] [],8⟩,⟨.str [108,115],.fn (.func 63) [] [],9⟩,⟨.str [116,101,115,116],.fn (.func 64) [] [],10⟩,⟨.str [91],.fn (.func 65) [] [],11⟩,⟨.str [99,109,112],.fn (.func 66) [] [],12⟩,⟨.str [116,101,101],.fn (.func 67) [] [],13⟩,⟨.str [114,101,97,100,108,105,110,107],.fn (.func 68) [] [],14⟩]
def TM (n:Nat):List ME:=ML.take n
theorem HR:b7 (.str [99,97,116]) (.fn (.func 54) [] []) 0 []=TM 1:=by kernel_rfl
theorem HS:bM (.str [99,97,116]) []=false:=by kernel_rfl
theorem HT:b7 (.str [99,112]) (.fn (.func 55) [] []) 1 (TM 1)=TM 2:=by kernel_rfl
theorem HU:bM (.str [99,112]) (TM 1)=false:=by kernel_rfl
theorem HV:b7 (.str [109,118]) (.fn (.func 56) [] []) 2 (TM 2)=TM 3:=by kernel_rfl
theorem HW:bM (.str [109,118]) (TM 2)=false:=by kernel_rfl
theorem HX:b7 (.str [108,110]) (.fn (.func 57) [] []) 3 (TM 3)=TM 4:=by kernel_rfl
theorem HY:bM (.str [108,110]) (TM 3)=false:=by kernel_rfl
theorem HZ:b7 (.str [114,109]) (.fn (.func 58) [] []) 4 (TM 4)=TM 5:=by kernel_rfl
theorem H0:bM (.str [114,109]) (TM 4)=false:=by kernel_rfl
theorem H2:b7 (.str [109,107,100,105,114]) (.fn (.func 59) [] []) 5 (TM 5)=TM 6:=by kernel_rfl
theorem H3:bM (.str [109,107,100,105,114]) (TM 5)=false:=by kernel_rfl
theorem H4:b7 (.str [114,109,100,105,114]) (.fn (.func 60) [] []) 6 (TM 6)=TM 7:=by kernel_rfl
theorem H5:bM (.str [114,109,100,105,114]) (TM 6)=false:=by kernel_rfl
theorem H6:b7 (.str [116,111,117,99,104]) (.fn (.func 61) [] []) 7 (TM 7)=TM 8:=by kernel_rfl
theorem H7:bM (.str [116,111,117,99,104]) (TM 7)=false:=by kernel_rfl
theorem H8:b7 (.str [99,104,109,111,100]) (.fn (.func 62) [] []) 8 (TM 8)=TM 9:=by kernel_rfl
theorem H9:bM (.str [99,104,109,111,100]) (TM 8)=false:=by kernel_rfl
theorem Ia:b7 (.str [108,115]) (.fn (.func 63) [] []) 9 (TM 9)=TM 10:=by kernel_rfl
theorem Ib:bM (.str [108,115]) (TM 9)=false:=by kernel_rfl
theorem CQ:b7 (.str [116,101,115,116]) (.fn (.func 64) [] []) 10 (TM 10)=TM 11:=by kernel_rfl
theorem CR:bM (.str [116,101,115,116]) (TM 10)=false:=by kernel_rfl
theorem CS:b7 (.str [91]) (.fn (.func 65) [] []) 11 (TM 11)=TM 12:=by kernel_rfl
theorem CT:bM (.str [91]) (TM 11)=false:=by kernel_rfl
theorem CU:b7 (.str [99,109,112]) (.fn (.func 66) [] []) 12 (TM 12)=TM 13:=by kernel_rfl
theorem CV:bM (.str [99,109,112]) (TM 12)=false:=by kernel_rfl
theorem CW:b7 (.str [116,101,101]) (.fn (.func 67) [] []) 13 (TM 13)=TM 14:=by kernel_rfl
theorem CX:bM (.str [116,101,101]) (TM 13)=false:=by kernel_rfl
theorem CY:b7 (.str [114,101,97,100,108,105,110,107]) (.fn (.func 68) [] []) 14 (TM 14)=TM 15:=by kernel_rfl
theorem CZ:bM (.str [114,101,97,100,108,105,110,107]) (TM 14)=false:=by kernel_rfl
def fQ (pp:Oid) (nm inp:Str) (r:Res):aw:=.cells [.ptr pp 0,.str nm,.str inp,.int .i64 r.st,.str r.out,.str r.err]
def UtP (pp st:Oid) (cwd:Str) (um:Int) (N:List Oid) (F F':Oid→aw) (fu:Nat) (nm inp:Str) (args:List Str) (r r':Res):Prop :=
 ∀ q p,p.mono=false→q ∉ N→¬ q=pp→¬ Oid.under p q→¬ Oid.under p pp→bE p N →
  af Tryz.prog fu [.ptr q 0,.list 1 (args.map AV.str)] (Oid.under p) ⟨(q,fQ pp nm inp r)::(pp,prC st cwd um)::bk (N,F),.tuple [],(q,some (fQ pp nm inp r'))::sb N F'⟩
theorem lH {pp st:Oid} {cwd:Str} {um:Int} {N:List Oid} {F F':Oid→aw} (nm:Str) (args:List Str) (t:Str) (fu:Nat) (hh:bM (.str nm) (TM 15)=true) (hv:fE (.str nm) .nilFn (TM 15) = .fn (.func fu) [] []) (r':Res)
  (hU:UtP pp st cwd um N F F' fu nm t args ⟨0,[],[]⟩ r') (hpN:pp ∉ N) (p:Oid) (hp:p.mono=false) (hpp:¬ Oid.under p pp) (hO:bE p N) :
  af Tryz.prog 20 [.ptr pp 0,.list 1 ((nm::args).map AV.str),.str t] (Oid.under p) ⟨(pp,prC st cwd um)::bk (N,F),.tuple [r'.av,.bool true],sb N F'⟩:=by
 obtain ⟨st',out',err'⟩:=r'
 have hU':=fun q p hp h1 h2 h3 h4 h5=>hU q p hp h1 h2 h3 h4 h5
 unfold UtP fQ prC at hU'
 unfold prC
 simp only at hU'
 refine aJ (n:=49) (rs:=[.cell 6 45,.tmp 7]) Tryz.func20 rfl rfl (by decide) rfl rfl rfl ?_;rintro x rfl hrd hng
 rw [fk]
 refine kr0 ?_
 refine aj nmd [] hng (by kernel_rfl) fun hf C S K hC1 hC hS hK=>?_;simp (disch:=first|omega|assumption) only [go_sem,Nat.reduceAdd,Bool.false_eq_true,if_false,HR,HS,HT,HU,HV,HW,HX,HY,HZ,H0,H2,H3,H4,H5,H6,H7,H8,H9,Ia,Ib,CQ,CR,CS,CT,CU,CV,CW,CX,CY,CZ]
 refine hK ?_;clear hK hS hC hC1 K S C hf
 refine kw (ai hh hv) ?_
 refine aj nmd [] hng (by kernel_rfl) fun hf C S K hC1 hC hS hK=>?_;simp (disch:=first|omega|assumption) only [go_sem,Oid.ab hpp,Oid.aa hpp,hpN,hO]
 refine hC1 _ (hU' (.sub 5 6 x.p) _ (ax rfl hp) hO.mem (fun e=>hpp (e ▸ Oid.ae (Oid.az _))) (fun h=>by have:=(Oid.apart h (Oid.az _)).1;omega) (fun h=>hpp (Oid.ae h)) (hO.sub _ _)) (by simp only [List.mem_cons,forall_eq_or_imp];exact ⟨by simp (disch:=first|omega|assumption) only [go_sem,Oid.ab hpp,Oid.aa hpp,hpN,hO],by simp (disch:=first|omega|assumption) only [go_sem,Oid.ab hpp,Oid.aa hpp,hpN,hO],(by first|exact nbu _|exact nbA (by simp [hpN,hO.mem]) _)⟩) ?_
 simp (disch:=first|omega|assumption) only [go_sem,Oid.ab hpp,Oid.aa hpp,hpN,hO]
 refine hK ?_;clear hK hS hC hC1 K S C hf
 refine kw0 ?_
 exact aA (xj (by simp (disch:=first|omega|assumption) only [go_sem,Res.av,Oid.ab hpp,Oid.aa hpp,hpN,hO]) (by show _=some _;simp (disch:=first|omega|assumption) only [go_sem,Oid.ab hpp,Oid.aa hpp,hpN,hO]) (by first|exact nbu _|exact nbA (by simp [hpN,hO.mem]) _))
end Go.Proofs.YtfbnaalhioogoaaGreatDoor
namespace Go.Proofs.YtfbnaalhioogoaaGreatDoor
open Go Go.Ab
set_option maxRecDepth 20000
set_option maxHeartbeats 4000000
def qW (nm path:Str) (e:Int):Str:=nm++[58,32]++path++[58,32,101,114,114,111,114,32]++Lib.itoa e++[10]
def Res.add (r:Res) (nm path:Str) (e:Int):Res:=if e=0 then r else ⟨1,r.out,r.err++qW nm path e⟩
theorem C0 (r:Res) (nm path:Str):r.add nm path 0=r:=if_pos rfl
theorem L8 (r:Res) (nm path:Str) {e:Int} (h:¬ e=0):r.add nm path e=⟨1,r.out,r.err++qW nm path e⟩:=if_neg h
theorem ur {q pp:Oid} {oq o a:aw} {N:List Oid} {f g:Oid→aw} {m:Mem} (hqp:¬ q=pp) (hq:m q=some o) (hp:m pp=some a) (h4:∀ x,x ∈ bk (N,g)→m x.1=some x.2) :
  ∀ i o',((Mem.of ((q,oq)::(pp,a)::bk (N,f))).aI ((q,some o)::sb N g)) i=some o'→m i=some o' :=
 fL (A0:=[(q,oq),(pp,a)]) (U:=[(q,some o)]) (fun x h o' h'=>by
  rw [List.mem_singleton.1 h] at h' ⊢
  rw [← Option.some.inj h'];exact hq) (fun x h hn=>by
  simp only [List.mem_cons,List.not_mem_nil,or_false] at h
  rcases h with rfl|rfl
  ·exact absurd rfl (hn _ (List.mem_singleton.2 rfl))
  ·exact hp) h4
theorem sD {pp:Oid} (nm inp:Str) (r:Res) (path:Str) (e:Int) (hnm:nm.length≤4000000000) (hpl:path.length≤4000000000) (hre:r.err.length≤1000000000000) (he:-9223372036854775808≤e∧e≤9223372036854775807) (q p:Oid) (hp:p.mono=false) (hq:¬ Oid.under p q) :
  af Tryz.prog 130 [.ptr q 0,.str path,.int .i64 e] (Oid.under p) ⟨[(q,fQ pp nm inp r)],.tuple [],[(q,some (fQ pp nm inp (r.add nm path e)))]⟩:=by
 obtain ⟨st,out,err⟩:=r
 have hI:=fun p hp=>gJ e he.1 he.2 p hp
 have hil:=Lib.itoa_length_le e he.1 he.2
 simp only at hre
 by_cases h0:e=0
 ·subst h0
  rw [C0]
  unfold fQ
  refine aJ (n:=33) (rs:=[]) Tryz.func130 rfl rfl (by decide) rfl rfl rfl ?_;rintro x rfl hrd hng
  refine qw (uu hq) ?_
  refine bZ (bQ rfl ?_ ?_)
  ·simp (disch:=first|omega|assumption) only [go_sem]
   exact fun _ h=>h
  ·simp (disch:=first|omega|assumption) only [go_sem]
   exact fun h=>absurd trivial h
 ·rw [L8 _ _ _ h0]
  unfold fQ qW
  refine aJ (n:=33) (rs:=[]) Tryz.func130 rfl rfl (by decide) rfl rfl rfl ?_;rintro x rfl hrd hng
  (try ((first|refine zn ?_|refine ze ?_|refine zk ?_);with_reducible (constructor;repeat constructor));try refine zl ?_)
  refine qr (.d [] [] []) h0 trivial ?_
  refine qw (uu hq) ?_
  refine qd (.d [(4,14),(8,14)] [] [0]) (uu hq) (cq (hI _) trivial) ?_
  refine qw0 ?_
  refine bZ (bQ rfl ?_ ?_)
  ·simp (disch:=first|omega|assumption) only [go_sem]
   exact fun _ h=>h
  ·simp (disch:=first|omega|assumption) only [go_sem]
   exact fun h=>absurd trivial h
def xA (x:Rs (Str × Bits)) (fr to':Str):Str:=if dI x=0∧(rdB x).2.k=2 then Lib.trimSuffix to' [47]++[47]++lG fr else to'
end Go.Proofs.YtfbnaalhioogoaaGreatDoor
namespace Go.Proofs.YtfbnaalhioogoaaGreatDoor
open Go Go.Ab
set_option maxRecDepth 20000
set_option maxHeartbeats 4000000
end Go.Proofs.YtfbnaalhioogoaaGreatDoor
namespace Go.Proofs.YtfbnaalhioogoaaGreatDoor
open Go Go.Ab Go.RowKit
set_option maxRecDepth 20000
set_option maxHeartbeats 2000000
def aC:Str→List Str
 | []=>[]
 | b::s=>if b=10 then []::aC s else match aC s with|[]=>[[b]]|l::r=>(b::l)::r
theorem mV {s:Str} (h0:¬ s=[]) (h:(10:UInt8) ∉ s):aC s=[s]:=by
 induction s with
 | nil=>exact absurd rfl h0
 | cons b s ih =>
  have h1:¬ b=10:=fun e=>h (by simp [e])
  have h2:(10:UInt8) ∉ s:=fun e=>h (by simp [e])
  rw [aC,if_neg h1]
  by_cases hs:s=[]
  ·subst hs;rfl
  ·rw [ih hs h2]
theorem kQ (u:Str):∀ {t:Str},(10:UInt8) ∉ t→aC (t++10::u)=t::aC u
 | [],_=>by rw [List.nil_append,aC,if_pos rfl]
 | b::t,h=>by
  have h1:¬ b=10:=fun e=>h (by simp [e])
  have h2:(10:UInt8) ∉ t:=fun e=>h (by simp [e])
  rw [List.cons_append,aC,if_neg h1,kQ u h2]
theorem uv (s:Str) (h0:¬ s=[]):aU 10 (Lib.trimSuffix s [10])=aC s:=by
 have hcore:∀ (n:Nat) (s:Str),s.length=n→(¬ s=[]→aU 10 s=if [10].isSuffixOf s then aC s++[[]] else aC s):=by
  intro n
  induction n using Nat.strongRecOn with
  | ind n ih =>
   intro s hn h0
   rcases jU 10 s with h1|⟨t,u,h1,rfl⟩
   ·rw [jv h1,mV h0 h1,if_neg]
    intro hs
    obtain ⟨v,rfl⟩:=List.isSuffixOf_iff_suffix.1 hs
    exact h1 (by simp)
   ·rw [kL u h1,kQ u h1]
    by_cases hu:u=[]
    ·subst hu
     rw [if_pos (List.isSuffixOf_iff_suffix.2 ⟨t,rfl⟩)];rfl
    ·have hi:=ih u.length (by rw [← hn];simp;omega) u rfl hu
     have hsu:[(10:UInt8)].isSuffixOf (t++10::u)=[(10:UInt8)].isSuffixOf u:=by
      rw [Bool.eq_iff_iff,List.isSuffixOf_iff_suffix,List.isSuffixOf_iff_suffix]
      constructor
      ·rintro ⟨v,hv⟩
       rcases List.eq_nil_or_concat u with rfl|⟨u',b,rfl⟩
       ·exact absurd rfl hu
       ·rw [List.concat_eq_append] at hv ⊢
        have h3:=congrArg List.getLast? hv
        rw [← List.cons_append,← List.append_assoc] at h3
        simp only [List.getLast?_append,List.getLast?_singleton,Option.some_or,Option.some.injEq] at h3
        exact ⟨u',by rw [h3]⟩
      ·rintro ⟨v,rfl⟩
       exact ⟨t++10::v,by simp⟩
     rw [hi,hsu]
     split<;>rfl
 by_cases hs:[(10:UInt8)].isSuffixOf s
 ·have h1:=hcore _ s rfl h0
  obtain ⟨v,rfl⟩:=List.isSuffixOf_iff_suffix.1 hs
  rw [Lib.trimSuffix,if_pos (show Lib.hasSuffix _ _=true from hs)]
  simp only [List.length_append,List.length_singleton,Nat.add_sub_cancel,List.take_left]
  have hsn:∀ (v:Str),aU 10 (v++[10])=aU 10 v++[[]]:=by
   intro v
   induction v with
   | nil=>rfl
   | cons b v ih =>
    rw [List.cons_append,aU,aU,ih]
    by_cases hb:b=10
    ·rw [if_pos hb,if_pos hb];rfl
    ·rw [if_neg hb,if_neg hb]
     cases hv:aU 10 v with
     | nil=>exact absurd hv (fY 10 v)
     | cons l r=>rfl
  rw [if_pos hs,hsn] at h1
  exact List.append_cancel_right h1
 ·rw [Lib.trimSuffix,if_neg (show ¬ Lib.hasSuffix _ _=true from hs),hcore _ s rfl h0,if_neg hs]
end Go.Proofs.YtfbnaalhioogoaaGreatDoor
namespace Go.Proofs.YtfbnaalhioogoaaGreatDoor
open Go Go.Ab
set_option maxRecDepth 20000
set_option maxHeartbeats 4000000
theorem G0 (s:Str) (p:Oid):af Tryz.prog 216 [.str s] (Oid.under p) ⟨[],.tuple [(a6 s).av,.bool true],[]⟩:=by
 refine aJ (n:=6) (rs:=[.cell 2 45,.tmp 3]) Tryz.func216 rfl rfl (by decide) rfl rfl rfl ?_;rintro x rfl hrd hng
 (repeat (first|(refine aq rfl rfl ?_)|(refine ar rfl rfl ?_)|(refine aj nmd [] hng (by kernel_rfl) fun hf C S K hC1 hC hS hK=>?_;simp (disch:=first|omega|assumption) only [go_sem];refine hK ?_;clear hK hS hC hC1 K S C hf)|((first|refine zn ?_|refine ze ?_|refine zk ?_);with_reducible (constructor;repeat constructor);try refine zl ?_)))
 exact aA (ay (by simp (disch:=first|omega|assumption) only [go_sem,Res.av,a6,bj,bh]))
theorem KW (p:Oid):af Tryz.prog 219 [] (Oid.under p) ⟨[],.tuple [bj.av,.bool false],[]⟩:=by
 refine aJ (n:=3) (rs:=[.cell 0 45,.tmp 1]) Tryz.func219 rfl rfl (by decide) rfl rfl rfl ?_;rintro x rfl hrd hng
 (repeat (first|(refine aq rfl rfl ?_)|(refine ar rfl rfl ?_)|(refine aj nmd [] hng (by kernel_rfl) fun hf C S K hC1 hC hS hK=>?_;simp (disch:=first|omega|assumption) only [go_sem];refine hK ?_;clear hK hS hC hC1 K S C hf)|((first|refine zn ?_|refine ze ?_|refine zk ?_);with_reducible (constructor;repeat constructor);try refine zl ?_)))
 exact aA (ay (by simp (disch:=first|omega|assumption) only [go_sem,Res.av,a6,bj,bh]))
def MM:List ME:=[⟨.str [116,114,117,101],.fn (.func 140) [] [],0⟩,⟨.str [102,97,108,115,101],.fn (.func 141) [] [],1⟩,⟨.str [101,99,104,111],.fn (.func 142) [] [],2⟩,⟨.str [104,101,97,100],.fn (.func 143) [] [],3⟩,⟨.str [116,97,105,108],.fn (.func 144) [] [],4⟩,⟨.str [119,99],.fn (.func 145) [] [],5⟩,⟨.str [115,111,114,116],.fn (.func 146) [] [],6⟩,⟨.str [117,110,105,113],.fn (.func 147) [] [],7⟩,⟨.str [99,117,116],.fn (.func 148) [] [],8⟩,⟨.str [116,114],.fn (.func 149) [] [],9⟩,⟨.str [103,114,101,112],.fn (.func 150) [] [],10⟩,⟨.str [98,97,115,101,110,97,109,101],.fn (.func 151) [] [],11⟩,⟨.str [100,105,114,110,97,109,101],.fn (.func 152) [] [],12⟩]
def FM (n:Nat):List ME:=MM.take n
theorem L9:b7 (.str [116,114,117,101]) (.fn (.func 140) [] []) 0 []=FM 1:=by kernel_rfl
theorem Ma:bM (.str [116,114,117,101]) []=false:=by kernel_rfl
theorem Mb:b7 (.str [102,97,108,115,101]) (.fn (.func 141) [] []) 1 (FM 1)=FM 2:=by kernel_rfl
theorem Mc:bM (.str [102,97,108,115,101]) (FM 1)=false:=by kernel_rfl
theorem Md:b7 (.str [101,99,104,111]) (.fn (.func 142) [] []) 2 (FM 2)=FM 3:=by kernel_rfl
theorem Me:bM (.str [101,99,104,111]) (FM 2)=false:=by kernel_rfl
theorem Mf:b7 (.str [104,101,97,100]) (.fn (.func 143) [] []) 3 (FM 3)=FM 4:=by kernel_rfl
theorem Mg:bM (.str [104,101,97,100]) (FM 3)=false:=by kernel_rfl
theorem Mh:b7 (.str [116,97,105,108]) (.fn (.func 144) [] []) 4 (FM 4)=FM 5:=by kernel_rfl
theorem Mi:bM (.str [116,97,105,108]) (FM 4)=false:=by kernel_rfl
theorem Mj:b7 (.str [119,99]) (.fn (.func 145) [] []) 5 (FM 5)=FM 6:=by kernel_rfl
theorem Mk:bM (.str [119,99]) (FM 5)=false:=by kernel_rfl
theorem Ml:b7 (.str [115,111,114,116]) (.fn (.func 146) [] []) 6 (FM 6)=FM 7:=by kernel_rfl
theorem Mm:bM (.str [115,111,114,116]) (FM 6)=false:=by kernel_rfl
theorem Mn:b7 (.str [117,110,105,113]) (.fn (.func 147) [] []) 7 (FM 7)=FM 8:=by kernel_rfl
theorem Mo:bM (.str [117,110,105,113]) (FM 7)=false:=by kernel_rfl
theorem Mp:b7 (.str [99,117,116]) (.fn (.func 148) [] []) 8 (FM 8)=FM 9:=by kernel_rfl
theorem Mq:bM (.str [99,117,116]) (FM 8)=false:=by kernel_rfl
theorem Mr:b7 (.str [116,114]) (.fn (.func 149) [] []) 9 (FM 9)=FM 10:=by kernel_rfl
theorem Ms:bM (.str [116,114]) (FM 9)=false:=by kernel_rfl
theorem KX:b7 (.str [103,114,101,112]) (.fn (.func 150) [] []) 10 (FM 10)=FM 11:=by kernel_rfl
theorem KY:bM (.str [103,114,101,112]) (FM 10)=false:=by kernel_rfl
theorem KZ:b7 (.str [98,97,115,101,110,97,109,101]) (.fn (.func 151) [] []) 11 (FM 11)=FM 12:=by kernel_rfl
theorem La:bM (.str [98,97,115,101,110,97,109,101]) (FM 11)=false:=by kernel_rfl
theorem Lb:b7 (.str [100,105,114,110,97,109,101]) (.fn (.func 152) [] []) 12 (FM 12)=FM 13:=by kernel_rfl
theorem Lc:bM (.str [100,105,114,110,97,109,101]) (FM 12)=false:=by kernel_rfl
theorem bS (nm:Str) (hn:nm.length≤4000000000) (args:List Str) (t:Str) (fu:Nat) (hh:bM (.str nm) (FM 13)=true) (hv:fE (.str nm) .nilFn (FM 13) = .fn (.func fu) [] []) (r:Res) (ok:Bool) (p:Oid)
  (hU:∀ p,p.mono=false→af Tryz.prog fu [.list 1 (args.map AV.str),.str t] (Oid.under p) ⟨[],.tuple [r.av,.bool ok],[]⟩) (hp:p.mono=false) :
  af Tryz.prog 69 [.list 1 ((nm::args).map AV.str),.str t] (Oid.under p) ⟨[],.tuple [(if ok=true then r else bh nm).av,.bool true],[]⟩:=by
 obtain ⟨st,out,err⟩:=r
 refine aJ (n:=42) (rs:=[.cell 4 45,.tmp 5]) Tryz.func69 rfl rfl (by decide) rfl rfl rfl ?_;rintro x rfl hrd hng
 (try ((first|refine zn ?_|refine ze ?_|refine zk ?_);with_reducible (constructor;repeat constructor));try refine zl ?_)
 refine aj nmd [] hng (by kernel_rfl) fun hf C S K hC1 hC hS hK=>?_;simp (disch:=first|omega|assumption) only [go_sem]
 refine hK ?_;clear hK hS hC hC1 K S C hf
 (try ((first|refine zn ?_|refine ze ?_|refine zk ?_);with_reducible (constructor;repeat constructor));try refine zl ?_)
 refine aj nmd [] hng (by kernel_rfl) fun hf C S K hC1 hC hS hK=>?_;simp (disch:=first|omega|assumption) only [go_sem,Nat.reduceAdd,Bool.false_eq_true,if_false,L9,Ma,Mb,Mc,Md,Me,Mf,Mg,Mh,Mi,Mj,Mk,Ml,Mm,Mn,Mo,Mp,Mq,Mr,Ms,KX,KY,KZ,La,Lb,Lc]
 refine hK ?_;clear hK hS hC hC1 K S C hf
 (repeat (first|(refine aq rfl rfl ?_)|(refine ar rfl rfl ?_)|(refine aj nmd [] hng (by kernel_rfl) fun hf C S K hC1 hC hS hK=>?_;simp (disch:=first|omega|assumption) only [go_sem,hh,hv];(repeat ((first|refine hC1 _ () (by simp (disch:=first|omega|assumption) only [go_sem]) ?_);simp (disch:=first|omega|assumption) only [go_sem]));refine hK ?_;clear hK hS hC hC1 K S C hf)|((first|refine zn ?_|refine ze ?_|refine zk ?_);with_reducible (constructor;repeat constructor);try refine zl ?_)))
 refine aj nmd [] hng (by kernel_rfl) fun hf C S K hC1 hC hS hK=>?_;simp (disch:=first|omega|assumption) only [go_sem,Res.av]
 (repeat' (first|(refine aD (fun hv=>?_) (fun hv=>?_)<;>(try simp only [zb1,zb2,zb3,zb4,zb5] at hv)<;>simp (disch:=first|omega|assumption) only [go_sem,hv,Res.av])|(refine hC1 _ (hU _ (ax rfl hp)) (by simp (disch:=first|omega|assumption) only [go_sem,Res.av]) ?_;simp (disch:=first|omega|assumption) only [go_sem,Res.av])|(refine hK ?_;clear hK hS hC hC1 K S C hf)))
 (repeat (first|(refine aq rfl rfl ?_)|(refine ar rfl rfl ?_)|(refine aj nmd [] hng (by kernel_rfl) fun hf C S K hC1 hC hS hK=>?_;simp (disch:=first|omega|assumption) only [go_sem];refine hK ?_;clear hK hS hC hC1 K S C hf)|((first|refine zn ?_|refine ze ?_|refine zk ?_);with_reducible (constructor;repeat constructor);try refine zl ?_)))
 cases ok with
 | true =>
  (repeat (first|(refine aq rfl rfl ?_)|(refine ar rfl rfl ?_)|(refine aj nmd [] hng (by kernel_rfl) fun hf C S K hC1 hC hS hK=>?_;simp (disch:=first|omega|assumption) only [go_sem,Bool.not_true,Res.av];(repeat ((first|refine hC1 _ () (by simp (disch:=first|omega|assumption) only [go_sem]) ?_);simp (disch:=first|omega|assumption) only [go_sem]));refine hK ?_;clear hK hS hC hC1 K S C hf)|((first|refine zn ?_|refine ze ?_|refine zk ?_);with_reducible (constructor;repeat constructor);try refine zl ?_)))
  exact aA (ay (by simp (disch:=first|omega|assumption) only [go_sem,Res.av,a6,bj,bh]))
 | false =>
  (repeat (first|(refine aq rfl rfl ?_)|(refine ar rfl rfl ?_)|(refine aj nmd [] hng (by kernel_rfl) fun hf C S K hC1 hC hS hK=>?_;simp (disch:=first|omega|assumption) only [go_sem,Bool.not_false,Res.av,bh];(repeat ((first|refine hC1 _ (CP nm hn _) (by simp (disch:=first|omega|assumption) only [go_sem]) ?_);simp (disch:=first|omega|assumption) only [go_sem]));refine hK ?_;clear hK hS hC hC1 K S C hf)|((first|refine zn ?_|refine ze ?_|refine zk ?_);with_reducible (constructor;repeat constructor);try refine zl ?_)))
  exact aA (ay (by simp (disch:=first|omega|assumption) only [go_sem,Res.av,a6,bj,bh]))
end Go.Proofs.YtfbnaalhioogoaaGreatDoor
namespace Go.Proofs.YtfbnaalhioogoaaGreatDoor
open Go Go.Ab
set_option maxRecDepth 20000
set_option maxHeartbeats 4000000
def aQ:List Str→Str
 | []=>[]
 | s::l=>s++[10]++aQ l
theorem lI (a b:List Str):aQ (a++b)=aQ a++aQ b:=by
 induction a with
 | nil=>rfl
 | cons s a ih=>simp only [List.cons_append,aQ,ih,List.append_assoc]
theorem kR {l:List Str} {i:Nat} (h:i < l.length):aQ (l.take (i+1))=aQ (l.take i)++(l.getD i default++[10]):=by
 rw [List.take_add_one,lI,List.getElem?_eq_getElem h,List.getD_eq_getElem?_getD,List.getElem?_eq_getElem h]
 simp [aQ]
theorem gY {l:List Str} (i:Nat):(aQ (l.take i)).length≤(aQ l).length:=by
 conv=>rhs;rw [← List.take_append_drop i l,lI,List.length_append]
 omega
theorem eB (l:List Str):l.length≤(aQ l).length:=by
 induction l with
 | nil=>exact Nat.le_refl _
 | cons s l ih=>simp only [aQ,List.length_cons,List.length_append,List.length_nil];omega
theorem cY {c c' i j:Nat} {t:Nat} {p:Oid} (h:¬ c=c'):¬ Oid.under (.sub c j p) (.ty t (.sub c' i p)):=by
 have hself:¬ Oid.under (.sub c j p) p:=fun h=>by have:=Oid.cG h;simp [Oid.depth] at this;omega
 have h':¬ c' = c:=fun e=>h e.symm
 simp only [Oid.under,reduceCtorEq,false_or,Oid.sub.injEq,h,h',false_and,and_false,hself,or_false,not_false_eq_true]
def v7 (n:Nat) (p:Oid):Oid:=.sub 2 6 (.sub (4 * n+1) 2 p)
theorem v8 {c n:Nat} {p:Oid} (h:4 * n+1 < c):¬ Oid.under (.sub c 2 p) (.ty 5 (v7 n p)):=by
 have hself:¬ Oid.under (.sub c 2 p) p:=fun h=>by have:=Oid.cG h;simp [Oid.depth] at this;omega
 simp only [v7,Oid.under,reduceCtorEq,false_or,Oid.sub.injEq,Nat.reduceEqDiff,false_and,and_false,hself,or_false]
 omega
theorem cS (l:List Str) (hl:(aQ l).length≤140737488355328) (p:Oid):af Tryz.prog 221 [.list 1 (l.map AV.str)] (Oid.under p) ⟨[],.str (aQ l),[]⟩:=by
 have hn:=eB l
 refine aJ (n:=17) (rs:=[.tmp 2]) Tryz.func221 rfl rfl (by decide) rfl rfl rfl ?_;rintro x rfl hrd hng
 (repeat (first|(refine aq rfl rfl ?_)|(refine ar rfl rfl ?_)|(refine aj nmd [] hng (by kernel_rfl) fun hf C S K hC1 hC hS hK=>?_;simp (disch:=first|omega|assumption) only [go_sem];refine hK ?_;clear hK hS hC hC1 K S C hf)|((first|refine zn ?_|refine ze ?_|refine zk ?_);with_reducible (constructor;repeat constructor);try refine zl ?_)))
 refine bm [3,6,7,8] (fun k s'=>∃ (i:Nat) (M:List (Oid × aw)),k=l.length - i∧i≤l.length∧(i=0∧M=[(.ty 194 (.sub 1 0 x.p),.cells [.nilPtr,.nilSl])] ∨
   ¬ i=0∧M=[(.ty 194 (.sub 1 0 x.p),.cells [.ptr (.ty 194 (.sub 1 0 x.p)) 0,.sl (.ty 5 (v7 i x.p)) 1 (aQ (l.take i)).length]),(.ty 5 (v7 i x.p),.arr 1 ((aQ (l.take i)).map byA))]) ∧
   s' = ⟨[(3,.ptr (.ty 194 (.sub 1 0 x.p)) 0),(6,.list 1 (l.map AV.str)),(7,.int .i64 l.length),(8,.int .i64 i)],Mem.of M,3+4 * i,[]⟩) _ ⟨0,_,rfl,Nat.zero_le _,.inl ⟨rfl,rfl⟩,rfl⟩ ?_
 rintro k s' ⟨i,M,rfl,hi,hM,rfl⟩
 rcases hM with ⟨rfl,rfl⟩|⟨h0,rfl⟩
 ·(repeat (first|(refine aq rfl rfl ?_)|(refine ar rfl rfl ?_)|(refine aj nmd [] hng (by kernel_rfl) fun hf C S K hC1 hC hS hK=>?_;simp (disch:=first|omega|assumption) only [go_sem];refine hK ?_;clear hK hS hC hC1 K S C hf)|((first|refine zn ?_|refine ze ?_|refine zk ?_);with_reducible (constructor;repeat constructor);try refine zl ?_)))
  refine aX rfl rfl (fun hb=>?_) (fun hb=>?_)
  ·have hi0:0 < l.length:=by omega
   have ht:=kR (l:=l) hi0
   have hle:=gY (l:=l) 1
   rw [List.take_zero] at ht
   simp only [Nat.zero_add] at ht
   have hsz:(l.getD 0 default).length+1≤140737488355328:=by rw [ht] at hle;simp only [aQ,List.nil_append,List.length_append,List.length_singleton] at hle;omega
   (repeat (first|(refine aq rfl rfl ?_)|(refine ar rfl rfl ?_)|(refine aj nmd [] hng (by kernel_rfl) fun hf C S K hC1 hC hS hK=>?_;simp (disch:=first|omega|assumption) only [go_sem];(repeat ((first|refine hC1 _ (lq (.sub 1 0 x.p) (l.getD 0 default++[10]) (by simpa using hsz) _ (cY (by omega))) (by simp (disch:=first|omega|assumption) only [go_sem]) ?_);simp (disch:=first|omega|assumption) only [go_sem]));refine hK ?_;clear hK hS hC hC1 K S C hf)|((first|refine zn ?_|refine ze ?_|refine zk ?_);with_reducible (constructor;repeat constructor);try refine zl ?_)))
   refine ⟨_,_,?_,fun _ _ h=>h,1,_,rfl,by omega,.inr ⟨by omega,rfl⟩,?_⟩
   ·omega
   ·rw [ht];simp only [aQ,List.nil_append,List.length_append,List.length_cons,List.length_nil];rfl
  ·have:l=[]:=List.eq_nil_of_length_eq_zero (by omega)
   subst this
   (repeat (first|(refine aq rfl rfl ?_)|(refine ar rfl rfl ?_)|(refine aj nmd [] hng (by kernel_rfl) fun hf C S K hC1 hC hS hK=>?_;simp (disch:=first|omega|assumption) only [go_sem];(repeat ((first|refine hC1 _ (kJ (.sub 1 0 _) _) (by simp (disch:=first|omega|assumption) only [go_sem]) ?_);simp (disch:=first|omega|assumption) only [go_sem]));refine hK ?_;clear hK hS hC hC1 K S C hf)|((first|refine zn ?_|refine ze ?_|refine zk ?_);with_reducible (constructor;repeat constructor);try refine zl ?_)))
   exact aA (bd rfl)
 ·(repeat (first|(refine aq rfl rfl ?_)|(refine ar rfl rfl ?_)|(refine aj nmd [] hng (by kernel_rfl) fun hf C S K hC1 hC hS hK=>?_;simp (disch:=first|omega|assumption) only [go_sem];refine hK ?_;clear hK hS hC hC1 K S C hf)|((first|refine zn ?_|refine ze ?_|refine zk ?_);with_reducible (constructor;repeat constructor);try refine zl ?_)))
  refine aX rfl rfl (fun hb=>?_) (fun hb=>?_)
  ·have ht:=kR (l:=l) (i:=i) (by omega)
   have hle:=gY (l:=l) (i+1)
   have hsz:(aQ (l.take i)).length+((l.getD i default).length+1)≤140737488355328:=by rw [ht] at hle;simp only [List.length_append,List.length_singleton] at hle;omega
   (repeat (first|(refine aq rfl rfl ?_)|(refine ar rfl rfl ?_)|(refine aj nmd [] hng (by kernel_rfl) fun hf C S K hC1 hC hS hK=>?_;simp (disch:=first|omega|assumption) only [go_sem];(repeat ((first|refine hC1 _ (jR (.sub 1 0 x.p) (v7 i x.p) (aQ (l.take i)) (l.getD i default++[10]) (by simpa using hsz) _ (cY (by omega)) (v8 (by omega))) (by simp (disch:=first|omega|assumption) only [go_sem]) ?_);simp (disch:=first|omega|assumption) only [go_sem]));refine hK ?_;clear hK hS hC hC1 K S C hf)|((first|refine zn ?_|refine ze ?_|refine zk ?_);with_reducible (constructor;repeat constructor);try refine zl ?_)))
   refine ⟨_,_,?_,fun _ _ h=>h,i+1,_,rfl,by omega,.inr ⟨by omega,rfl⟩,?_⟩
   ·omega
   ·have hc:4 * (i+1)+1=3+4 * i+1+1:=by omega
    rw [ht,List.length_append,List.length_append,List.length_singleton,v7,hc,show 3+4 * i+1+1+1+1=3+4 * (i+1) by omega];rfl
  ·obtain rfl:i=l.length:=by omega
   have h0:0 < (aQ l).length:=by omega
   simp only [List.take_length]
   (repeat (first|(refine aq rfl rfl ?_)|(refine ar rfl rfl ?_)|(refine aj nmd [] hng (by kernel_rfl) fun hf C S K hC1 hC hS hK=>?_;simp (disch:=first|omega|assumption) only [go_sem];(repeat ((first|refine hC1 _ (l7 (.sub 1 0 _) (v7 l.length x.p) (aQ l) h0 hl _) (by simp (disch:=first|omega|assumption) only [go_sem]) ?_);simp (disch:=first|omega|assumption) only [go_sem]));refine hK ?_;clear hK hS hC hC1 K S C hf)|((first|refine zn ?_|refine ze ?_|refine zk ?_);with_reducible (constructor;repeat constructor);try refine zl ?_)))
   exact aA (bd rfl)
theorem C2 (s:Str):(Lib.trimSuffix s [10]).length≤s.length:=by
 unfold Lib.trimSuffix;split
 ·rw [List.length_take];omega
 ·exact Nat.le_refl _
theorem lJ (s:Str) (h0:¬ s=[]) (hl:s.length≤4000000000) (p:Oid) :
  af Tryz.prog 187 [.str (Lib.trimSuffix s [10]),.str [10]] (Oid.under p) ⟨[],.sl (.sub 0 0 p) 1 (aC s).length,[(.sub 0 0 p,some (.arr 1 ((aC s).map AV.str)))]⟩:=by
 have h1:=oK (Lib.trimSuffix s [10]) 10 (by have:=C2 s;omega) p
 rwa [uv s h0] at h1
theorem pd (s:Str) (hl:s.length≤4000000000) (p:Oid):af Tryz.prog 220 [.str s] (Oid.under p) ⟨[],.list 1 ((aC s).map AV.str),[]⟩:=by
 refine aJ (n:=8) (rs:=[.tmp 2]) Tryz.func220 rfl rfl (by decide) rfl rfl rfl ?_;rintro x rfl hrd hng
 (repeat (first|(refine aq rfl rfl ?_)|(refine ar rfl rfl ?_)|(refine aj nmd [] hng (by kernel_rfl) fun hf C S K hC1 hC hS hK=>?_;simp (disch:=first|omega|assumption) only [go_sem];refine hK ?_;clear hK hS hC hC1 K S C hf)|((first|refine zn ?_|refine ze ?_|refine zk ?_);with_reducible (constructor;repeat constructor);try refine zl ?_)))
 refine aX rfl rfl (fun hb=>?_) (fun hb=>?_)
 ·subst hb
  (repeat (first|(refine aq rfl rfl ?_)|(refine ar rfl rfl ?_)|(refine aj nmd [] hng (by kernel_rfl) fun hf C S K hC1 hC hS hK=>?_;simp (disch:=first|omega|assumption) only [go_sem];refine hK ?_;clear hK hS hC hC1 K S C hf)|((first|refine zn ?_|refine ze ?_|refine zk ?_);with_reducible (constructor;repeat constructor);try refine zl ?_)))
  exact js 2 1 rfl (rM (xs:=[]) rfl (by simp (disch:=first|omega|assumption) only [go_sem]) rfl rfl)
 ·(repeat (first|(refine aq rfl rfl ?_)|(refine ar rfl rfl ?_)|(refine aj nmd [] hng (by kernel_rfl) fun hf C S K hC1 hC hS hK=>?_;simp (disch:=first|omega|assumption) only [go_sem];(repeat ((first|refine hC1 _ (gX s [10] (by omega) _) (by simp (disch:=first|omega|assumption) only [go_sem]) ?_|refine hC1 _ (lJ s hb hl _) (by simp (disch:=first|omega|assumption) only [go_sem]) ?_);simp (disch:=first|omega|assumption) only [go_sem]));refine hK ?_;clear hK hS hC hC1 K S C hf)|((first|refine zn ?_|refine ze ?_|refine zk ?_);with_reducible (constructor;repeat constructor);try refine zl ?_)))
  exact rM rfl (by simp (disch:=first|omega|assumption) only [go_sem]) (List.length_map _).symm rfl
end Go.Proofs.YtfbnaalhioogoaaGreatDoor
namespace Go.Proofs.YtfbnaalhioogoaaGreatDoor
open Go Go.Ab
open Go.Sort Go.RowKit
set_option maxRecDepth 20000
set_option maxHeartbeats 4000000
theorem uw (l l' tl:List Str) (f:FuncId) (he:cj Tryz.prog f=true) (hl:¬ l=[]) (ht:l'.length+tl.length=l.length) (id p:Oid) (av:AV) (val:Nat→Nat→Value)
  (hval:∀ (g:Gh) (b cap:Nat),g.loc id=some (some b)→l.length≤cap→g.row b=some (cap * 1)→VR g av (val b cap))
  (h:∀ (b cap:Nat) (w:World),Holds encStr w b 0 l.toArray→b < w.heap.size→l.length≤cap→Calls Tryz.prog f #[.slice (some ⟨b,0,none⟩) l.length cap] w fun e w' =>
   e = .returned (val b cap)∧∃ n os,w' = grow (putRow encStr (Sort.ahead w n) b 0 (l' ++ tl).toArray) os) :
  af Tryz.prog f [.sl id 1 l.length] (Oid.under p) ⟨[(id,.arr 1 (l.map .str))],av,[(id,some (.arr 1 (l'.map .str)))]⟩:=by
 refine ⟨he,fun x g args w m hm hn hargs hsp hng=>?_⟩
 have hmi:=hn _ List.mem_cons_self
 simp only at hmi
 obtain ⟨v,rfl,a0⟩:=hargs.one
 have hne:l.length≠0:=fun e=>hl (List.eq_nil_of_length_eq_zero e)
 obtain ⟨b,cap,rfl,hloc,hcap,hrow⟩:=a0.dE.resolve_left fun h=>hne h.1
 obtain ⟨b0,hb0,hcom,hmay,hobj⟩:=hm.gP hmi hloc
 rw [hloc] at hb0;simp only [Option.some.injEq] at hb0;subst hb0
 obtain ⟨c,t,fz,hh,hcs,hfz,hxl,hone,hv⟩:=hobj
 have hlt:=(Array.getElem?_eq_some_iff.1 hh).1
 simp only [List.length_map,Nat.mul_one] at hcs hxl hone hv
 have hav:∀ (l:List Str) i,i < l.length→(l.map AV.str).getD i .undef = .str (l.getD i []):=fun l i hi=>by simp [List.getD_eq_getElem?_getD,List.getElem?_map,List.getElem?_eq_getElem hi]
 have hcell:∀ i,i < l.length→c.getD i undef=encStr (l.getD i []):=fun i hi=>by
  have:=hv i 0 hi (by omega)
  rw [hav l i hi] at this
  simp only [AV.cells,List.getD_cons_zero,Nat.mul_one,Nat.add_zero] at this
  exact iN.1 this
 have hH:Holds encStr w b 0 l.toArray:=by
  intro j hj
  have hj':j < l.length:=by simpa using hj
  have hjc:j < c.size:=by omega
  constructor
  ·have h3:=hcell j hj'
   simp only [World.cell?,hh,Nat.zero_add,Option.isSome_none,Bool.false_eq_true,if_false,Array.getElem?_eq_getElem hjc,Option.some.injEq]
   rw [Array.getD_eq_getD_getElem?,Array.getElem?_eq_getElem hjc,Option.getD_some] at h3
   rw [h3]
   have h5:l.toArray[j]! = l.getD j []:=by simp [List.getElem?_eq_getElem hj',hj']
   rw [h5]
  ·simp only [World.frozen?,hh,Nat.zero_add]
   have:=hfz j hjc
   by_cases h:fz.1≤j
   ·have:¬ j < fz.2:=fun h'=>this ⟨h,h'⟩
    simp [this]
   ·simp [h]
 refine (h b cap w hH hlt hcap).mono ?_
 rintro en w' ⟨rfl,n,os,rfl⟩
 show ∃ _ _,_
 refine ⟨g,_,rfl,Gh.le_refl g,fun _ _=>rfl,hval g b cap hloc hcap hrow,?_⟩
 refine hm.gD (o:=.arr 1 (l'.map .str)) hmi hloc rfl rfl ⟨rfl,Nat.le_add_right _ _⟩ r0 (fun b' hb' hlt'=>oL hb' hlt') (fun r hr=>?_) ?_ ?_
 ·obtain ⟨c',t',fz',h2,h3⟩:=hm.rows b r hr
  exact ⟨_,_,_,fJ h2,by rw [fK];exact h3⟩
 ·intro c9 t9 fz9 h9;exact ⟨_,_,fJ h9⟩
 ·have hget:∀ i,i < l'.length→(putCells encStr 0 (l' ++ tl).toArray c).getD i undef=encStr (l'.getD i []):=fun i hi=>by
   have hc2:i < c.size:=by omega
   have hi2:i < l'.length+tl.length:=by omega
   simp only [putCells,Array.getD_eq_getD_getElem?,Array.getElem?_mapIdx,Array.getElem?_eq_getElem hc2,Option.map_some,Option.getD_some,Nat.zero_le,true_and,Nat.zero_add,Nat.sub_zero,List.size_toArray,List.length_append,hi2,if_true]
   congr 1
   simp [List.getElem?_eq_getElem hi,hi,hi2,List.getElem_append_left hi]
  refine ⟨_,t,fz,fJ hh,?_,?_,?_,?_,?_⟩
  ·rw [fK,List.length_map,Nat.mul_one];omega
  ·rw [fK];exact hfz
  ·intro i hi
   rw [hav _ i (by simpa using hi)];rfl
  ·intro j hj
   have hj':j < l'.length:=by simpa using hj
   rw [hget j hj'];rfl
  ·intro i j hi hj
   have hi':i < l'.length:=by simpa using hi
   obtain rfl:j=0:=by omega
   rw [hav _ i hi',Nat.mul_one,Nat.add_zero,hget i hi']
   exact .str _ _ rfl
theorem pf (l:List Str) (hl:¬ l=[]) (hsz:l.length < 4611686018427387904) (id p:Oid) :
  af Tryz.prog 229 [.sl id 1 l.length] (Oid.under p) ⟨[(id,.arr 1 (l.map .str))],.tuple [],[(id,some (.arr 1 (l.reverse.map .str)))]⟩ :=
 uw l l.reverse [] _ (by kernel_rfl) hl (by rw [List.length_reverse];rfl) id p _ (fun _ _=>.tuple #[]) (fun g b cap _ _ _=>.tuple _ _ rfl (fun j hj=>absurd hj (Nat.not_lt_zero _))) fun b cap w hH hb hcap=>by
  rw [List.append_nil]
  refine (Tryz.slices_Reverse_string b 0 cap l w hH (by omega)).mono ?_
  rintro e w' ⟨h1,n,rfl⟩
  exact ⟨h1,n,#[],(jV _).symm⟩
theorem kS (l:List Str):(Lib.compact l).length≤l.length:=Lib.compact_length_le l
theorem wa (l:List Str) (hl:¬ l=[]) (hsz:l.length < 4611686018427387904) (id p:Oid) :
  af Tryz.prog 228 [.sl id 1 l.length] (Oid.under p) ⟨[(id,.arr 1 (l.map .str))],.sl id 1 (Lib.compact l).length,[(id,some (.arr 1 ((Lib.compact l).map .str)))]⟩ :=
 uw l (Lib.compact l) (List.replicate (l.length - (Lib.compact l).length) []) _ (by kernel_rfl) hl (by have:=kS l;rw [List.length_replicate];omega) id p _ (fun b cap=>.slice (some ⟨b,0,none⟩) (Lib.compact l).length cap)
  (fun g b cap h1 h2 h3=>.sl _ _ _ _ _ h1 (Nat.le_trans (kS l) h2) h3) fun b cap w hH hb hcap=>by
  refine (Tryz.slices_Compact_string b 0 cap l w hH (by omega) hcap).mono ?_
  rintro e w' ⟨h1,n,rfl⟩
  exact ⟨h1,n,#[],(jV _).symm⟩
theorem lK (p:Oid):af Tryz.prog 161 [.nilSl] (Oid.under p) ⟨[],.tuple [],[]⟩ :=
 cm (by kernel_rfl) fun g args w ha _=>by
  obtain ⟨v,rfl,hv⟩:=ha.one
  rw [hv.bJ]
  refine (Tryz.slices_Sort_string_none none 0 w).mono ?_
  rintro e w' ⟨rfl,rfl⟩
  exact ⟨_,rfl,.tuple _ _ rfl (fun j hj=>absurd hj (Nat.not_lt_zero _)),rfl⟩
theorem reverse_nil (p:Oid):af Tryz.prog 229 [.nilSl] (Oid.under p) ⟨[],.tuple [],[]⟩ :=
 cm (by kernel_rfl) fun g args w ha _=>by
  obtain ⟨v,rfl,hv⟩:=ha.one
  rw [hv.bJ]
  refine (Tryz.slices_Reverse_string_empty none 0 w).mono ?_
  rintro e w' ⟨rfl,rfl⟩
  exact ⟨_,rfl,.tuple _ _ rfl (fun j hj=>absurd hj (Nat.not_lt_zero _)),rfl⟩
theorem mW (p:Oid):af Tryz.prog 228 [.nilSl] (Oid.under p) ⟨[],.nilSl,[]⟩ :=
 cm (by kernel_rfl) fun g args w ha _=>by
  obtain ⟨v,rfl,hv⟩:=ha.one
  rw [hv.bJ]
  refine (Tryz.slices_Compact_string_empty none 0 w).mono ?_
  rintro e w' ⟨rfl,rfl⟩
  exact ⟨_,rfl,.nilSl,rfl⟩
end Go.Proofs.YtfbnaalhioogoaaGreatDoor
