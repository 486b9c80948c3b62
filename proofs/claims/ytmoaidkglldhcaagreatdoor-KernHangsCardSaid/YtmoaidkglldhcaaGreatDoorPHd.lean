/- A part of the proof: the texts KA, FwK, FwV, S24, S25, S15, S26, FwN, Z1, Z2, Z3, Z4, Z5, Z6, Z7, Z8, Z9h, Z10, Z11, Z13, Z12, Z15, Z16, one behind the other. -/
import Derived.Test.YtmoaidkglldhcaaGreatDoorPHc
import Derived.Shelf.SlicesE.DeleteFunc
import Derived.WalkKit
import Derived.BigQuiet
import Derived.Deep.QuietTactic
import Derived.Laws.Externs
import Derived.Laws.BitsLemmas
import Derived.Tactics
import Derived.Tactics2
import Derived.KernelRfl
import Derived.Shelf.SlMaps.Clone
set_option linter.unusedVariables false
set_option linter.unusedSimpArgs false
set_option linter.unusedSectionVars false
namespace Go.Proofs.YtmoaidkglldhcaaGreatDoor
open Go Go.Ab Go.RowKit Go.Sort
set_option maxRecDepth 100000
set_option maxHeartbeats 4000000
theorem xx (w:World):grow w #[]=w:=by
 cases w;simp [grow]
theorem s5 (s:Str) (W:World):FnGives Tryz.prog 119 #[] #[encStr s] (.bool (s.isEmpty)) W:=by
 show Calls Tryz.prog 119 #[encStr s] W _
 go_enter Tryz.func119,Tryz.ntmps119
 go_wp2
 go_ret
 refine ⟨?_,0,rfl⟩
 rfl
theorem xy (l l' tl:List Str) (f:FuncId) (he:cE Tryz.prog f=true) (hl:¬ l=[]) (ht:l'.length+tl.length=l.length) (id p:Oid) (av:AV) (val:Nat→Nat→Value) (xs:List AV) (need:List (Oid × ao))
  (hval:∀ (g:Gh) (b cap:Nat),g.loc id=some (some b)→l.length≤cap→g.row b=some (cap * 1)→VR g av (val b cap))
  (h:∀ (x:Ctx) (g:Gh) (m:Mem) (args:Array Value) (b cap:Nat) (w:World),ax x g m w→Fit Tryz.prog x→(∀ q ∈ need,m q.1=some q.2)→m id=some (.arr 1 (l.map .str))→g.loc id=some (some b)→(∀ k,g.com b k=none)→VRs g (.sl id 1 l.length::xs) args→args.getD 0 undef = .slice (some ⟨b,0,none⟩) l.length cap →
   Holds encStr w b 0 l.toArray→b < w.heap.size→l.length≤cap→Calls Tryz.prog f args w fun e w'=>e = .returned (val b cap)∧∃ n os,w' = grow (putRow encStr (Sort.ahead w n) b 0 (l' ++ tl).toArray) os) :
  ah Tryz.prog f (.sl id 1 l.length::xs) (Oid.under p) ⟨(id,.arr 1 (l.map .str))::need,av,[(id,some (.arr 1 (l'.map .str)))]⟩:=by
 refine ⟨he,fun x g args w m hm hn hargs hsp hng=>?_⟩
 have hmi:=hn _ List.mem_cons_self
 have hmn:∀ q ∈ need,m q.1=some q.2:=fun q hq=>hn q (List.mem_cons_of_mem _ hq)
 simp only at hmi
 obtain ⟨v,hva⟩:∃ v,args.getD 0 undef=v:=⟨_,rfl⟩
 have a0:=hargs.2 0 (by simp)
 rw [hva,List.getD_cons_zero] at a0
 have hne:l.length≠0:=fun e=>hl (List.eq_nil_of_length_eq_zero e)
 obtain ⟨b,cap,rfl,hloc,hcap,hrow⟩:=a0.ew.resolve_left fun h=>hne h.1
 obtain ⟨b0,hb0,hcom,hmay,hobj⟩:=hm.iU hmi hloc
 rw [hloc] at hb0;simp only [Option.some.injEq] at hb0;subst hb0
 obtain ⟨c,t,fz,hh,hcs,hfz,hxl,hone,hv⟩:=hobj
 have hlt:=(Array.getElem?_eq_some_iff.1 hh).1
 simp only [List.length_map,Nat.mul_one] at hcs hxl hone hv
 have hav:∀ (l:List Str) i,i < l.length→(l.map AV.str).getD i .undef = .str (l.getD i []):=fun l i hi=>by simp [List.getD_eq_getElem?_getD,List.getElem?_map,List.getElem?_eq_getElem hi]
 have hcell:∀ i,i < l.length→c.getD i undef=encStr (l.getD i []):=fun i hi=>by
  have:=hv i 0 hi (by omega)
  rw [hav l i hi] at this
  simp only [AV.cells,List.getD_cons_zero,Nat.mul_one,Nat.add_zero] at this
  exact mR.1 this
 have hH:Holds encStr w b 0 l.toArray:=by
  intro j hj
  have hj':j < l.length:=by simpa using hj
  have hjc:j < c.size:=by omega
  constructor
  ·have h3:=hcell j hj'
   simp only [World.cell?,hh,Nat.zero_add,Option.isSome_none,Bool.false_eq_true,if_false,Array.getElem?_eq_getElem hjc,Option.some.injEq]
   rw [Array.getD_eq_getD_getElem?,Array.getElem?_eq_getElem hjc,Option.getD_some] at h3
   rw [h3]
   have h5:l.toArray[j]! = l.getD j []:=by simp [List.getElem?_eq_getElem hj',hj']
   rw [h5]
  ·simp only [World.frozen?,hh,Nat.zero_add]
   have:=hfz j hjc
   by_cases h:fz.1≤j
   ·have:¬ j < fz.2:=fun h'=>this ⟨h,h'⟩
    simp [this]
   ·simp [h]
 refine (h x g m args b cap w hm hng hmn hmi hloc hcom hargs hva hH hlt hcap).mono ?_
 rintro en w' ⟨rfl,n,os,rfl⟩
 show ∃ _ _,_
 refine ⟨g,_,rfl,Gh.le_refl g,fun _ _=>rfl,hval g b cap hloc hcap hrow,?_⟩
 refine hm.gU (o:=.arr 1 (l'.map .str)) hmi hloc rfl rfl ⟨rfl,Nat.le_add_right _ _⟩ vR (fun b' hb' hlt'=>sZ hb' hlt') (fun r hr=>?_) ?_ ?_
 ·obtain ⟨c',t',fz',h2,h3⟩:=hm.rows b r hr
  exact ⟨_,_,_,jI h2,by rw [jJ];exact h3⟩
 ·intro c9 t9 fz9 h9;exact ⟨_,_,jI h9⟩
 ·have hget:∀ i,i < l'.length→(putCells encStr 0 (l' ++ tl).toArray c).getD i undef=encStr (l'.getD i []):=fun i hi=>by
   have hc2:i < c.size:=by omega
   have hi2:i < l'.length+tl.length:=by omega
   simp only [putCells,Array.getD_eq_getD_getElem?,Array.getElem?_mapIdx,Array.getElem?_eq_getElem hc2,Option.map_some,Option.getD_some,Nat.zero_le,true_and,Nat.zero_add,Nat.sub_zero,List.size_toArray,List.length_append,hi2,if_true]
   congr 1
   simp [List.getElem?_eq_getElem hi,hi,hi2,List.getElem_append_left hi]
  refine ⟨_,t,fz,jI hh,?_,?_,?_,?_,?_⟩
  ·rw [jJ,List.length_map,Nat.mul_one];omega
  ·rw [jJ];exact hfz
  ·intro i hi
   rw [hav _ i (by simpa using hi)];rfl
  ·intro j hj
   have hj':j < l'.length:=by simpa using hj
   rw [hget j hj'];rfl
  ·intro i j hi hj
   have hi':i < l'.length:=by simpa using hi
   obtain rfl:j=0:=by omega
   rw [hav _ i hi',Nat.mul_one,Nat.add_zero,hget i hi']
   exact .str _ _ rfl
theorem FI (l:List Str) (hl:¬ l=[]) (hls:l.length≤9223372036854775807) (id p:Oid) :
  ah Tryz.prog 117 [.sl id 1 l.length,.fn (.func 119) [] []] (Oid.under p) ⟨[(id,.arr 1 (l.map .str))],.sl id 1 (l.filter fun t=>!t.isEmpty).length,[(id,some (.arr 1 ((l.filter fun t=>!t.isEmpty).map .str)))]⟩:=by
 have hfl:(l.filter fun t=>!t.isEmpty).length≤l.length:=List.length_filter_le _ _
 refine xy l (l.filter fun t=>!t.isEmpty) (List.replicate (l.length - (l.filter fun t=>!t.isEmpty).length) []) _ (by kernel_rfl) hl (by rw [List.length_replicate];omega) id p _
  (fun b cap=>.slice (some ⟨b,0,none⟩) (l.filter fun t=>!t.isEmpty).length cap) _ _ (fun g b cap h1 h2 h3=>.sl _ _ _ _ _ h1 (Nat.le_trans hfl h2) h3) ?_
 intro x g m av b cap w hm hx hn hmi hloc hcom hargs hv0 hH hb hcap
 have a1:=hargs.2 1 (by simp)
 simp only [List.getD_cons_succ,List.getD_cons_zero] at a1
 obtain ⟨fa,fb,hf,hfs,hbs,_,hfv⟩:=a1.iX
 have hfa:fa=#[]:=Array.eq_empty_of_size_eq_zero hfs
 have hfb:fb=#[]:=Array.eq_empty_of_size_eq_zero hbs
 have hav:av=#[.slice (some ⟨b,0,none⟩) l.length cap,.func (.func 119) #[] #[]]:=by
  have h2:av.size=2:=hargs.1
  apply Array.ext
  ·rw [h2];rfl
  ·intro j h3 h4
   have h3':j < 2:=by omega
   rw [Array.getD_eq_getD_getElem?,Array.getElem?_eq_getElem (by omega)] at hv0
   rw [Array.getD_eq_getD_getElem?,Array.getElem?_eq_getElem (by omega)] at hf
   match j,h3' with
   | 0,_=>simpa using hv0
   | 1,_=>rw [hfa,hfb] at hf;simpa using hf
 have eg:∀ args w,(callFunc 119 args).run Tryz.prog w = .ok (.enter 119 args) w:=enters_of Tryz.func119 (by kernel_rfl) rfl
 have con:=AnyE.slices_DeleteFunc Tryz.Del encStr (fun _=>rfl) (fun y:Str=>y.isEmpty) 119 #[] eg default Tryz.zeroValue9 b 0 cap l.toArray w
  (fun W y _=>s5 y W) (fun n os dk y _=>s5 y _) hH (by simpa using hls) (by simpa using hcap)
 change Calls Tryz.prog 117 _ _ _ at con
 rw [hav]
 have hsz:l.toArray.size=l.length:=by simp
 rw [hsz] at con
 refine con.mono ?_
 rintro e w' ⟨rfl,q,rfl⟩
 refine ⟨rfl,q,#[],?_⟩
 rw [xx]
 rfl
def aZ (s:Str):List Str:=(bh 47 s).filter fun t=>!t.isEmpty
def cM (s:Str):Bool:=decide (0 < s.length) && decide (s.getD (s.length - 1) 0=47)
theorem iK (c:UInt8) (s:Str):(bh c s).length≤s.length+1:=by
 rw [gY];have:=List.count_le_length (a:=c) (l:=s);omega
theorem pX (s:Str) (hl:s.length < 4294967281) (p:Oid) :
  ah Tryz.prog 90 [.str s] (Oid.under p) ⟨[],.sl (.sub 0 0 (.sub 1 1 p)) 1 (aZ s).length,[(.sub 0 0 (.sub 1 1 p),some (.arr 1 ((aZ s).map AV.str)))]⟩:=by
 have hn:=jH 47 s
 have hf:=iK 47 s
 have h1:=fun p=>AH s 47 hl p
 have h2:=fun id p=>FI (bh 47 s) hn (by omega) id p
 unfold aZ
 generalize (bh 47 s).filter (fun t=>!t.isEmpty)=R at h2
 generalize bh 47 s=L at h1 h2
 refine aD (n:=6) (rs:=[.tmp 2]) Tryz.func90 rfl rfl (by decide) rfl rfl rfl ?_;rintro x rfl hrd hng
 refine qr0 ?_
 refine qr .o trivial (cq (h1 _) (cq (h2 _ _) trivial)) ?_
 refine ay (aX rfl ?_ ?_)
 ·simp [Mem.af]
 ·simp
theorem xz {s:Str} (h:0 < s.length):s.drop (s.length - 1)=[s.getD (s.length - 1) 0]:=by
 rw [List.getD_eq_getElem?_getD,List.getElem?_eq_getElem (by omega),Option.getD_some,List.drop_eq_getElem_cons (by omega),show s.length - 1+1=s.length from by omega,List.drop_length]
theorem eY (s:Str) (hs:s.length≤140737488355328) (p:Oid):ah Tryz.prog 50 [.str s,.str [47]] (Oid.under p) ⟨[],.bool (cM s),[]⟩:=by
 have key:∀ p,ah Tryz.prog 89 [.str s,.str [47]] (Oid.under p) ⟨[],.bool (cM s),[]⟩:=fun p=>by
  refine aD (n:=21) (rs:=[.tmp 4]) Tryz.func89 rfl rfl (by decide) rfl rfl rfl ?_;rintro x rfl hrd hng
  refine qr0 ?_
  refine ar nmd [(5,10)] hng (by kernel_rfl) fun hf C S K hC1 hC hS hK=>?_;simp (disch:=first|omega|assumption) only [go_sem]
  (repeat' (first|(refine dw (fun hv=>?_) (fun hv=>?_)<;>(try simp only [zb1,zb2,zb3,zb4,zb5] at hv)<;>simp (disch:=first|omega|assumption) only [go_sem,hv])|(refine hK ?_;clear hK hS hC hC1 K S C hf)))
  ·have h0:0 < s.length:=by omega
   have hd:=xz h0
   refine qw0 ?_
   refine ay (bt (congrArg AV.bool ?_))
   rw [show ((s.length:Int) - ((1:Nat):Int)).toNat=s.length - 1 from by omega,hd]
   unfold cM
   rw [decide_eq_true h0,Bool.true_and]
   simp
  ·refine qw0 ?_
   refine ay (bt (congrArg AV.bool ?_))
   unfold cM
   rw [decide_eq_false (by omega:¬ 0 < s.length),Bool.false_and]
 refine aD (n:=8) (rs:=[.tmp 4]) Tryz.func50 rfl rfl (by decide) rfl rfl rfl ?_;rintro x rfl hrd hng
 (repeat (first|(refine aA rfl rfl ?_)|(refine az rfl rfl ?_)|(refine ar nmd [] hng (by kernel_rfl) fun hf C S K hC1 hC hS hK=>?_;simp (disch:=first|omega|assumption) only [go_sem];(repeat ((first|refine hC1 _ (key _) (by simp (disch:=first|omega|assumption) only [go_sem]) ?_);simp (disch:=first|omega|assumption) only [go_sem]));refine hK ?_;clear hK hS hC hC1 K S C hf)|((first|refine zn ?_|refine ze ?_|refine zk ?_);with_reducible (constructor;repeat constructor);try refine zl ?_)))
 exact ay (bt rfl)
theorem pd (s:Str) (h0:¬ s=[]) (hs:s.length≤140737488355328) (p:Oid):ah Tryz.prog 146 [.str s,.str [47]] (Oid.under p) ⟨[],.bool (decide (s.getD 0 0=47)),[]⟩:=by
 have key:iq s [47]=decide (s.getD 0 0=47):=by
  cases s with
  | nil=>exact absurd rfl h0
  | cons b s=>simp [iq]
 rw [← key]
 refine aD (n:=8) (rs:=[.tmp 4]) Tryz.func146 rfl rfl (by decide) rfl rfl rfl ?_;rintro x rfl hrd hng
 (repeat (first|(refine aA rfl rfl ?_)|(refine az rfl rfl ?_)|(refine ar nmd [] hng (by kernel_rfl) fun hf C S K hC1 hC hS hK=>?_;simp (disch:=first|omega|assumption) only [go_sem];(repeat ((first|refine hC1 _ (kW s [47] hs (by decide) _) (by simp (disch:=first|omega|assumption) only [go_sem]) ?_);simp (disch:=first|omega|assumption) only [go_sem]));refine hK ?_;clear hK hS hC hC1 K S C hf)|((first|refine zn ?_|refine ze ?_|refine zk ?_);with_reducible (constructor;repeat constructor);try refine zl ?_)))
 exact ay (bt rfl)
end Go.Proofs.YtmoaidkglldhcaaGreatDoor
namespace Go.Ab
abbrev Bk:=List Oid × (Oid→ao)
def bk (B:Bk):List (Oid × ao):=B.1.map fun i=>(i,B.2 i)
def sb (N:List Oid) (f:Oid→ao):List (Oid × Option ao):=N.map fun i=>(i,some (f i))
def Mem.blk (A:List (Oid × ao)) (Bs:List Bk):Mem:=Mem.of (A++(Bs.map bk).flatten)
def Mem.cons (a:Oid × ao) (m:Mem):Mem:=m.set a.1 (some a.2)
def a8 (p:Oid) (N:List Oid):Prop:=∀ i ∈ N,¬ Oid.under p i
def DJ (N M:List Oid):Prop:=∀ i ∈ N,i ∉ M
theorem a8.sub {p:Oid} {N:List Oid} (h:a8 p N) (c i:Nat):a8 (.sub c i p) N:=fun j hj hu=>h j hj (Oid.ae hu)
theorem a8.mem {p:Oid} {N:List Oid} (h:a8 p N) {c i:Nat}:Oid.sub c i p ∉ N:=fun hm=>h _ hm (Oid.ae (Oid.aq _))
theorem a8.GS {p:Oid} {N:List Oid} (h:a8 p N) {c i c' i':Nat}:Oid.sub c' i' (.sub c i p) ∉ N:=fun hm=>h _ hm (Oid.ae (Oid.ae (Oid.aq _)))
def jS (p:Oid) (c:Nat) (N:List Oid):Prop:=∀ i ∈ N,¬ eG p c i
theorem jS.sub {p:Oid} {c0:Nat} {N:List Oid} (h:jS p c0 N) {c:Nat} (hc:c0≤c) (i:Nat):a8 (.sub c i p) N:=fun j hj hu=>h j hj ⟨c,i,hc,hu⟩
theorem jS.mono {p:Oid} {c0 c:Nat} {N:List Oid} (h:jS p c0 N) (hc:c0≤c):jS p c N:=fun j hj hu=>h j hj (hu.mono hc)
theorem jS.mem {p:Oid} {c0:Nat} {N:List Oid} (h:jS p c0 N) {c i:Nat} (hc:c0≤c):Oid.sub c i p ∉ N:=fun hm=>h _ hm ⟨c,i,hc,Oid.aq _⟩
theorem a8.C {p:Oid} {N:List Oid} (h:a8 p N) (c:Nat):jS p c N:=fun j hj hu=>h j hj hu.under
theorem Mem.dm (q:Oid × ao) (A:List (Oid × ao)) (Bs:List Bk) (i:Oid):Mem.blk (q::A) Bs i=if i=q.1 then some q.2 else Mem.blk A Bs i:=rfl
theorem Mem.AI (q:Oid × ao) (A:List (Oid × ao)) (Bs:List Bk):Mem.cons q (Mem.blk A Bs)=Mem.blk (q::A) Bs:=rfl
theorem s6 (A:List (Oid × ao)) (Bs:List Bk):(Mem.blk A Bs).aJ []=Mem.blk A Bs:=rfl
theorem jm (i:Oid) (o:ao) (F:List (Oid × ao)):∀ A,(Mem.of (A++F)).set i (some o)=Mem.of (bI i (some o) A++F)
 | []=>rfl
 | q::A=>by
  have ih:=jm i o F A
  simp only [bI]
  by_cases h:i=q.1
  ·rw [if_pos h];funext k;simp only [List.cons_append,Mem.of,Mem.set];subst h;split<;>rfl
  ·rw [if_neg h];funext k;simp only [List.cons_append,Mem.of];rw [← ih];simp only [Mem.set]
   by_cases h1:k=i
   ·rw [if_pos h1,if_pos h1,if_neg (fun h2=>h (h1.symm.trans h2))]
   ·rw [if_neg h1,if_neg h1]
theorem q9 (A:List (Oid × ao)) (Bs:List Bk) (i:Oid) (o:ao) (u:List (Oid × Option ao)):(Mem.blk A Bs).aJ ((i,some o)::u)=(Mem.blk (bI i (some o) A) Bs).aJ u:=by
 show ((Mem.of _).set i (some o)).aJ u=_
 rw [jm];rfl
theorem rb (A:List (Oid × ao)) (Bs:List Bk) (i:Oid) (o:ao):(Mem.blk A Bs).set i (some o)=Mem.blk (bI i (some o) A) Bs:=jm i o _ A
def del (i:Oid) (B:Bk):Bk:=(B.1.filter fun j=>decide (¬ j=i),B.2)
def mG (i:Oid):List Bk→List Bk
 | []=>[]
 | B::Bs=>del i B::mG i Bs
theorem AJ (Bs:List Bk) (i:Oid):((Bs.map bk).flatten.filter fun q=>decide (¬ q.1=i))=((mG i Bs).map bk).flatten:=by
 induction Bs with
 | nil=>rfl
 | cons B Bs ih =>
  simp only [List.map_cons,List.flatten_cons,List.filter_append,ih,mG]
  congr 1
  simp only [bk,del,List.filter_map]
  rfl
theorem vS (i:Oid):∀ L:List (Oid × ao),(Mem.of L).set i none=Mem.of (L.filter fun q=>decide (¬ q.1=i))
 | []=>by funext k;simp [Mem.of,Mem.set,Mem.emp]
 | q::L=>by
  have ih:=vS i L
  by_cases h:q.1=i
  ·rw [List.filter_cons_of_neg (by simpa using h),← ih];funext k;simp only [Mem.of,Mem.set];subst h;split<;>rfl
  ·rw [List.filter_cons_of_pos (by simpa using h)]
   show _=(Mem.of _).set q.1 (some q.2)
   rw [← ih];funext k;simp only [Mem.of,Mem.set]
   by_cases h1:k=i
   ·rw [if_pos h1,if_neg (fun h2=>h (h2.symm.trans h1)),if_pos h1]
   ·rw [if_neg h1,if_neg h1]
theorem my (i:Oid):∀ A:List (Oid × ao),bI i none A=A.filter fun q=>decide (¬ q.1=i)
 | []=>rfl
 | q::A=>by
  have ih:=my i A
  simp only [bI]
  by_cases h:i=q.1
  ·rw [if_pos h,List.filter_cons_of_neg (by simpa using h.symm),ih]
  ·rw [if_neg h,List.filter_cons_of_pos (by simpa using fun e=>h e.symm),ih]
theorem kY (A:List (Oid × ao)) (Bs:List Bk) (i:Oid):(Mem.blk A Bs).set i none=Mem.blk (bI i none A) (mG i Bs):=by
 show (Mem.of _).set i none=Mem.of _
 rw [vS,List.filter_append,my,AJ]
theorem rf (A:List (Oid × ao)) (Bs:List Bk) (i:Oid) (u:List (Oid × Option ao)):(Mem.blk A Bs).aJ ((i,none)::u)=(Mem.blk (bI i none A) (mG i Bs)).aJ u:=by
 show ((Mem.blk A Bs).set i none).aJ u=_
 rw [kY]
theorem AK (i:Oid):mG i []=[]:=rfl
theorem xA (i:Oid) (B:Bk) (Bs:List Bk):mG i (B::Bs)=del i B::mG i Bs:=rfl
theorem vT {i:Oid} {N:List Oid} {f:Oid→ao} (h:i ∉ N):del i (N,f)=(N,f):=by
 simp only [del,Prod.mk.injEq,and_true]
 exact List.filter_eq_self.2 fun j hj=>by rw [decide_eq_true_eq];rintro rfl;exact h hj
theorem qZ {c k:Nat} {p:Oid} {N:List Oid} {f:Oid→ao} (h:a8 p N):del (.sub c k p) (N,f)=(N,f):=vT h.mem
theorem dn (N:List Oid) (f:Oid→ao) (i:Oid):∀ m:Mem,(m.aJ (sb N f)) i=if i ∈ N then some (f i) else m i:=by
 induction N with
 | nil=>intro m;simp [sb,Mem.aJ]
 | cons j N ih =>
  intro m
  show ((m.set j (some (f j))).aJ (sb N f)) i=_
  rw [ih]
  by_cases h1:i ∈ N
  ·rw [if_pos h1,if_pos (List.mem_cons_of_mem _ h1)]
  ·rw [if_neg h1]
   by_cases h2:i=j
   ·subst h2;rw [if_pos List.mem_cons_self];simp [Mem.set]
   ·rw [if_neg (by simp [h1,h2])];simp [Mem.set,h2]
theorem AL (N:List Oid) (f:Oid→ao) (F:List (Oid × ao)) (i:Oid):Mem.of (bk (N,f)++F) i=if i ∈ N then some (f i) else Mem.of F i:=by
 induction N with
 | nil=>simp [bk]
 | cons j N ih =>
  show (Mem.of (bk (N,f)++F)).set j (some (f j)) i=_
  simp only [Mem.set]
  by_cases h2:i=j
  ·subst h2;rw [if_pos rfl,if_pos List.mem_cons_self]
  ·rw [if_neg h2,ih]
   by_cases h1:i ∈ N
   ·rw [if_pos h1,if_pos (List.mem_cons_of_mem _ h1)]
   ·rw [if_neg h1,if_neg (by simp [h1,h2])]
theorem bd (N:List Oid) (f:Oid→ao) (Bs:List Bk) (i:Oid):Mem.blk [] ((N,f)::Bs) i=if i ∈ N then some (f i) else Mem.blk [] Bs i:=AL N f _ i
theorem Dd (N:List Oid) (f g:Oid→ao) (Bs:List Bk):(Mem.blk [] ((N,f)::Bs)).aJ (sb N g)=Mem.blk [] ((N,g)::Bs):=by
 funext i
 rw [dn,bd,bd]
 split<;>rfl
theorem De {M N:List Oid} (h:DJ M N) (e f g:Oid→ao) (Bs:List Bk):(Mem.blk [] ((M,e)::(N,f)::Bs)).aJ (sb N g)=Mem.blk [] ((M,e)::(N,g)::Bs):=by
 funext i
 rw [dn,bd,bd,bd,bd]
 by_cases h1:i ∈ N
 ·rw [if_pos h1,if_neg (fun h2=>h i h2 h1),if_pos h1]
 ·simp only [if_neg h1]
theorem vU {q:Oid × ao} {A:List (Oid × ao)} {Bs:List Bk} {N:List Oid} {g:Oid→ao} (h:q.1 ∉ N):(Mem.blk (q::A) Bs).aJ (sb N g)=Mem.cons q ((Mem.blk A Bs).aJ (sb N g)):=by
 funext i
 rw [dn]
 simp only [Mem.cons,Mem.set,Mem.dm]
 rw [dn]
 by_cases h1:i=q.1
 ·subst h1;rw [if_neg h,if_pos rfl,if_pos rfl]
 ·rw [if_neg h1,if_neg h1]
theorem Df {i:Oid} {o:ao} {A:List (Oid × ao)} {Bs:List Bk} {N:List Oid} {g:Oid→ao} (h:i ∉ N):(Mem.blk ((i,o)::A) Bs).aJ (sb N g)=Mem.cons (i,o) ((Mem.blk A Bs).aJ (sb N g)):=vU h
theorem Dg {c k:Nat} {p:Oid} {o:ao} {A:List (Oid × ao)} {Bs:List Bk} {N:List Oid} {g:Oid→ao} (h:a8 p N):(Mem.blk ((.sub c k p,o)::A) Bs).aJ (sb N g)=Mem.cons (.sub c k p,o) ((Mem.blk A Bs).aJ (sb N g)):=vU h.mem
theorem bP {B:Bk} {q:Oid × ao}:q ∈ bk B↔q.1 ∈ B.1∧q.2=B.2 q.1:=by
 simp only [bk,List.mem_map]
 constructor
 ·rintro ⟨i,h1,rfl⟩;exact ⟨h1,rfl⟩
 ·rintro ⟨h1,h2⟩;exact ⟨q.1,h1,by rw [← h2]⟩
theorem rh (N:List Oid) (f:Oid→ao) (Bs:List Bk):(∀ q,q ∈ bk (N,f)→Mem.blk [] ((N,f)::Bs) q.1=some q.2)=True:=eq_true fun q hq=>by
 obtain ⟨h1,h2⟩:=bP.1 hq
 rw [bd,if_pos h1,h2]
theorem AM {a:Oid × ao} {A:List (Oid × ao)} {Bs:List Bk} {N:List Oid} {f:Oid→ao} (h:a.1 ∉ N):(∀ q,q ∈ bk (N,f)→Mem.blk (a::A) Bs q.1=some q.2)=(∀ q,q ∈ bk (N,f)→Mem.blk A Bs q.1=some q.2):=by
 refine propext ⟨fun k q hq=>?_,fun k q hq=>?_⟩
 ·have:=k q hq
  rwa [Mem.dm,if_neg (fun e:q.1=a.1=>h (e ▸ (bP.1 hq).1))] at this
 ·rw [Mem.dm,if_neg (fun e:q.1=a.1=>h (e ▸ (bP.1 hq).1))];exact k q hq
theorem oq {i:Oid} {o:ao} {A:List (Oid × ao)} {Bs:List Bk} {N:List Oid} {f:Oid→ao} (h:i ∉ N):(∀ q,q ∈ bk (N,f)→Mem.blk ((i,o)::A) Bs q.1=some q.2)=(∀ q,q ∈ bk (N,f)→Mem.blk A Bs q.1=some q.2):=AM h
theorem AN {c k:Nat} {p:Oid} {o:ao} {A:List (Oid × ao)} {Bs:List Bk} {N:List Oid} {f:Oid→ao} (h:a8 p N):(∀ q,q ∈ bk (N,f)→Mem.blk ((.sub c k p,o)::A) Bs q.1=some q.2)=(∀ q,q ∈ bk (N,f)→Mem.blk A Bs q.1=some q.2):=AM h.mem
theorem AO (B:Bk):Mem.of (bk B)=Mem.blk [] [B]:=by simp [Mem.blk]
theorem aB (a:Oid × ao) (B:Bk):Mem.of (a::bk B)=Mem.blk [a] [B]:=by simp [Mem.blk]
theorem lN (a b:Oid × ao) (B:Bk):Mem.of (a::b::bk B)=Mem.blk [a,b] [B]:=by simp [Mem.blk]
theorem Dh (B C:Bk):Mem.of (bk B++bk C)=Mem.blk [] [B,C]:=by simp [Mem.blk]
theorem eZ {A0:List (Oid × ao)} {U:List (Oid × Option ao)} {N:List Oid} {f g:Oid→ao} {m:Mem} (h2:∀ q,q ∈ U→∀ o,q.2=some o→m q.1=some o) (h3:∀ q,q ∈ A0→(∀ r,r ∈ U→¬ r.1=q.1)→m q.1=some q.2)
  (h4:∀ q,q ∈ bk (N,g)→m q.1=some q.2) (i:Oid) (o:ao) (h:((Mem.of (A0++bk (N,f))).aJ (U++sb N g)) i=some o):m i=some o:=by
 rw [dc,dn] at h
 by_cases h1:i ∈ N
 ·rw [if_pos h1] at h
  rw [← h];exact h4 (i,g i) (bP.2 ⟨h1,rfl⟩)
 ·rw [if_neg h1] at h
  by_cases hk:∃ q ∈ U,q.1=i
  ·obtain ⟨q',k1,k2,k3⟩:=jh (m:=Mem.of (A0++bk (N,f))) hk
   rw [k3] at h
   rw [← k2];exact h2 q' k1 o h
  ·rw [bg fun q hq e=>hk ⟨q,hq,e⟩] at h
   obtain ⟨q,k1,rfl,rfl⟩:=Mem.dV h
   rcases List.mem_append.1 k1 with k1|k1
   ·exact h3 q k1 fun r hr e=>hk ⟨r,hr,e⟩
   ·exact absurd (bP.1 k1).1 h1
section
variable {P:Program} {rs:List ResultVar} {fr:List (Nat × AV)} {m:Mem} {c:Nat} {val:AV} {N:List Oid} {f g:Oid→ao} {Rp:AV→List (Oid × Option ao)→Prop}
theorem vV (h1:fh P m fr rs=some val) (h4:∀ q,q ∈ bk (N,g)→m q.1=some q.2):dG P rs (bk (N,f)) (fun v u=>v=val∧u=sb N g) Rp .ret ⟨fr,m,c,[]⟩ :=
 bw val _ h1 ⟨rfl,rfl⟩ (eZ (A0:=[]) (U:=[]) (fun _ h=>by cases h) (fun _ h=>by cases h) h4)
theorem dp {a:Oid × ao} (h1:fh P m fr rs=some val) (h3:m a.1=some a.2) (h4:∀ q,q ∈ bk (N,g)→m q.1=some q.2):dG P rs (a::bk (N,f)) (fun v u=>v=val∧u=sb N g) Rp .ret ⟨fr,m,c,[]⟩ :=
 bw val _ h1 ⟨rfl,rfl⟩ (eZ (A0:=[a]) (U:=[]) (fun _ h=>by cases h) (fun q h _=>by rw [List.mem_singleton.1 h];exact h3) h4)
theorem cX {a:Oid × ao} {o:ao} (h1:fh P m fr rs=some val) (h3:m a.1=some o) (h4:∀ q,q ∈ bk (N,g)→m q.1=some q.2):dG P rs (a::bk (N,f)) (fun v u=>v=val∧u=(a.1,some o)::sb N g) Rp .ret ⟨fr,m,c,[]⟩ :=
 bw val _ h1 ⟨rfl,rfl⟩ (eZ (A0:=[a]) (U:=[(a.1,some o)]) (fun q h o' h'=>by rw [List.mem_singleton.1 h] at h' ⊢;rw [← h'];exact h3) (fun q h hn=>by rw [List.mem_singleton.1 h] at hn;exact absurd rfl (hn _ (List.mem_singleton.2 rfl))) h4)
end
abbrev AP (P:Program) [Laid P] (f:FuncId) (xs:List AV) (sp:Oid→Prop) (need:List (Oid × ao)) (pv:AV) (upd:List (Oid × Option ao)):Prop:=bT P f xs sp need (fun _ _=>False) (fun v u=>v=pv∧u=upd)
theorem ah.AQ {P:Program} [Laid P] {f:FuncId} {xs:List AV} {sp:Oid→Prop} {L0:List (Oid × ao)} {v:AV} {U:List (Oid × Option ao)} {N:List Oid} {F G:Oid→ao}
  (h:ah P f xs sp ⟨L0,v,U⟩) (hL:∀ q,q ∈ L0→q ∈ bk (N,F)) (hU:∀ q,q ∈ U→q.1 ∈ N) (hf:∀ i,i ∈ N→((Mem.of (bk (N,F))).aJ U) i=some (G i)):ah P f xs sp ⟨bk (N,F),v,sb N G⟩ :=
 ⟨h.enters,fun x g args w m hm hn ha hs hx=>by
  refine (h.calls x g args w m hm (fun q hq=>hn q (hL q hq)) ha hs hx).mono fun en w' ⟨g',v',h1,h2,h3,h4,h5⟩=>⟨g',v',h1,h2,h3,h4,?_⟩
  have:m.aJ U=m.aJ (sb N G):=by
   funext i
   rw [dn]
   by_cases hi:i ∈ N
   ·rw [if_pos hi,← hf i hi]
    refine nh ?_
    rw [hn (i,F i) (bP.2 ⟨hi,rfl⟩)]
    have:=AL N F [] i
    rw [List.append_nil,if_pos hi] at this
    exact this.symm
   ·rw [if_neg hi,bg fun q hq (e:q.1=i)=>hi (e ▸ hU q hq)]
  simp only at h5 ⊢
  rw [← this];exact h5⟩
def kZ (F:Oid→ao) (i:Oid) (o:ao):Oid→ao:=fun j=>if j=i then o else F j
theorem bm (F:Oid→ao) (i:Oid) (o:ao) (j:Oid):kZ F i o j=if j=i then o else F j:=rfl
theorem jo {N:List Oid} {F:Oid→ao} {i:Oid} (h:i ∈ N):Mem.of (bk (N,F)) i=some (F i):=by
 have:=AL N F [] i
 rwa [List.append_nil,if_pos h] at this
theorem bk2 (F:Oid→ao) (a b:Oid):bk ([a,b],F)=[(a,F a),(b,F b)]:=rfl
theorem bk6 (F:Oid→ao) (a b c d e f:Oid):bk ([a,b,c,d,e,f],F)=[(a,F a),(b,F b),(c,F c),(d,F d),(e,F e),(f,F f)]:=rfl
theorem bk1 (F:Oid→ao) (a:Oid):bk ([a],F)=[(a,F a)]:=rfl
theorem ah.one {P:Program} [Laid P] {f:FuncId} {xs:List AV} {sp:Oid→Prop} {r:Oid} {o o':ao} {v:AV} {F:Oid→ao} (h:ah P f xs sp ⟨[(r,o)],v,[(r,some o')]⟩) (hF:F r=o):ah P f xs sp ⟨bk ([r],F),v,sb [r] (kZ F r o')⟩:=by
 refine h.AQ ?_ (fun q hq=>by rw [List.mem_singleton.1 hq];simp) fun i hi=>?_
 ·rw [bk1,hF];exact fun q hq=>hq
 ·rw [List.mem_singleton.1 hi]
  show ((Mem.of _).set r (some o')) r=_
  simp [Mem.set,kZ]
def sbx (N:List Oid) (f:Oid→ao):List (Oid × Option ao):=sb N f
theorem ah.FJ {P:Program} [Laid P] {f:FuncId} {xs:List AV} {sp:Oid→Prop} {L0:List (Oid × ao)} {v:AV} {U:List (Oid × Option ao)} {N N':List Oid} {F G:Oid→ao}
  (h:ah P f xs sp ⟨L0,v,U⟩) (hL:∀ q,q ∈ L0→q ∈ bk (N,F)) (hU:∀ q,q ∈ U→q.1 ∈ N') (hN:∀ i,i ∈ N'→i ∈ N∨∃ q ∈ U,q.1=i) (hf:∀ i,i ∈ N'→((Mem.of (bk (N,F))).aJ U) i=some (G i)):ah P f xs sp ⟨bk (N,F),v,sbx N' G⟩ :=
 ⟨h.enters,fun x g args w m hm hn ha hs hx=>by
  refine (h.calls x g args w m hm (fun q hq=>hn q (hL q hq)) ha hs hx).mono fun en w' ⟨g',v',h1,h2,h3,h4,h5⟩=>⟨g',v',h1,h2,h3,h4,?_⟩
  have:m.aJ U=m.aJ (sbx N' G):=by
   funext i
   unfold sbx
   rw [dn]
   by_cases hi:i ∈ N'
   ·rw [if_pos hi,← hf i hi]
    by_cases hk:∃ q ∈ U,q.1=i
    ·exact gx hk
    ·refine nh ?_
     have hiN:=(hN i hi).resolve_right hk
     rw [hn (i,F i) (bP.2 ⟨hiN,rfl⟩),jo hiN]
   ·rw [if_neg hi,bg fun q hq (e:q.1=i)=>hi (e ▸ hU q hq)]
  simp only at h5 ⊢
  rw [← this];exact h5⟩
theorem AR {A:List (Oid × ao)} {N N':List Oid} {F G:Oid→ao} {Bs:List Bk} (hA:∀ a ∈ A,a.1 ∉ N') (hB:∀ B ∈ Bs,DJ N B.1):∀ i o,Mem.blk A ((N',G)::Bs) i=some o→((Mem.blk A ((N,F)::Bs)).aJ (sbx N' G)) i=some o:=by
 intro i o h
 unfold sbx
 rw [dn]
 have hBs:∀ Cs:List Bk,(∀ B ∈ Cs,DJ N B.1)→∀ o,Mem.blk [] Cs i=some o→i ∉ N:=by
  intro Cs
  induction Cs with
  | nil=>intro _ o h;cases h
  | cons C Cs ih =>
   obtain ⟨M,E⟩:=C
   intro hC o h
   rw [bd] at h
   split at h
   ·rename_i hm;exact fun hi=>hC (M,E) List.mem_cons_self i hi hm
   ·exact ih (fun B hB=>hC B (List.mem_cons_of_mem _ hB)) o h
 induction A with
 | nil =>
  rw [bd] at h ⊢
  split at h
  ·rename_i hi;rw [if_pos hi];exact h
  ·rename_i hi;rw [if_neg hi,if_neg (hBs Bs hB o h)];exact h
 | cons a A ih =>
  rw [Mem.dm] at h ⊢
  split at h
  ·rename_i e
   rw [if_neg (by rw [e];exact hA a List.mem_cons_self),if_pos e];exact h
  ·rename_i e
   have:=ih (fun a ha=>hA a (List.mem_cons_of_mem _ ha)) h
   rw [if_neg e];exact this
theorem uF {P:Program} [Laid P] {x:Ctx} {n:Nat} {a:Code} {Q:AX→AS→Prop} {fr:List (Nat × AV)} {c:Nat} {ds:List AD} {A:List (Oid × ao)} {N N':List Oid} {F G:Oid→ao} {Bs:List Bk} (hA:∀ a ∈ A,a.1 ∉ N') (hB:∀ B ∈ Bs,DJ N B.1)
  (h:T P x n a ⟨fr,Mem.blk A ((N',G)::Bs),c,ds⟩ Q):T P x n a ⟨fr,(Mem.blk A ((N,F)::Bs)).aJ (sbx N' G),c,ds⟩ Q:=kp _ (AR hA hB) h
attribute [go_sem] Mem.dm s6 q9 rf rb kY AK xA vT qZ Dd De Df Dg Mem.AI rh oq AN
end Go.Ab
namespace Go.Ab
theorem ks {p e:Prop} (e1:e) (h:e→p:=by intro e;simp (disch:=first|omega|assumption) only [go_sem,eq_self,decide_true,decide_false,ne_eq,not_true_eq_false,not_false_eq_true,uu hpp,hpN,hO,e];first|done|fail):p:=h e1
theorem ks0 {p:Prop} (h:p:=by simp (disch:=first|omega|assumption) only [go_sem,eq_self,decide_true,decide_false,ne_eq,not_true_eq_false,not_false_eq_true,uu hpp,hpN,hO];first|done|fail):p:=h
theorem kt {p q e:Prop} (e1:e) (k:q) (h:e→gb q→p:=by intro e k;refine qt (ai (uu hpp) (ai hpN (ai hO e))) ?_;exact k.out):p:=h e1 ⟨k⟩
theorem kw {p q e:Prop} (e1:e) (k:q) (h:e→gb q→p:=by intro e k;refine qw (ai (uu hpp) (ai hpN (ai hO e))) ?_;exact k.out):p:=h e1 ⟨k⟩
theorem kw0 {p q:Prop} (k:q) (h:gb q→p:=by intro k;refine qw (ai (uu hpp) (ai hpN (ai hO trivial))) ?_;exact k.out):p:=h ⟨k⟩
theorem kn {p e:Prop} (e1:e) (h:e→p:=by intro e;first|(intro _ h;cases h;done)|exact nbu _|(refine nbA ?_ _;simp [hpN,hO.mem];done)|(refine nbA ?_ _;simp [hwN,hpN,hO.mem];done)|exact ks e|(simp only [List.mem_cons,forall_eq_or_imp];refine ⟨ks e,?_⟩;first|exact nbu _|(refine nbA ?_ _;simp [hpN,hO.mem];done)|(refine nbA ?_ _;simp [hwN,hpN,hO.mem];done))|(simp only [List.mem_cons,forall_eq_or_imp];refine ⟨ks e,ks e,?_⟩;first|exact nbu _|(refine nbA ?_ _;simp [hpN,hO.mem];done)|(refine nbA ?_ _;simp [hwN,hpN,hO.mem];done))):p:=h e1
theorem km {p c:Prop} (c1:c) (h:c→p:=by intro c;first|exact c|exact c (aw rfl hp)|exact c _ (aw rfl hp) (fun h=>hpp (Oid.ae h)) (hO.sub _ _)|exact c _ (aw rfl hp) (hO.sub _ _)|exact dM.ok (c _ (aw rfl hp) (fun h=>hpp (Oid.ae h)) (hO.sub _ _)) rfl):p:=h c1
theorem kr {p q e c:Prop} {U gl:List (Nat × Nat)} {ts:List Nat} (g:HD U gl ts) (e1:e) (c1:c) (k:q) (h:HD U gl ts→e→c→gb q→p:=by
  intro g e c k;(try refine qv ?_)
  refine vJ g hng (by kernel_rfl) fun hf C S K hC1 hC hS hK=>?_;refine kt e ?_
  repeat (obtain ⟨c1,c⟩:CC _ _:=c;refine hC1 _ (km c1) (kn e) ?_;refine kt e ?_)
  refine hK ?_;clear hK hS hC hC1 K S C hf;(try refine qv ?_)
  exact k.out):p:=h g e1 c1 ⟨k⟩
theorem kd {p q e c:Prop} {U gl:List (Nat × Nat)} {ts:List Nat} (g:HD U gl ts) (e1:e) (c1:c) (k:q) (h:HD U gl ts→e→c→gb q→p:=by
  intro g e c k;(try refine qv ?_)
  refine qS g mixed hng (by kernel_rfl) fun hf C S K hC hS hK=>?_;refine kt e ?_
  repeat (obtain ⟨c1,c⟩:CC _ _:=c;refine hC _ (km c1) (kn e) ?_;refine kt e ?_)
  (first|refine hK (aT rfl) ?_|refine hK (by simp (disch:=first|omega|assumption) only [go_sem,List.reverse_cons,List.reverse_nil,ne_eq,not_false_eq_true,implies_true]) ?_);clear hK hS hC K S C hf;(try refine qv ?_)
  exact k.out):p:=h g e1 c1 ⟨k⟩
theorem kr0 {p q:Prop} (k:q) (h:gb q→p:=by intro k;refine kr .o trivial trivial ?_;exact k.out):p:=h ⟨k⟩
theorem kr1 {p q c:Prop} (c1:c) (k:q) (h:c→gb q→p:=by intro c k;refine kr .o trivial (cq c trivial) ?_;exact k.out):p:=h c1 ⟨k⟩
theorem ms {p e:Prop} (e1:e) (h:e→p:=by intro e;simp (disch:=first|omega|assumption) only [go_sem,eq_self,decide_true,decide_false,ne_eq,not_true_eq_false,not_false_eq_true,Q,hdj,hON,hOM,e];first|done|fail):p:=h e1
theorem ms0 {p:Prop} (h:p:=by simp (disch:=first|omega|assumption) only [go_sem,eq_self,decide_true,decide_false,ne_eq,not_true_eq_false,not_false_eq_true,Q,hdj,hON,hOM];first|done|fail):p:=h
theorem mt {p q e:Prop} (e1:e) (k:q) (h:e→gb q→p:=by intro e k;refine qt (ai Q (ai hdj (ai hON (ai hOM e)))) ?_;exact k.out):p:=h e1 ⟨k⟩
theorem mt0 {p q:Prop} (k:q) (h:gb q→p:=by intro k;refine qt (ai Q (ai hdj (ai hON (ai hOM trivial)))) ?_;exact k.out):p:=h ⟨k⟩
theorem mw0 {p q:Prop} (k:q) (h:gb q→p:=by intro k;refine qw (ai Q (ai hdj (ai hON (ai hOM trivial)))) ?_;exact k.out):p:=h ⟨k⟩
theorem mn {p e:Prop} (e1:e) (h:e→p:=by intro e;first|(intro _ h;cases h;done)|exact mJ _|(refine tN ?_ _;simp [hyN,hpN,hqN,hON.mem];done)|(refine rL ?_ hdj _;simp [hyM,hpM,hqM,hOM.mem];done)|exact ms e|(simp only [List.mem_cons,forall_eq_or_imp];refine ⟨ms e,?_⟩;first|exact mJ _|(refine tN ?_ _;simp [hyN,hpN,hqN,hON.mem];done)|(refine rL ?_ hdj _;simp [hyM,hpM,hqM,hOM.mem];done))):p:=h e1
theorem mm {p c:Prop} (c1:c) (h:c→p:=by intro c;first|exact c|exact c (aw rfl hp)|exact c _ (aw rfl hp) (fun h=>hpp (Oid.ae h)) (hON.sub _ _)|exact c _ (aw rfl hp) (fun h=>hqq (Oid.ae h)) (hOM.sub _ _)):p:=h c1
theorem mr {p q e c:Prop} {U gl:List (Nat × Nat)} {ts:List Nat} (g:HD U gl ts) (e1:e) (c1:c) (k:q) (h:HD U gl ts→e→c→gb q→p:=by
  intro g e c k;(try refine qv ?_)
  refine vJ g hng (by kernel_rfl) fun hf C S K hC1 hC hS hK=>?_;refine mt e ?_
  repeat (obtain ⟨c1,c⟩:CC _ _:=c;refine hC1 _ (mm c1) (mn e) ?_;refine mt e ?_)
  refine hK ?_;clear hK hS hC hC1 K S C hf;(try refine qv ?_)
  exact k.out):p:=h g e1 c1 ⟨k⟩
theorem md {p q e c:Prop} {U gl:List (Nat × Nat)} {ts:List Nat} (g:HD U gl ts) (e1:e) (c1:c) (k:q) (h:HD U gl ts→e→c→gb q→p:=by
  intro g e c k;(try refine qv ?_)
  refine qS g mixed hng (by kernel_rfl) fun hf C S K hC hS hK=>?_;refine mt e ?_
  repeat (obtain ⟨c1,c⟩:CC _ _:=c;refine hC _ (mm c1) (mn e) ?_;refine mt e ?_)
  (first|refine hK (aT rfl) ?_|refine hK (by simp (disch:=first|omega|assumption) only [go_sem,List.reverse_cons,List.reverse_nil,ne_eq,not_false_eq_true,implies_true]) ?_);clear hK hS hC K S C hf;(try refine qv ?_)
  exact k.out):p:=h g e1 c1 ⟨k⟩
theorem mr1 {p q c:Prop} (c1:c) (k:q) (h:c→gb q→p:=by intro c k;refine mr .o trivial (cq c trivial) ?_;exact k.out):p:=h c1 ⟨k⟩
theorem kq {p:Prop} (h:p:=by refine ay (dp (by simp (disch:=first|omega|assumption) only [go_sem,eq_self,decide_true,decide_false,ne_eq,not_true_eq_false,not_false_eq_true,uu hpp,hpN,hO,aI,a7,bG,rdV,lsV,fnV,rdS,rdB,rdL,cdN,Bits.no]) (by show _=some _;exact ks0) (by first|exact nbu _|(refine nbA ?_ _;simp [hpN,hO.mem];done)|(refine nbA ?_ _;simp [hwN,hpN,hO.mem];done)))):p:=h
theorem kx0 {p:Prop} (h:p:=by exact lT (z:=0) (e:=_) (cN (by omega)).2.1 (by show _=some _;exact ks0) (by simp (disch:=first|omega|assumption) only [go_sem,eq_self,decide_true,decide_false,ne_eq,not_true_eq_false,not_false_eq_true,uu hpp,hpN,hO,aI,a7,bG,rdV,lsV,fnV,rdS,rdB,rdL,cdN,Bits.no]) (by show _=some _;exact ks0) (by first|exact nbu _|(refine nbA ?_ _;simp [hpN,hO.mem];done)|(refine nbA ?_ _;simp [hwN,hpN,hO.mem];done)) ks0 hO.mem):p:=h
theorem kx1 {p:Prop} (h:p:=by exact lT (z:=0) (e:=_) (cN (by omega)).1 (by show _=some _;exact ks0) (by simp (disch:=first|omega|assumption) only [go_sem,eq_self,decide_true,decide_false,ne_eq,not_true_eq_false,not_false_eq_true,uu hpp,hpN,hO,aI,a7,bG,rdV,lsV,fnV,rdS,rdB,rdL,cdN,Bits.no]) (by show _=some _;exact ks0) (by first|exact nbu _|(refine nbA ?_ _;simp [hpN,hO.mem];done)|(refine nbA ?_ _;simp [hwN,hpN,hO.mem];done)) ks0 hO.mem):p:=h
theorem kx2 {p:Prop} (h:p:=by exact lT (z:=0) (e:=_) (cN (by omega)).2.2 (by show _=some _;exact ks0) (by simp (disch:=first|omega|assumption) only [go_sem,eq_self,decide_true,decide_false,ne_eq,not_true_eq_false,not_false_eq_true,uu hpp,hpN,hO,aI,a7,bG,rdV,lsV,fnV,rdS,rdB,rdL,cdN,Bits.no]) (by show _=some _;exact ks0) (by first|exact nbu _|(refine nbA ?_ _;simp [hpN,hO.mem];done)|(refine nbA ?_ _;simp [hwN,hpN,hO.mem];done)) ks0 hO.mem):p:=h
theorem kz0 {p:Prop} (h:p:=by exact ay (oF (z:=0) (cN (by omega)).2.1 (by show _=some _;exact ks0) (by simp (disch:=first|omega|assumption) only [go_sem,eq_self,decide_true,decide_false,ne_eq,not_true_eq_false,not_false_eq_true,uu hpp,hpN,hO,aI,a7,bG,rdV,lsV,fnV,rdS,rdB,rdL,cdN,Bits.no]) (by show _=some _;exact ks0) (by first|exact nbu _|(refine nbA ?_ _;simp [hpN,hO.mem];done)|(refine nbA ?_ _;simp [hwN,hpN,hO.mem];done)))):p:=h
theorem kz1 {p:Prop} (h:p:=by exact ay (oF (z:=0) (cN (by omega)).1 (by show _=some _;exact ks0) (by simp (disch:=first|omega|assumption) only [go_sem,eq_self,decide_true,decide_false,ne_eq,not_true_eq_false,not_false_eq_true,uu hpp,hpN,hO,aI,a7,bG,rdV,lsV,fnV,rdS,rdB,rdL,cdN,Bits.no]) (by show _=some _;exact ks0) (by first|exact nbu _|(refine nbA ?_ _;simp [hpN,hO.mem];done)|(refine nbA ?_ _;simp [hwN,hpN,hO.mem];done)))):p:=h
theorem kz2 {p:Prop} (h:p:=by exact ay (oF (z:=0) (cN (by omega)).2.2 (by show _=some _;exact ks0) (by simp (disch:=first|omega|assumption) only [go_sem,eq_self,decide_true,decide_false,ne_eq,not_true_eq_false,not_false_eq_true,uu hpp,hpN,hO,aI,a7,bG,rdV,lsV,fnV,rdS,rdB,rdL,cdN,Bits.no]) (by show _=some _;exact ks0) (by first|exact nbu _|(refine nbA ?_ _;simp [hpN,hO.mem];done)|(refine nbA ?_ _;simp [hwN,hpN,hO.mem];done)))):p:=h
theorem kp0 {p e c d:Prop} (e1:e) (c1:c) (d1:d) (h:e→c→d→p:=by
  intro e c d;(try refine qv ?_)
  refine ar nmd [] hng (by kernel_rfl) fun hf C S K hC1 hC hS hK=>?_;refine kt e ?_
  repeat (obtain ⟨c1,c⟩:CC _ _:=c;refine hC1 _ (km c1) (kn e) ?_;refine kt e ?_)
  apply hC;(first|exact d|exact dM.pn (d _ (aw rfl hp) (fun h=>hpp (Oid.ae h)) (hO.sub _ _)) rfl);exact kn e;exact (fun _ _ h=>h.elim)
  rintro _ _ ⟨rfl,rfl⟩
  exact kx0):p:=h e1 c1 d1
theorem kp1 {p e c d:Prop} (e1:e) (c1:c) (d1:d) (h:e→c→d→p:=by
  intro e c d;(try refine qv ?_)
  refine ar nmd [] hng (by kernel_rfl) fun hf C S K hC1 hC hS hK=>?_;refine kt e ?_
  repeat (obtain ⟨c1,c⟩:CC _ _:=c;refine hC1 _ (km c1) (kn e) ?_;refine kt e ?_)
  apply hC;(first|exact d|exact dM.pn (d _ (aw rfl hp) (fun h=>hpp (Oid.ae h)) (hO.sub _ _)) rfl);exact kn e;exact (fun _ _ h=>h.elim)
  rintro _ _ ⟨rfl,rfl⟩
  exact kx1):p:=h e1 c1 d1
theorem mj {p:Prop} (h:p:=by refine ay (DM h.ap ms0 (by show _=some _;first|exact ms0|(refine mt0 ?_;exact yp')) (by show _=some _;(try simp only [cdN]);simp (disch:=first|omega|assumption) only [go_sem,Q,hdj,hON,hOM,prC]) (by show _=some _;(try simp only [cdN]);simp (disch:=first|omega|assumption) only [go_sem,Q,hdj,hON,hOM,prC]) (by first|exact mJ _|(refine tN ?_ _;simp [hyN,hpN,hqN,hON.mem];done)) (by first|exact mJ _|(refine rL ?_ hdj _;simp [hyM,hpM,hqM,hOM.mem];done)))):p:=h
end Go.Ab
namespace Go.Proofs.YtmoaidkglldhcaaGreatDoor
open Go Go.Ab
set_option maxRecDepth 20000
set_option maxHeartbeats 4000000
def dq (e:ME):Str:=match e.key with
 | .str s=>s
 | _=>[]
def cH (n k:Str):Option Str:=if iq k (n++[47])=true∧¬ 0≤Lib.indexByte (k.drop (n.length+1)) 47 then some (k.drop (n.length+1)) else none
theorem uG {l l':List (Oid × ao)} {i:Oid} (h:∀ q ∈ l,¬ i=q.1):Mem.of (l++l') i=Mem.of l' i:=by
 induction l with
 | nil=>rfl
 | cons q l ih=>rw [List.cons_append,Mem.af,if_neg (h q List.mem_cons_self)];exact ih fun q' hq'=>h q' (List.mem_cons_of_mem _ hq')
theorem jK {m:Mem} {B L:List (Oid × ao)} (h1:∀ q,q ∈ B→m q.1=some q.2) (h2:∀ q,q ∈ L→m q.1=some q.2):∀ q,q ∈ B++L→m q.1=some q.2 :=
 fun q hq=>(List.mem_append.1 hq).elim (h1 q) (h2 q)
theorem jq {k:AV} (h:a6 [.ss] false k=true):∃ s,k = .str s:=by
 cases k<;>simp [a6,AV.isAgg,AV.cells,fits,fS] at h ⊢
theorem mS {es U:List ME} (hp:es.Pairwise fun e e'=>e.born < e'.born) (hs:∀ e ∈ U,e ∈ es) (hn:(U.map (·.born)).Nodup):U.length≤es.length:=by
 have h1:U.Nodup:=List.Pairwise.imp (fun h e=>h (by rw [e])) (List.pairwise_map.1 hn)
 exact h1.length_le_of_subset fun e he=>hs e he
theorem find_born {es:List ME} (hp:es.Pairwise fun e e'=>e.born < e'.born) {e:ME} (he:e ∈ es):es.find? (fun q=>q.born == e.born)=some e:=by
 induction es with
 | nil=>cases he
 | cons a es ih =>
  have h2:=List.pairwise_cons.1 hp
  rcases List.mem_cons.1 he with rfl|he
  ·simp
  ·have:=h2.1 e he
   rw [List.find?_cons_of_neg (by simp;omega)]
   exact ih h2.2 he
theorem xB (b1 b2 o:Oid) (n:Str) (hln:n.length≤140737488355000) (es:List ME) (clock:Nat) (hkl:∀ e ∈ es,(dq e).length≤140737488355328) (p:Oid) (hne1:¬ o=b1) (hne2:¬ o=b2) (hne3:¬ b2=b1) (hb1:¬ Oid.under p b1) (hb2:¬ Oid.under p b2) (ho:¬ Oid.under p o) :
  nJ Tryz.prog 164 [.ptr b1 0,.ptr b2 0] p [(b1,.cells [.map o]),(b2,.cells [.str n]),(o,.map [.ss] false es clock)] 1 (fun pre xs=>pre.length < es.length∧∃ s:Str,xs=[.str s]) (fun b pre=>b=true→∃ U:List ME,U.Perm es∧pre=(U.filterMap fun e=>cH n (dq e)).map fun s=>[.str s]):=by
 intro l J L0 hJ hdis hnp hY
 refine eM (by kernel_rfl) fun hcon=>?_
 refine gH (n:=32) (rs:=[]) Tryz.func164 rfl rfl (by decide) rfl rfl rfl ?_;rintro x rfl hrd hng
 have hcL:∀ q ∈ L0,Mem.of L0 q.1=some q.2:=fun q hq=>by
  have:=hcon q (List.mem_append_right _ hq)
  rwa [uG fun q' hq'=>hdis q hq q' hq'] at this
 generalize hQ:dG Tryz.prog [] ([(b1,.cells [.map o]),(b2,.cells [.str n]),(o,.map [.ss] false es clock)]++L0) _ _=Q
 refine Cf fun hwf=>?_
 obtain ⟨hw1,hw2⟩:=hwf o [.ss] false es clock (by simp only [aW,bc,Mem.af,Mem.aH,Mem.aO,Mem.aR,br,bI,List.cons_append,List.nil_append,List.append_nil,↓reduceIte,eq_self,and_true,true_and,and_self,and_false,false_and,reduceCtorEq,Oid.sub.injEq,Nat.reduceEqDiff,hne1,hne2,hne3,Oid.aa hb1,Oid.aa hb2,Oid.aa ho,Oid.ab hb1,Oid.ab hb2,Oid.ab ho])
 have hstr:∀ e ∈ es,e.key = .str (dq e):=fun e he=>by
  obtain ⟨s,hs⟩:=jq (hw1 e he).1
  simp only [dq,hs]
 (try ((first|refine zn ?_|refine ze ?_|refine zk ?_);with_reducible (constructor;repeat constructor));try refine zl ?_)
 refine ar nmd [] hng (by kernel_rfl) fun hf C S K hC1 hC hS hK=>?_;simp (disch:=first|omega|assumption) only [go_sem,hne1,hne2,hne3,Oid.aa hb1,Oid.aa hb2,Oid.aa ho,Oid.ab hb1,Oid.ab hb2,Oid.ab ho,aM]
 refine hK ?_;clear hK hS hC hC1 K S C hf
 (try ((first|refine zn ?_|refine ze ?_|refine zk ?_);with_reducible (constructor;repeat constructor));try refine zl ?_)
 have hn0:∀ q ∈ L0,¬ q.1=b1∧¬ q.1=b2∧¬ q.1=o∧¬ q.1 = .sub 0 1 x.p:=fun q hq=>⟨hdis q hq _ List.mem_cons_self,hdis q hq _ (List.mem_cons_of_mem _ List.mem_cons_self),hdis q hq _ (List.mem_cons_of_mem _ (List.mem_cons_of_mem _ List.mem_cons_self)),fun e=>hnp q hq (e ▸ Oid.ae (Oid.aq _))⟩
 refine jZ ([(b1,.cells [.map o]),(b2,.cells [.str n]),(o,.map [.ss] false es clock),(.sub 0 1 x.p,.iter (some o) clock [] clock)]++L0) (jK ?_ ?_) ?_
 ·simp only [aW,bc,Mem.af,Mem.aH,Mem.aO,Mem.aR,br,bI,List.cons_append,List.nil_append,List.append_nil,↓reduceIte,eq_self,and_true,true_and,and_self,and_false,false_and,reduceCtorEq,Oid.sub.injEq,Nat.reduceEqDiff,hne1,hne2,hne3,Oid.aa hb1,Oid.aa hb2,Oid.aa ho,Oid.ab hb1,Oid.ab hb2,Oid.ab ho,aM]
 ·intro q hq
  obtain ⟨a1,a2,a3,a4⟩:=hn0 q hq
  simp only [aW,bc,Mem.af,Mem.aH,Mem.aO,Mem.aR,br,bI,List.cons_append,List.nil_append,List.append_nil,↓reduceIte,eq_self,and_true,true_and,and_self,and_false,false_and,reduceCtorEq,Oid.sub.injEq,Nat.reduceEqDiff,aM,a1,a2,a3,a4]
  exact hcL q hq
 refine bK [0,1,2,8] (fun q s'=>∃ (c:Nat) (U:List ME) (L:List (Oid × ao)),s' = ⟨[(0,.fn (.yield l) [] []),(1,.ptr b1 0),(2,.ptr b2 0),(8,.iter (.sub 0 1 x.p))],Mem.of ([(b1,.cells [.map o]),(b2,.cells [.str n]),(o,.map [.ss] false es clock),(.sub 0 1 x.p,.iter (some o) clock (U.map ME.born) clock)]++L),c,[]⟩∧0 < c∧q=es.length - U.length∧(U.map ME.born).Nodup∧(∀ e ∈ U,e ∈ es)∧J true ((U.filterMap fun e=>cH n (dq e)).map fun s=>[.str s]) L ∧
  (∀ q ∈ L,Mem.of L q.1=some q.2)∧∀ q ∈ L,((∃ q' ∈ L0,q'.1=q.1)∨Oid.under x.p q.1)∧¬ q.1=b1∧¬ q.1=b2∧¬ q.1=o∧¬ q.1 = .sub 0 1 x.p∧∀ d j,c≤d→¬ Oid.under (.sub d j x.p) q.1) es.length ⟨_,[],L0,rfl,by omega,rfl,List.nodup_nil,fun i h=>(by cases h),hJ,hcL,fun q hq=>⟨.inl ⟨q,hq,rfl⟩,(hn0 q hq).1,(hn0 q hq).2.1,(hn0 q hq).2.2.1,(hn0 q hq).2.2.2,fun d j _ h=>hnp q hq (Oid.ae h)⟩⟩ ?_
 rintro q s' ⟨c,U,L,rfl,hc,rfl,hnd,hlt,hj,hcc,hnm⟩
 have hst:U.map ME.born=[]∨es=[]∨∃ e ∈ es,e.born < clock:=by
  cases U with
  | nil=>exact .inl rfl
  | cons e _=>exact .inr (.inr ⟨e,hlt e List.mem_cons_self,(hw1 e (hlt e List.mem_cons_self)).2⟩)
 (try ((first|refine zn ?_|refine ze ?_|refine zk ?_);with_reducible (constructor;repeat constructor));try refine zl ?_)
 refine ar nmd [] hng (by kernel_rfl) fun hf C S K hC1 hC hS hK=>?_;simp (disch:=first|omega|assumption) only [go_sem]
 refine hS _ _ _ (fun o' hd ho'=>mO (it:=.sub 0 1 x.p) (id:=o) (since:=clock) (ks:=[.ss]) (ag:=false) (clock:=clock) ho' rfl hst) ?_ ?_ (fun _ _ h=>h.elim)
 ·simp only [aW,bc,Mem.af,Mem.aH,Mem.aO,Mem.aR,br,bI,List.cons_append,List.nil_append,List.append_nil,↓reduceIte,eq_self,and_true,true_and,and_self,and_false,false_and,reduceCtorEq,Oid.sub.injEq,Nat.reduceEqDiff,hne1,hne2,hne3,Oid.aa hb1,Oid.aa hb2,Oid.aa ho,Oid.ab hb1,Oid.ab hb2,Oid.ab ho]
 rintro val upd (⟨e,he,hns,rfl,rfl⟩|⟨hall,rfl,rfl⟩)
 ·have hfi:=find_born hw2 he
  have hk:=hstr e he
  have hkl1:=hkl e he
  have hnd':((U++[e]).map ME.born).Nodup:=by
   rw [List.map_append]
   exact List.nodup_append.2 ⟨hnd,by simp,fun a ha b hb' e'=>by simp at hb';subst hb';subst e';exact hns ha⟩
  have hlt':∀ j ∈ U++[e],j ∈ es:=fun j hj=>by
   rcases List.mem_append.1 hj with hj|hj
   ·exact hlt j hj
   ·simp at hj;subst hj;exact he
  have hle:=mS hw2 hlt' hnd'
  have hfm:(U.filterMap fun e=>cH n (dq e)).length≤U.length:=List.length_filterMap_le ..
  have hrest:((U++[e]).filterMap fun e=>cH n (dq e))=(U.filterMap fun e=>cH n (dq e))++(cH n (dq e)).toList:=by
   rw [List.filterMap_append];congr 1
  generalize dq e=s at *
  simp (disch:=first|omega|assumption) only [go_sem,hne1,hne2,hne3,Oid.aa hb1,Oid.aa hb2,Oid.aa ho,Oid.ab hb1,Oid.ab hb2,Oid.ab ho,aM,hk]
  refine hK ?_;clear hK hS hC hC1 K S C hf
  (repeat (first|(refine aA rfl rfl ?_)|(refine az rfl rfl ?_)|(refine ar nmd [] hng (by kernel_rfl) fun hf C S K hC1 hC hS hK=>?_;simp (disch:=first|omega|assumption) only [go_sem];refine hK ?_;clear hK hS hC hC1 K S C hf)|((first|refine zv ?_|refine zw ?_|refine zu ?_);with_reducible (constructor;repeat constructor);try refine zl ?_)))
  refine gM ?_
  (repeat (first|(refine aA rfl rfl ?_)|(refine az rfl rfl ?_)|(refine ar nmd [] hng (by kernel_rfl) fun hf C S K hC1 hC hS hK=>?_;simp (disch:=first|omega|assumption) only [go_sem];refine hK ?_;clear hK hS hC hC1 K S C hf)|((first|refine zv ?_|refine zw ?_|refine zu ?_);with_reducible (constructor;repeat constructor);try refine zl ?_)))
  refine ar nmd [] hng (by kernel_rfl) fun hf C S K hC1 hC hS hK=>?_;simp (disch:=first|omega|assumption) only [go_sem,hne1,hne2,hne3,Oid.aa hb1,Oid.aa hb2,Oid.aa ho,Oid.ab hb1,Oid.ab hb2,Oid.ab ho,aM,hfi,hk,List.getLast?_concat]
  refine hK ?_;clear hK hS hC hC1 K S C hf
  (repeat (first|(refine aA rfl rfl ?_)|(refine az rfl rfl ?_)|(refine ar nmd [] hng (by kernel_rfl) fun hf C S K hC1 hC hS hK=>?_;simp (disch:=first|omega|assumption) only [go_sem];refine hK ?_;clear hK hS hC hC1 K S C hf)|((first|refine zv ?_|refine zw ?_|refine zu ?_);with_reducible (constructor;repeat constructor);try refine zl ?_)))
  refine ar nmd [] hng (by kernel_rfl) fun hf C S K hC1 hC hS hK=>?_;simp (disch:=first|omega|assumption) only [go_sem,hne1,hne2,hne3,Oid.aa hb1,Oid.aa hb2,Oid.aa ho,Oid.ab hb1,Oid.ab hb2,Oid.ab ho,aM]
  refine hC1 _ (qY s (n++[47]) (by omega) (by simp only [List.length_append,List.length_cons,List.length_nil];omega) _) qs0 ?_
  simp (disch:=first|omega|assumption) only [go_sem]
  refine hK ?_;clear hK hS hC hC1 K S C hf
  have hnm2:∀ q ∈ L,((∃ q' ∈ L0,q'.1=q.1)∨Oid.under x.p q.1)∧¬ q.1=b1∧¬ q.1=b2∧¬ q.1=o∧¬ q.1 = .sub 0 1 x.p∧∀ d j,c+4≤d→¬ Oid.under (.sub d j x.p) q.1:=fun q hq=>by
   obtain ⟨a0,a1,a2,a3,a4,a5⟩:=hnm q hq
   exact ⟨a0,a1,a2,a3,a4,fun d j hd=>a5 d j (by omega)⟩
  have hnL:∀ q ∈ L,∀ q' ∈ ([(b1,.cells [.map o]),(b2,.cells [.str n]),(o,.map [.ss] false es clock),(.sub 0 1 x.p,.iter (some o) clock (U.map ME.born++[e.born]) clock)]:List (Oid × ao)),¬ q.1=q'.1:=fun q hq=>by
   obtain ⟨_,a1,a2,a3,a4,a5⟩:=hnm q hq
   simp only [aW,bc,Mem.af,Mem.aH,Mem.aO,Mem.aR,br,bI,List.cons_append,List.nil_append,List.append_nil,↓reduceIte,eq_self,and_true,true_and,and_self,and_false,false_and,reduceCtorEq,Oid.sub.injEq,Nat.reduceEqDiff,a1,a2,a3,a4,not_false_eq_true]
  have hBm:∀ q ∈ ([(b1,.cells [.map o]),(b2,.cells [.str n]),(o,.map [.ss] false es clock),(.sub 0 1 x.p,.iter (some o) clock (U.map ME.born++[e.born]) clock)]:List (Oid × ao)),Mem.of ([(b1,.cells [.map o]),(b2,.cells [.str n]),(o,.map [.ss] false es clock),(.sub 0 1 x.p,.iter (some o) clock (U.map ME.born++[e.born]) clock)]++L) q.1=some q.2:=by
   simp only [aW,bc,Mem.af,Mem.aH,Mem.aO,Mem.aR,br,bI,List.cons_append,List.nil_append,List.append_nil,↓reduceIte,eq_self,and_true,true_and,and_self,and_false,false_and,reduceCtorEq,Oid.sub.injEq,Nat.reduceEqDiff,hne1,hne2,hne3,Oid.aa hb1,Oid.aa hb2,Oid.aa ho,Oid.ab hb1,Oid.ab hb2,Oid.ab ho]
  have hall:=eW hBm hnL hcc
  have hmm:(U++[e]).map ME.born=U.map ME.born++[e.born]:=by simp
  have hlen2:(U++[e]).length=U.length+1:=by simp
  by_cases hp:iq s (n++[47])=true
  ·by_cases hq:0≤Lib.indexByte (s.drop (n.length+1)) 47
   ·have hro:cH n s=none:=if_neg fun h=>h.2 hq
    (repeat (first|(refine aA rfl rfl ?_)|(refine az rfl rfl ?_)|(refine ar nmd [] hng (by kernel_rfl) fun hf C S K hC1 hC hS hK=>?_;simp (disch:=first|omega|assumption) only [go_sem];refine hK ?_;clear hK hS hC hC1 K S C hf)|((first|refine zv ?_|refine zw ?_|refine zu ?_);with_reducible (constructor;repeat constructor);try refine zl ?_)))
    refine ar nmd [(1,21),(6,26)] hng (by kernel_rfl) fun hf C S K hC1 hC hS hK=>?_;simp (disch:=first|omega|assumption) only [go_sem,hp]
    refine hC1 _ (mw (s.drop (n.length+1)) 47 _) qs0 ?_
    simp (disch:=first|omega|assumption) only [go_sem,hq]
    refine hK ?_;clear hK hS hC hC1 K S C hf
    refine qw0 ?_
    refine ⟨_,Mem.of ([(b1,.cells [.map o]),(b2,.cells [.str n]),(o,.map [.ss] false es clock),(.sub 0 1 x.p,.iter (some o) clock (U.map ME.born++[e.born]) clock)]++L),?_,iH hall,c+1+1+1+1,U++[e],L,by rw [hmm];rfl,by omega,rfl,hnd',hlt',?_,hcc,hnm2⟩
    ·rw [hlen2] at hle ⊢;omega
    ·rw [hrest,hro];simpa using hj
   ·have hro:cH n s=some (s.drop (n.length+1)):=if_pos ⟨hp,hq⟩
    (repeat (first|(refine aA rfl rfl ?_)|(refine az rfl rfl ?_)|(refine ar nmd [] hng (by kernel_rfl) fun hf C S K hC1 hC hS hK=>?_;simp (disch:=first|omega|assumption) only [go_sem];refine hK ?_;clear hK hS hC hC1 K S C hf)|((first|refine zv ?_|refine zw ?_|refine zu ?_);with_reducible (constructor;repeat constructor);try refine zl ?_)))
    refine ar nmd [(1,21),(6,26)] hng (by kernel_rfl) fun hf C S K hC1 hC hS hK=>?_;simp (disch:=first|omega|assumption) only [go_sem,hp]
    refine hC1 _ (mw (s.drop (n.length+1)) 47 _) qs0 ?_
    simp (disch:=first|omega|assumption) only [go_sem,hq]
    generalize hr:s.drop (n.length+1)=r at *
    refine hS _ _ _ (fun o' hd ho'=>lD ho' rfl (hY _ [.str r] L (.sub (c+1+1+1) 9 x.p) hj rfl ⟨by rw [List.length_map];rw [hlen2] at hle;omega,r,rfl⟩)) (fun q hq=>hall q (List.mem_append_right _ hq)) ?_ (fun _ _ h=>h.elim)
    rintro val upd ⟨b,L',rfl,hj',hU⟩
    have hym:=lF hU (fun q hq=>hall q (List.mem_append_right _ hq)) hBm ?_
    rotate_left
    ·intro q hq
     refine ⟨fun q' hq'=>hnL q' hq' q hq,fun hu=>?_⟩
     simp only [List.mem_cons,List.not_mem_nil,or_false] at hq
     rcases hq with rfl|rfl|rfl|rfl
     ·exact hb1 (Oid.ae hu)
     ·exact hb2 (Oid.ae hu)
     ·exact ho (Oid.ae hu)
     ·have:=(Oid.apart hu (Oid.aq _)).1;omega
    have hcl:∀ q ∈ L',Mem.of L' q.1=some q.2:=fun q hq=>by
     obtain ⟨o',ho'⟩:=Mem.kS hq
     obtain ⟨q',h1,h2,h3⟩:=Mem.dV ho'
     have h4:=hym q (List.mem_append_right _ hq)
     have h5:=hym q' (List.mem_append_right _ h1)
     rw [h2,h4,h3] at h5
     rw [ho'];exact h5.symm
    simp (disch:=first|omega|assumption) only [go_sem]
    refine hK ?_;clear hK hS hC hC1 K S C hf
    (repeat (first|(refine aA rfl rfl ?_)|(refine az rfl rfl ?_)|(refine ar nmd [] hng (by kernel_rfl) fun hf C S K hC1 hC hS hK=>?_;simp (disch:=first|omega|assumption) only [go_sem];refine hK ?_;clear hK hS hC hC1 K S C hf)|((first|refine zv ?_|refine zw ?_|refine zu ?_);with_reducible (constructor;repeat constructor);try refine zl ?_)))
    refine jZ ([(b1,.cells [.map o]),(b2,.cells [.str n]),(o,.map [.ss] false es clock),(.sub 0 1 x.p,.iter (some o) clock (U.map ME.born++[e.born]) clock)]++L') (by rw [← Mem.aO];exact hym) ?_
    have hnm':∀ q ∈ L',((∃ q' ∈ L0,q'.1=q.1)∨Oid.under x.p q.1)∧¬ q.1=b1∧¬ q.1=b2∧¬ q.1=o∧¬ q.1 = .sub 0 1 x.p∧∀ d j,c+1+1+1+1≤d→¬ Oid.under (.sub d j x.p) q.1:=fun q hq=>by
     rcases hU.nam q hq with ⟨q',h1,h2⟩|h1
     ·obtain ⟨a0,a1,a2,a3,a4,a5⟩:=hnm q' h1
      rw [h2] at a0 a1 a2 a3 a4 a5
      exact ⟨a0,a1,a2,a3,a4,fun d j hd=>a5 d j (by omega)⟩
     ·have hu:=Oid.ae h1
      refine ⟨.inr hu,fun e=>hb1 (e ▸ hu),fun e=>hb2 (e ▸ hu),fun e=>ho (e ▸ hu),fun e=>?_,fun d j hd h2=>?_⟩
      ·rw [e] at h1;have:=(Oid.apart h1 (Oid.aq _)).1;omega
      ·have:=(Oid.apart h1 h2).1;omega
    have hmap:((U++[e]).filterMap fun e=>cH n (dq e)).map (fun s=>[AV.str s])=((U.filterMap fun e=>cH n (dq e)).map fun s=>[AV.str s])++[[.str r]]:=by rw [hrest,hro];simp
    have hnL':∀ q ∈ L',∀ q' ∈ ([(b1,.cells [.map o]),(b2,.cells [.str n]),(o,.map [.ss] false es clock),(.sub 0 1 x.p,.iter (some o) clock (U.map ME.born++[e.born]) clock)]:List (Oid × ao)),¬ q.1=q'.1:=fun q hq=>by
     obtain ⟨_,a1,a2,a3,a4,a5⟩:=hnm' q hq
     simp only [aW,bc,Mem.af,Mem.aH,Mem.aO,Mem.aR,br,bI,List.cons_append,List.nil_append,List.append_nil,↓reduceIte,eq_self,and_true,true_and,and_self,and_false,false_and,reduceCtorEq,Oid.sub.injEq,Nat.reduceEqDiff,a1,a2,a3,a4,not_false_eq_true]
    have hall':=eW (L:=L') (B:=[(b1,.cells [.map o]),(b2,.cells [.str n]),(o,.map [.ss] false es clock),(.sub 0 1 x.p,.iter (some o) clock (U.map ME.born++[e.born]) clock)]) (fun q hq=>by
     have:=hym q (List.mem_append_left _ hq)
     revert q
     simp only [aW,bc,Mem.af,Mem.aH,Mem.aO,Mem.aR,br,bI,List.cons_append,List.nil_append,List.append_nil,↓reduceIte,eq_self,and_true,true_and,and_self,and_false,false_and,reduceCtorEq,Oid.sub.injEq,Nat.reduceEqDiff,hne1,hne2,hne3,Oid.aa hb1,Oid.aa hb2,Oid.aa ho,Oid.ab hb1,Oid.ab hb2,Oid.ab ho,implies_true]) hnL' hcl
    cases b with
    | true =>
     refine qw0 ?_
     rw [← hmap] at hj'
     refine ⟨_,Mem.of ([(b1,.cells [.map o]),(b2,.cells [.str n]),(o,.map [.ss] false es clock),(.sub 0 1 x.p,.iter (some o) clock (U.map ME.born++[e.born]) clock)]++L'),?_,iH hall',c+1+1+1+1,U++[e],L',by rw [hmm];rfl,by omega,rfl,hnd',hlt',hj',hcl,hnm'⟩
     rw [hlen2] at hle ⊢;omega
    | false =>
     refine aA rfl rfl (ay ?_)
     subst hQ
     have hsw:=iG (L:=[(b1,.cells [.map o]),(b2,.cells [.str n]),(o,.map [.ss] false es clock)]++L0) (L':=[(b1,.cells [.map o]),(b2,.cells [.str n]),(o,.map [.ss] false es clock)]++L') (m:=Mem.of ([(b1,.cells [.map o]),(b2,.cells [.str n]),(o,.map [.ss] false es clock),(.sub 0 1 x.p,.iter (some o) clock (U.map ME.born++[e.born]) clock)]++L')) (sp:=Oid.under x.p) (fun q hq=>hall' q (by
       rcases List.mem_append.1 hq with hq|hq
       ·exact List.mem_append_left _ (by simp only [List.mem_cons,List.not_mem_nil,or_false] at hq ⊢;rcases hq with h|h|h<;>simp [h])
       ·exact List.mem_append_right _ hq)) (fun q hq=>by
       rcases List.mem_append.1 hq with hq|hq
       ·exact .inl ⟨q,List.mem_append_left _ hq,rfl⟩
       ·rcases (hnm' q hq).1 with ⟨q',h1,h2⟩|h
        ·exact .inl ⟨q',List.mem_append_right _ h1,h2⟩
        ·exact .inr h)
     exact bw _ _ rfl ⟨false,_,L',fun h=>(by cases h),hj',hsw.1⟩ hsw.2
  ·have hro:cH n s=none:=if_neg fun h=>hp h.1
   rw [Bool.not_eq_true] at hp
   (repeat (first|(refine aA rfl rfl ?_)|(refine az rfl rfl ?_)|(refine ar nmd [] hng (by kernel_rfl) fun hf C S K hC1 hC hS hK=>?_;simp (disch:=first|omega|assumption) only [go_sem];refine hK ?_;clear hK hS hC hC1 K S C hf)|((first|refine zv ?_|refine zw ?_|refine zu ?_);with_reducible (constructor;repeat constructor);try refine zl ?_)))
   refine ar nmd [(1,21),(6,26)] hng (by kernel_rfl) fun hf C S K hC1 hC hS hK=>?_;simp (disch:=first|omega|assumption) only [go_sem,hp]
   refine hK ?_;clear hK hS hC hC1 K S C hf
   refine qw0 ?_
   refine ⟨_,Mem.of ([(b1,.cells [.map o]),(b2,.cells [.str n]),(o,.map [.ss] false es clock),(.sub 0 1 x.p,.iter (some o) clock (U.map ME.born++[e.born]) clock)]++L),?_,iH hall,c+1+1+1+1,U++[e],L,by rw [hmm];rfl,by omega,rfl,hnd',hlt',?_,hcc,hnm2⟩
   ·rw [hlen2] at hle ⊢;omega
   ·rw [hrest,hro];simpa using hj
 ·simp (disch:=first|omega|assumption) only [go_sem]
  refine hK ?_;clear hK hS hC hC1 K S C hf
  (try ((first|refine zn ?_|refine ze ?_|refine zk ?_);with_reducible (constructor;repeat constructor));try refine zl ?_)
  subst hQ
  have hfull:=jG hw2 hlt hnd fun e he=>hall e he (hw1 e he).2
  have hnL:∀ q ∈ L,∀ q' ∈ ([(b1,.cells [.map o]),(b2,.cells [.str n]),(o,.map [.ss] false es clock),(.sub 0 1 x.p,.iter (some o) clock (U.map ME.born) clock)]:List (Oid × ao)),¬ q.1=q'.1:=fun q hq=>by
   obtain ⟨_,a1,a2,a3,a4,a5⟩:=hnm q hq
   simp only [aW,bc,Mem.af,Mem.aH,Mem.aO,Mem.aR,br,bI,List.cons_append,List.nil_append,List.append_nil,↓reduceIte,eq_self,and_true,true_and,and_self,and_false,false_and,reduceCtorEq,Oid.sub.injEq,Nat.reduceEqDiff,a1,a2,a3,a4,not_false_eq_true]
  have hall':=eW (L:=L) (B:=[(b1,.cells [.map o]),(b2,.cells [.str n]),(o,.map [.ss] false es clock),(.sub 0 1 x.p,.iter (some o) clock (U.map ME.born) clock)]) (by
   simp only [aW,bc,Mem.af,Mem.aH,Mem.aO,Mem.aR,br,bI,List.cons_append,List.nil_append,List.append_nil,↓reduceIte,eq_self,and_true,true_and,and_self,and_false,false_and,reduceCtorEq,Oid.sub.injEq,Nat.reduceEqDiff,hne1,hne2,hne3,Oid.aa hb1,Oid.aa hb2,Oid.aa ho,Oid.ab hb1,Oid.ab hb2,Oid.ab ho]) hnL hcc
  have hsw:=iG (L:=[(b1,.cells [.map o]),(b2,.cells [.str n]),(o,.map [.ss] false es clock)]++L0) (L':=[(b1,.cells [.map o]),(b2,.cells [.str n]),(o,.map [.ss] false es clock)]++L) (m:=Mem.of ([(b1,.cells [.map o]),(b2,.cells [.str n]),(o,.map [.ss] false es clock),(.sub 0 1 x.p,.iter (some o) clock (U.map ME.born) clock)]++L)) (sp:=Oid.under x.p) (fun q hq=>hall' q (by
     rcases List.mem_append.1 hq with hq|hq
     ·exact List.mem_append_left _ (by simp only [List.mem_cons,List.not_mem_nil,or_false] at hq ⊢;rcases hq with h|h|h<;>simp [h])
     ·exact List.mem_append_right _ hq)) (fun q hq=>by
     rcases List.mem_append.1 hq with hq|hq
     ·exact .inl ⟨q,List.mem_append_left _ hq,rfl⟩
     ·rcases (hnm q hq).1 with ⟨q',h1,h2⟩|h
      ·exact .inl ⟨q',List.mem_append_right _ h1,h2⟩
      ·exact .inr h)
  refine az rfl rfl ?_
  (try ((first|refine zn ?_|refine ze ?_|refine zk ?_);with_reducible (constructor;repeat constructor));try refine zl ?_)
  refine cK ?_
  exact eL _ _ rfl ⟨true,_,L,fun _=>⟨U,hfull,rfl⟩,hj,hsw.1⟩ hsw.2
end Go.Proofs.YtmoaidkglldhcaaGreatDoor
namespace Go.Proofs.YtmoaidkglldhcaaGreatDoor
open Go Go.Ab
set_option maxRecDepth 20000
set_option maxHeartbeats 4000000
theorem xC (t:Nat) (a:AV) (fr:List (Nat × AV)):pF [t] [a] fr=(t,a)::fr:=rfl
theorem vW {P:Program} [Laid P] {x:Ctx} {n:Nat} {a:Code} {Q:AX→AS→Prop} {fr:List (Nat × AV)} {m:Mem} {c:Nat} {ds:List AD} (h:(∀ i,eG x.p c i→m i=none)→T P x n a ⟨fr,m,c,ds⟩ Q):T P x n a ⟨fr,m,c,ds⟩ Q :=
 fun g a w hr=>h hr.fresh g a w hr
theorem D5 {P:Program} [Laid P] {x:Ctx} {n:Nat} {a:Code} {Q:AX→AS→Prop} {s:AS} (h:T P x n a s (after P x n Q [])):T P x n a s Q:=j6 h fun _ _ h=>h
def uH (l:List Str) (v:AV) (L:List (Oid × ao)) (sp:Oid→Prop):Prop :=
 (l=[]∧v = .nilSl∧L=[])∨(¬ l=[]∧∃ id,v = .sl id 1 l.length∧L=[(id,.arr 1 (l.map .str))]∧sp id)
theorem uH.mono {l:List Str} {v:AV} {L:List (Oid × ao)} {sp sp':Oid→Prop} (h:uH l v L sp) (hs:∀ i,sp i→sp' i):uH l v L sp':=h.imp id fun ⟨a,i,b,c,d⟩=>⟨a,i,b,c,hs i d⟩
theorem ri (gf:FuncId) (cap:List AV) (need:List (Oid × ao)) (N:Nat) (S:Bool→List (List AV)→Prop) (hN:N≤2000000000000) (p:Oid) (hnp:∀ q ∈ need,¬ Oid.under p q.1) (hna:∀ q ∈ need,∀ sz xs,¬ q.2 = .arr sz xs)
  (hseq:∀ p',Oid.under p p'→nJ Tryz.prog gf cap p' need 1 (fun pre xs=>pre.length < N∧∃ h:Str,xs=[.str h]) S) :
  bT Tryz.prog 124 [.nilSl,.fn (.func gf) [] cap] (Oid.under p) need (fun v u=>∃ l L',S true (l.map fun h=>[.str h])∧uH l v L' (Oid.under p)∧u=kU L') (fun _ _=>False):=by
 refine eM (by kernel_rfl) fun hcon=>?_
 refine gH (n:=13) (rs:=[.tmp 4]) Tryz.func124 rfl rfl (by decide) rfl rfl rfl ?_;rintro x rfl hrd hng
 have hnb:∀ q ∈ need,¬ q.1 = .sub 0 0 x.p:=fun q hq e=>hnp q hq (e ▸ Oid.ae (Oid.aq _))
 generalize hQ:dG Tryz.prog _ need _ _=Q
 (try ((first|refine zn ?_|refine ze ?_|refine zk ?_);with_reducible (constructor;repeat constructor));try refine zl ?_)
 refine ar nmd [] hng (by kernel_rfl) fun hf C S K hC1 hC hS hK=>?_;simp (disch:=first|omega|assumption) only [go_sem,aM]
 refine hK ?_;clear hK hS hC hC1 K S C hf
 refine qw0 ?_
 refine sA (S:=S) hrd hng (by decide) rfl rfl (hseq _ (Oid.ae (Oid.aq _))) ?_
  (fun jump pre L=>jump=none∧∃ (l:List Str) (v:AV) (L1:List (Oid × ao)),pre=l.map (fun h=>[.str h])∧uH l v L1 (fun id=>¬ id = .sub 0 0 x.p)∧L=(.sub 0 0 x.p,.cells [v])::L1)
  [(.sub 0 0 x.p,.cells [.nilSl])] ⟨rfl,[],.nilSl,[],rfl,.inl ⟨rfl,rfl,rfl⟩,rfl⟩ ?_ ?_
  (fun _ xs L1 p' s=>∃ h:Str,xs=[.str h]∧F s.fr 5 = .str h∧F s.fr 2 = .ptr (.sub 0 0 x.p) 0∧(∀ q,q ∈ L1→s.mem q.1=some q.2)∧s.ds=[]∧0 < s.c∧¬ p' = x.p) ?_ ?_ ?_ ?_
 ·intro q hq
  rw [aM,if_neg (hnb q hq)];exact hcon q hq
 ·intro q hq
  simp only [List.mem_singleton] at hq
  subst hq
  rw [aM,if_pos rfl]
 ·intro q hq q' hq' e
  simp only [List.mem_singleton] at hq
  subst hq
  exact hnb q' hq' e.symm
 ·rintro y l0 pre xs L1 ⟨_,l,v,L2,rfl,hr,rfl⟩ _ ⟨hlen,h,rfl⟩ hyr hyg
  refine D5 (vW fun hf=>?_)
  replace hng:=hyg
  have hfy:=hf (.sub 0 0 y.p) ⟨0,0,Nat.le_refl _,Oid.aq _⟩
  have hb:¬ Oid.sub 0 0 y.p = .sub 0 0 x.p:=fun e=>by rw [e] at hfy;simp [Mem.af] at hfy
  have hb2:¬ y.p=x.p:=fun e=>hb (by rw [e])
  generalize hrest:L2=rest at hfy ⊢
  rw [Mem.af,if_neg hb] at hfy
  have hdis:∀ q ∈ L2,¬ q.1 = .sub 0 0 x.p∧Mem.of L2 q.1=some q.2:=by
   rcases hr with ⟨_,_,rfl⟩|⟨_,id,_,rfl,hid⟩
   ·intro q hq;cases hq
   ·intro q hq
    simp only [List.mem_singleton] at hq
    subst hq
    exact ⟨hid,by simp [Mem.af]⟩
  refine ar nmd [] hng (by kernel_rfl) fun hf C S K hC1 hC hS hK=>?_;simp (disch:=first|omega|assumption) only [go_sem,aM,hb2,xC]
  refine hK ?_;clear hK hS hC hC1 K S C hf
  refine cK ⟨rfl,h,rfl,rfl,rfl,?_,rfl,by simp,hb2⟩
  refine jK (B:=[(.sub 0 0 x.p,.cells [v])]) ?_ ?_
  ·simp only [aW,bc,Mem.af,Mem.aH,Mem.aO,Mem.aR,br,bI,List.cons_append,List.nil_append,List.append_nil,↓reduceIte,eq_self,and_true,true_and,and_self,and_false,false_and,reduceCtorEq,Oid.sub.injEq,Nat.reduceEqDiff,aM,hb2,AV.cells]
  ·intro q hq
   subst hrest
   obtain ⟨a2,a3⟩:=hdis q hq
   simp only [aW,bc,Mem.af,Mem.aH,Mem.aO,Mem.aR,br,bI,List.cons_append,List.nil_append,List.append_nil,↓reduceIte,eq_self,and_true,true_and,and_self,and_false,false_and,reduceCtorEq,Oid.sub.injEq,Nat.reduceEqDiff,aM,hb2,a2]
   exact a3
 ·rintro y l0 pre xs L1 ⟨fr,m,c,ds⟩ ⟨_,l,v,L2,rfl,hr,rfl⟩ _ ⟨hlen,_,_⟩ hyr hyg ⟨h,rfl,h5,h2,hm,rfl,hc,hb2⟩
  simp only at h5 h2 hm hc
  refine D5 (GP [(5,.str h),(2,.ptr (.sub 0 0 x.p) 0)] rfl (by simp [h5,h2]) (jZ _ hm (vW fun hf=>?_)))
  replace hng:=hyg
  have hfy:∀ j,Mem.of ((Oid.sub 0 0 x.p,ao.cells [v])::L2) (.sub c j y.p)=none:=fun j=>hf _ ⟨c,j,Nat.le_refl _,Oid.aq _⟩
  clear hf
  have hb3:¬ x.p=y.p:=fun e=>hb2 e.symm
  rcases hr with ⟨rfl,rfl,rfl⟩|⟨hl,id,rfl,rfl,hid⟩
  ·(repeat (first|(refine aA rfl rfl ?_)|(refine az rfl rfl ?_)|(refine ar nmd [] hng (by kernel_rfl) fun hf C S K hC1 hC hS hK=>?_;simp (disch:=first|omega|assumption) only [go_sem];refine hK ?_;clear hK hS hC hC1 K S C hf)|((first|refine zv ?_|refine zw ?_|refine zu ?_);with_reducible (constructor;repeat constructor);try refine zl ?_)))
   refine gM ?_
   (repeat (first|(refine aA rfl rfl ?_)|(refine az rfl rfl ?_)|(refine ar nmd [] hng (by kernel_rfl) fun hf C S K hC1 hC hS hK=>?_;simp (disch:=first|omega|assumption) only [go_sem];refine hK ?_;clear hK hS hC hC1 K S C hf)|((first|refine zv ?_|refine zw ?_|refine zu ?_);with_reducible (constructor;repeat constructor);try refine zl ?_)))
   refine ar nmd [] hng (by kernel_rfl) fun hf C S K hC1 hC hS hK=>?_;simp (disch:=first|omega|assumption) only [go_sem,aM,hb2,hb3,DZ]
   refine hK ?_;clear hK hS hC hC1 K S C hf
   (try ((first|refine zn ?_|refine ze ?_|refine zk ?_);with_reducible (constructor;repeat constructor));try refine zl ?_)
   refine cK ⟨[(.sub 0 0 x.p,.cells [.sl (.sub c 3 y.p) 1 1]),(.sub c 3 y.p,.arr 1 [.str h])],⟨rfl,[h],_,_,rfl,.inr ⟨by simp,.sub c 3 y.p,rfl,rfl,fun e=>by simp at e⟩,rfl⟩,?_,?_⟩
   ·simp only [aW,bc,Mem.af,Mem.aH,Mem.aO,Mem.aR,br,bI,List.cons_append,List.nil_append,List.append_nil,↓reduceIte,eq_self,and_true,true_and,and_self,and_false,false_and,reduceCtorEq,Oid.sub.injEq,Nat.reduceEqDiff,hb2,hb3]
   ·intro q hq
    simp only [List.mem_cons,List.not_mem_nil,or_false] at hq
    rcases hq with rfl|rfl
    ·exact .inl ⟨_,List.mem_cons_self,rfl⟩
    ·exact .inr (Oid.ae (Oid.aq _))
  ·simp only [List.length_map] at hlen
   have hi1:¬ Oid.sub c 3 y.p=id:=fun e=>by have:=hfy 3;rw [e] at this;simp only [Mem.af,if_neg hid] at this;simp at this
   have hi2:¬ id=Oid.sub c 3 y.p:=fun e=>hi1 e.symm
   (repeat (first|(refine aA rfl rfl ?_)|(refine az rfl rfl ?_)|(refine ar nmd [] hng (by kernel_rfl) fun hf C S K hC1 hC hS hK=>?_;simp (disch:=first|omega|assumption) only [go_sem];refine hK ?_;clear hK hS hC hC1 K S C hf)|((first|refine zv ?_|refine zw ?_|refine zu ?_);with_reducible (constructor;repeat constructor);try refine zl ?_)))
   refine gM ?_
   (repeat (first|(refine aA rfl rfl ?_)|(refine az rfl rfl ?_)|(refine ar nmd [] hng (by kernel_rfl) fun hf C S K hC1 hC hS hK=>?_;simp (disch:=first|omega|assumption) only [go_sem];refine hK ?_;clear hK hS hC hC1 K S C hf)|((first|refine zv ?_|refine zw ?_|refine zu ?_);with_reducible (constructor;repeat constructor);try refine zl ?_)))
   refine ar nmd [] hng (by kernel_rfl) fun hf C S K hC1 hC hS hK=>?_;simp (disch:=first|omega|assumption) only [go_sem,aM,hb2,hb3,hid,hi1,hi2]
   refine hK ?_;clear hK hS hC hC1 K S C hf
   (try ((first|refine zn ?_|refine ze ?_|refine zk ?_);with_reducible (constructor;repeat constructor));try refine zl ?_)
   refine cK ⟨[(.sub 0 0 x.p,.cells [.sl (.sub c 3 y.p) 1 (l++[h]).length]),(.sub c 3 y.p,.arr 1 ((l++[h]).map .str))],⟨rfl,l++[h],_,_,by simp,.inr ⟨by simp,.sub c 3 y.p,rfl,rfl,fun e=>by simp at e⟩,rfl⟩,?_,?_⟩
   ·simp only [aW,bc,Mem.af,Mem.aH,Mem.aO,Mem.aR,br,bI,List.cons_append,List.nil_append,List.append_nil,↓reduceIte,eq_self,and_true,true_and,and_self,and_false,false_and,reduceCtorEq,Oid.sub.injEq,Nat.reduceEqDiff,hb2,hb3,List.length_append,List.map_append,List.length_cons,List.length_nil,List.map_cons,List.map_nil]
   ·intro q hq
    simp only [List.mem_cons,List.not_mem_nil,or_false] at hq
    rcases hq with rfl|rfl
    ·exact .inl ⟨_,List.mem_cons_self,rfl⟩
    ·exact .inr (Oid.ae (Oid.aq _))
 ·rintro pre L' m' hS ⟨_,l,v,L2,rfl,hr,rfl⟩ hL' hd hold hnm
  have hmx:=hL' _ List.mem_cons_self
  have hne:∀ q ∈ need,m' q.1=some q.2:=fun q hq=>hold q.1 q.2 (by rw [aM,if_neg (hnb q hq)];exact hcon q hq) (by simp only [List.mem_singleton];rintro q' rfl e;exact hnb q hq e.symm)
  refine jZ ([(.sub 0 0 x.p,.cells [v]),(.sub (0+1+1) 0 x.p,.dfr)]++(L2++need)) (jK (B:=[(.sub 0 0 x.p,.cells [v]),(.sub (0+1+1) 0 x.p,.dfr)]) ?_ (jK (fun q hq=>hL' q (List.mem_cons_of_mem _ hq)) hne)) ?_
  ·intro q hq
   simp only [List.mem_cons,List.not_mem_nil,or_false] at hq
   rcases hq with rfl|rfl
   ·exact hmx
   ·exact hd
  have hnid:∀ id xs,L2=[(id,.arr 1 xs)]→(∀ q ∈ need,¬ q.1=id)∧¬ id = .sub 2 0 x.p:=fun id xs e=>by
   have h1:=hL' (id,.arr 1 xs) (by rw [e];exact List.mem_cons_of_mem _ List.mem_cons_self)
   simp only at h1
   refine ⟨fun q hq e1=>?_,fun e1=>?_⟩
   ·have h2:=hne q hq
    rw [e1,h1,Option.some.injEq] at h2
    exact hna q hq _ _ h2.symm
   ·rw [e1,hd] at h1;cases h1
  have hrow2:uH l v L2 (Oid.under x.p):=by
   rcases hr with hr|⟨hl,id,rfl,rfl,hid⟩
   ·exact .inl hr
   ·refine .inr ⟨hl,id,rfl,rfl,?_⟩
    rcases hnm _ (List.mem_cons_of_mem _ List.mem_cons_self) with ⟨q',h1,h2⟩|⟨q',h1,h2⟩|h
    ·exact absurd h2 ((hnid id _ rfl).1 q' h1)
    ·simp only [List.mem_singleton] at h1
     subst h1
     exact absurd h2.symm hid
    ·exact Oid.ae h
  have hin:∀ q ∈ L2++need,¬ q.1 = .sub 0 0 x.p∧¬ q.1 = .sub 2 0 x.p∧Mem.of (L2++need) q.1=some q.2:=by
   have hn2:∀ q ∈ need,¬ q.1 = .sub 2 0 x.p:=fun q hq e=>hnp q hq (e ▸ Oid.ae (Oid.aq _))
   rcases hr with ⟨_,_,rfl⟩|⟨_,id,_,rfl,hid⟩
   ·exact fun q hq=>⟨hnb q hq,hn2 q hq,hcon q hq⟩
   ·intro q hq
    rcases List.mem_append.1 hq with hq|hq
    ·simp only [List.mem_singleton] at hq
     subst hq
     exact ⟨hid,(hnid id _ rfl).2,by rw [List.cons_append,Mem.af,if_pos rfl]⟩
    ·exact ⟨hnb q hq,hn2 q hq,by rw [List.cons_append,Mem.af,if_neg ((hnid id _ rfl).1 q hq)];exact hcon q hq⟩
  generalize hrest:L2++need=rest
  (repeat (first|(refine aA rfl rfl ?_)|(refine az rfl rfl ?_)|(refine ar nmd [] hng (by kernel_rfl) fun hf C S K hC1 hC hS hK=>?_;simp (disch:=first|omega|assumption) only [go_sem];refine hK ?_;clear hK hS hC hC1 K S C hf)|((first|refine zv ?_|refine zw ?_|refine zu ?_);with_reducible (constructor;repeat constructor);try refine zl ?_)))
  refine ay ?_
  subst hQ
  refine ⟨?_,_,kU L2,rfl,⟨l,L2,hS,?_,rfl⟩,?_⟩
  ·simp only [aW,bc,Mem.af,Mem.aH,Mem.aO,Mem.aR,br,bI,List.cons_append,List.nil_append,List.append_nil,↓reduceIte,eq_self,and_true,true_and,and_self,and_false,false_and,reduceCtorEq,Oid.sub.injEq,Nat.reduceEqDiff,aM]
  ·exact hrow2
  ·intro i o h
   have:∃ q ∈ L2++need,q.1=i∧q.2=o:=by
    by_cases hk:∃ q ∈ kU L2,q.1=i
    ·obtain ⟨q',k1,k2,k3⟩:=jh (m:=Mem.of need) hk
     rw [k3] at h
     obtain ⟨q,h1,rfl⟩:=List.mem_map.1 k1
     exact ⟨q,List.mem_append_left _ h1,k2,Option.some.inj h⟩
    ·rw [bg fun q hq e=>hk ⟨q,hq,e⟩] at h
     obtain ⟨q,h1,h2,h3⟩:=Mem.dV h
     exact ⟨q,List.mem_append_right _ h1,h2,h3⟩
   obtain ⟨q,hq,rfl,rfl⟩:=this
   obtain ⟨a1,a2,a3⟩:=hin q hq
   show ((Mem.of ((Oid.sub 0 0 x.p,ao.cells [v])::(Oid.sub 2 0 x.p,ao.dfr)::rest)).set (.sub 2 0 x.p) none) q.1=some q.2
   subst hrest
   simp only [Mem.set,if_neg a2,Mem.af,if_neg a1]
   exact a3
 ·rintro pre L' m' cd _ ⟨h,_⟩
  cases h
theorem uI (gf:FuncId) (cap:List AV) (need:List (Oid × ao)) (N:Nat) (Sq:Bool→List (List AV)→Prop) (hN:N≤2000000000000) (p:Oid) (hnp:∀ q ∈ need,¬ Oid.under p q.1) (hna:∀ q ∈ need,∀ sz xs,¬ q.2 = .arr sz xs)
  (hseq:∀ p',Oid.under p p'→nJ Tryz.prog gf cap p' need 1 (fun pre xs=>pre.length < N∧∃ h:Str,xs=[.str h]) Sq) :
  bT Tryz.prog 100 [.fn (.func gf) [] cap] (Oid.under p) need (fun v u=>∃ l L',Sq true (l.map fun h=>[.str h])∧uH l v L' (Oid.under p)∧u=kU L') (fun _ _=>False):=by
 refine eM (by kernel_rfl) fun hcon=>?_
 refine gH (n:=5) (rs:=[.tmp 2]) Tryz.func100 rfl rfl (by decide) rfl rfl rfl ?_;rintro x rfl hrd hng
 refine qw0 ?_
 refine ar nmd [] hng (by kernel_rfl) fun hf C S K hC1 hC hS hK=>?_;simp (disch:=first|omega|assumption) only [go_sem]
 refine hC _ _ _ (ri gf cap need N Sq hN _ (fun q hq h=>hnp q hq (Oid.ae h)) hna fun p' h=>hseq p' (Oid.ae h)) hcon ?_ (fun _ _ h=>h.elim)
 rintro val upd ⟨l,L',hSq,hr,rfl⟩
 simp (disch:=first|omega|assumption) only [go_sem]
 refine hK ?_;clear hK hS hC hC1 K S C hf
 (try ((first|refine zn ?_|refine ze ?_|refine zk ?_);with_reducible (constructor;repeat constructor));try refine zl ?_)
 refine ay (bw _ _ rfl ⟨l,L',hSq,hr.mono fun _ h=>Oid.ae h,rfl⟩ ?_)
 intro i o h
 rw [Mem.aO] at h;exact h
theorem str_inj {a b:List Str} (e:a.map (fun h=>[AV.str h])=b.map fun h=>[AV.str h]):a=b:=(List.map_inj_right (fun x y h=>by simpa using h)).1 e
theorem lO (gf:FuncId) (cap:List AV) (need:List (Oid × ao)) (N:Nat) (l0:List Str) (Sq:Bool→List (List AV)→Prop) (hN:N≤2000000000000) (hl0:l0.length≤N) (p:Oid) (hnp:∀ q ∈ need,¬ Oid.under p q.1) (hna:∀ q ∈ need,∀ sz xs,¬ q.2 = .arr sz xs)
  (hseq:∀ p',Oid.under p p'→nJ Tryz.prog gf cap p' need 1 (fun pre xs=>pre.length < N∧∃ h:Str,xs=[.str h]) Sq)
  (hall:∀ l:List Str,Sq true (l.map fun h=>[.str h])→l.Perm l0) :
  ah Tryz.prog 70 [.fn (.func gf) [] cap] (Oid.under p) ⟨need,.list 1 ((cP l0).map .str),[]⟩:=by
 refine (eM (by kernel_rfl) fun hcon=>?_:bT Tryz.prog _ _ _ need (fun v u=>v=_∧u=[]) (fun _ _=>False)).ok
 refine gH (n:=9) (rs:=[.tmp 2]) Tryz.func70 rfl rfl (by decide) rfl rfl rfl ?_;rintro x rfl hrd hng
 refine qw0 ?_
 refine ar nmd [] hng (by kernel_rfl) fun hf C S K hC1 hC hS hK=>?_;simp (disch:=first|omega|assumption) only [go_sem]
 refine hC _ _ _ (uI gf cap need N Sq hN _ (fun q hq h=>hnp q hq (Oid.ae h)) hna fun p' h=>hseq p' (Oid.ae h)) hcon ?_ (fun _ _ h=>h.elim)
 rintro val upd ⟨l,L',hSq,hr,rfl⟩
 have hp:=hall l hSq
 have hse:cP l=cP l0:=pc hp
 rcases hr with ⟨rfl,rfl,rfl⟩|⟨hl,id,rfl,rfl,hid⟩
 ·simp (disch:=first|omega|assumption) only [go_sem,kU,List.map_nil]
  refine hK ?_;clear hK hS hC hC1 K S C hf
  (repeat (first|(refine aA rfl rfl ?_)|(refine az rfl rfl ?_)|(refine ar nmd [] hng (by kernel_rfl) fun hf C S K hC1 hC hS hK=>?_;simp (disch:=first|omega|assumption) only [go_sem];refine hK ?_;clear hK hS hC hC1 K S C hf)|((first|refine zv ?_|refine zw ?_|refine zu ?_);with_reducible (constructor;repeat constructor);try refine zl ?_)))
  refine qr1 (s4 _) ?_
  refine nO ?_
  refine eK 3 1 rfl ?_
  refine qw0 ?_
  exact ay (bw (.list 1 ((cP l0).map .str)) [] (by rw [← hse,show cP []=[] by simp [cP]];rfl) ⟨rfl,rfl⟩ fun _ _ h=>h)
 ·have hid2:=Oid.ae hid
  have hnid:∀ q ∈ need,¬ q.1=id:=fun q hq e=>hnp q hq (e ▸ hid2)
  simp (disch:=first|omega|assumption) only [go_sem,kU,List.map_cons,List.map_nil]
  refine hK ?_;clear hK hS hC hC1 K S C hf
  (repeat (first|(refine aA rfl rfl ?_)|(refine az rfl rfl ?_)|(refine ar nmd [] hng (by kernel_rfl) fun hf C S K hC1 hC hS hK=>?_;simp (disch:=first|omega|assumption) only [go_sem];refine hK ?_;clear hK hS hC hC1 K S C hf)|((first|refine zv ?_|refine zw ?_|refine zu ?_);with_reducible (constructor;repeat constructor);try refine zl ?_)))
  have hlen:l.length≤2000000000000:=by rw [hp.length_eq];omega
  refine ar nmd [] hng (by kernel_rfl) fun hf C S K hC1 hC hS hK=>?_;simp (disch:=first|omega|assumption) only [go_sem]
  refine hC1 _ (uE l hl (by omega) id _) (by simp (disch:=first|omega|assumption) only [go_sem,aM]) ?_
  simp (disch:=first|omega|assumption) only [go_sem]
  refine hK ?_;clear hK hS hC hC1 K S C hf
  refine nO ?_
  refine gG id 1 ((cP l).map .str) (by simp (disch:=first|omega|assumption) only [go_sem,aM]) ?_
  simp (disch:=first|omega|assumption) only [go_sem,kX]
  refine qw0 ?_
  refine ay (bw (.list 1 ((cP l0).map .str)) [] (by rw [← hse];rfl) ⟨rfl,rfl⟩ fun i o h=>?_)
  have h':Mem.of need i=some o:=h
  have hi:¬ i=id:=fun e=>by obtain ⟨q,h1,h2,h3⟩:=Mem.dV h';exact hnid q h1 (h2.trans e)
  rw [aM,if_neg hi,aM,if_neg hi,aM,if_neg hi];exact h'
def lP (n:Str) (es:List ME):List Str:=es.filterMap fun e=>cH n (dq e)
theorem AT (o:Oid) (n:Str) (p:Oid) (ho:¬ Oid.under p o):ah Tryz.prog 143 [.map o,.str n] (Oid.under p) ⟨[],.fn (.func 164) [] [.ptr (.sub 0 0 p) 0,.ptr (.sub 0 1 p) 0],[(.sub 0 0 p,some (.cells [.map o])),(.sub 0 1 p,some (.cells [.str n]))]⟩:=by
 refine aD (n:=6) (rs:=[.tmp 4]) Tryz.func143 rfl rfl (by decide) rfl rfl rfl ?_;rintro x rfl hrd hng
 refine qw0 ?_
 refine ay (bw _ _ rfl ⟨rfl,rfl⟩ ?_)
 intro i o' h
 rw [Mem.aO] at h
 exact h
theorem ou (o:Oid) (n:Str) (hln:n.length≤140737488355000) (es:List ME) (clock:Nat) (hkl:∀ e ∈ es,(dq e).length≤140737488355328) (hel:es.length≤2000000000000) (p:Oid) (ho:¬ Oid.under p o) :
  ah Tryz.prog 116 [.map o,.str n] (Oid.under p) ⟨[(o,.map [.ss] false es clock)],.list 1 ((cP (lP n es)).map .str),[]⟩:=by
 refine aD (n:=9) (rs:=[.tmp 4]) Tryz.func116 rfl rfl (by decide) rfl rfl rfl ?_;rintro x rfl hrd hng
 have hu12:∀ j,Oid.under (.sub 1 2 x.p) (.sub 0 j (.sub 1 2 x.p)):=fun j=>Oid.ae (Oid.aq _)
 have hapt:∀ j p',Oid.under (.sub 1 3 x.p) p'→¬ Oid.under p' (.sub 0 j (.sub 1 2 x.p)):=fun j p' h h2=>by
  have:=(Oid.apart (Oid.dE h h2) (hu12 j)).2
  omega
 refine qw0 ?_
 refine ar nmd [] hng (by kernel_rfl) fun hf C S K hC1 hC hS hK=>?_;simp (disch:=first|omega|assumption) only [go_sem]
 refine hC1 _ (AT o n _ (fun h=>ho (Oid.ae h))) qs0 ?_
 simp (disch:=first|omega|assumption) only [go_sem]
 refine hC1 _ (lO 164 [.ptr (.sub 0 0 (.sub 1 2 x.p)) 0,.ptr (.sub 0 1 (.sub 1 2 x.p)) 0] [(.sub 0 0 (.sub 1 2 x.p),.cells [.map o]),(.sub 0 1 (.sub 1 2 x.p),.cells [.str n]),(o,.map [.ss] false es clock)] es.length (lP n es) _ hel (List.length_filterMap_le _ _) _ ?_ ?_
  (fun p' hp=>xB (.sub 0 0 (.sub 1 2 x.p)) (.sub 0 1 (.sub 1 2 x.p)) o n hln es clock hkl p' ?_ ?_ ?_ ?_ ?_ ?_) ?_) ?_ ?_
 ·intro q hq
  simp only [List.mem_cons,List.not_mem_nil,or_false] at hq
  rcases hq with rfl|rfl|rfl
  ·exact hapt 0 _ (Oid.aq _)
  ·exact hapt 1 _ (Oid.aq _)
  ·exact fun h=>ho (Oid.ae h)
 ·intro q hq
  simp only [List.mem_cons,List.not_mem_nil,or_false] at hq
  rcases hq with rfl|rfl|rfl<;>(intro sz xs e;cases e)
 ·exact fun e=>ho (e ▸ Oid.ae (hu12 0))
 ·exact fun e=>ho (e ▸ Oid.ae (hu12 1))
 ·simp
 ·exact hapt 0 _ hp
 ·exact hapt 1 _ hp
 ·exact fun h=>ho (Oid.ae (Oid.dE hp h))
 ·intro l hl
  obtain ⟨U,h1,h2⟩:=hl rfl
  rw [str_inj h2]
  exact h1.filterMap _
 ·have h0:=fun j=>Oid.ab (fun h=>ho (Oid.ae h):¬ Oid.under (.sub 1 2 x.p) o) 0 j
  have h1:=fun j=>Oid.aa (fun h=>ho (Oid.ae h):¬ Oid.under (.sub 1 2 x.p) o) 0 j
  simp only [aW,bc,Mem.af,Mem.aH,Mem.aO,Mem.aR,br,bI,List.cons_append,List.nil_append,List.append_nil,↓reduceIte,eq_self,and_true,true_and,and_self,and_false,false_and,reduceCtorEq,Oid.sub.injEq,Nat.reduceEqDiff,aM,h0,h1]
 ·simp (disch:=first|omega|assumption) only [go_sem]
  refine hK ?_;clear hK hS hC hC1 K S C hf
  refine qw0 ?_
  refine ay (bw _ _ rfl ⟨rfl,rfl⟩ fun i o' h=>?_)
  have h':Mem.of [(o,ao.map [.ss] false es clock)] i=some o':=h
  rw [Mem.af] at h'
  split at h'
  ·rename_i e
   subst e
   have h0:=fun j=>Oid.ab (fun h=>ho (Oid.ae h):¬ Oid.under (.sub 1 2 x.p) i) 0 j
   have h1:=fun j=>Oid.aa (fun h=>ho (Oid.ae h):¬ Oid.under (.sub 1 2 x.p) i) 0 j
   simp only [aW,bc,Mem.af,Mem.aH,Mem.aO,Mem.aR,br,bI,List.cons_append,List.nil_append,List.append_nil,↓reduceIte,eq_self,and_true,true_and,and_self,and_false,false_and,reduceCtorEq,Oid.sub.injEq,Nat.reduceEqDiff,aM,h0,h1]
   exact h'
  ·cases h'
end Go.Proofs.YtmoaidkglldhcaaGreatDoor
namespace Go.Proofs.YtmoaidkglldhcaaGreatDoor
open Go Go.Ab
theorem fk:∀ (k n:Nat),n < 10 ^ (k+1)→(Lib.decDigits n).length≤k+1
 | 0,n,h=>by rw [bY (by simpa using h)];simp
 | k+1,n,h=>by
  by_cases hs:n < 10
  ·rw [bY hs];simp
  ·rw [fi hs,List.length_append]
   have:=fk k (n / 10) (by rw [Nat.pow_succ] at h;omega)
   simp only [List.length_cons,List.length_nil];omega
theorem xD (n:Nat):∀ b,b ∈ Lib.decDigits n→¬ b=58:=by
 have one:∀ d,d < 10→¬ UInt8.ofNat (48+d)=58:=fun d hd e=>by
  have h1:=congrArg UInt8.toNat e
  rw [UInt8.toNat_ofNat'] at h1
  have:(58:UInt8).toNat=58:=rfl
  omega
 induction n using Nat.strongRecOn with
 | ind n ih =>
  intro b hb
  by_cases h:n < 10
  ·rw [bY h,List.mem_singleton] at hb;subst hb;exact one n h
  ·rw [fi h] at hb
   rcases List.mem_append.1 hb with hb|hb
   ·exact ih _ (by omega) b hb
   ·rw [List.mem_singleton] at hb;subst hb;exact one _ (by omega)
theorem AU (u:Str):∀ t:Str,(∀ b,b ∈ t→¬ b=58)→Lib.indexByte (t++58::u) 58=t.length
 | [],_=>by simp [Lib.indexByte]
 | b::t,h=>by
  have hb:(b == 58)=false:=by simpa using h b (by simp)
  have ih:=AU u t fun b hb=>h b (by simp [hb])
  simp only [List.cons_append,Lib.indexByte,hb,Bool.false_eq_true,if_false,ih,beq_iff_eq]
  rw [if_neg (by omega),List.length_cons];omega
theorem jr {n:Nat} (h:n < 1000000000):iV (Lib.decDigits n)=n:=by
 have hl:=fk 8 n h
 rw [iV,if_neg,nX]
 rintro (h|h|⟨h,h'⟩)
 ·exact lJ n h
 ·omega
 ·have:=mi n h
  subst this
  rw [bY (by decide)] at h'
  simp at h'
theorem uJ (s t:Str) (hs:s.length < 1000000000):sT (chunk s++t)=(sT t).map (s::·):=by
 have he:chunk s++t=Lib.decDigits s.length++58::(s++44::t):=by
  rw [chunk,Lib.itoa_nonneg];simp only [List.append_assoc,List.singleton_append,List.cons_append,List.nil_append]
 have hi:=AU (s++44::t) _ (xD s.length)
 have hne:¬ chunk s++t=[]:=fun e=>by rw [he] at e;simp at e
 have hcol:colon (chunk s++t)=(Lib.decDigits s.length).length:=by rw [colon,he,hi];rfl
 have hhead:mq (chunk s++t)=Lib.decDigits s.length:=by rw [mq,hcol,he,List.take_left'];rfl
 have hrest:j4 (chunk s++t)=s++44::t:=by
  rw [j4,hcol,he,← List.drop_drop,List.drop_left'];· rfl
  ·rfl
 obtain ⟨n1,n2⟩:=kV (mq (chunk s++t))
 rw [hhead,jr hs] at n1 n2
 have hg:jR (mq (chunk s++t))=true:=by rw [hhead,n1];simp
 have ha:dC (mq (chunk s++t))=s.length:=by rw [hhead];exact n2 (by rw [← hhead];exact hg)
 have hsz:mv (chunk s++t)=s.length:=by rw [mv,ha];rfl
 have hok:okS (chunk s++t):=by
  refine ⟨by rw [he,hi];omega,hg,by rw [ha,hrest];simp;omega,?_⟩
  rw [hsz,hrest];simp
 rw [xu hne hok,hsz,hrest]
 have h1:(s++44::t).take s.length=s:=by rw [List.take_left'];rfl
 have h2:(s++44::t).drop (s.length+1)=t:=by
  rw [← List.drop_drop,List.drop_left'];· rfl
  ·rfl
 rw [h1,h2]
theorem k7:∀ l:List Str,(∀ s,s ∈ l→s.length < 1000000000)→sT (cG l)=some l
 | [],_=>rfl
 | s::l,h=>by
  rw [cG,uJ s _ (h s (by simp)),k7 l fun s hs=>h s (by simp [hs])];rfl
theorem rj (b:Bits) (h1:1≤b.k∧b.k≤3) (h2:0≤b.m∧b.m≤7) (h3:¬ (b.k=2∧¬ b.l=[])) (h4:b.l.length < 1000000000):lL (cC b)=(b,0):=by
 obtain ⟨k,m,l⟩:=b
 simp only at h1 h2 h3 h4
 obtain ⟨k,rfl⟩:=Int.eq_ofNat_of_zero_le (by omega:0≤k)
 obtain ⟨m,rfl⟩:=Int.eq_ofNat_of_zero_le h2.1
 have hv:cC ⟨k,m,l⟩=cG [Lib.decDigits k,Lib.decDigits m,l]:=by
  rw [cC,if_neg (by simp only;omega),Lib.itoa_nonneg,Lib.itoa_nonneg]
 have hne:¬ cC ⟨k,m,l⟩=[]:=fun e=>by
  rw [hv] at e
  have:=congrArg List.length e
  have hc:=fj (Lib.decDigits k)
  simp only [cG,List.length_append,List.length_nil] at this
  omega
 have hd:sT (cC ⟨k,m,l⟩)=some [Lib.decDigits k,Lib.decDigits m,l]:=by
  rw [hv]
  refine k7 _ fun s hs=>?_
  have d1:=fk 0 k (by omega)
  have d2:=fk 0 m (by omega)
  simp only [List.mem_cons,List.not_mem_nil,or_false] at hs
  rcases hs with rfl|rfl|rfl<;>omega
 have hk:=jr (n:=k) (by omega)
 have hm:=jr (n:=m) (by omega)
 have hC:uA (cC ⟨k,m,l⟩) (Lib.decDigits k) (Lib.decDigits m) l=true:=Az.2 ⟨by rw [hk];omega,by rw [hk];omega,by rw [hm];omega,by rw [hm];omega,by rw [hk];exact h3,by rw [hk,hm]⟩
 rw [lL,if_neg hne,hd]
 simp only
 rw [C8,if_pos hC,hk,hm]
end Go.Proofs.YtmoaidkglldhcaaGreatDoor
namespace Go.Proofs.YtmoaidkglldhcaaGreatDoor
open Go Go.Ab
set_option maxRecDepth 20000
set_option maxHeartbeats 4000000
theorem pf (st t:Oid) (es:List ME) (clock:Nat) (hts:¬ t=st) (p:Oid) (hs:¬ Oid.under p st) (ht:¬ Oid.under p t) (n:Str) (hln:n.length≤140737488355000) (hkl:∀ e ∈ es,(dq e).length≤140737488355328) (hel:es.length≤2000000000000) :
  ah Tryz.prog 88 [.ptr st 0,.str n] (Oid.under p) ⟨[(st,.cells [.map t,.nilPtr]),(t,.map [.ss] false es clock)],.list 1 ((cP (lP n es)).map .str),[]⟩:=by
 have hs':∀ c i,¬ Oid.under (.sub c i p) st:=fun c i h=>hs (Oid.ae h)
 have ht':∀ c i,¬ Oid.under (.sub c i p) t:=fun c i h=>ht (Oid.ae h)
 refine aD (n:=15) (rs:=[.tmp 4]) Tryz.func88 rfl rfl (by decide) rfl rfl rfl ?_;rintro x rfl hrd hng
 refine qw (ai (uu ht) (ai (uu hs) hts)) ?_
 refine qr .o (ai (uu ht) (ai (uu hs) hts)) (cq (vP st t _ (hs' _ _) n true) trivial) ?_
 refine qr .o (ai (uu ht) (ai (uu hs) hts)) (cq (ou t n hln es clock hkl hel _ (ht' _ _)) trivial) ?_
 refine qw (ai (uu ht) (ai (uu hs) hts)) ?_
 refine ay (aX rfl ?_ ?_)
 all_goals simp only [List.mem_cons,List.not_mem_nil,or_false,forall_eq_or_imp,forall_eq,Option.some.injEq,forall_eq',Mem.af,eq_self,if_true,↓reduceIte,reduceCtorEq,implies_true,not_true_eq_false,false_imp_iff,true_and,and_true,false_and,and_false,imp_self,Oid.ab ht,Oid.aa ht,Oid.ab hs,Oid.aa hs,hts]
end Go.Proofs.YtmoaidkglldhcaaGreatDoor
namespace Go.Ab
section
variable {P:Program} [Laid P] {x:Ctx} {n:Nat} {Q:AX→AS→Prop} {fr:List (Nat × AV)} {m:Mem} {c:Nat} {ds:List AD} {ks:List Pc}
theorem ax.cells {x:Ctx} {g:Gh} {m:Mem} {w:World} (h:ax x g m w) {i:Oid} {vs ws:List AV} (hi:m i=some (.cells vs)) (hw:fR vs ws):ax x g (m.set i (some (.cells ws))) w:=by
 obtain ⟨b,hb,_,_,cc,t,fz,h1,h2,h3,h4⟩:=h.obj i _ hi
 exact h.gU hi hb rfl rfl ⟨rfl,Nat.le_refl _⟩ (Nat.le_refl _) (fun _ _ _=>rfl) (fun r hr=>h.rows b r hr) (fun _ t' fz' h9=>⟨_,_,h9⟩)
  ⟨cc,t,fz,h1,h2.trans hw.length,h3,fun j hj=>hw.at j _ _ (h4 j (by rw [hw.length];exact hj))⟩
def Gho (x:Ctx) (n:Nat) (R:AS→Prop) (s:AS):Prop:=∀ g a w,Rel x n g s a w→∃ g' s',Rel x n g' s' a w∧R s'
theorem Gho.now {R:AS→Prop} {s:AS} (h:R s):Gho x n R s:=fun g _ _ hr=>⟨g,s,hr,h⟩
theorem Gho.step {R:AS→Prop} {s s':AS} (hg:∀ g a w,Rel x n g s a w→∃ g',Rel x n g' s' a w) (h:Gho x n R s'):Gho x n R s:=fun g a w hr=>let ⟨g',hr'⟩:=hg g a w hr;h g' a w hr'
theorem Gv {b:Code} {R:AS→Prop} {s:AS} (h:Gho x n R s) (h2:∀ s,R s→T P x n b s Q):T P x n b s Q:=fun g a w hr=>let ⟨g',_,hr',hR⟩:=h g a w hr;h2 _ hR g' a w hr'
theorem Rel.cells {g:Gh} {a:Act} {w:World} (hr:Rel x n g ⟨fr,m,c,ds⟩ a w) (i:Oid) (vs ws:List AV) (hi:m i=some (.cells vs)) (hw:fR vs ws):∃ g',Rel x n g' ⟨fr,m.set i (some (.cells ws)),c,ds⟩ a w :=
 ⟨g,hr.mr.cells hi hw,hr.tm,hr.df,hr.fr,hr.young⟩
theorem rk {R:AS→Prop} (i:Oid) (vs ws:List AV) (hi:m i=some (.cells vs)) (hw:fR vs ws) (h:Gho x n R ⟨fr,m.set i (some (.cells ws)),c,ds⟩):Gho x n R ⟨fr,m,c,ds⟩ :=
 Gho.step (s:=⟨fr,m,c,ds⟩) (s':=⟨fr,m.set i (some (.cells ws)),c,ds⟩) (fun _ _ _ hr=>hr.cells i vs ws hi hw) h
theorem Rel.freeze {g:Gh} {a:Act} {w:World} (hr:Rel x n g ⟨fr,m,c,ds⟩ a w) (i:Oid) (sz:Nat) (xs:List AV) (hi:m i=some (.arr sz xs)) :
  ∃ g',Rel x n g' ⟨frz i sz xs fr,m.set i none,c,ds⟩ a w∧g.le g'∧g'.loc=g.loc∧∀ v u,VR g v u→VR g' (o8 i sz xs v) u:=by
 obtain ⟨g',h1,h2,h3,h4⟩:=hr.mr.freeze hi
 have key:∀ v u,VR g v u→VR g' (o8 i sz xs v) u:=fun v u hv=>by
  unfold o8
  split
  ·split
   ·rename_i e
    obtain ⟨rfl,rfl,rfl⟩:=e
    have:=h4 _ _ hv (Nat.le_refl _)
    rwa [List.take_length] at this
   ·exact hv.mono h1
  ·exact hv.mono h1
 exact ⟨g',⟨h3,hr.tm,hr.df.mono h1,fun t ht=>by rw [vD];exact key _ _ (hr.fr t ht),fun k hk=>by rw [h2];exact hr.young k hk⟩,h1,by funext k;exact h2 k,key⟩
inductive Frz (i:Oid) (sz:Nat) (xs:List AV):List AV→List AV→Prop
 | nil:Frz i sz xs [] []
 | keep {v:AV} {vs ws:List AV} (h:Frz i sz xs vs ws):Frz i sz xs (v::vs) (v::ws)
 | gU {n:Nat} {vs ws:List AV} (hn:n=xs.length) (h:Frz i sz xs vs ws):Frz i sz xs (.sl i sz n::vs) (.list sz xs::ws)
theorem Frz.at {i:Oid} {sz:Nat} {xs vs ws:List AV} (h:Frz i sz xs vs ws):vs.length=ws.length∧∀ j,ws.getD j .undef=vs.getD j .undef∨ws.getD j .undef=o8 i sz xs (vs.getD j .undef):=by
 induction h with
 | nil=>exact ⟨rfl,fun _=>.inl rfl⟩
 | keep _ ih =>
  refine ⟨by simp [ih.1],fun j=>?_⟩
  cases j with
  | zero=>exact .inl rfl
  | succ j=>simpa using ih.2 j
 | gU hn _ ih =>
  refine ⟨by simp [ih.1],fun j=>?_⟩
  cases j with
  | zero=>right;simp [o8,hn]
  | succ j=>simpa using ih.2 j
theorem Rel.vX {g:Gh} {a:Act} {w:World} (hr:Rel x n g ⟨fr,m,c,ds⟩ a w) (i j:Oid) (sz:Nat) (xs vs ws:List AV) (hi:m i=some (.arr sz xs)) (hj:m j=some (.cells vs)) (hij:¬ j=i) (hw:Frz i sz xs vs ws) :
  ∃ g',Rel x n g' ⟨frz i sz xs fr,(m.set i none).set j (some (.cells ws)),c,ds⟩ a w:=by
 obtain ⟨g',hr',h1,h2,key⟩:=hr.freeze i sz xs hi
 refine ⟨g',?_,hr'.tm,hr'.df,hr'.fr,hr'.young⟩
 obtain ⟨b',hb,_,_,cc,t,fz,k1,k2,k3,k4⟩:=hr.mr.obj j _ hj
 have hj':(m.set i none) j=some (.cells vs):=by simp only [Mem.set,if_neg hij];exact hj
 have h3:=hr'.mr
 refine h3.gU hj' (by rw [h2];exact hb) rfl rfl ⟨rfl,Nat.le_refl _⟩ (Nat.le_refl _) (fun _ _ _=>rfl) (fun r hr'=>h3.rows b' r hr') (fun _ t' fz' h9=>⟨_,_,h9⟩)
  ⟨cc,t,fz,k1,k2.trans hw.at.1,k3,fun q hq=>?_⟩
 have k5:=k4 q (by rw [hw.at.1];exact hq)
 rcases hw.at.2 q with e|e<;>rw [e]
 ·exact k5.mono h1
 ·exact key _ _ k5
theorem xE {a:Code} (i j:Oid) (sz:Nat) (xs vs ws:List AV) (hi:m i=some (.arr sz xs)) (hj:m j=some (.cells vs)) (hij:¬ j=i) (hw:Frz i sz xs vs ws) (h:T P x n a ⟨frz i sz xs fr,(m.set i none).set j (some (.cells ws)),c,ds⟩ Q):T P x n a ⟨fr,m,c,ds⟩ Q :=
 jz (s:=⟨fr,m,c,ds⟩) ⟨frz i sz xs fr,(m.set i none).set j (some (.cells ws)),c,ds⟩ (fun _ _ _ hr=>hr.vX i j sz xs vs ws hi hj hij hw) h
theorem gq {R:AS→Prop} (i j:Oid) (sz:Nat) (xs vs ws:List AV) (hi:m i=some (.arr sz xs)) (hj:m j=some (.cells vs)) (hij:¬ j=i) (hw:Frz i sz xs vs ws) (h:Gho x n R ⟨frz i sz xs fr,(m.set i none).set j (some (.cells ws)),c,ds⟩):Gho x n R ⟨fr,m,c,ds⟩ :=
 Gho.step (s:=⟨fr,m,c,ds⟩) (s':=⟨frz i sz xs fr,(m.set i none).set j (some (.cells ws)),c,ds⟩) (fun _ _ _ hr=>hr.vX i j sz xs vs ws hi hj hij hw) h
theorem AW {R:AS→Prop} (i:Oid) (sz:Nat) (xs:List AV) (hi:m i=some (.arr sz xs)) (h:Gho x n R ⟨frz i sz xs fr,m.set i none,c,ds⟩):Gho x n R ⟨fr,m,c,ds⟩ :=
 Gho.step (s:=⟨fr,m,c,ds⟩) (s':=⟨frz i sz xs fr,m.set i none,c,ds⟩) (fun _ _ _ hr=>let ⟨g',h',_⟩:=hr.freeze i sz xs hi;⟨g',h'⟩) h
def Gw (P:Program) (x:Ctx) (n:Nat) (Q:AX→AS→Prop) (ks:List Pc) (ts:List Nat) (R:AS→Prop):AX→AS→Prop
 | .normal,s=>Gho x n (fun s=>∃ m',(∀ i o,m' i=some o→s.mem i=some o)∧R ⟨cJ ts s.fr,m',s.c,s.ds⟩) s
 | e,s=>after P x n Q ks e s
theorem FK {a b:Code} {s:AS} (ts:List Nat) (R:AS→Prop) (h:T P x n a s (after P x n (Gw P x n Q ks ts R) [])) (h2:∀ s,R s→T P x n b s (after P x n Q ks)):T P x n a s (after P x n Q (.code b::ks)) :=
 j6 h fun e s h=>by
  cases e with
  | normal =>
   refine Gv h fun s ⟨m',h1,h3⟩=>?_
   obtain ⟨fr',m1,c',ds'⟩:=s
   refine kF (s:=⟨fr',m1,c',ds'⟩) (cJ ts fr') (fun t _=>mN ts fr' t) ?_
   exact qy (s:=⟨cJ ts fr',m1,c',ds'⟩) m' h1 (h2 _ h3)
  | _=>exact h
theorem vY {ts:List Nat} {R:AS→Prop} (h:Gho x n (fun s=>∃ m',(∀ i o,m' i=some o→s.mem i=some o)∧R ⟨cJ ts s.fr,m',s.c,s.ds⟩) ⟨fr,m,c,ds⟩):after P x n (Gw P x n Q ks ts R) [] .normal ⟨fr,m,c,ds⟩:=h
def GU (x:Ctx) (n:Nat) (Q:AX→AS→Prop):AX→AS→Prop
 | .panic v,s=>Q (.panic v) s
 | e,s=>Gho x n (Q e) s
theorem kx {a:Code} {s:AS} (h:T P x n a s (after P x n (GU x n Q) [])):T P x n a s (after P x n Q []):=fun g b w hr =>
 wpIn_mono (h g b w hr) fun e b' w' ⟨g',ex,s',h1,h2,h3⟩=>by
  cases ex with
  | panic v=>exact ⟨g',.panic v,s',h1,h2,h3⟩
  | normal=>obtain ⟨g2,s2,k1,k2⟩:=h3 g' b' w' h1;exact ⟨g2,.normal,s2,k1,(by cases e<;>exact h2),k2⟩
  | ret=>obtain ⟨g2,s2,k1,k2⟩:=h3 g' b' w' h1;exact ⟨g2,.ret,s2,k1,(by cases e<;>exact h2),k2⟩
  | exit i=>obtain ⟨g2,s2,k1,k2⟩:=h3 g' b' w' h1;exact ⟨g2,.exit i,s2,k1,(by cases e<;>exact h2),k2⟩
end
theorem mE.gg (sz:Nat):mE .nilSl (.list sz []):=fun _ _ h=>by rw [h.bS];exact .listNil _
theorem fR.refl:∀ l:List AV,fR l l
 | []=>.nil
 | _::l=>.cons (.refl _) (fR.refl l)
end Go.Ab
namespace Go.Proofs.YtmoaidkglldhcaaGreatDoor
open Go Go.Ab
abbrev PL:=List (Str × Bits)
theorem iu (a b:UInt8) (x y:Str):ltS (a::x) (b::y)=true↔a.toNat < b.toNat∨(a.toNat=b.toNat∧ltS x y=true):=by
 simp only [ltS,Op.bytesLess,Bool.or_eq_true,Bool.and_eq_true,decide_eq_true_eq,beq_iff_eq,UInt8.lt_iff_toNat_lt,← UInt8.toNat_inj]
theorem pY:∀ a b c:Str,ltS a b=true→ltS b c=true→ltS a c=true
 | [],_,[],_,h=>by cases ‹Str› <;> simp [ltS,Op.bytesLess] at h
 | [],_,_::_,_,_=>rfl
 | _::_,[],_,h,_=>by simp [ltS,Op.bytesLess] at h
 | _::_,_::_,[],_,h=>by simp [ltS,Op.bytesLess] at h
 | a::x,b::y,c::z,h1,h2=>by
  rw [iu] at h1 h2 ⊢
  rcases h1 with h1|⟨h1,h3⟩<;>rcases h2 with h2|⟨h2,h4⟩
  ·exact .inl (by omega)
  ·exact .inl (by omega)
  ·exact .inl (by omega)
  ·exact .inr ⟨by omega,pY x y z h3 h4⟩
theorem rm:∀ a:Str,ltS a a=false
 | []=>rfl
 | a::x=>by
  have:=rm x
  rw [Bool.eq_false_iff] at this ⊢
  intro h
  rw [iu] at h
  rcases h with h|⟨_,h⟩
  ·omega
  ·exact this h
theorem vZ:∀ a b:Str,ltS a b=false→ltS b a=false→a=b
 | [],[],_,_=>rfl
 | [],_::_,h,_=>by simp [ltS,Op.bytesLess] at h
 | _::_,[],_,h=>by simp [ltS,Op.bytesLess] at h
 | a::x,b::y,h1,h2=>by
  rw [Bool.eq_false_iff] at h1 h2
  have h3:=fun h=>h1 ((iu a b x y).2 h)
  have h4:=fun h=>h2 ((iu b a y x).2 h)
  have hab:a.toNat=b.toNat:=by
   rcases Nat.lt_trichotomy a.toNat b.toNat with h|h|h
   ·exact absurd (.inl h) h3
   ·exact h
   ·exact absurd (.inl h) h4
  have:=vZ x y (by rw [Bool.eq_false_iff];exact fun h=>h3 (.inr ⟨hab,h⟩)) (by rw [Bool.eq_false_iff];exact fun h=>h4 (.inr ⟨hab.symm,h⟩))
  rw [this,UInt8.toNat_inj.1 hab]
theorem v7:∀ (p a b:Str),ltS (p++a) (p++b)=ltS a b
 | [],_,_=>rfl
 | c::p,a,b=>by
  have ih:=v7 p a b
  rw [Bool.eq_iff_iff,List.cons_append,List.cons_append,iu,ih]
  constructor
  ·rintro (h|⟨_,h⟩)
   ·omega
   ·exact h
  ·exact fun h=>.inr ⟨rfl,h⟩
theorem rn:∀ {a b:Str},ltS a b=true→a < b
 | [],[],h=>by simp [ltS,Op.bytesLess] at h
 | [],_::_,_=>by simp
 | _::_,[],h=>by simp [ltS,Op.bytesLess] at h
 | a::x,b::y,h=>by
  rw [iu] at h
  rw [List.cons_lt_cons_iff,UInt8.lt_iff_toNat_lt,← UInt8.toNat_inj]
  exact h.imp id fun ⟨h1,h2⟩=>⟨h1,rn h2⟩
def ltB (a b:Str):Prop:=ltS a b=true
instance:DecidableRel ltB:=fun a b=>inferInstanceAs (Decidable (ltS a b=true))
theorem gh:Ord ltB where
 irr a h:=by rw [ltB,rm] at h;cases h
 tr:=pY
 tot a b h hn:=by
  cases h2:ltS b a with
  | true=>exact h2
  | false=>exact absurd (vZ a b (Bool.eq_false_iff.2 h) h2) hn
def aF (L:PL) (n:Str):Bits:=if n=[] then ⟨2,7,[]⟩ else (aK n L).getD Bits.no
def dz (n:Str) (b:Bits) (L:PL):PL:=if n=[] then L else dQ ltB n (if b.k=0 then none else some b) L
def aU (L:PL) (n:Str):List Str:=L.filterMap fun q=>cH n q.1
def fH (es:List ME) (L:PL):Prop:=iW AV.str Bits.av es L
theorem encS:jY AV.str:=xw
theorem AY:fH [] []:=nZ
theorem k8 {es:List ME} {L:PL} (h:fH es L) (n:Str):ic (.str n) (.agg [.int .i64 0,.int .i64 0,.str []]) es=((aK n L).getD Bits.no).av:=by
 rw [sX encS h]
 cases aK n L<;>rfl
theorem s7 {es:List ME} {L:PL} (h:fH es L) (hs:aV ltB L) (n:Str) (b:Bits) (c:Nat):fH (q7 n b es c) (dz n b L):=by
 unfold q7 dz
 split
 ·exact h
 ·split
  ·exact AG encS h n ((b6 gh n none hs).trans (.refl _))
  ·exact oa encS h n b c ((b6 gh n (some b) hs).trans (.refl _))
theorem eN {L:PL} (hs:aV ltB L) (n:Str) (b:Bits):aV ltB (dz n b L):=by
 unfold dz
 split
 ·exact hs
 ·exact gp gh _ _ hs
theorem uK {k p:Str} (h:iq k p=true):k=p++k.drop p.length:=by
 simp only [iq,Bool.and_eq_true,decide_eq_true_eq] at h
 have:=List.take_append_drop p.length k
 rw [h.2] at this
 exact this.symm
theorem gO {n k r:Str} (h:cH n k=some r):k=(n++[47])++r:=by
 unfold cH at h
 split at h
 ·rename_i hc
  simp only [Option.some.injEq] at h
  have:=uK hc.1
  rw [← h]
  simpa using this
 ·cases h
theorem xF {L:PL} (hs:aV ltB L) (n:Str):(aU L n).Pairwise (· ≤ ·):=by
 unfold aU
 rw [List.pairwise_filterMap]
 refine hs.imp fun {a b} h r hr r' hr'=>?_
 rw [ltB,gO hr,gO hr',v7] at h
 exact List.le_of_lt (rn h)
theorem lQ {es:List ME} {L:PL} (h:fH es L) (hs:aV ltB L) (n:Str):cP (lP n es)=aU L n:=by
 refine oh ?_ (xF hs n)
 obtain ⟨E,rfl,h2,_⟩:=h
 have h3:lP n (E.map (eF AV.str Bits.av))=(E.map prj).filterMap fun q=>cH n q.1:=by
  unfold lP
  rw [List.filterMap_map,List.filterMap_map]
  rfl
 rw [h3]
 exact h2.filterMap _
structure POk (L:PL):Prop where
 len:L.length≤1000000
 key:∀ q ∈ L,q.1.length≤1000000
 val:∀ q ∈ L,q.2.ok
theorem k9 {es:List ME} {L:PL} (h:fH es L):es.length=L.length:=by
 obtain ⟨E,rfl,h2,_⟩:=h
 rw [List.length_map,← h2.length_eq,List.length_map]
theorem ov {es:List ME} {L:PL} (h:fH es L) (ho:POk L):∀ e ∈ es,(dq e).length≤1000000:=by
 obtain ⟨E,rfl,h2,_⟩:=h
 intro e he
 obtain ⟨q,h3,rfl⟩:=List.mem_map.1 he
 exact ho.key (prj q) (h2.mem_iff.1 (List.mem_map_of_mem h3))
theorem ky {L:PL} (ho:POk L) {n r:Str} (h:r ∈ aU L n):r.length≤1000000:=by
 obtain ⟨q,h1,h2⟩:=List.mem_filterMap.1 h
 have h3:=ho.key q h1
 rw [gO h2,List.length_append] at h3
 omega
theorem rp {l:List Str} {k:Nat} (hk:k≤4000000000) (h:∀ s ∈ l,s.length≤k):(cG l).length≤l.length * (k+100):=by
 induction l with
 | nil=>simp [cG]
 | cons a l ih =>
  have h1:=ih fun s hs=>h s (List.mem_cons_of_mem _ hs)
  have h2:=h a List.mem_cons_self
  have h3:=fj a
  have h4:=Lib.itoa_length_le a.length (by omega) (by omega)
  simp only [cG,List.length_append,List.length_cons,Nat.add_mul,Nat.one_mul]
  omega
theorem iL {L:PL} (ho:POk L) (n:Str):(cG (aU L n)).length≤100000000000000∧(aU L n).length≤1000000:=by
 have h1:=rp (k:=1000000) (by decide) fun s hs=>ky ho (n:=n) hs
 have h2:(aU L n).length≤L.length:=List.length_filterMap_le _ _
 have h3:=ho.len
 refine ⟨Nat.le_trans h1 ?_,by omega⟩
 have:(aU L n).length * (1000000+100)≤1000000 * (1000000+100):=Nat.mul_le_mul_right _ (by omega)
 omega
end Go.Proofs.YtmoaidkglldhcaaGreatDoor
namespace Go.Proofs.YtmoaidkglldhcaaGreatDoor
open Go Go.Ab
set_option maxRecDepth 20000
set_option maxHeartbeats 4000000
instance:Inhabited Bits:=⟨Bits.no⟩
def aC (q:Str × Bits):AV:=.agg [.str q.1,.int .i64 q.2.k,.int .i64 q.2.m,.str q.2.l]
theorem uL (L:PL) (hL:L.length≤140737488355328) (n:Str) (p:Oid):ah Tryz.prog 84 [.list 4 (L.map aC),.str n] (Oid.under p) ⟨[],(aF L n).av,[]⟩:=by
 refine aD (n:=28) (rs:=[.cell 4 50]) Tryz.func84 rfl rfl (by decide) rfl rfl rfl ?_;rintro x rfl hrd hng
 refine qw0 ?_
 refine aS rfl rfl (fun hb=>?_) (fun hb=>?_)
 ·refine qw0 ?_
  exact ay (dI (by rw [aF,if_pos hb];simp (disch:=first|omega|assumption) only [go_sem,Bits.av]))
 ·refine qw0 ?_
  refine bK [0,1,4,5] (fun k s'=>∃ i c:Nat,k=L.length - i∧i≤L.length∧0 < c∧aK n L=aK n (L.drop i)∧s' = ⟨[(0,.list 4 (L.map aC)),(1,.str n),(4,.ptr (.sub 0 0 x.p) 0),(5,.int .i64 i)],Mem.of [(.sub 0 0 x.p,.cells [.int .i64 0,.int .i64 0,.str []])],c,[]⟩) _ ⟨0,_,rfl,Nat.zero_le _,by omega,rfl,rfl⟩ ?_
  rintro k s' ⟨i,c,rfl,hi,hc,hlk,rfl⟩
  have hc0:¬ c=0:=by omega
  refine qw0 ?_
  refine aS rfl rfl (fun hb=>?_) (fun hb=>?_)
  ·have hlt:i < L.length:=by omega
   rw [drop_cons hlt,aK] at hlk
   generalize hq:L.getD i default=q at hlk
   obtain ⟨qn,qk,qm,ql⟩:=q
   simp only at hlk
   (repeat (first|(refine aA rfl rfl ?_)|(refine az rfl rfl ?_)|(refine ar nmd [] hng (by kernel_rfl) fun hf C S K hC1 hC hS hK=>?_;simp (disch:=first|omega|assumption) only [go_sem,hq,aC,AV.cells];refine hK ?_;clear hK hS hC hC1 K S C hf)|((first|refine zn ?_|refine ze ?_|refine zk ?_);with_reducible (constructor;repeat constructor);try refine zl ?_)))
   refine aS rfl rfl (fun hb=>?_) (fun hb=>?_)
   ·rw [if_pos hb.symm] at hlk
    (repeat (first|(refine aA rfl rfl ?_)|(refine az rfl rfl ?_)|(refine ar nmd [] hng (by kernel_rfl) fun hf C S K hC1 hC hS hK=>?_;simp (disch:=first|omega|assumption) only [go_sem,hq,aC,AV.cells];refine hK ?_;clear hK hS hC hC1 K S C hf)|((first|refine zn ?_|refine ze ?_|refine zk ?_);with_reducible (constructor;repeat constructor);try refine zl ?_)))
    exact ay (dI (by rw [aF,if_neg (by assumption),hlk];simp (disch:=first|omega|assumption) only [go_sem,Bits.av,Bits.no,Option.getD_some,Option.getD_none,aK]))
   ·rw [if_neg (fun e=>hb e.symm)] at hlk
    refine qw0 ?_
    exact ⟨_,_,by omega,fun _ _ h=>h,i+1,_,rfl,by omega,by omega,hlk,rfl⟩
  ·have:i=L.length:=by omega
   subst this
   rw [List.drop_length] at hlk
   refine qw0 ?_
   exact ay (dI (by rw [aF,if_neg (by assumption),hlk];simp (disch:=first|omega|assumption) only [go_sem,Bits.av,Bits.no,Option.getD_some,Option.getD_none,aK]))
theorem v8 {k n:Str}:iq k (n++[47])=true↔n.length < k.length∧k.take n.length=n∧k.getD n.length 0=47:=by
 simp only [iq,Bool.and_eq_true,decide_eq_true_eq,List.length_append,List.length_cons,List.length_nil]
 constructor
 ·rintro ⟨h1,h2⟩
  have hlt:n.length < k.length:=by omega
  rw [Nat.zero_add,List.take_succ_eq_append_getElem hlt] at h2
  have h3:=List.append_inj h2 (by simp;omega)
  refine ⟨hlt,h3.1,?_⟩
  rw [b9 hlt]
  simpa using h3.2
 ·rintro ⟨h1,h2,h3⟩
  refine ⟨by omega,?_⟩
  rw [b9 h1] at h3
  rw [Nat.zero_add,List.take_succ_eq_append_getElem h1,h2,h3]
def noB (r:Str) (k:Nat):Bool:=(r.take k).all fun b=>decide (¬ b=47)
theorem AZ {r:Str} {k:Nat} (h:k < r.length):noB r (k+1)=(noB r k && decide (¬ r.getD k 0=47)):=by
 unfold noB
 rw [List.take_succ_eq_append_getElem h,List.all_append,b9 h]
 simp
theorem s8 (r:Str):noB r r.length=true↔¬ 0≤Lib.indexByte r 47:=by
 unfold noB
 rw [List.take_length,List.all_eq_true]
 rcases sW 47 r with ⟨h1,h2⟩|⟨i,h1,h2,h3,_⟩
 ·refine ⟨fun _=>by omega,fun _ b hb=>?_⟩
  obtain ⟨j,hj,rfl⟩:=List.mem_iff_getElem.1 hb
  have:=h2 j hj
  rw [b9 hj] at this
  simpa using this
 ·refine ⟨fun h=>?_,fun h=>by omega⟩
  have:=h (r.getD i 0) (by rw [b9 h2];exact List.getElem_mem h2)
  rw [h3] at this
  simp at this
theorem uM (n k:Str):cH n k=if n.length < k.length∧k.take n.length=n∧k.getD n.length 0=47 then (if noB (k.drop (n.length+1)) (k.drop (n.length+1)).length=true then some (k.drop (n.length+1)) else none) else none:=by
 unfold cH
 by_cases h1:iq k (n++[47])=true
 ·rw [if_pos (v8.1 h1)]
  by_cases h2:noB (k.drop (n.length+1)) (k.drop (n.length+1)).length=true
  ·rw [if_pos h2,if_pos ⟨h1,(s8 _).1 h2⟩]
  ·rw [if_neg h2,if_neg fun h=>h2 ((s8 _).2 h.2)]
 ·rw [if_neg fun h=>h1 h.1,if_neg fun h=>h1 (v8.2 h)]
end Go.Proofs.YtmoaidkglldhcaaGreatDoor
namespace Go.Proofs.YtmoaidkglldhcaaGreatDoor
open Go Go.Ab
set_option maxRecDepth 20000
set_option maxHeartbeats 4000000
theorem pZ (L:PL) (hL:POk L) (n:Str) (hn:n.length≤140737488355000) (p:Oid):ah Tryz.prog 123 [.list 4 (L.map aC),.str n] (Oid.under p) ⟨[],.list 1 ((aU L n).map AV.str),[]⟩:=by
 have hL1:=hL.len
 refine aD (n:=66) (rs:=[.tmp 4]) Tryz.func123 rfl rfl (by decide) rfl rfl rfl ?_;rintro x rfl hrd hng
 refine qw0 ?_
 refine ko 5 1 rfl ?_
 simp (disch:=first|omega|assumption) only [go_sem]
 refine bK [0,1,5,6] (fun k s'=>∃ (i d j c:Nat) (done:List Str),k=L.length - i∧i≤L.length∧d < c∧done.length≤i∧aU L n=done++aU (L.drop i) n ∧
   s' = ⟨[(0,.list 4 (L.map aC)),(1,.str n),(5,.sl (.sub d j x.p) 1 done.length),(6,.int .i64 i)],Mem.of [(.sub d j x.p,.arr 1 (done.map AV.str))],c,[]⟩) _ ⟨0,3,0,4,[],rfl,Nat.zero_le _,by omega,Nat.le_refl _,rfl,rfl⟩ ?_
 rintro k s' ⟨i,d,j,c,done,rfl,hi,hdc,hdl,hnm,rfl⟩
 refine qw0 ?_
 refine aS rfl rfl (fun hb=>?_) (fun hb=>?_)
 ·have hlt:i < L.length:=by omega
  have hkl:=hL.key (L.getD i default) (by rw [b9 hlt];exact List.getElem_mem hlt)
  have hstep:aU (L.drop i) n=(cH n (L.getD i default).1).toList++aU (L.drop (i+1)) n:=by
   rw [drop_cons hlt,aU,List.filterMap_cons]
   cases cH n (L.getD i default).1<;>rfl
  rw [hstep,uM] at hnm
  generalize hq:L.getD i default=q at hnm hkl
  obtain ⟨s,qk,qm,ql⟩:=q
  simp only at hnm hkl
  (repeat (first|(refine aA rfl rfl ?_)|(refine az rfl rfl ?_)|(refine ar nmd [] hng (by kernel_rfl) fun hf C S K hC1 hC hS hK=>?_;simp (disch:=first|omega|assumption) only [go_sem];refine hK ?_;clear hK hS hC hC1 K S C hf)|((first|refine zv ?_|refine zw ?_|refine zu ?_);with_reducible (constructor;repeat constructor);try refine zl ?_)))
  refine gM ?_
  (repeat (first|(refine aA rfl rfl ?_)|(refine az rfl rfl ?_)|(refine ar nmd [] hng (by kernel_rfl) fun hf C S K hC1 hC hS hK=>?_;simp (disch:=first|omega|assumption) only [go_sem,hq,aC,AV.cells];refine hK ?_;clear hK hS hC hC1 K S C hf)|((first|refine zn ?_|refine ze ?_|refine zk ?_);with_reducible (constructor;repeat constructor);try refine zl ?_)))
  refine cL [0,1,5,6,7,41] (fun s'=>∃ (b:Bool),s' = ⟨[(0,.list 4 (L.map aC)),(1,.str n),(5,.sl (.sub d j x.p) 1 done.length),(6,.int .i64 i),(7,.str s),(41,.bool b)],Mem.of [(.sub d j x.p,.arr 1 (done.map AV.str))],c+1+1+1,[]⟩∧(b=false↔(n.length < s.length∧s.take n.length=n∧s.getD n.length 0=47))) ?_ ?_
  ·refine ar nmd [(5,27),(13,35)] hng (by kernel_rfl) fun hf C S K hC1 hC hS hK=>?_;simp (disch:=first|omega|assumption) only [go_sem]
   (repeat' (first|(refine dw (fun hv=>?_) (fun hv=>?_)<;>(try simp only [zb1,zb2,zb3,zb4,zb5] at hv)<;>simp (disch:=first|omega|assumption) only [go_sem,hv,Int.reduceEq,Int.reduceNe,ne_eq,not_true_eq_false,not_false_eq_true,decide_true,decide_false])|(refine hK ?_;clear hK hS hC hC1 K S C hf)))
   ·rename_i h1
    refine aQ ⟨_,rfl,?_⟩
    simp only [decide_eq_false_iff_not,Classical.not_not] at hv ⊢
    exact ⟨fun h=>⟨by omega,hv,UInt8.toNat_inj.1 (by have:(47:UInt8).toNat=47:=rfl;omega)⟩,fun h=>by rw [h.2.2];rfl⟩
   ·exact aQ ⟨_,rfl,⟨fun h=>(by cases h),fun h=>absurd h.2.1 hv⟩⟩
   ·exact aQ ⟨_,rfl,⟨fun h=>(by cases h),fun h=>(by omega)⟩⟩
  rintro s' ⟨b,rfl,hiff⟩
  refine lE rfl rfl (fun hb=>?_) (fun hb=>?_)
  ·have hC:¬ (n.length < s.length∧s.take n.length=n∧s.getD n.length 0=47):=fun h=>by rw [hiff.2 h] at hb;cases hb
   rw [if_neg hC] at hnm
   refine qw0 ?_
   exact ⟨_,_,by omega,fun _ _ h=>h,i+1,d,j,_,done,rfl,by omega,by omega,by omega,by simpa using hnm,rfl⟩
  ·have hC:=hiff.1 hb
   rw [if_pos hC] at hnm
   have hn1:((n.length:Int)+1).toNat=n.length+1:=by omega
   have hrl:(s.drop (n.length+1)).length≤1000000:=by rw [List.length_drop];omega
   generalize hr:s.drop (n.length+1)=r at hnm hrl
   have hsl:=hC.1
   refine qw (ai hn1 hr) ?_
   refine bK [0,1,5,6,8,9,10] (fun k s'=>∃ q c':Nat,k=r.length - q∧q≤r.length∧d < c'∧s' = ⟨[(0,.list 4 (L.map aC)),(1,.str n),(5,.sl (.sub d j x.p) 1 done.length),(6,.int .i64 i),(8,.str r),(9,.bool (noB r q)),(10,.int .i64 q)],Mem.of [(.sub d j x.p,.arr 1 (done.map AV.str))],c',[]⟩) _ ⟨0,_,rfl,Nat.zero_le _,by omega,rfl⟩ ?_
   rintro k s' ⟨q,c',rfl,hq2,hdc',rfl⟩
   refine qw0 ?_
   refine aS rfl rfl (fun hb=>?_) (fun hb=>?_)
   ·have hst:=AZ (r:=r) (k:=q) (by omega)
    cases hnb:noB r q with
    | true =>
     rw [hnb,Bool.true_and] at hst
     have h47:((r.getD q 0).toNat:Int)=47↔r.getD q 0=47:=EA (n:=47) (by decide)
     refine qw0 ?_
     refine ar nmd [(1,54)] hng (by kernel_rfl) fun hf C S K hC1 hC hS hK=>?_;simp (disch:=first|omega|assumption) only [go_sem]
     refine hK ?_;clear hK hS hC hC1 K S C hf
     refine qw0 ?_
     exact ⟨_,_,by omega,fun _ _ h=>h,q+1,c' + 1+1+1,rfl,by omega,by omega,by rw [hst,← decide_eq_decide.2 (not_congr h47)];rfl⟩
    | false =>
     rw [hnb,Bool.false_and] at hst
     refine qw0 ?_
     refine ar nmd [(1,54)] hng (by kernel_rfl) fun hf C S K hC1 hC hS hK=>?_;simp (disch:=first|omega|assumption) only [go_sem]
     refine hK ?_;clear hK hS hC hC1 K S C hf
     refine qw0 ?_
     exact ⟨_,_,by omega,fun _ _ h=>h,q+1,c' + 1+1+1,rfl,by omega,by omega,by rw [hst];rfl⟩
   ·obtain rfl:q=r.length:=by omega
    cases hnb:noB r r.length with
    | true =>
     rw [hnb,if_pos rfl] at hnm
     refine qw0 ?_
     exact ⟨_,_,by omega,fun _ _ h=>h,i+1,c' + 1+1,3,c' + 1+1+1+1,done++[r],rfl,by omega,by omega,by simp only [List.length_append,List.length_cons,List.length_nil];omega,by simpa using hnm,by rw [List.length_append,List.map_append];rfl⟩
    | false =>
     rw [hnb,if_neg (by decide)] at hnm
     refine qw0 ?_
     exact ⟨_,_,by omega,fun _ _ h=>h,i+1,d,j,_,done,rfl,by omega,by omega,by omega,by simpa using hnm,rfl⟩
 ·obtain rfl:i=L.length:=by omega
  rw [List.drop_length] at hnm
  have hnm':aU L n=done:=by simpa [aU] using hnm
  refine qw0 ?_
  exact Ev (xs:=done.map AV.str) rfl qs0 (by simp) (by rw [hnm'])
end Go.Proofs.YtmoaidkglldhcaaGreatDoor
namespace Go.Proofs.YtmoaidkglldhcaaGreatDoor
open Go Go.Ab
set_option maxRecDepth 20000
set_option maxHeartbeats 4000000
abbrev WL:=List (Str × Unit)
theorem s9 (r:Oid) (LL OO RR bb:AV) (W:WL) (hW:W.length≤140737488355328) (n:Str) (p:Oid) (hr:¬ Oid.under p r) :
  ah Tryz.prog 72 [.ptr r 0,.str n] (Oid.under p) ⟨[(r,.cells [LL,OO,RR,.list 1 (W.map fun q=>.str q.1),bb])],.bool (aK n W).isSome,[]⟩:=by
 refine aD (n:=24) (rs:=[.tmp 4]) Tryz.func72 rfl rfl (by decide) rfl rfl rfl ?_;rintro x rfl hrd hng
 refine qw (uu hr) ?_
 refine bK [0,1,5] (fun k s'=>∃ i c:Nat,k=W.length - i∧i≤W.length∧aK n W=aK n (W.drop i)∧s' = ⟨[(0,.ptr r 0),(1,.str n),(5,.int .i64 i)],Mem.of [(r,.cells [LL,OO,RR,.list 1 (W.map fun q=>.str q.1),bb])],c,[]⟩) _ ⟨0,_,rfl,Nat.zero_le _,rfl,rfl⟩ ?_
 rintro k s' ⟨i,c,rfl,hi,hlk,rfl⟩
 refine qw (uu hr) ?_
 refine aS rfl rfl (fun hb=>?_) (fun hb=>?_)
 ·have hlt:i < W.length:=by omega
  rw [drop_cons hlt,aK] at hlk
  generalize hq:W.getD i default=q at hlk
  obtain ⟨qn,qu⟩:=q
  simp only at hlk
  refine qw (ai (uu hr) hq) ?_
  refine aS rfl rfl (fun hb=>?_) (fun hb=>?_)
  ·rw [if_pos hb.symm] at hlk
   refine qw (uu hr) ?_
   refine ay (aX (qs hlk) ?_ ?_)
   all_goals simp only [List.mem_cons,List.not_mem_nil,or_false,forall_eq_or_imp,forall_eq,Option.some.injEq,forall_eq',Mem.af,eq_self,if_true,↓reduceIte,reduceCtorEq,implies_true,not_true_eq_false,false_imp_iff,true_and,and_true,false_and,and_false,imp_self]
  ·rw [if_neg (fun e=>hb e.symm)] at hlk
   refine qw (uu hr) ?_
   exact ⟨_,_,by omega,fun _ _ h=>h,i+1,_,rfl,by omega,hlk,rfl⟩
 ·have:i=W.length:=by omega
  subst this
  rw [List.drop_length] at hlk
  refine qw (uu hr) ?_
  refine ay (aX (by simp (disch:=first|omega|assumption) only [go_sem,hlk,aK]) ?_ ?_)
  all_goals simp only [List.mem_cons,List.not_mem_nil,or_false,forall_eq_or_imp,forall_eq,Option.some.injEq,forall_eq',Mem.af,eq_self,if_true,↓reduceIte,reduceCtorEq,implies_true,not_true_eq_false,false_imp_iff,true_and,and_true,false_and,and_false,imp_self]
theorem iM {κ ν:Type} [DecidableEq κ] {lt:κ→κ→Prop} [DecidableRel lt] (n:κ) (o:Option ν):∀ (L:List (κ × ν)) (i:Nat),i≤L.length→(∀ j q,j < i→L[j]? = some q→lt q.1 n)→(∀ q,L[i]? = some q→¬ lt q.1 n) →
  dQ lt n o L=L.take i++eX n o++(match L[i]? with|some q=>if q.1=n then L.drop (i+1) else L.drop i|none=>[])
 | [],i,h,_,_=>by
  obtain rfl:i=0:=by simpa using h
  simp [dQ]
 | q::L,0,_,_,h2=>by
  have h3:=h2 q (by simp)
  simp only [dQ,if_neg h3,List.take_zero,List.nil_append,List.getElem?_cons_zero,List.drop_succ_cons,List.drop_zero]
 | q::L,i+1,h,h1,h2=>by
  have h3:=h1 0 q (by omega) (by simp)
  have ih:=iM (lt:=lt) n o L i (by simpa using h) (fun j q' hj hq=>h1 (j+1) q' (by omega) (by simpa using hq)) (fun q' hq=>h2 q' (by simpa using hq))
  simp only [dQ,if_pos h3,ih,List.take_succ_cons,List.cons_append,List.getElem?_cons_succ,List.drop_succ_cons]
theorem xG {κ ν:Type} [DecidableEq κ] {lt:κ→κ→Prop} [DecidableRel lt] (ho:Ord lt) {n:κ} {b:ν} {L:List (κ × ν)} (hs:aV lt L) (h:aK n L=some b):dQ lt n (some b) L=L:=by
 have h1:=gp ho n (some b) hs
 refine lM ho ((b6 ho n (some b) hs).trans ?_) h1 hs
 have hm:=(bs (hs.nodup ho)).1 h
 have hd:=hs.nodup ho
 clear h1 h hs
 induction L with
 | nil=>cases hm
 | cons q L ih =>
  simp only [List.map_cons,List.nodup_cons] at hd
  rcases List.mem_cons.1 hm with rfl|hm'
  ·rw [List.filter_cons_of_neg (by simp),ir hd.1]
   exact .refl _
  ·have hne:¬ q.1=n:=fun e=>hd.1 (e ▸ List.mem_map_of_mem (f:=(·.1)) hm')
   rw [List.filter_cons_of_pos (by simpa using hne)]
   exact (List.Perm.swap _ _ _).trans ((ih hm' hd.2).cons q)
end Go.Proofs.YtmoaidkglldhcaaGreatDoor
namespace Go.Proofs.YtmoaidkglldhcaaGreatDoor
open Go Go.Ab
set_option maxRecDepth 20000
set_option maxHeartbeats 4000000
def eQ (tr:Bool) (n:Str) (W:WL):WL:=if n=[] then W else if tr then dQ ltB n (some ()) W else W
theorem fm {P:Program} {rs:List ResultVar} {need:List (Oid × ao)} {fr:List (Nat × AV)} {m:Mem} {c:Nat} {val:AV} {upd:List (Oid × Option ao)} (h1:fh P m fr rs=some val)
  (h2:∀ q,q ∈ upd→∀ o,q.2=some o→m q.1=some o) (h3:∀ q,q ∈ need→(∀ r,r ∈ upd→¬ r.1=q.1)→m q.1=some q.2):dG P rs need (fun v u=>v=val∧u=upd) (fun _ _=>False) .ret ⟨fr,m,c,[]⟩ :=
 bw val upd h1 ⟨rfl,rfl⟩ (qV h2 h3)
theorem wa (r:Oid) (OO RR:AV) (L:PL) (hL:L.length≤1000000) (W:WL) (hW:W.length≤1000000) (hWs:aV ltB W) (tr:Bool) (n:Str) (b:Bits) (p:Oid) (hr:¬ Oid.under p r) :
  ah Tryz.prog 26 [.ptr r 0,.str n,b.av] (Oid.under p) ⟨[(r,.cells [.list 4 (L.map aC),OO,RR,.list 1 (W.map fun q=>.str q.1),.bool tr])],.tuple [],[(r,some (.cells [.list 4 ((dz n b L).map aC),OO,RR,.list 1 ((eQ tr n W).map fun q=>.str q.1),.bool tr]))]⟩:=by
 have hr':∀ c i,¬ Oid.under (.sub c i p) r:=fun c i h=>hr (Oid.ae h)
 simp only [Bits.av]
 refine aD (n:=141) (rs:=[]) Tryz.func26 rfl rfl (by decide) rfl rfl rfl ?_;rintro x rfl hrd hng
 refine kx ?_
 refine qw (uu hr) ?_
 refine aS rfl rfl (fun hb=>?_) (fun hb=>?_)
 ·have h1:dz n b L=L:=if_pos hb
  have h2:eQ tr n W=W:=if_pos hb
  rw [h1,h2]
  refine qw (uu hr) ?_
  refine ay (.now (fm rfl ?_ ?_))
  all_goals simp only [List.mem_cons,List.not_mem_nil,or_false,forall_eq_or_imp,forall_eq,Option.some.injEq,forall_eq',Mem.af,eq_self,if_true,↓reduceIte,reduceCtorEq,implies_true,not_true_eq_false,false_imp_iff,true_and,and_true,false_and,and_false,imp_self]
 ·have hn:¬ n=[]:=hb
  refine qr .o (uu hr) trivial ?_
  refine nO ?_
  refine cL [0,1,5] (fun s'=>∃ (B:Bits) (c:Nat),0 < c∧s' = ⟨[(0,.ptr r 0),(1,.str n),(5,.ptr (.sub 0 0 x.p) 0)],Mem.of [(r,.cells [.list 4 (L.map aC),OO,RR,.list 1 (W.map fun q=>.str q.1),.bool tr]),(.sub 0 0 x.p,.cells [.int .i64 B.k,.int .i64 B.m,.str B.l])],c,[]⟩∧(B.k=0↔b.k=0)∧(¬ b.k=0→B=b)) ?_ ?_
  ·refine aS rfl rfl (fun hb=>?_) (fun hb=>?_)
   ·refine qw (uu hr) ?_
    exact aQ ⟨Bits.no,4,by decide,rfl,⟨fun _=>hb,fun _=>rfl⟩,fun h=>absurd hb h⟩
   ·refine qw (uu hr) ?_
    exact aQ ⟨b,3,by decide,rfl,Iff.rfl,fun _=>rfl⟩
  rintro s' ⟨B,c,hc,rfl,hB0,hB1⟩
  refine nP ?_
  refine FK [0,1,5] (fun s'=>∃ c2:Nat,0 < c2∧s' = ⟨[(0,.ptr r 0),(1,.str n),(5,.ptr (.sub 0 0 x.p) 0)],Mem.of [(r,.cells [.list 4 (L.map aC),OO,RR,.list 1 ((eQ tr n W).map fun q=>.str q.1),.bool tr]),(.sub 0 0 x.p,.cells [.int .i64 B.k,.int .i64 B.m,.str B.l])],c2,[]⟩) ?_ ?_
  ·refine nP ?_
   refine cL [0,1,5,25] (fun s'=>∃ q:Bool,s' = ⟨[(0,.ptr r 0),(1,.str n),(5,.ptr (.sub 0 0 x.p) 0),(25,.bool q)],Mem.of [(r,.cells [.list 4 (L.map aC),OO,RR,.list 1 (W.map fun q=>.str q.1),.bool tr]),(.sub 0 0 x.p,.cells [.int .i64 B.k,.int .i64 B.m,.str B.l])],c+1,[]⟩∧q=(tr && !(aK n W).isSome)) ?_ ?_
   ·cases tr with
    | false =>
     refine ar nmd [(4,20)] hng (by kernel_rfl) fun hf C S K hC1 hC hS hK=>?_;simp (disch:=first|omega|assumption) only [go_sem,Oid.ab hr,Oid.aa hr]
     refine hK ?_;clear hK hS hC hC1 K S C hf
     exact aQ ⟨false,rfl,rfl⟩
    | true =>
     refine ar nmd [(4,20)] hng (by kernel_rfl) fun hf C S K hC1 hC hS hK=>?_;simp (disch:=first|omega|assumption) only [go_sem,Oid.ab hr,Oid.aa hr]
     refine hC1 _ (s9 r (.list 4 (L.map aC)) OO RR (.bool true) W (by omega) n _ (hr' _ _)) (qs (uu hr)) ?_
     simp (disch:=first|omega|assumption) only [go_sem,Oid.ab hr,Oid.aa hr]
     refine hK ?_;clear hK hS hC hC1 K S C hf
     exact aQ ⟨_,rfl,by rw [Bool.true_and]⟩
   rintro s' ⟨q,rfl,hq⟩
   refine lE rfl rfl (fun hb=>?_) (fun hb=>?_)
   ·rw [hb] at hq
    have hq1:tr=true∧(aK n W).isSome=false:=by simpa using hq.symm
    obtain ⟨rfl,hls⟩:=hq1
    have hput:eQ true n W=dQ ltB n (some ()) W:=by unfold eQ;rw [if_neg hn,if_pos rfl]
    refine qw0 ?_
    refine bK [0,1,5,6] (fun k s'=>∃ i c':Nat,k=W.length - i∧i≤W.length∧0 < c'∧(∀ j q,j < i→W[j]? = some q→ltB q.1 n)∧s' = ⟨[(0,.ptr r 0),(1,.str n),(5,.ptr (.sub 0 0 x.p) 0),(6,.int .i64 i)],Mem.of [(r,.cells [.list 4 (L.map aC),OO,RR,.list 1 (W.map fun q=>.str q.1),.bool true]),(.sub 0 0 x.p,.cells [.int .i64 B.k,.int .i64 B.m,.str B.l])],c',[]⟩) _ ⟨0,_,rfl,Nat.zero_le _,by omega,fun j q h=>by omega,rfl⟩ ?_
    rintro k s' ⟨i,c',rfl,hi,hc',hlt,rfl⟩
    have hc0:¬ c' = 0:=by omega
    (try ((first|refine zn ?_|refine ze ?_|refine zk ?_);with_reducible (constructor;repeat constructor));try refine zl ?_)
    refine cL [0,1,5,6,43] (fun s'=>∃ q:Bool,s' = ⟨[(0,.ptr r 0),(1,.str n),(5,.ptr (.sub 0 0 x.p) 0),(6,.int .i64 i),(43,.bool q)],Mem.of [(r,.cells [.list 4 (L.map aC),OO,RR,.list 1 (W.map fun q=>.str q.1),.bool true]),(.sub 0 0 x.p,.cells [.int .i64 B.k,.int .i64 B.m,.str B.l])],c' + 1,[]⟩∧(q=true↔∃ e,W[i]? = some e∧ltB e.1 n)) ?_ ?_
    ·refine ar nmd [(7,33)] hng (by kernel_rfl) fun hf C S K hC1 hC hS hK=>?_;simp (disch:=first|omega|assumption) only [go_sem,Oid.ab hr,Oid.aa hr]
     (repeat' (first|(refine dw (fun hv=>?_) (fun hv=>?_)<;>(try simp only [zb1,zb2,zb3,zb4,zb5] at hv)<;>simp (disch:=first|omega|assumption) only [go_sem,hv,Oid.ab hr,Oid.aa hr])|(refine hK ?_;clear hK hS hC hC1 K S C hf)))
     ·have hl:i < W.length:=by omega
      exact aQ ⟨_,rfl,⟨fun h=>⟨W.getD i default,by rw [b9 hl,List.getElem?_eq_getElem hl],h⟩,fun ⟨e,he,h⟩=>by
       rw [List.getElem?_eq_getElem hl] at he
       simp only [Option.some.injEq] at he
       rw [b9 hl,he];exact h⟩⟩
     ·exact aQ ⟨_,rfl,⟨fun h=>(by cases h),fun ⟨e,he,h⟩=>by rw [List.getElem?_eq_none (by omega)] at he;cases he⟩⟩
    rintro s' ⟨q,rfl,hq⟩
    refine lE rfl rfl (fun hb=>?_) (fun hb=>?_)
    ·obtain ⟨e,he,hle⟩:=hq.1 hb
     have hl:i < W.length:=(List.getElem?_eq_some_iff.1 he).1
     refine qw0 ?_
     refine ⟨_,_,by omega,fun _ _ h=>h,i+1,_,rfl,by omega,by omega,fun j q' hj hq'=>?_,rfl⟩
     rcases Nat.lt_or_ge j i with h|h
     ·exact hlt j q' h hq'
     ·obtain rfl:j=i:=by omega
      rw [he] at hq';simp only [Option.some.injEq] at hq';rw [← hq'];exact hle
    ·have hnl:∀ q,W[i]? = some q→¬ ltB q.1 n:=fun q' h1 h2=>by rw [hq.2 ⟨q',h1,h2⟩] at hb;cases hb
     have hsp:=iM (lt:=ltB) n (some ()) W i hi hlt hnl
     have hno:∀ q,W[i]? = some q→¬ q.1=n:=fun q' h1 h2=>by
      have:=(bs (hWs.nodup gh) (n:=n) (b:=q'.2)).2 (by rw [← h2];exact List.mem_of_getElem? h1)
      rw [this] at hls;cases hls
     have hsp2:dQ ltB n (some ()) W=W.take i++[(n,())]++W.drop i:=by
      rw [hsp]
      cases hwi:W[i]? with
      | none =>
       have hd:W.drop i=[]:=List.drop_eq_nil_of_le (List.getElem?_eq_none_iff.1 hwi)
       simp only [hd,eX,List.append_nil]
      | some q'=>simp only [if_neg (hno q' hwi)];rfl
     refine qw (uu hr) ?_
     refine vY ?_
     refine gq (.sub (c' + 1+1+1+1) 8 x.p) r 1 ((dQ ltB n (some ()) W).map fun q=>.str q.1) [.list 4 (L.map aC),OO,RR,.sl (.sub (c' + 1+1+1+1) 8 x.p) 1 (min i W.length+1+(W.length - i)),.bool true] [.list 4 (L.map aC),OO,RR,.list 1 ((dQ ltB n (some ()) W).map fun q=>.str q.1),.bool true] ?_ ?_ ?_ ?_ ?_
     ·simp (disch:=first|omega|assumption) only [go_sem,Oid.ab hr,Oid.aa hr]
      rw [hsp2];simp
     ·simp (disch:=first|omega|assumption) only [go_sem,Oid.ab hr,Oid.aa hr]
     ·exact fun e=>hr (e ▸ Oid.ae (Oid.aq _))
     ·exact .keep (.keep (.keep (.gU (by rw [hsp2];simp only [List.length_map,List.length_append,List.length_take,List.length_drop,List.length_cons,List.length_nil]) (.keep .nil))))
     ·simp (disch:=first|omega|assumption) only [go_sem,Oid.ab hr,Oid.aa hr]
      rw [hput]
      exact .now ⟨_,fun _ _ h=>h,c' + 1+1+1+1+1,by omega,rfl⟩
   ·rw [hb] at hq
    have hpw:eQ tr n W=W:=by
     unfold eQ
     rw [if_neg hn]
     cases tr with
     | false=>rfl
     | true =>
      have hs:(aK n W).isSome=true:=by simpa using hq.symm
      obtain ⟨u,hu⟩:=Option.isSome_iff_exists.1 hs
      rw [if_pos rfl]
      exact xG gh hWs hu
    rw [hpw]
    refine qw0 ?_
    exact vY (.now ⟨_,fun _ _ h=>h,c+1,by omega,rfl⟩)
  rintro s' ⟨c2,hc2,rfl⟩
  generalize eQ tr n W=V
  have hput:dz n b L=dQ ltB n (if b.k=0 then none else some b) L:=if_neg hn
  rw [hput]
  generalize ho:(if b.k=0 then none else some b)=o
  refine qw0 ?_
  refine ko 8 4 rfl ?_
  simp (disch:=first|omega|assumption) only [go_sem]
  refine bK [0,1,5,8,9] (fun k s'=>∃ (i d j c:Nat),k=L.length - i∧i≤L.length∧0 < d∧d < c∧(∀ j q,j < i→L[j]? = some q→ltB q.1 n)∧s' = ⟨[(0,.ptr r 0),(1,.str n),(5,.ptr (.sub 0 0 x.p) 0),(8,.sl (.sub d j x.p) 4 i),(9,.int .i64 i)],Mem.of [(r,.cells [.list 4 (L.map aC),OO,RR,.list 1 (V.map fun q=>.str q.1),.bool tr]),(.sub 0 0 x.p,.cells [.int .i64 B.k,.int .i64 B.m,.str B.l]),(.sub d j x.p,.arr 4 ((L.take i).map aC))],c,[]⟩) _ ⟨0,c2+1+1,0,_,rfl,Nat.zero_le _,by omega,Nat.lt_succ_self _,fun j q h=>by omega,?_⟩ ?_
  ·rfl
  rintro k s' ⟨i,d,j,c,rfl,hi,hd,hdc,hlt,rfl⟩
  have hd0:¬ d=0:=by omega
  have hc0:¬ c=0:=by omega
  (try ((first|refine zn ?_|refine ze ?_|refine zk ?_);with_reducible (constructor;repeat constructor));try refine zl ?_)
  refine cL [0,1,5,8,9,87] (fun s'=>∃ q:Bool,s' = ⟨[(0,.ptr r 0),(1,.str n),(5,.ptr (.sub 0 0 x.p) 0),(8,.sl (.sub d j x.p) 4 i),(9,.int .i64 i),(87,.bool q)],Mem.of [(r,.cells [.list 4 (L.map aC),OO,RR,.list 1 (V.map fun q=>.str q.1),.bool tr]),(.sub 0 0 x.p,.cells [.int .i64 B.k,.int .i64 B.m,.str B.l]),(.sub d j x.p,.arr 4 ((L.take i).map aC))],c+1,[]⟩∧(q=true↔∃ e,L[i]? = some e∧ltB e.1 n)) ?_ ?_
  ·generalize hg:L.getD i default=q
   obtain ⟨qn,qk,qm,ql⟩:=q
   refine ar nmd [(7,76)] hng (by kernel_rfl) fun hf C S K hC1 hC hS hK=>?_;simp (disch:=first|omega|assumption) only [go_sem,Oid.ab hr,Oid.aa hr,hg,aC,AV.cells]
   (repeat' (first|(refine dw (fun hv=>?_) (fun hv=>?_)<;>(try simp only [zb1,zb2,zb3,zb4,zb5] at hv)<;>simp (disch:=first|omega|assumption) only [go_sem,hv,Oid.ab hr,Oid.aa hr,hg,aC,AV.cells])|(refine hK ?_;clear hK hS hC hC1 K S C hf)))
   ·have hl:i < L.length:=by omega
    rw [b9 hl] at hg
    exact aQ ⟨_,rfl,⟨fun h=>⟨(qn,⟨qk,qm,ql⟩),by rw [List.getElem?_eq_getElem hl,hg],h⟩,fun ⟨e,he,h⟩=>by
     rw [List.getElem?_eq_getElem hl,hg] at he
     simp only [Option.some.injEq] at he
     rw [← he] at h;exact h⟩⟩
   ·exact aQ ⟨_,rfl,⟨fun h=>(by cases h),fun ⟨e,he,h⟩=>by rw [List.getElem?_eq_none (by omega)] at he;cases he⟩⟩
  rintro s' ⟨q,rfl,hq⟩
  refine lE rfl rfl (fun hb=>?_) (fun hb=>?_)
  ·obtain ⟨e,he,hle⟩:=hq.1 hb
   have hl:i < L.length:=(List.getElem?_eq_some_iff.1 he).1
   have hts:=fw aC hl
   generalize hg:L.getD i default=g at hts
   obtain ⟨qn,qk,qm,ql⟩:=g
   simp only [aC] at hts
   (repeat (first|(refine aA rfl rfl ?_)|(refine az rfl rfl ?_)|(refine ar nmd [] hng (by kernel_rfl) fun hf C S K hC1 hC hS hK=>?_;simp (disch:=first|omega|assumption) only [go_sem,Oid.ab hr,Oid.aa hr,hg,aC,AV.cells];refine hK ?_;clear hK hS hC hC1 K S C hf)|((first|refine zn ?_|refine ze ?_|refine zk ?_);with_reducible (constructor;repeat constructor);try refine zl ?_)))
   refine ⟨_,_,by omega,fun _ _ h=>h,i+1,c+1,9,c+1+1+1,rfl,by omega,by omega,by omega,fun j q' hj hq'=>?_,?_⟩
   ·rcases Nat.lt_or_ge j i with h|h
    ·exact hlt j q' h hq'
    ·obtain rfl:j=i:=by omega
     rw [he] at hq';simp only [Option.some.injEq] at hq';rw [← hq'];exact hle
   ·rw [hts];rfl
  ·have hnl:∀ q,L[i]? = some q→¬ ltB q.1 n:=fun q' h1 h2=>by rw [hq.2 ⟨q',h1,h2⟩] at hb;cases hb
   have hsp:=iM (lt:=ltB) n o L i hi hlt hnl
   refine qr .o (uu hr) trivial ?_
   refine nO ?_
   refine cL [0,1,5,8,9] (fun s'=>∃ (d j c:Nat),0 < d∧d < c∧s' = ⟨[(0,.ptr r 0),(1,.str n),(5,.ptr (.sub 0 0 x.p) 0),(8,.sl (.sub d j x.p) 4 (i+(eX n o).length)),(9,.int .i64 i)],Mem.of [(r,.cells [.list 4 (L.map aC),OO,RR,.list 1 (V.map fun q=>.str q.1),.bool tr]),(.sub 0 0 x.p,.cells [.int .i64 B.k,.int .i64 B.m,.str B.l]),(.sub d j x.p,.arr 4 ((L.take i++eX n o).map aC))],c,[]⟩) ?_ ?_
   ·refine aS rfl rfl (fun hb=>?_) (fun hb=>?_)
    ·have hk:¬ b.k=0:=fun h=>hb (hB0.2 h)
     obtain rfl:=hB1 hk
     rw [if_neg hk] at ho
     subst ho
     refine qw (uu hr) ?_
     exact aQ ⟨c+1+1,5,c+1+1+1,by omega,by omega,by rw [List.map_append];rfl⟩
    ·have hk:b.k=0:=hB0.1 (by simpa using hb)
     rw [if_pos hk] at ho
     subst ho
     refine qw (uu hr) ?_
     exact aQ ⟨d,j,c+1+1,hd,by omega,by simp only [eX,List.append_nil];rfl⟩
   rintro s' ⟨d,j,c,hd,hdc,rfl⟩
   have hd0:¬ d=0:=by omega
   have hc0:¬ c=0:=by omega
   refine nP ?_
   refine cL [0,1,5,8,9] (fun s'=>∃ (i' c2:Nat),i'≤L.length∧d < c2∧s' = ⟨[(0,.ptr r 0),(1,.str n),(5,.ptr (.sub 0 0 x.p) 0),(8,.sl (.sub d j x.p) 4 (i+(eX n o).length)),(9,.int .i64 i')],Mem.of [(r,.cells [.list 4 (L.map aC),OO,RR,.list 1 (V.map fun q=>.str q.1),.bool tr]),(.sub 0 0 x.p,.cells [.int .i64 B.k,.int .i64 B.m,.str B.l]),(.sub d j x.p,.arr 4 ((L.take i++eX n o).map aC))],c2,[]⟩∧dQ ltB n o L=L.take i++eX n o++L.drop i') ?_ ?_
   ·generalize hg:L.getD i default=g
    obtain ⟨qn,qk,qm,ql⟩:=g
    generalize htl:(eX n o).length=tl
    generalize hrow:(L.take i++eX n o).map aC=row
    refine nP ?_
    refine ar nmd [(7,116)] hng (by kernel_rfl) fun hf C S K hC1 hC hS hK=>?_;simp (disch:=first|omega|assumption) only [go_sem,Oid.ab hr,Oid.aa hr,hg,aC,AV.cells]
    (repeat' (first|(refine dw (fun hv=>?_) (fun hv=>?_)<;>(try simp only [zb1,zb2,zb3,zb4,zb5] at hv)<;>simp (disch:=first|omega|assumption) only [go_sem,hv,Oid.ab hr,Oid.aa hr,hg,aC,AV.cells])|(refine hK ?_;clear hK hS hC hC1 K S C hf)))
    ·have hl:i < L.length:=by omega
     rw [b9 hl] at hg
     rw [List.getElem?_eq_getElem hl,hg] at hsp
     refine nO ?_
     refine aS rfl rfl (fun hb=>?_) (fun hb=>?_)
     ·refine qw0 ?_
      exact aQ ⟨i+1,c+1+1,by omega,by omega,rfl,by rw [hsp];simp only [if_pos hb]⟩
     ·refine qw0 ?_
      exact aQ ⟨i,c+1,by omega,by omega,rfl,by rw [hsp];simp only [if_neg hb]⟩
    ·rw [List.getElem?_eq_none (by omega)] at hsp
     refine qw0 ?_
     exact aQ ⟨i,c+1,by omega,by omega,rfl,by rw [hsp];simp [List.drop_eq_nil_of_le (show L.length≤i by omega)]⟩
   rintro s' ⟨i',c2,hi',hdc2,rfl,hins⟩
   have hc20:¬ c2=0:=by omega
   have htl:(eX n o).length≤1:=by cases o<;>simp [eX]
   refine qr .o (uu hr) trivial ?_
   refine cK (gq (.sub c2 8 x.p) r 4 ((dQ ltB n o L).map aC) [.sl (.sub c2 8 x.p) 4 (i+(eX n o).length+(L.length - i')),OO,RR,.list 1 (V.map fun q=>.str q.1),.bool tr] [.list 4 ((dQ ltB n o L).map aC),OO,RR,.list 1 (V.map fun q=>.str q.1),.bool tr] ?_ ?_ ?_ (.gU ?_ (.keep (.keep (.keep (.keep .nil))))) (.now (bU rfl ?_ ?_)))
   ·simp (disch:=first|omega|assumption) only [go_sem,Oid.ab hr,Oid.aa hr]
    rw [hins];simp
   ·simp (disch:=first|omega|assumption) only [go_sem,Oid.ab hr,Oid.aa hr]
   ·exact fun e=>hr (e ▸ Oid.ae (Oid.aq _))
   ·rw [hins];simp only [List.length_map,List.length_append,List.length_take,List.length_drop];omega
   ·simp (disch:=first|omega|assumption) only [go_sem,Oid.ab hr,Oid.aa hr]
    all_goals simp only [List.mem_cons,List.not_mem_nil,or_false,forall_eq_or_imp,forall_eq,Option.some.injEq,forall_eq',Mem.af,eq_self,if_true,↓reduceIte,reduceCtorEq,implies_true,not_true_eq_false,false_imp_iff,true_and,and_true,false_and,and_false,imp_self]
   ·simp (disch:=first|omega|assumption) only [go_sem,Oid.ab hr,Oid.aa hr]
    all_goals simp only [List.mem_cons,List.not_mem_nil,or_false,forall_eq_or_imp,forall_eq,Option.some.injEq,forall_eq',Mem.af,eq_self,if_true,↓reduceIte,reduceCtorEq,implies_true,not_true_eq_false,false_imp_iff,true_and,and_true,false_and,and_false,imp_self]
end Go.Proofs.YtmoaidkglldhcaaGreatDoor
namespace Go.Proofs.YtmoaidkglldhcaaGreatDoor
open Go Go.Ab
set_option maxRecDepth 20000
set_option maxHeartbeats 4000000
theorem Di (p:Oid):ah Tryz.prog 25 [] (Oid.under p) ⟨[],.ptr (.sub 1 1 p) 0,[(.sub 1 1 p,some (.cells [.list 4 [],.list 4 [],.list 3 [],.list 1 [],.bool false]))]⟩:=by
 refine aD (n:=3) (rs:=[.tmp 0]) Tryz.func25 rfl rfl (by decide) rfl rfl rfl ?_;rintro x rfl hrd hng
 refine kx ?_
 refine qw0 ?_
 refine ay (rk (.sub 1 1 x.p) [.nilSl,.nilSl,.nilSl,.nilSl,.bool false] [.list 4 [],.list 4 [],.list 3 [],.list 1 [],.bool false] ?_ (.cons (.gg 4) (.cons (.gg 4) (.cons (.gg 3) (.cons (.gg 1) (.cons (.refl _) .nil))))) (.now (fm rfl ?_ ?_)))
 ·simp (disch:=first|omega|assumption) only [go_sem]
 ·simp (disch:=first|omega|assumption) only [go_sem]
  all_goals simp only [List.mem_cons,List.not_mem_nil,or_false,forall_eq_or_imp,forall_eq,Option.some.injEq,forall_eq',Mem.af,eq_self,if_true,↓reduceIte,reduceCtorEq,implies_true,not_true_eq_false,false_imp_iff,true_and,and_true,false_and,and_false,imp_self]
 ·simp (disch:=first|omega|assumption) only [go_sem]
  all_goals simp only [List.mem_cons,List.not_mem_nil,or_false,forall_eq_or_imp,forall_eq,Option.some.injEq,forall_eq',Mem.af,eq_self,if_true,↓reduceIte,reduceCtorEq,implies_true,not_true_eq_false,false_imp_iff,true_and,and_true,false_and,and_false,imp_self]
theorem xH (r:Oid) (L:PL) (OO RR WW:AV) (n:Str) (f:Bool) (p:Oid) (hr:¬ Oid.under p r) :
  ah Tryz.prog 93 [.ptr r 0,.str n,.bool f] (Oid.under p) ⟨[(r,.cells [.list 4 (L.map aC),OO,RR,WW,.bool false])],.tuple [],[]⟩:=by
 refine aD (n:=144) (rs:=[]) Tryz.func93 rfl rfl (by decide) rfl rfl rfl ?_;rintro x rfl hrd hng
 (try ((first|refine zn ?_|refine ze ?_|refine zk ?_);with_reducible (constructor;repeat constructor));try refine zl ?_)
 refine ar nmd [(5,14),(8,17)] hng (by kernel_rfl) fun hf C S K hC1 hC hS hK=>?_;simp (disch:=first|omega|assumption) only [go_sem,Oid.ab hr,Oid.aa hr]
 refine hK ?_;clear hK hS hC hC1 K S C hf
 refine qw0 ?_
 refine ay (aX rfl ?_ ?_)
 all_goals simp only [List.mem_cons,List.not_mem_nil,or_false,forall_eq_or_imp,forall_eq,Option.some.injEq,forall_eq',Mem.af,eq_self,if_true,↓reduceIte,reduceCtorEq,implies_true,not_true_eq_false,false_imp_iff,true_and,and_true,false_and,and_false,imp_self]
theorem xI (r:Oid) (L:PL) (hL:L.length≤1000000) (OO RR WW:AV) (tr:Bool) (p:Oid) (hr:¬ Oid.under p r) :
  ah Tryz.prog 59 [.ptr r 0] (Oid.under p) ⟨[(r,.cells [.list 4 (L.map aC),OO,RR,WW,.bool tr])],.list 1 (L.map fun q=>.str q.1),[]⟩:=by
 refine aD (n:=26) (rs:=[.tmp 2]) Tryz.func59 rfl rfl (by decide) rfl rfl rfl ?_;rintro x rfl hrd hng
 refine kx ?_
 refine qw (uu hr) ?_
 refine ko 3 1 rfl ?_
 simp (disch:=first|omega|assumption) only [go_sem]
 refine bK [0,3,4] (fun k s'=>∃ (i d j c:Nat),k=L.length - i∧i≤L.length∧d < c∧s' = ⟨[(0,.ptr r 0),(3,.sl (.sub d j x.p) 1 i),(4,.int .i64 i)],Mem.of [(r,.cells [.list 4 (L.map aC),OO,RR,WW,.bool tr]),(.sub d j x.p,.arr 1 ((L.take i).map fun q=>.str q.1))],c,[]⟩) _ ⟨0,3,0,4,rfl,Nat.zero_le _,by omega,rfl⟩ ?_
 rintro k s' ⟨i,d,j,c,rfl,hi,hdc,rfl⟩
 refine qw (uu hr) ?_
 refine aS rfl rfl (fun hb=>?_) (fun hb=>?_)
 ·have hl:i < L.length:=by omega
  have hts:=fw (fun q:Str × Bits=>AV.str q.1) hl
  generalize hg:L.getD i default=g at hts
  obtain ⟨qn,qk,qm,ql⟩:=g
  simp only at hts
  (repeat (first|(refine aA rfl rfl ?_)|(refine az rfl rfl ?_)|(refine ar nmd [] hng (by kernel_rfl) fun hf C S K hC1 hC hS hK=>?_;simp (disch:=first|omega|assumption) only [go_sem,Oid.ab hr,Oid.aa hr,hg,aC,AV.cells];refine hK ?_;clear hK hS hC hC1 K S C hf)|((first|refine zn ?_|refine ze ?_|refine zk ?_);with_reducible (constructor;repeat constructor);try refine zl ?_)))
  exact ⟨_,_,by omega,fun _ _ h=>h,i+1,c+1,10,c+1+1+1,rfl,by omega,by omega,by rw [hts];rfl⟩
 ·obtain rfl:i=L.length:=by omega
  refine qw (uu hr) ?_
  refine ay (AW (.sub d j x.p) 1 (L.map fun q=>.str q.1) ?_ (.now (fm ?_ ?_ ?_)))
  ·simp (disch:=first|omega|assumption) only [go_sem,Oid.ab hr,Oid.aa hr]
   rw [List.take_length]
  ·simp (disch:=first|omega|assumption) only [go_sem,Oid.ab hr,Oid.aa hr]
  ·simp (disch:=first|omega|assumption) only [go_sem,Oid.ab hr,Oid.aa hr]
   all_goals simp only [List.mem_cons,List.not_mem_nil,or_false,forall_eq_or_imp,forall_eq,Option.some.injEq,forall_eq',Mem.af,eq_self,if_true,↓reduceIte,reduceCtorEq,implies_true,not_true_eq_false,false_imp_iff,true_and,and_true,false_and,and_false,imp_self]
  ·simp (disch:=first|omega|assumption) only [go_sem,Oid.ab hr,Oid.aa hr]
   all_goals simp only [List.mem_cons,List.not_mem_nil,or_false,forall_eq_or_imp,forall_eq,Option.some.injEq,forall_eq',Mem.af,eq_self,if_true,↓reduceIte,reduceCtorEq,implies_true,not_true_eq_false,false_imp_iff,true_and,and_true,false_and,and_false,imp_self]
end Go.Proofs.YtmoaidkglldhcaaGreatDoor
namespace Go.Proofs.YtmoaidkglldhcaaGreatDoor
open Go Go.Ab
set_option maxRecDepth 20000
set_option maxHeartbeats 4000000
theorem xJ (b1 o:Oid) (es:List ME) (clock:Nat) (p:Oid) (hne1:¬ o=b1) (hb1:¬ Oid.under p b1) (ho:¬ Oid.under p o) :
  nJ Tryz.prog 102 [.ptr b1 0] p [(b1,.cells [.map o]),(o,.map [.ss] false es clock)] 1 (fun pre xs=>pre.length < es.length∧∃ s:Str,xs=[.str s]) (fun b pre=>b=true→∃ U:List ME,U.Perm es∧pre=U.map fun e=>[.str (dq e)]):=by
 intro l J L0 hJ hdis hnp hY
 refine eM (by kernel_rfl) fun hcon=>?_
 refine gH (n:=14) (rs:=[]) Tryz.func102 rfl rfl (by decide) rfl rfl rfl ?_;rintro x rfl hrd hng
 have hcL:∀ q ∈ L0,Mem.of L0 q.1=some q.2:=fun q hq=>by
  have:=hcon q (List.mem_append_right _ hq)
  rwa [uG fun q' hq'=>hdis q hq q' hq'] at this
 generalize hQ:dG Tryz.prog [] ([(b1,.cells [.map o]),(o,.map [.ss] false es clock)]++L0) _ _=Q
 refine Cf fun hwf=>?_
 obtain ⟨hw1,hw2⟩:=hwf o [.ss] false es clock (by simp only [aW,bc,Mem.af,Mem.aH,Mem.aO,Mem.aR,br,bI,List.cons_append,List.nil_append,List.append_nil,↓reduceIte,eq_self,and_true,true_and,and_self,and_false,false_and,reduceCtorEq,Oid.sub.injEq,Nat.reduceEqDiff,hne1,Oid.aa hb1,Oid.aa ho,Oid.ab hb1,Oid.ab ho])
 have hstr:∀ e ∈ es,e.key = .str (dq e):=fun e he=>by
  obtain ⟨s,hs⟩:=jq (hw1 e he).1
  simp only [dq,hs]
 (try ((first|refine zn ?_|refine ze ?_|refine zk ?_);with_reducible (constructor;repeat constructor));try refine zl ?_)
 refine ar nmd [] hng (by kernel_rfl) fun hf C S K hC1 hC hS hK=>?_;simp (disch:=first|omega|assumption) only [go_sem,hne1,Oid.aa hb1,Oid.aa ho,Oid.ab hb1,Oid.ab ho,aM]
 refine hK ?_;clear hK hS hC hC1 K S C hf
 (try ((first|refine zn ?_|refine ze ?_|refine zk ?_);with_reducible (constructor;repeat constructor));try refine zl ?_)
 have hn0:∀ q ∈ L0,¬ q.1=b1∧¬ q.1=o∧¬ q.1 = .sub 0 1 x.p:=fun q hq=>⟨hdis q hq _ List.mem_cons_self,hdis q hq _ (List.mem_cons_of_mem _ List.mem_cons_self),fun e=>hnp q hq (e ▸ Oid.ae (Oid.aq _))⟩
 refine jZ ([(b1,.cells [.map o]),(o,.map [.ss] false es clock),(.sub 0 1 x.p,.iter (some o) clock [] clock)]++L0) (jK ?_ ?_) ?_
 ·simp only [aW,bc,Mem.af,Mem.aH,Mem.aO,Mem.aR,br,bI,List.cons_append,List.nil_append,List.append_nil,↓reduceIte,eq_self,and_true,true_and,and_self,and_false,false_and,reduceCtorEq,Oid.sub.injEq,Nat.reduceEqDiff,hne1,Oid.aa hb1,Oid.aa ho,Oid.ab hb1,Oid.ab ho,aM]
 ·intro q hq
  obtain ⟨a1,a2,a3⟩:=hn0 q hq
  simp only [aW,bc,Mem.af,Mem.aH,Mem.aO,Mem.aR,br,bI,List.cons_append,List.nil_append,List.append_nil,↓reduceIte,eq_self,and_true,true_and,and_self,and_false,false_and,reduceCtorEq,Oid.sub.injEq,Nat.reduceEqDiff,aM,a1,a2,a3]
  exact hcL q hq
 refine bK [0,1,5] (fun q s'=>∃ (c:Nat) (U:List ME) (L:List (Oid × ao)),s' = ⟨[(0,.fn (.yield l) [] []),(1,.ptr b1 0),(5,.iter (.sub 0 1 x.p))],Mem.of ([(b1,.cells [.map o]),(o,.map [.ss] false es clock),(.sub 0 1 x.p,.iter (some o) clock (U.map ME.born) clock)]++L),c,[]⟩∧0 < c∧q=es.length - U.length∧(U.map ME.born).Nodup∧(∀ e ∈ U,e ∈ es)∧J true (U.map fun e=>[.str (dq e)]) L ∧
  (∀ q ∈ L,Mem.of L q.1=some q.2)∧∀ q ∈ L,((∃ q' ∈ L0,q'.1=q.1)∨Oid.under x.p q.1)∧¬ q.1=b1∧¬ q.1=o∧¬ q.1 = .sub 0 1 x.p∧∀ d j,c≤d→¬ Oid.under (.sub d j x.p) q.1) es.length ⟨_,[],L0,rfl,by omega,rfl,List.nodup_nil,fun i h=>(by cases h),hJ,hcL,fun q hq=>⟨.inl ⟨q,hq,rfl⟩,(hn0 q hq).1,(hn0 q hq).2.1,(hn0 q hq).2.2,fun d j _ h=>hnp q hq (Oid.ae h)⟩⟩ ?_
 rintro q s' ⟨c,U,L,rfl,hc,rfl,hnd,hlt,hj,hcc,hnm⟩
 have hst:U.map ME.born=[]∨es=[]∨∃ e ∈ es,e.born < clock:=by
  cases U with
  | nil=>exact .inl rfl
  | cons e _=>exact .inr (.inr ⟨e,hlt e List.mem_cons_self,(hw1 e (hlt e List.mem_cons_self)).2⟩)
 (try ((first|refine zn ?_|refine ze ?_|refine zk ?_);with_reducible (constructor;repeat constructor));try refine zl ?_)
 refine ar nmd [] hng (by kernel_rfl) fun hf C S K hC1 hC hS hK=>?_;simp (disch:=first|omega|assumption) only [go_sem]
 refine hS _ _ _ (fun o' hd ho'=>mO (it:=.sub 0 1 x.p) (id:=o) (since:=clock) (ks:=[.ss]) (ag:=false) (clock:=clock) ho' rfl hst) ?_ ?_ (fun _ _ h=>h.elim)
 ·simp only [aW,bc,Mem.af,Mem.aH,Mem.aO,Mem.aR,br,bI,List.cons_append,List.nil_append,List.append_nil,↓reduceIte,eq_self,and_true,true_and,and_self,and_false,false_and,reduceCtorEq,Oid.sub.injEq,Nat.reduceEqDiff,hne1,Oid.aa hb1,Oid.aa ho,Oid.ab hb1,Oid.ab ho]
 rintro val upd (⟨e,he,hns,rfl,rfl⟩|⟨hall,rfl,rfl⟩)
 ·have hfi:=find_born hw2 he
  have hk:=hstr e he
  have hnd':((U++[e]).map ME.born).Nodup:=by
   rw [List.map_append]
   exact List.nodup_append.2 ⟨hnd,by simp,fun a ha b hb' e'=>by simp at hb';subst hb';subst e';exact hns ha⟩
  have hlt':∀ j ∈ U++[e],j ∈ es:=fun j hj=>by
   rcases List.mem_append.1 hj with hj|hj
   ·exact hlt j hj
   ·simp at hj;subst hj;exact he
  have hle:=mS hw2 hlt' hnd'
  generalize hks:dq e=s at *
  simp (disch:=first|omega|assumption) only [go_sem,hne1,Oid.aa hb1,Oid.aa ho,Oid.ab hb1,Oid.ab ho,aM,hk]
  refine hK ?_;clear hK hS hC hC1 K S C hf
  (repeat (first|(refine aA rfl rfl ?_)|(refine az rfl rfl ?_)|(refine ar nmd [] hng (by kernel_rfl) fun hf C S K hC1 hC hS hK=>?_;simp (disch:=first|omega|assumption) only [go_sem];refine hK ?_;clear hK hS hC hC1 K S C hf)|((first|refine zv ?_|refine zw ?_|refine zu ?_);with_reducible (constructor;repeat constructor);try refine zl ?_)))
  refine gM ?_
  (repeat (first|(refine aA rfl rfl ?_)|(refine az rfl rfl ?_)|(refine ar nmd [] hng (by kernel_rfl) fun hf C S K hC1 hC hS hK=>?_;simp (disch:=first|omega|assumption) only [go_sem];refine hK ?_;clear hK hS hC hC1 K S C hf)|((first|refine zv ?_|refine zw ?_|refine zu ?_);with_reducible (constructor;repeat constructor);try refine zl ?_)))
  refine ar nmd [] hng (by kernel_rfl) fun hf C S K hC1 hC hS hK=>?_;simp (disch:=first|omega|assumption) only [go_sem,hne1,Oid.aa hb1,Oid.aa ho,Oid.ab hb1,Oid.ab ho,aM,hfi,hk,List.getLast?_concat]
  refine hK ?_;clear hK hS hC hC1 K S C hf
  (repeat (first|(refine aA rfl rfl ?_)|(refine az rfl rfl ?_)|(refine ar nmd [] hng (by kernel_rfl) fun hf C S K hC1 hC hS hK=>?_;simp (disch:=first|omega|assumption) only [go_sem];refine hK ?_;clear hK hS hC hC1 K S C hf)|((first|refine zv ?_|refine zw ?_|refine zu ?_);with_reducible (constructor;repeat constructor);try refine zl ?_)))
  have hnL:∀ q ∈ L,∀ q' ∈ ([(b1,.cells [.map o]),(o,.map [.ss] false es clock),(.sub 0 1 x.p,.iter (some o) clock (U.map ME.born++[e.born]) clock)]:List (Oid × ao)),¬ q.1=q'.1:=fun q hq=>by
   obtain ⟨_,a1,a2,a3,a4⟩:=hnm q hq
   simp only [aW,bc,Mem.af,Mem.aH,Mem.aO,Mem.aR,br,bI,List.cons_append,List.nil_append,List.append_nil,↓reduceIte,eq_self,and_true,true_and,and_self,and_false,false_and,reduceCtorEq,Oid.sub.injEq,Nat.reduceEqDiff,a1,a2,a3,not_false_eq_true]
  have hBm:∀ q ∈ ([(b1,.cells [.map o]),(o,.map [.ss] false es clock),(.sub 0 1 x.p,.iter (some o) clock (U.map ME.born++[e.born]) clock)]:List (Oid × ao)),Mem.of ([(b1,.cells [.map o]),(o,.map [.ss] false es clock),(.sub 0 1 x.p,.iter (some o) clock (U.map ME.born++[e.born]) clock)]++L) q.1=some q.2:=by
   simp only [aW,bc,Mem.af,Mem.aH,Mem.aO,Mem.aR,br,bI,List.cons_append,List.nil_append,List.append_nil,↓reduceIte,eq_self,and_true,true_and,and_self,and_false,false_and,reduceCtorEq,Oid.sub.injEq,Nat.reduceEqDiff,hne1,Oid.aa hb1,Oid.aa ho,Oid.ab hb1,Oid.ab ho]
  have hall:=eW hBm hnL hcc
  have hmm:(U++[e]).map ME.born=U.map ME.born++[e.born]:=by simp
  have hlen2:(U++[e]).length=U.length+1:=by simp
  refine ar nmd [] hng (by kernel_rfl) fun hf C S K hC1 hC hS hK=>?_;simp (disch:=first|omega|assumption) only [go_sem,hne1,Oid.aa hb1,Oid.aa ho,Oid.ab hb1,Oid.ab ho,aM]
  refine hS _ _ _ (fun o' hd ho'=>lD ho' rfl (hY _ [.str s] L (.sub (c+1+1) 2 x.p) hj rfl ⟨by rw [List.length_map];rw [hlen2] at hle;omega,s,rfl⟩)) (fun q hq=>hall q (List.mem_append_right _ hq)) ?_ (fun _ _ h=>h.elim)
  rintro val upd ⟨b,L',rfl,hj',hU⟩
  have hym:=lF hU (fun q hq=>hall q (List.mem_append_right _ hq)) hBm ?_
  rotate_left
  ·intro q hq
   refine ⟨fun q' hq'=>hnL q' hq' q hq,fun hu=>?_⟩
   simp only [List.mem_cons,List.not_mem_nil,or_false] at hq
   rcases hq with rfl|rfl|rfl
   ·exact hb1 (Oid.ae hu)
   ·exact ho (Oid.ae hu)
   ·have:=(Oid.apart hu (Oid.aq _)).1;omega
  have hcl:∀ q ∈ L',Mem.of L' q.1=some q.2:=fun q hq=>by
   obtain ⟨o',ho'⟩:=Mem.kS hq
   obtain ⟨q',h1,h2,h3⟩:=Mem.dV ho'
   have h4:=hym q (List.mem_append_right _ hq)
   have h5:=hym q' (List.mem_append_right _ h1)
   rw [h2,h4,h3] at h5
   rw [ho'];exact h5.symm
  simp (disch:=first|omega|assumption) only [go_sem]
  refine hK ?_;clear hK hS hC hC1 K S C hf
  (repeat (first|(refine aA rfl rfl ?_)|(refine az rfl rfl ?_)|(refine ar nmd [] hng (by kernel_rfl) fun hf C S K hC1 hC hS hK=>?_;simp (disch:=first|omega|assumption) only [go_sem];refine hK ?_;clear hK hS hC hC1 K S C hf)|((first|refine zv ?_|refine zw ?_|refine zu ?_);with_reducible (constructor;repeat constructor);try refine zl ?_)))
  refine jZ ([(b1,.cells [.map o]),(o,.map [.ss] false es clock),(.sub 0 1 x.p,.iter (some o) clock (U.map ME.born++[e.born]) clock)]++L') (by rw [← Mem.aO];exact hym) ?_
  have hnm':∀ q ∈ L',((∃ q' ∈ L0,q'.1=q.1)∨Oid.under x.p q.1)∧¬ q.1=b1∧¬ q.1=o∧¬ q.1 = .sub 0 1 x.p∧∀ d j,c+1+1+1≤d→¬ Oid.under (.sub d j x.p) q.1:=fun q hq=>by
   rcases hU.nam q hq with ⟨q',h1,h2⟩|h1
   ·obtain ⟨a0,a1,a2,a3,a4⟩:=hnm q' h1
    rw [h2] at a0 a1 a2 a3 a4
    exact ⟨a0,a1,a2,a3,fun d j hd=>a4 d j (by omega)⟩
   ·have hu:=Oid.ae h1
    refine ⟨.inr hu,fun e=>hb1 (e ▸ hu),fun e=>ho (e ▸ hu),fun e=>?_,fun d j hd h2=>?_⟩
    ·rw [e] at h1;have:=(Oid.apart h1 (Oid.aq _)).1;omega
    ·have:=(Oid.apart h1 h2).1;omega
  have hmap:((U++[e]).map fun e=>[AV.str (dq e)])=(U.map fun e=>[AV.str (dq e)])++[[.str s]]:=by simp [hks]
  have hnL':∀ q ∈ L',∀ q' ∈ ([(b1,.cells [.map o]),(o,.map [.ss] false es clock),(.sub 0 1 x.p,.iter (some o) clock (U.map ME.born++[e.born]) clock)]:List (Oid × ao)),¬ q.1=q'.1:=fun q hq=>by
   obtain ⟨_,a1,a2,a3,a4⟩:=hnm' q hq
   simp only [aW,bc,Mem.af,Mem.aH,Mem.aO,Mem.aR,br,bI,List.cons_append,List.nil_append,List.append_nil,↓reduceIte,eq_self,and_true,true_and,and_self,and_false,false_and,reduceCtorEq,Oid.sub.injEq,Nat.reduceEqDiff,a1,a2,a3,not_false_eq_true]
  have hall':=eW (L:=L') (B:=[(b1,.cells [.map o]),(o,.map [.ss] false es clock),(.sub 0 1 x.p,.iter (some o) clock (U.map ME.born++[e.born]) clock)]) (fun q hq=>by
   have:=hym q (List.mem_append_left _ hq)
   revert q
   simp only [aW,bc,Mem.af,Mem.aH,Mem.aO,Mem.aR,br,bI,List.cons_append,List.nil_append,List.append_nil,↓reduceIte,eq_self,and_true,true_and,and_self,and_false,false_and,reduceCtorEq,Oid.sub.injEq,Nat.reduceEqDiff,hne1,Oid.aa hb1,Oid.aa ho,Oid.ab hb1,Oid.ab ho,implies_true]) hnL' hcl
  cases b with
  | true =>
   refine qw0 ?_
   rw [← hmap] at hj'
   refine ⟨_,Mem.of ([(b1,.cells [.map o]),(o,.map [.ss] false es clock),(.sub 0 1 x.p,.iter (some o) clock (U.map ME.born++[e.born]) clock)]++L'),?_,iH hall',c+1+1+1,U++[e],L',by rw [hmm];rfl,by omega,rfl,hnd',hlt',hj',hcl,hnm'⟩
   rw [hlen2] at hle ⊢;omega
  | false =>
   refine aA rfl rfl (ay ?_)
   subst hQ
   have hsw:=iG (L:=[(b1,.cells [.map o]),(o,.map [.ss] false es clock)]++L0) (L':=[(b1,.cells [.map o]),(o,.map [.ss] false es clock)]++L') (m:=Mem.of ([(b1,.cells [.map o]),(o,.map [.ss] false es clock),(.sub 0 1 x.p,.iter (some o) clock (U.map ME.born++[e.born]) clock)]++L')) (sp:=Oid.under x.p) (fun q hq=>hall' q (by
     rcases List.mem_append.1 hq with hq|hq
     ·exact List.mem_append_left _ (by simp only [List.mem_cons,List.not_mem_nil,or_false] at hq ⊢;rcases hq with h|h<;>simp [h])
     ·exact List.mem_append_right _ hq)) (fun q hq=>by
     rcases List.mem_append.1 hq with hq|hq
     ·exact .inl ⟨q,List.mem_append_left _ hq,rfl⟩
     ·rcases (hnm' q hq).1 with ⟨q',h1,h2⟩|h
      ·exact .inl ⟨q',List.mem_append_right _ h1,h2⟩
      ·exact .inr h)
   exact bw _ _ rfl ⟨false,_,L',fun h=>(by cases h),hj',hsw.1⟩ hsw.2
 ·simp (disch:=first|omega|assumption) only [go_sem]
  refine hK ?_;clear hK hS hC hC1 K S C hf
  (try ((first|refine zn ?_|refine ze ?_|refine zk ?_);with_reducible (constructor;repeat constructor));try refine zl ?_)
  subst hQ
  have hfull:=jG hw2 hlt hnd fun e he=>hall e he (hw1 e he).2
  have hnL:∀ q ∈ L,∀ q' ∈ ([(b1,.cells [.map o]),(o,.map [.ss] false es clock),(.sub 0 1 x.p,.iter (some o) clock (U.map ME.born) clock)]:List (Oid × ao)),¬ q.1=q'.1:=fun q hq=>by
   obtain ⟨_,a1,a2,a3,a4⟩:=hnm q hq
   simp only [aW,bc,Mem.af,Mem.aH,Mem.aO,Mem.aR,br,bI,List.cons_append,List.nil_append,List.append_nil,↓reduceIte,eq_self,and_true,true_and,and_self,and_false,false_and,reduceCtorEq,Oid.sub.injEq,Nat.reduceEqDiff,a1,a2,a3,not_false_eq_true]
  have hall':=eW (L:=L) (B:=[(b1,.cells [.map o]),(o,.map [.ss] false es clock),(.sub 0 1 x.p,.iter (some o) clock (U.map ME.born) clock)]) (by
   simp only [aW,bc,Mem.af,Mem.aH,Mem.aO,Mem.aR,br,bI,List.cons_append,List.nil_append,List.append_nil,↓reduceIte,eq_self,and_true,true_and,and_self,and_false,false_and,reduceCtorEq,Oid.sub.injEq,Nat.reduceEqDiff,hne1,Oid.aa hb1,Oid.aa ho,Oid.ab hb1,Oid.ab ho]) hnL hcc
  have hsw:=iG (L:=[(b1,.cells [.map o]),(o,.map [.ss] false es clock)]++L0) (L':=[(b1,.cells [.map o]),(o,.map [.ss] false es clock)]++L) (m:=Mem.of ([(b1,.cells [.map o]),(o,.map [.ss] false es clock),(.sub 0 1 x.p,.iter (some o) clock (U.map ME.born) clock)]++L)) (sp:=Oid.under x.p) (fun q hq=>hall' q (by
     rcases List.mem_append.1 hq with hq|hq
     ·exact List.mem_append_left _ (by simp only [List.mem_cons,List.not_mem_nil,or_false] at hq ⊢;rcases hq with h|h<;>simp [h])
     ·exact List.mem_append_right _ hq)) (fun q hq=>by
     rcases List.mem_append.1 hq with hq|hq
     ·exact .inl ⟨q,List.mem_append_left _ hq,rfl⟩
     ·rcases (hnm q hq).1 with ⟨q',h1,h2⟩|h
      ·exact .inl ⟨q',List.mem_append_right _ h1,h2⟩
      ·exact .inr h)
  refine az rfl rfl ?_
  (try ((first|refine zn ?_|refine ze ?_|refine zk ?_);with_reducible (constructor;repeat constructor));try refine zl ?_)
  refine cK ?_
  exact eL _ _ rfl ⟨true,_,L,fun _=>⟨U,hfull,rfl⟩,hj,hsw.1⟩ hsw.2
end Go.Proofs.YtmoaidkglldhcaaGreatDoor
namespace Go.Proofs.YtmoaidkglldhcaaGreatDoor
open Go Go.Ab
set_option maxRecDepth 20000
set_option maxHeartbeats 4000000
theorem A1 (o:Oid) (p:Oid) (ho:¬ Oid.under p o):ah Tryz.prog 71 [.map o] (Oid.under p) ⟨[],.fn (.func 102) [] [.ptr (.sub 0 0 p) 0],[(.sub 0 0 p,some (.cells [.map o]))]⟩:=by
 refine aD (n:=4) (rs:=[.tmp 2]) Tryz.func71 rfl rfl (by decide) rfl rfl rfl ?_;rintro x rfl hrd hng
 refine qw0 ?_
 refine ay (bw _ _ rfl ⟨rfl,rfl⟩ ?_)
 intro i o' h
 rw [Mem.aO] at h
 exact h
theorem A2 (st t:Oid) (tv:AV) (es:List ME) (clock:Nat) (hel:es.length≤2000000000000) (hts:¬ t=st) (p:Oid) (hs:¬ Oid.under p st) (ht:¬ Oid.under p t) :
  ah Tryz.prog 24 [.ptr st 0] (Oid.under p) ⟨[(st,.cells [.map t,tv]),(t,.map [.ss] false es clock)],.list 1 ((cP (es.map dq)).map .str),[]⟩:=by
 refine aD (n:=9) (rs:=[.tmp 2]) Tryz.func24 rfl rfl (by decide) rfl rfl rfl ?_;rintro x rfl hrd hng
 have hu12:Oid.under (.sub 1 4 x.p) (.sub 0 0 (.sub 1 4 x.p)):=Oid.ae (Oid.aq _)
 have hapt:∀ p',Oid.under (.sub 1 5 x.p) p'→¬ Oid.under p' (.sub 0 0 (.sub 1 4 x.p)):=fun p' h h2=>by
  have:=(Oid.apart (Oid.dE h h2) hu12).2
  omega
 refine qw0 ?_
 refine ar nmd [] hng (by kernel_rfl) fun hf C S K hC1 hC hS hK=>?_;simp (disch:=first|omega|assumption) only [go_sem,Oid.ab ht,Oid.aa ht,Oid.ab hs,Oid.aa hs,hts]
 refine hC1 _ (A1 t _ (fun h=>ht (Oid.ae h))) qs0 ?_
 simp (disch:=first|omega|assumption) only [go_sem]
 refine hC1 _ (lO 102 [.ptr (.sub 0 0 (.sub 1 4 x.p)) 0] [(.sub 0 0 (.sub 1 4 x.p),.cells [.map t]),(t,.map [.ss] false es clock)] es.length (es.map dq) _ hel (by simp) _ ?_ ?_
  (fun p' hp=>xJ (.sub 0 0 (.sub 1 4 x.p)) t es clock p' ?_ ?_ ?_) ?_) ?_ ?_
 ·intro q hq
  simp only [List.mem_cons,List.not_mem_nil,or_false] at hq
  rcases hq with rfl|rfl
  ·exact hapt _ (Oid.aq _)
  ·exact fun h=>ht (Oid.ae h)
 ·intro q hq
  simp only [List.mem_cons,List.not_mem_nil,or_false] at hq
  rcases hq with rfl|rfl<;>(intro sz xs e;cases e)
 ·exact fun e=>ht (e ▸ Oid.ae hu12)
 ·exact hapt _ hp
 ·exact fun h=>ht (Oid.ae (Oid.dE hp h))
 ·intro l hl
  obtain ⟨U,h1,h2⟩:=hl rfl
  have h3:l=U.map dq:=str_inj (by rw [h2,List.map_map];rfl)
  rw [h3]
  exact h1.map _
 ·have h0:=Oid.ab (fun h=>ht (Oid.ae h):¬ Oid.under (.sub 1 4 x.p) t) 0 0
  have h1:=Oid.aa (fun h=>ht (Oid.ae h):¬ Oid.under (.sub 1 4 x.p) t) 0 0
  have h2:=Oid.ab (fun h=>hs (Oid.ae h):¬ Oid.under (.sub 1 4 x.p) st) 0 0
  have h3:=Oid.aa (fun h=>hs (Oid.ae h):¬ Oid.under (.sub 1 4 x.p) st) 0 0
  simp only [aW,bc,Mem.af,Mem.aH,Mem.aO,Mem.aR,br,bI,List.cons_append,List.nil_append,List.append_nil,↓reduceIte,eq_self,and_true,true_and,and_self,and_false,false_and,reduceCtorEq,Oid.sub.injEq,Nat.reduceEqDiff,aM,h0,h1,h2,h3,Oid.ab ht,Oid.aa ht,Oid.ab hs,Oid.aa hs,hts]
 ·simp (disch:=first|omega|assumption) only [go_sem]
  refine hK ?_;clear hK hS hC hC1 K S C hf
  refine qw0 ?_
  have h0:=Oid.ab (fun h=>ht (Oid.ae h):¬ Oid.under (.sub 1 4 x.p) t) 0 0
  have h1:=Oid.aa (fun h=>ht (Oid.ae h):¬ Oid.under (.sub 1 4 x.p) t) 0 0
  have h2:=Oid.ab (fun h=>hs (Oid.ae h):¬ Oid.under (.sub 1 4 x.p) st) 0 0
  have h3:=Oid.aa (fun h=>hs (Oid.ae h):¬ Oid.under (.sub 1 4 x.p) st) 0 0
  refine ay (aX rfl ?_ ?_)
  all_goals simp only [List.mem_cons,List.not_mem_nil,or_false,forall_eq_or_imp,forall_eq,Option.some.injEq,forall_eq',Mem.af,eq_self,if_true,↓reduceIte,reduceCtorEq,implies_true,not_true_eq_false,false_imp_iff,true_and,and_true,false_and,and_false,imp_self,aM,h0,h1,h2,h3,Oid.ab ht,Oid.aa ht,Oid.ab hs,Oid.aa hs,hts]
theorem xK {es:List ME} {L:PL} (h:fH es L) (hs:aV ltB L):cP (es.map dq)=L.map (·.1):=by
 refine oh ?_ (List.pairwise_map.2 (hs.imp fun {a b} h=>List.le_of_lt (rn h)))
 obtain ⟨E,rfl,h2,_⟩:=h
 have h3:(E.map (eF AV.str Bits.av)).map dq=(E.map prj).map (·.1):=by
  rw [List.map_map,List.map_map];rfl
 rw [h3]
 exact h2.map _
end Go.Proofs.YtmoaidkglldhcaaGreatDoor
namespace Go.Proofs.YtmoaidkglldhcaaGreatDoor
open Go Go.Ab
set_option maxRecDepth 20000
set_option maxHeartbeats 4000000
theorem iv (n:Str) (b:Bits) (L:PL):(dz n b L).length≤L.length+1:=by
 unfold dz
 split
 ·omega
 ·generalize (if b.k=0 then none else some b)=o
  induction L with
  | nil=>cases o<;>simp [dQ,eX]
  | cons q L ih =>
   simp only [dQ]
   split
   ·simp only [List.length_cons];omega
   ·have:(eX n o).length≤1:=by cases o<;>simp [eX]
    simp only [List.length_append,List.length_cons]
    split
    ·omega
    ·rw [List.length_cons];omega
theorem ow {n:Str} {b:Bits} {L:PL} {q:Str × Bits} (h:q ∈ dz n b L):q=(n,b)∨q ∈ L:=by
 unfold dz at h
 split at h
 ·exact .inr h
 ·refine (dJ h).imp (fun h=>?_) id
  obtain ⟨h1,h2⟩:=oc h
  split at h2
  ·cases h2
  ·simp only [Option.some.injEq] at h2
   rw [Prod.ext_iff];exact ⟨h1,h2.symm⟩
end Go.Proofs.YtmoaidkglldhcaaGreatDoor
namespace Go.Proofs.YtmoaidkglldhcaaGreatDoor
open Go Go.Ab
set_option maxRecDepth 20000
set_option maxHeartbeats 4000000
abbrev RL:=List ((Str × Bool) × Str)
def ltF (a b:Str × Bool):Prop:=ltB a.1 b.1∨(a.1=b.1∧a.2=false∧b.2=true)
instance:DecidableRel ltF:=fun a b=>inferInstanceAs (Decidable (ltB a.1 b.1∨(a.1=b.1∧a.2=false∧b.2=true)))
theorem jT:Ord ltF where
 irr a h:=by
  rcases h with h|⟨_,h1,h2⟩
  ·exact gh.irr _ h
  ·rw [h1] at h2;cases h2
 tr a b c h1 h2:=by
  rcases h1 with h1|⟨h1,h3,h4⟩<;>rcases h2 with h2|⟨h2,h5,h6⟩
  ·exact .inl (gh.tr _ _ _ h1 h2)
  ·exact .inl (h2 ▸ h1)
  ·exact .inl (h1 ▸ h2)
  ·rw [h4] at h5;cases h5
 tot a b h hn:=by
  obtain ⟨a1,a2⟩:=a
  obtain ⟨b1,b2⟩:=b
  by_cases he:a1=b1
  ·subst he
   right
   refine ⟨rfl,?_,?_⟩
   ·cases b2 with
    | false=>rfl
    | true =>
     cases a2 with
     | false=>exact absurd (.inr ⟨rfl,rfl,rfl⟩) h
     | true=>exact absurd rfl hn
   ·cases a2 with
    | true=>rfl
    | false =>
     cases b2 with
     | false=>exact absurd rfl hn
     | true=>exact absurd (.inr ⟨rfl,rfl,rfl⟩) h
  ·exact .inl (gh.tot a1 b1 (fun h'=>h (.inl h')) he)
def cI (q:Str × Bool):AV:=.agg [.str q.1,.bool q.2]
theorem Gx:jY cI:=fun a b=>by
 obtain ⟨a1,a2⟩:=a
 obtain ⟨b1,b2⟩:=b
 by_cases h1:a1=b1<;>by_cases h2:a2=b2<;>simp [eJ,cI,AV.cells,bE,eqS,h1,h2]
def aY (q:(Str × Bool) × Str):AV:=.agg [.str q.1.1,.bool q.1.2,.str q.2]
def cg (L:PL) (f:Str × Bool):Str:=if f.2=true then cG (aU L f.1) else cC (aF L f.1)
def cj (old:PL) (W:WL) (f:Str × Bool) (R:RL):RL:=if f.2=false∧(aK f.1 W).isSome=true then R else if (aK f R).isSome=true then R else dQ ltF f (some (cg old f)) R
theorem la {L:PL} (h:POk L) (n:Str):(aF L n).ok:=by
 unfold aF
 split
 ·exact ⟨⟨by decide,by decide⟩,⟨by decide,by decide⟩,by decide⟩
 ·cases h2:aK n L with
  | none=>exact ⟨⟨by decide,by decide⟩,⟨by decide,by decide⟩,by decide⟩
  | some b =>
   have:∀ {L:PL},aK n L=some b→∃ q ∈ L,q.2=b:=by
    intro L
    induction L with
    | nil=>intro h;cases h
    | cons q L ih =>
     intro h
     simp only [aK] at h
     split at h
     ·exact ⟨q,List.mem_cons_self,Option.some.inj h⟩
     ·obtain ⟨q',h3,h4⟩:=ih h;exact ⟨q',List.mem_cons_of_mem _ h3,h4⟩
   obtain ⟨q,h3,h4⟩:=this h2
   rw [Option.getD_some,← h4]
   exact h.val q h3
def xL (L:PL):Prop:=∀ q ∈ L,0≤q.2.k∧0≤q.2.m
theorem ox {L:PL} (h:xL L) (n:Str):0≤(aF L n).k∧0≤(aF L n).m:=by
 unfold aF
 split
 ·exact ⟨by decide,by decide⟩
 ·cases h2:aK n L with
  | none=>exact ⟨by decide,by decide⟩
  | some b =>
   have:∀ {L:PL},aK n L=some b→∃ q ∈ L,q.2=b:=by
    intro L
    induction L with
    | nil=>intro h;cases h
    | cons q L ih =>
     intro h
     simp only [aK] at h
     split at h
     ·exact ⟨q,List.mem_cons_self,Option.some.inj h⟩
     ·obtain ⟨q',h3,h4⟩:=ih h;exact ⟨q',List.mem_cons_of_mem _ h3,h4⟩
   obtain ⟨q,h3,h4⟩:=this h2
   rw [Option.getD_some,← h4]
   exact h q h3
theorem uN {κ ν:Type} [DecidableEq κ] {lt:κ→κ→Prop} (ho:Ord lt) (k:κ) {L:List (κ × ν)} (hs:aV lt L) {i:Nat} (h1:∀ j q,j < i→L[j]? = some q→lt q.1 k) (h2:∀ q,L[i]? = some q→¬ lt q.1 k) :
  (aK k L).isSome=true↔∃ q,L[i]? = some q∧q.1=k:=by
 constructor
 ·intro h
  obtain ⟨b,hb⟩:=Option.isSome_iff_exists.1 h
  have hm:=(bs (hs.nodup ho)).1 hb
  obtain ⟨j,hj,hjq⟩:=List.mem_iff_getElem.1 hm
  have hjs:L[j]? = some (k,b):=by rw [List.getElem?_eq_getElem hj,hjq]
  rcases Nat.lt_trichotomy j i with h3|h3|h3
  ·exact absurd (h1 j _ h3 hjs) (ho.irr k)
  ·exact ⟨_,by rw [← h3];exact hjs,rfl⟩
  ·have hi:i < L.length:=by omega
   have:=List.pairwise_iff_getElem.1 hs i j hi hj h3
   rw [hjq] at this
   exact absurd this (h2 _ (List.getElem?_eq_getElem hi))
 ·rintro ⟨q,h3,rfl⟩
  rw [(bs (hs.nodup ho) (n:=q.1) (b:=q.2)).2 (List.mem_of_getElem? h3)]
  rfl
theorem xM (r:Oid) (LL:AV) (old:PL) (hold:POk old) (hnat:xL old) (R:RL) (hR:R.length≤1000000) (hRs:aV ltF R) (W:WL) (hW:W.length≤1000000) (n:Str) (hn:n.length≤140737488355000) (f:Bool) (p:Oid) (hr:¬ Oid.under p r) :
  ah Tryz.prog 93 [.ptr r 0,.str n,.bool f] (Oid.under p) ⟨[(r,.cells [LL,.list 4 (old.map aC),.list 3 (R.map aY),.list 1 (W.map fun q=>.str q.1),.bool true])],.tuple [],[(r,some (.cells [LL,.list 4 (old.map aC),.list 3 ((cj old W (n,f) R).map aY),.list 1 (W.map fun q=>.str q.1),.bool true]))]⟩:=by
 have hr':∀ c i,¬ Oid.under (.sub c i p) r:=fun c i h=>hr (Oid.ae h)
 have hoL:=hold.len
 refine aD (n:=144) (rs:=[]) Tryz.func93 rfl rfl (by decide) rfl rfl rfl ?_;rintro x rfl hrd hng
 refine kx ?_
 refine nP ?_
 refine nP ?_
 refine cL [0,1,2,22] (fun s'=>∃ q:Bool,s' = ⟨[(0,.ptr r 0),(1,.str n),(2,.bool f),(22,.bool q)],Mem.of [(r,.cells [LL,.list 4 (old.map aC),.list 3 (R.map aY),.list 1 (W.map fun q=>.str q.1),.bool true])],1,[]⟩∧(q=true↔f=false∧(aK n W).isSome=true)) ?_ ?_
 ·cases f with
  | true =>
   refine ar nmd [(5,14),(8,17)] hng (by kernel_rfl) fun hf C S K hC1 hC hS hK=>?_;simp (disch:=first|omega|assumption) only [go_sem,Oid.ab hr,Oid.aa hr]
   refine hK ?_;clear hK hS hC hC1 K S C hf
   exact aQ ⟨_,rfl,by simp⟩
  | false =>
   refine ar nmd [(5,14),(8,17)] hng (by kernel_rfl) fun hf C S K hC1 hC hS hK=>?_;simp (disch:=first|omega|assumption) only [go_sem,Oid.ab hr,Oid.aa hr]
   refine hC1 _ (s9 r LL (.list 4 (old.map aC)) (.list 3 (R.map aY)) (.bool true) W (by omega) n _ (hr' _ _)) (qs (uu hr)) ?_
   simp (disch:=first|omega|assumption) only [go_sem,Oid.ab hr,Oid.aa hr]
   refine hK ?_;clear hK hS hC hC1 K S C hf
   exact aQ ⟨_,rfl,by simp⟩
 rintro s' ⟨q,rfl,hq⟩
 refine lE rfl rfl (fun hb=>?_) (fun hb=>?_)
 ·have h1:cj old W (n,f) R=R:=if_pos (hq.1 hb)
  rw [h1]
  refine qw0 ?_
  refine ay (.now (fm rfl ?_ ?_))
  all_goals simp only [List.mem_cons,List.not_mem_nil,or_false,forall_eq_or_imp,forall_eq,Option.some.injEq,forall_eq',Mem.af,eq_self,if_true,↓reduceIte,reduceCtorEq,implies_true,not_true_eq_false,false_imp_iff,true_and,and_true,false_and,and_false,imp_self]
 ·have h1:cj old W (n,f) R=if (aK (n,f) R).isSome=true then R else dQ ltF (n,f) (some (cg old (n,f))) R:=if_neg fun h=>by rw [hq.2 h] at hb;cases hb
  rw [h1]
  refine qw0 ?_
  refine bK [0,1,2,6] (fun k s'=>∃ i c':Nat,k=R.length - i∧i≤R.length∧0 < c'∧(∀ j q,j < i→R[j]? = some q→ltF q.1 (n,f))∧s' = ⟨[(0,.ptr r 0),(1,.str n),(2,.bool f),(6,.int .i64 i)],Mem.of [(r,.cells [LL,.list 4 (old.map aC),.list 3 (R.map aY),.list 1 (W.map fun q=>.str q.1),.bool true])],c',[]⟩) _ ⟨0,_,rfl,Nat.zero_le _,by omega,fun j q h=>by omega,rfl⟩ ?_
  rintro k s' ⟨i,c',rfl,hi,hc',hlt,rfl⟩
  have hc0:¬ c' = 0:=by omega
  generalize hg:R.getD i default=g
  obtain ⟨⟨gn,gf⟩,gv⟩:=g
  (try ((first|refine zn ?_|refine ze ?_|refine zk ?_);with_reducible (constructor;repeat constructor));try refine zl ?_)
  refine cL [0,1,2,6,67] (fun s'=>∃ q:Bool,s' = ⟨[(0,.ptr r 0),(1,.str n),(2,.bool f),(6,.int .i64 i),(67,.bool q)],Mem.of [(r,.cells [LL,.list 4 (old.map aC),.list 3 (R.map aY),.list 1 (W.map fun q=>.str q.1),.bool true])],c' + 1,[]⟩∧(q=true↔i < R.length∧ltF (gn,gf) (n,f))) ?_ ?_
  ·refine ar nmd [(7,30),(18,41),(29,52),(40,63)] hng (by kernel_rfl) fun hf C S K hC1 hC hS hK=>?_;simp (disch:=first|omega|assumption) only [go_sem,Oid.ab hr,Oid.aa hr,hg,aY,AV.cells]
   (repeat' (first|(refine dw (fun hv=>?_) (fun hv=>?_)<;>(try simp only [zb1,zb2,zb3,zb4,zb5] at hv)<;>simp (disch:=first|omega|assumption) only [go_sem,hv,Oid.ab hr,Oid.aa hr,hg,aY,AV.cells])|(refine hK ?_;clear hK hS hC hC1 K S C hf)))
   all_goals refine aQ ⟨_,rfl,?_⟩
   all_goals first|(simp_all [ltF,ltB];done)|(simp_all [ltF,ltB];omega)
  rintro s' ⟨q,rfl,hq⟩
  refine lE rfl rfl (fun hb=>?_) (fun hb=>?_)
  ·obtain ⟨hl,hle⟩:=hq.1 hb
   refine qw0 ?_
   refine ⟨_,_,by omega,fun _ _ h=>h,i+1,_,rfl,by omega,by omega,fun j q' hj hq'=>?_,rfl⟩
   rcases Nat.lt_or_ge j i with h|h
   ·exact hlt j q' h hq'
   ·obtain rfl:j=i:=by omega
    rw [List.getElem?_eq_getElem hl] at hq';simp only [Option.some.injEq] at hq'
    rw [b9 hl,hq'] at hg
    rw [hg];exact hle
  ·have hnl:∀ q,R[i]? = some q→¬ ltF q.1 (n,f):=fun q' h1 h2=>by
    obtain ⟨hl,h3⟩:=List.getElem?_eq_some_iff.1 h1
    rw [b9 hl,h3] at hg
    rw [hg] at h2
    rw [hq.2 ⟨hl,h2⟩] at hb;cases hb
   have hsp:=iM (lt:=ltF) (n,f) (some (cg old (n,f))) R i hi hlt hnl
   have hlk:=uN jT (n,f) hRs hlt hnl
   (try ((first|refine zn ?_|refine ze ?_|refine zk ?_);with_reducible (constructor;repeat constructor));try refine zl ?_)
   refine cL [0,1,2,6,100] (fun s'=>∃ q:Bool,s' = ⟨[(0,.ptr r 0),(1,.str n),(2,.bool f),(6,.int .i64 i),(100,.bool q)],Mem.of [(r,.cells [LL,.list 4 (old.map aC),.list 3 (R.map aY),.list 1 (W.map fun q=>.str q.1),.bool true])],c' + 1+1,[]⟩∧(q=true↔i < R.length∧gn=n∧gf=f)) ?_ ?_
   ·refine ar nmd [(7,77),(19,89)] hng (by kernel_rfl) fun hf C S K hC1 hC hS hK=>?_;simp (disch:=first|omega|assumption) only [go_sem,Oid.ab hr,Oid.aa hr,hg,aY,AV.cells]
    (repeat' (first|(refine dw (fun hv=>?_) (fun hv=>?_)<;>(try simp only [zb1,zb2,zb3,zb4,zb5] at hv)<;>simp (disch:=first|omega|assumption) only [go_sem,hv,Oid.ab hr,Oid.aa hr,hg,aY,AV.cells])|(refine hK ?_;clear hK hS hC hC1 K S C hf)))
    all_goals refine aQ ⟨_,rfl,?_⟩
    all_goals first|(simp_all;done)|(simp_all;omega)
   rintro s' ⟨q2,rfl,hq2⟩
   have hfound:(aK (n,f) R).isSome=true↔q2=true:=by
    rw [hlk,hq2]
    constructor
    ·rintro ⟨e,h1,h2⟩
     obtain ⟨hl,h3⟩:=List.getElem?_eq_some_iff.1 h1
     rw [b9 hl,h3] at hg
     rw [hg] at h2
     simp only [Prod.mk.injEq] at h2
     exact ⟨hl,h2⟩
    ·rintro ⟨hl,rfl,rfl⟩
     rw [b9 hl] at hg
     exact ⟨_,List.getElem?_eq_getElem hl,by rw [hg]⟩
   refine lE rfl rfl (fun hb=>?_) (fun hb=>?_)
   ·rw [if_pos (hfound.2 hb)]
    refine qw0 ?_
    refine ay (.now (fm rfl ?_ ?_))
    all_goals simp only [List.mem_cons,List.not_mem_nil,or_false,forall_eq_or_imp,forall_eq,Option.some.injEq,forall_eq',Mem.af,eq_self,if_true,↓reduceIte,reduceCtorEq,implies_true,not_true_eq_false,false_imp_iff,true_and,and_true,false_and,and_false,imp_self]
   ·have hnf:¬ (aK (n,f) R).isSome=true:=fun h=>by rw [hfound.1 h] at hb;cases hb
    rw [if_neg hnf]
    have hsp2:dQ ltF (n,f) (some (cg old (n,f))) R=R.take i++[((n,f),cg old (n,f))]++R.drop i:=by
     rw [hsp]
     cases hwi:R[i]? with
     | none =>
      have hd:R.drop i=[]:=List.drop_eq_nil_of_le (List.getElem?_eq_none_iff.1 hwi)
      simp only [hd,eX,List.append_nil]
     | some q' =>
      have:¬ q'.1=(n,f):=fun e=>hnf (hlk.2 ⟨q',hwi,e⟩)
      simp only [if_neg this];rfl
    have hnames:=fun p=>pZ old hold n hn p
    obtain ⟨l1,l2⟩:=iL hold n
    have henc:=fun p=>nY (aU old n) (by omega) (by omega) p
    have hget:=fun p=>uL old (by omega) n p
    have hval:=fun p=>pR (aF old n) (la hold n) (ox hnat n) p
    cases f with
    | true =>
     rw [show cg old (n,true)=cG (aU old n) from if_pos rfl] at *
     generalize aU old n=A at *
     (repeat (first|(refine aA rfl rfl ?_)|(refine az rfl rfl ?_)|(refine ar nmd [] hng (by kernel_rfl) fun hf C S K hC1 hC hS hK=>?_;simp (disch:=first|omega|assumption) only [go_sem,Oid.ab hr,Oid.aa hr];(repeat ((first|refine hC1 _ (hnames _) (by simp (disch:=first|omega|assumption) only [go_sem]) ?_|refine hC1 _ (henc _) (by simp (disch:=first|omega|assumption) only [go_sem]) ?_);simp (disch:=first|omega|assumption) only [go_sem]));refine hK ?_;clear hK hS hC hC1 K S C hf)|((first|refine zn ?_|refine ze ?_|refine zk ?_);with_reducible (constructor;repeat constructor);try refine zl ?_)))
     refine cK (gq (.sub (c' + 1+1+1+1+1+1+1+1) 8 x.p) r 3 ((dQ ltF (n,true) (some (cG A)) R).map aY) [LL,.list 4 (old.map aC),.sl (.sub (c' + 1+1+1+1+1+1+1+1) 8 x.p) 3 (min i R.length+1+(R.length - i)),.list 1 (W.map fun q=>.str q.1),.bool true] [LL,.list 4 (old.map aC),.list 3 ((dQ ltF (n,true) (some (cG A)) R).map aY),.list 1 (W.map fun q=>.str q.1),.bool true] ?_ ?_ ?_ (.keep (.keep (.gU ?_ (.keep (.keep .nil))))) (.now (bU rfl ?_ ?_)))
     ·simp (disch:=first|omega|assumption) only [go_sem,Oid.ab hr,Oid.aa hr]
      rw [hsp2];simp [aY]
     ·simp (disch:=first|omega|assumption) only [go_sem,Oid.ab hr,Oid.aa hr]
     ·exact fun e=>hr (e ▸ Oid.ae (Oid.aq _))
     ·rw [hsp2];simp only [List.length_map,List.length_append,List.length_take,List.length_drop,List.length_cons,List.length_nil]
     ·simp (disch:=first|omega|assumption) only [go_sem,Oid.ab hr,Oid.aa hr]
      all_goals simp only [List.mem_cons,List.not_mem_nil,or_false,forall_eq_or_imp,forall_eq,Option.some.injEq,forall_eq',Mem.af,eq_self,if_true,↓reduceIte,reduceCtorEq,implies_true,not_true_eq_false,false_imp_iff,true_and,and_true,false_and,and_false,imp_self]
     ·simp (disch:=first|omega|assumption) only [go_sem,Oid.ab hr,Oid.aa hr]
      all_goals simp only [List.mem_cons,List.not_mem_nil,or_false,forall_eq_or_imp,forall_eq,Option.some.injEq,forall_eq',Mem.af,eq_self,if_true,↓reduceIte,reduceCtorEq,implies_true,not_true_eq_false,false_imp_iff,true_and,and_true,false_and,and_false,imp_self]
    | false =>
     rw [show cg old (n,false)=cC (aF old n) from if_neg Bool.false_ne_true] at *
     generalize aF old n=B at *
     simp only [Bits.av] at hget hval
     (repeat (first|(refine aA rfl rfl ?_)|(refine az rfl rfl ?_)|(refine ar nmd [] hng (by kernel_rfl) fun hf C S K hC1 hC hS hK=>?_;simp (disch:=first|omega|assumption) only [go_sem,Oid.ab hr,Oid.aa hr];(repeat ((first|refine hC1 _ (hget _) (by simp (disch:=first|omega|assumption) only [go_sem]) ?_|refine hC1 _ (hval _) (by simp (disch:=first|omega|assumption) only [go_sem]) ?_);simp (disch:=first|omega|assumption) only [go_sem]));refine hK ?_;clear hK hS hC hC1 K S C hf)|((first|refine zn ?_|refine ze ?_|refine zk ?_);with_reducible (constructor;repeat constructor);try refine zl ?_)))
     refine cK (gq (.sub (c' + 1+1+1+1+1+1+1+1) 8 x.p) r 3 ((dQ ltF (n,false) (some (cC B)) R).map aY) [LL,.list 4 (old.map aC),.sl (.sub (c' + 1+1+1+1+1+1+1+1) 8 x.p) 3 (min i R.length+1+(R.length - i)),.list 1 (W.map fun q=>.str q.1),.bool true] [LL,.list 4 (old.map aC),.list 3 ((dQ ltF (n,false) (some (cC B)) R).map aY),.list 1 (W.map fun q=>.str q.1),.bool true] ?_ ?_ ?_ (.keep (.keep (.gU ?_ (.keep (.keep .nil))))) (.now (bU rfl ?_ ?_)))
     ·simp (disch:=first|omega|assumption) only [go_sem,Oid.ab hr,Oid.aa hr]
      rw [hsp2];simp [aY]
     ·simp (disch:=first|omega|assumption) only [go_sem,Oid.ab hr,Oid.aa hr]
     ·exact fun e=>hr (e ▸ Oid.ae (Oid.aq _))
     ·rw [hsp2];simp only [List.length_map,List.length_append,List.length_take,List.length_drop,List.length_cons,List.length_nil]
     ·simp (disch:=first|omega|assumption) only [go_sem,Oid.ab hr,Oid.aa hr]
      all_goals simp only [List.mem_cons,List.not_mem_nil,or_false,forall_eq_or_imp,forall_eq,Option.some.injEq,forall_eq',Mem.af,eq_self,if_true,↓reduceIte,reduceCtorEq,implies_true,not_true_eq_false,false_imp_iff,true_and,and_true,false_and,and_false,imp_self]
     ·simp (disch:=first|omega|assumption) only [go_sem,Oid.ab hr,Oid.aa hr]
      all_goals simp only [List.mem_cons,List.not_mem_nil,or_false,forall_eq_or_imp,forall_eq,Option.some.injEq,forall_eq',Mem.af,eq_self,if_true,↓reduceIte,reduceCtorEq,implies_true,not_true_eq_false,false_imp_iff,true_and,and_true,false_and,and_false,imp_self]
end Go.Proofs.YtmoaidkglldhcaaGreatDoor
namespace Go.Proofs.YtmoaidkglldhcaaGreatDoor
open Go Go.Ab
set_option maxRecDepth 20000
set_option maxHeartbeats 4000000
theorem p0 (o:Oid) (eso:List ME) (co:Nat) (old:PL) (hm:fH eso old) (hs:aV ltB old) (ho:POk old) (n:Str) (hn:n.length≤140737488355000) (f:Bool) (p:Oid) (hp:p.mono=false) (u1:¬ Oid.under p o) :
  ah Tryz.prog 87 [.map o,cI (n,f)] (Oid.under p) ⟨[(o,.map [.ss] false eso co)],.str (cg old (n,f)),[]⟩:=by
 have u1':∀ c i,¬ Oid.under (.sub c i p) o:=fun c i h=>u1 (Oid.ae h)
 have hkl:=fun e he=>Nat.le_trans (ov hm ho e he) (show 1000000≤140737488355328 by decide)
 have hol:=ho.len
 have hel:eso.length≤2000000000000:=by rw [k9 hm];omega
 have hnm:=fun p h=>ou o n hn eso co hkl hel p h
 rw [lQ hm hs] at hnm
 obtain ⟨l1,l2⟩:=iL ho n
 have hen:=fun p hp=>pP (aU old n) (by omega) (by omega) p hp
 have hat:=fun p h=>vO o o eso co p h h n ((aK n old).getD Bits.no) (k8 hm n)
 have hgp:(if n=[] then (⟨2,7,[]⟩:Bits) else (aK n old).getD Bits.no)=aF old n:=rfl
 rw [hgp] at hat
 have hv:=fun p hp=>sU (aF old n) (la ho n) p hp
 simp only [cI]
 refine aD (n:=17) (rs:=[.tmp 4]) Tryz.func87 rfl rfl (by decide) rfl rfl rfl ?_;rintro x rfl hrd hng
 refine qr .o (uu u1) trivial ?_
 cases f with
 | true =>
  rw [show cg old (n,true)=cG (aU old n) from if_pos rfl]
  generalize aU old n=A at *
  (repeat (first|(refine aA rfl rfl ?_)|(refine az rfl rfl ?_)|(refine ar nmd [] hng (by kernel_rfl) fun hf C S K hC1 hC hS hK=>?_;simp (disch:=first|omega|assumption) only [go_sem,Oid.ab u1,Oid.aa u1];(repeat ((first|refine hC1 _ (hnm _ (u1' _ _)) (by simp (disch:=first|omega|assumption) only [go_sem]) ?_|refine hC1 _ (hen _ (aw rfl hp)) (by simp (disch:=first|omega|assumption) only [go_sem]) ?_);simp (disch:=first|omega|assumption) only [go_sem]));refine hK ?_;clear hK hS hC hC1 K S C hf)|((first|refine zn ?_|refine ze ?_|refine zk ?_);with_reducible (constructor;repeat constructor);try refine zl ?_)))
  refine ay (aX rfl ?_ ?_)
  all_goals simp only [List.mem_cons,List.not_mem_nil,or_false,forall_eq_or_imp,forall_eq,Option.some.injEq,forall_eq',Mem.af,eq_self,if_true,↓reduceIte,reduceCtorEq,implies_true,not_true_eq_false,false_imp_iff,true_and,and_true,false_and,and_false,imp_self,Oid.ab u1,Oid.aa u1]
 | false =>
  rw [show cg old (n,false)=cC (aF old n) from if_neg Bool.false_ne_true]
  generalize aF old n=B at *
  simp only [Bits.av] at hat hv
  (repeat (first|(refine aA rfl rfl ?_)|(refine az rfl rfl ?_)|(refine ar nmd [] hng (by kernel_rfl) fun hf C S K hC1 hC hS hK=>?_;simp (disch:=first|omega|assumption) only [go_sem,Oid.ab u1,Oid.aa u1];(repeat ((first|refine hC1 _ (hat _ (u1' _ _)) (by simp (disch:=first|omega|assumption) only [go_sem]) ?_|refine hC1 _ (hv _ (aw rfl hp)) (by simp (disch:=first|omega|assumption) only [go_sem]) ?_);simp (disch:=first|omega|assumption) only [go_sem]));refine hK ?_;clear hK hS hC hC1 K S C hf)|((first|refine zn ?_|refine ze ?_|refine zk ?_);with_reducible (constructor;repeat constructor);try refine zl ?_)))
  refine ay (aX rfl ?_ ?_)
  all_goals simp only [List.mem_cons,List.not_mem_nil,or_false,forall_eq_or_imp,forall_eq,Option.some.injEq,forall_eq',Mem.af,eq_self,if_true,↓reduceIte,reduceCtorEq,implies_true,not_true_eq_false,false_imp_iff,true_and,and_true,false_and,and_false,imp_self,Oid.ab u1,Oid.aa u1]
def eo (f w h:Bool) (k v:AV) (es:List ME) (c:Nat):List ME × Nat:=if ((!f && w) || h)=true then (es,c) else (fL k v c es,c+1)
section
variable (st t tr o rd wr:Oid) (hn:[wr,rd,o,tr,t,st].Nodup) (es eso esr esw:List ME) (clock co cr cw:Nat)
include hn
theorem ta (old:PL) (hm:fH eso old) (hs:aV ltB old) (ho:POk old) (n:Str) (hnl:n.length≤140737488355000) (f w h:Bool) (hw:ic (.str n) (.bool false) esw = .bool w) (hh:dY (cI (n,f)) esr=h) (p:Oid) (hp:p.mono=false) (hu:∀ i ∈ [st,t,tr,o,rd,wr],¬ Oid.under p i) :
  ah Tryz.prog 73 [.ptr st 0,cI (n,f)] (Oid.under p) ⟨[(st,.cells [.map t,.ptr tr 0]),(t,.map [.ss] false es clock),(tr,.cells [.map o,.map rd,.map wr]),(o,.map [.ss] false eso co),(rd,.map [.ss,.sb] true esr cr),(wr,.map [.ss] false esw cw)],.tuple [],[(rd,some (.map [.ss,.sb] true (eo f w h (cI (n,f)) (.str (cg old (n,f))) esr cr).1 (eo f w h (cI (n,f)) (.str (cg old (n,f))) esr cr).2))]⟩:=by
 simp only [List.nodup_cons,List.mem_cons,List.not_mem_nil,or_false,not_or,not_false_eq_true,List.nodup_nil,and_true] at hn;simp only [List.mem_cons,List.not_mem_nil,or_false,forall_eq_or_imp,forall_eq] at hu;have hd:=hn;obtain ⟨u1,u2,u3,u4,u5,u6⟩:=hu
 have u4':∀ c i,¬ Oid.under (.sub c i p) o:=fun c i h=>u4 (Oid.ae h)
 have hval:=fun p hp h=>p0 o eso co old hm hs ho n hnl f p hp h
 generalize cg old (n,f)=V at *
 simp only [cI] at hval hh ⊢
 refine aD (n:=59) (rs:=[]) Tryz.func73 rfl rfl (by decide) rfl rfl rfl ?_;rintro x rfl hrd hng
 cases f with
 | false =>
  cases w with
  | true =>
   refine qr .o (ai hd (ai (uu u1) (ai (uu u2) (ai (uu u3) (ai (uu u4) (ai (uu u5) (uu u6))))))) trivial ?_
   refine cV nmd [(5,11),(9,15)] [] mixed hng (by kernel_rfl) [0,3,27] fun hf C S K hC hS hK=>?_;simp (disch:=first|omega|assumption) only [go_sem,hw,hd,Oid.ab u1,Oid.aa u1,Oid.ab u2,Oid.aa u2,Oid.ab u3,Oid.aa u3,Oid.ab u4,Oid.aa u4,Oid.ab u5,Oid.aa u5,Oid.ab u6,Oid.aa u6]
   (first|refine hK (aT rfl) ?_|refine hK (by simp (disch:=first|omega|assumption) only [go_sem,List.reverse_cons,List.reverse_nil,ne_eq,not_false_eq_true,implies_true]) ?_);clear hK hS hC K S C hf
   refine qw0 ?_
   refine ay (aX rfl ?_ ?_)
   all_goals simp only [List.mem_cons,List.not_mem_nil,or_false,forall_eq_or_imp,forall_eq,Option.some.injEq,forall_eq',Mem.af,eq_self,if_true,↓reduceIte,reduceCtorEq,implies_true,not_true_eq_false,false_imp_iff,true_and,and_true,false_and,and_false,imp_self,hd,Oid.ab u1,Oid.aa u1,Oid.ab u2,Oid.aa u2,Oid.ab u3,Oid.aa u3,Oid.ab u4,Oid.aa u4,Oid.ab u5,Oid.aa u5,Oid.ab u6,Oid.aa u6,eo,Bool.not_false,Bool.true_and,Bool.true_or]
  | false =>
   refine qr .o (ai hd (ai (uu u1) (ai (uu u2) (ai (uu u3) (ai (uu u4) (ai (uu u5) (uu u6))))))) trivial ?_
   refine cV nmd [(5,11),(9,15)] [] mixed hng (by kernel_rfl) [0,3,27] fun hf C S K hC hS hK=>?_;simp (disch:=first|omega|assumption) only [go_sem,hw,hd,Oid.ab u1,Oid.aa u1,Oid.ab u2,Oid.aa u2,Oid.ab u3,Oid.aa u3,Oid.ab u4,Oid.aa u4,Oid.ab u5,Oid.aa u5,Oid.ab u6,Oid.aa u6]
   (first|refine hK (aT rfl) ?_|refine hK (by simp (disch:=first|omega|assumption) only [go_sem,List.reverse_cons,List.reverse_nil,ne_eq,not_false_eq_true,implies_true]) ?_);clear hK hS hC K S C hf
   refine qw0 ?_
   (try ((first|refine zn ?_|refine ze ?_|refine zk ?_);with_reducible (constructor;repeat constructor));try refine zl ?_)
   cases h with
   | true =>
    refine cV nmd [] [] mixed hng (by kernel_rfl) [0,3,5] fun hf C S K hC hS hK=>?_;simp (disch:=first|omega|assumption) only [go_sem,hh,l4,hd,Oid.ab u1,Oid.aa u1,Oid.ab u2,Oid.aa u2,Oid.ab u3,Oid.aa u3,Oid.ab u4,Oid.aa u4,Oid.ab u5,Oid.aa u5,Oid.ab u6,Oid.aa u6]
    (first|refine hK (aT rfl) ?_|refine hK (by simp (disch:=first|omega|assumption) only [go_sem,List.reverse_cons,List.reverse_nil,ne_eq,not_false_eq_true,implies_true]) ?_);clear hK hS hC K S C hf
    refine qw0 ?_
    refine cK (bU rfl ?_ ?_)
    all_goals simp only [List.mem_cons,List.not_mem_nil,or_false,forall_eq_or_imp,forall_eq,Option.some.injEq,forall_eq',Mem.af,eq_self,if_true,↓reduceIte,reduceCtorEq,implies_true,not_true_eq_false,false_imp_iff,true_and,and_true,false_and,and_false,imp_self,hd,Oid.ab u1,Oid.aa u1,Oid.ab u2,Oid.aa u2,Oid.ab u3,Oid.aa u3,Oid.ab u4,Oid.aa u4,Oid.ab u5,Oid.aa u5,Oid.ab u6,Oid.aa u6,eo,Bool.not_false,Bool.true_and,Bool.true_or,Bool.or_true]
   | false =>
    refine cV nmd [] [] mixed hng (by kernel_rfl) [0,3,5] fun hf C S K hC hS hK=>?_;simp (disch:=first|omega|assumption) only [go_sem,hh,l4,hd,Oid.ab u1,Oid.aa u1,Oid.ab u2,Oid.aa u2,Oid.ab u3,Oid.aa u3,Oid.ab u4,Oid.aa u4,Oid.ab u5,Oid.aa u5,Oid.ab u6,Oid.aa u6]
    (first|refine hK (aT rfl) ?_|refine hK (by simp (disch:=first|omega|assumption) only [go_sem,List.reverse_cons,List.reverse_nil,ne_eq,not_false_eq_true,implies_true]) ?_);clear hK hS hC K S C hf
    refine qw0 ?_
    refine cV nmd [] [(3,16),(6,16),(7,16)] mixed hng (by kernel_rfl) [0] fun hf C S K hC hS hK=>?_;simp (disch:=first|omega|assumption) only [go_sem,hh,hd,Oid.ab u1,Oid.aa u1,Oid.ab u2,Oid.aa u2,Oid.ab u3,Oid.aa u3,Oid.ab u4,Oid.aa u4,Oid.ab u5,Oid.aa u5,Oid.ab u6,Oid.aa u6]
    refine hC _ (hval _ (aw rfl hp) (u4' _ _)) (qs (ai hd (ai (uu u1) (ai (uu u2) (ai (uu u3) (ai (uu u4) (ai (uu u5) (uu u6)))))))) ?_
    simp (disch:=first|omega|assumption) only [go_sem,hh,hd,Oid.ab u1,Oid.aa u1,Oid.ab u2,Oid.aa u2,Oid.ab u3,Oid.aa u3,Oid.ab u4,Oid.aa u4,Oid.ab u5,Oid.aa u5,Oid.ab u6,Oid.aa u6]
    (first|refine hK (aT rfl) ?_|refine hK (by simp (disch:=first|omega|assumption) only [go_sem,List.reverse_cons,List.reverse_nil,ne_eq,not_false_eq_true,implies_true]) ?_);clear hK hS hC K S C hf
    refine cK (bU rfl ?_ ?_)
    all_goals simp only [List.mem_cons,List.not_mem_nil,or_false,forall_eq_or_imp,forall_eq,Option.some.injEq,forall_eq',Mem.af,eq_self,if_true,↓reduceIte,reduceCtorEq,implies_true,not_true_eq_false,false_imp_iff,true_and,and_true,false_and,and_false,imp_self,hd,Oid.ab u1,Oid.aa u1,Oid.ab u2,Oid.aa u2,Oid.ab u3,Oid.aa u3,Oid.ab u4,Oid.aa u4,Oid.ab u5,Oid.aa u5,Oid.ab u6,Oid.aa u6,eo,hh,Bool.not_false,Bool.not_true,Bool.true_and,Bool.false_and,Bool.or_false,Bool.false_eq_true]
 | true =>
  refine qr .o (ai hd (ai (uu u1) (ai (uu u2) (ai (uu u3) (ai (uu u4) (ai (uu u5) (uu u6))))))) trivial ?_
  refine cV nmd [(5,11),(9,15)] [] mixed hng (by kernel_rfl) [0,3,27] fun hf C S K hC hS hK=>?_;simp (disch:=first|omega|assumption) only [go_sem,hd,Oid.ab u1,Oid.aa u1,Oid.ab u2,Oid.aa u2,Oid.ab u3,Oid.aa u3,Oid.ab u4,Oid.aa u4,Oid.ab u5,Oid.aa u5,Oid.ab u6,Oid.aa u6]
  (first|refine hK (aT rfl) ?_|refine hK (by simp (disch:=first|omega|assumption) only [go_sem,List.reverse_cons,List.reverse_nil,ne_eq,not_false_eq_true,implies_true]) ?_);clear hK hS hC K S C hf
  refine qw0 ?_
  (try ((first|refine zn ?_|refine ze ?_|refine zk ?_);with_reducible (constructor;repeat constructor));try refine zl ?_)
  cases h with
  | true =>
   refine cV nmd [] [] mixed hng (by kernel_rfl) [0,3,5] fun hf C S K hC hS hK=>?_;simp (disch:=first|omega|assumption) only [go_sem,hh,l4,hd,Oid.ab u1,Oid.aa u1,Oid.ab u2,Oid.aa u2,Oid.ab u3,Oid.aa u3,Oid.ab u4,Oid.aa u4,Oid.ab u5,Oid.aa u5,Oid.ab u6,Oid.aa u6]
   (first|refine hK (aT rfl) ?_|refine hK (by simp (disch:=first|omega|assumption) only [go_sem,List.reverse_cons,List.reverse_nil,ne_eq,not_false_eq_true,implies_true]) ?_);clear hK hS hC K S C hf
   refine qw0 ?_
   refine cK (bU rfl ?_ ?_)
   all_goals simp only [List.mem_cons,List.not_mem_nil,or_false,forall_eq_or_imp,forall_eq,Option.some.injEq,forall_eq',Mem.af,eq_self,if_true,↓reduceIte,reduceCtorEq,implies_true,not_true_eq_false,false_imp_iff,true_and,and_true,false_and,and_false,imp_self,hd,Oid.ab u1,Oid.aa u1,Oid.ab u2,Oid.aa u2,Oid.ab u3,Oid.aa u3,Oid.ab u4,Oid.aa u4,Oid.ab u5,Oid.aa u5,Oid.ab u6,Oid.aa u6,eo,Bool.not_false,Bool.true_and,Bool.true_or,Bool.or_true]
  | false =>
   refine cV nmd [] [] mixed hng (by kernel_rfl) [0,3,5] fun hf C S K hC hS hK=>?_;simp (disch:=first|omega|assumption) only [go_sem,hh,l4,hd,Oid.ab u1,Oid.aa u1,Oid.ab u2,Oid.aa u2,Oid.ab u3,Oid.aa u3,Oid.ab u4,Oid.aa u4,Oid.ab u5,Oid.aa u5,Oid.ab u6,Oid.aa u6]
   (first|refine hK (aT rfl) ?_|refine hK (by simp (disch:=first|omega|assumption) only [go_sem,List.reverse_cons,List.reverse_nil,ne_eq,not_false_eq_true,implies_true]) ?_);clear hK hS hC K S C hf
   refine qw0 ?_
   refine cV nmd [] [(3,16),(6,16),(7,16)] mixed hng (by kernel_rfl) [0] fun hf C S K hC hS hK=>?_;simp (disch:=first|omega|assumption) only [go_sem,hh,hd,Oid.ab u1,Oid.aa u1,Oid.ab u2,Oid.aa u2,Oid.ab u3,Oid.aa u3,Oid.ab u4,Oid.aa u4,Oid.ab u5,Oid.aa u5,Oid.ab u6,Oid.aa u6]
   refine hC _ (hval _ (aw rfl hp) (u4' _ _)) (qs (ai hd (ai (uu u1) (ai (uu u2) (ai (uu u3) (ai (uu u4) (ai (uu u5) (uu u6)))))))) ?_
   simp (disch:=first|omega|assumption) only [go_sem,hh,hd,Oid.ab u1,Oid.aa u1,Oid.ab u2,Oid.aa u2,Oid.ab u3,Oid.aa u3,Oid.ab u4,Oid.aa u4,Oid.ab u5,Oid.aa u5,Oid.ab u6,Oid.aa u6]
   (first|refine hK (aT rfl) ?_|refine hK (by simp (disch:=first|omega|assumption) only [go_sem,List.reverse_cons,List.reverse_nil,ne_eq,not_false_eq_true,implies_true]) ?_);clear hK hS hC K S C hf
   refine cK (bU rfl ?_ ?_)
   all_goals simp only [List.mem_cons,List.not_mem_nil,or_false,forall_eq_or_imp,forall_eq,Option.some.injEq,forall_eq',Mem.af,eq_self,if_true,↓reduceIte,reduceCtorEq,implies_true,not_true_eq_false,false_imp_iff,true_and,and_true,false_and,and_false,imp_self,hd,Oid.ab u1,Oid.aa u1,Oid.ab u2,Oid.aa u2,Oid.ab u3,Oid.aa u3,Oid.ab u4,Oid.aa u4,Oid.ab u5,Oid.aa u5,Oid.ab u6,Oid.aa u6,eo,hh,Bool.not_false,Bool.not_true,Bool.true_and,Bool.false_and,Bool.or_false,Bool.false_eq_true]
end
end Go.Proofs.YtmoaidkglldhcaaGreatDoor
namespace Go.Proofs.YtmoaidkglldhcaaGreatDoor
open Go Go.Ab
set_option maxRecDepth 20000
set_option maxHeartbeats 4000000
section
variable (st t tr o rd wr:Oid) (hn:[wr,rd,o,tr,t,st].Nodup) (es eso esr esw:List ME) (clock co cr cw:Nat)
include hn
theorem FL (old L:PL) (hm:fH eso old) (hs:aV ltB old) (ho:POk old) (hm1:fH es L) (n:Str) (hnl:n.length≤140737488355000) (w h:Bool) (hw:ic (.str n) (.bool false) esw = .bool w) (hh:dY (cI (n,false)) esr=h) (p:Oid) (hp:p.mono=false) (hu:∀ i ∈ [st,t,tr,o,rd,wr],¬ Oid.under p i) :
  ah Tryz.prog 27 [.ptr st 0,.str n] (Oid.under p) ⟨[(st,.cells [.map t,.ptr tr 0]),(t,.map [.ss] false es clock),(tr,.cells [.map o,.map rd,.map wr]),(o,.map [.ss] false eso co),(rd,.map [.ss,.sb] true esr cr),(wr,.map [.ss] false esw cw)],(aF L n).av,[(rd,some (.map [.ss,.sb] true (eo false w h (cI (n,false)) (.str (cg old (n,false))) esr cr).1 (eo false w h (cI (n,false)) (.str (cg old (n,false))) esr cr).2))]⟩:=by
 have hrd':=fun p hp hu=>ta st t tr o rd wr hn es eso esr esw clock co cr cw old hm hs ho n hnl false w h hw hh p hp hu
 have hat:=fun p h=>vO t t es clock p h h n ((aK n L).getD Bits.no) (k8 hm1 n)
 have hgp:(if n=[] then (⟨2,7,[]⟩:Bits) else (aK n L).getD Bits.no)=aF L n:=rfl
 rw [hgp] at hat
 have hu':∀ c j,∀ i ∈ [st,t,tr,o,rd,wr],¬ Oid.under (.sub c j p) i:=fun c j i hi h=>hu i hi (Oid.ae h)
 simp only [List.nodup_cons,List.mem_cons,List.not_mem_nil,or_false,not_or,not_false_eq_true,List.nodup_nil,and_true] at hn;simp only [List.mem_cons,List.not_mem_nil,or_false,forall_eq_or_imp,forall_eq] at hu;have hd:=hn;obtain ⟨u1,u2,u3,u4,u5,u6⟩:=hu
 have u2':∀ c i,¬ Oid.under (.sub c i p) t:=fun c i h=>u2 (Oid.ae h)
 generalize (eo false w h (cI (n,false)) (.str (cg old (n,false))) esr cr).1=E1 at *
 generalize (eo false w h (cI (n,false)) (.str (cg old (n,false))) esr cr).2=C1 at *
 generalize aF L n=B at *
 simp only [Bits.av,cI] at *
 refine aD (n:=15) (rs:=[.cell 4 50]) Tryz.func27 rfl rfl (by decide) rfl rfl rfl ?_;rintro x rfl hrd hng
 refine qw (ai hd (ai (uu u1) (ai (uu u2) (ai (uu u3) (ai (uu u4) (ai (uu u5) (uu u6))))))) ?_
 refine ar nmd [] hng (by kernel_rfl) fun hf C S K hC1 hC hS hK=>?_;simp (disch:=first|omega|assumption) only [go_sem,hd,Oid.ab u1,Oid.aa u1,Oid.ab u2,Oid.aa u2,Oid.ab u3,Oid.aa u3,Oid.ab u4,Oid.aa u4,Oid.ab u5,Oid.aa u5,Oid.ab u6,Oid.aa u6]
 refine hC1 _ (hrd' _ (aw rfl hp) (hu' _ _)) (qs (ai hd (ai (uu u1) (ai (uu u2) (ai (uu u3) (ai (uu u4) (ai (uu u5) (uu u6)))))))) ?_
 simp (disch:=first|omega|assumption) only [go_sem,hd,Oid.ab u1,Oid.aa u1,Oid.ab u2,Oid.aa u2,Oid.ab u3,Oid.aa u3,Oid.ab u4,Oid.aa u4,Oid.ab u5,Oid.aa u5,Oid.ab u6,Oid.aa u6]
 refine hK ?_;clear hK hS hC hC1 K S C hf
 refine qr .o (ai hd (ai (uu u1) (ai (uu u2) (ai (uu u3) (ai (uu u4) (ai (uu u5) (uu u6))))))) (cq (hat _ (u2' _ _)) trivial) ?_
 refine qw (ai hd (ai (uu u1) (ai (uu u2) (ai (uu u3) (ai (uu u4) (ai (uu u5) (uu u6))))))) ?_
 refine ay (aX (qs (ai hd (ai (uu u1) (ai (uu u2) (ai (uu u3) (ai (uu u4) (ai (uu u5) (uu u6)))))))) ?_ ?_)
 all_goals simp only [List.mem_cons,List.not_mem_nil,or_false,forall_eq_or_imp,forall_eq,Option.some.injEq,forall_eq',Mem.af,eq_self,if_true,↓reduceIte,reduceCtorEq,implies_true,not_true_eq_false,false_imp_iff,true_and,and_true,false_and,and_false,imp_self,hd,Oid.ab u1,Oid.aa u1,Oid.ab u2,Oid.aa u2,Oid.ab u3,Oid.aa u3,Oid.ab u4,Oid.aa u4,Oid.ab u5,Oid.aa u5,Oid.ab u6,Oid.aa u6]
theorem xN (old L:PL) (hm:fH eso old) (hs:aV ltB old) (ho:POk old) (hm1:fH es L) (hs1:aV ltB L) (ho1:POk L) (n:Str) (hnl:n.length≤140737488355000) (w h:Bool) (hw:ic (.str n) (.bool false) esw = .bool w) (hh:dY (cI (n,true)) esr=h) (p:Oid) (hp:p.mono=false) (hu:∀ i ∈ [st,t,tr,o,rd,wr],¬ Oid.under p i) :
  ah Tryz.prog 88 [.ptr st 0,.str n] (Oid.under p) ⟨[(st,.cells [.map t,.ptr tr 0]),(t,.map [.ss] false es clock),(tr,.cells [.map o,.map rd,.map wr]),(o,.map [.ss] false eso co),(rd,.map [.ss,.sb] true esr cr),(wr,.map [.ss] false esw cw)],.list 1 ((aU L n).map AV.str),[(rd,some (.map [.ss,.sb] true (eo true w h (cI (n,true)) (.str (cg old (n,true))) esr cr).1 (eo true w h (cI (n,true)) (.str (cg old (n,true))) esr cr).2))]⟩:=by
 have hrd':=fun p hp hu=>ta st t tr o rd wr hn es eso esr esw clock co cr cw old hm hs ho n hnl true w h hw hh p hp hu
 have hkl:=fun e he=>Nat.le_trans (ov hm1 ho1 e he) (show 1000000≤140737488355328 by decide)
 have hol:=ho1.len
 have hel:es.length≤2000000000000:=by rw [k9 hm1];omega
 have hnm:=fun p h=>ou t n hnl es clock hkl hel p h
 rw [lQ hm1 hs1] at hnm
 have hu':∀ c j,∀ i ∈ [st,t,tr,o,rd,wr],¬ Oid.under (.sub c j p) i:=fun c j i hi h=>hu i hi (Oid.ae h)
 simp only [List.nodup_cons,List.mem_cons,List.not_mem_nil,or_false,not_or,not_false_eq_true,List.nodup_nil,and_true] at hn;simp only [List.mem_cons,List.not_mem_nil,or_false,forall_eq_or_imp,forall_eq] at hu;have hd:=hn;obtain ⟨u1,u2,u3,u4,u5,u6⟩:=hu
 have u2':∀ c i,¬ Oid.under (.sub c i p) t:=fun c i h=>u2 (Oid.ae h)
 generalize (eo true w h (cI (n,true)) (.str (cg old (n,true))) esr cr).1=E1 at *
 generalize (eo true w h (cI (n,true)) (.str (cg old (n,true))) esr cr).2=C1 at *
 generalize aU L n=B at *
 simp only [cI] at *
 refine aD (n:=15) (rs:=[.tmp 4]) Tryz.func88 rfl rfl (by decide) rfl rfl rfl ?_;rintro x rfl hrd hng
 refine qw (ai hd (ai (uu u1) (ai (uu u2) (ai (uu u3) (ai (uu u4) (ai (uu u5) (uu u6))))))) ?_
 refine ar nmd [] hng (by kernel_rfl) fun hf C S K hC1 hC hS hK=>?_;simp (disch:=first|omega|assumption) only [go_sem,hd,Oid.ab u1,Oid.aa u1,Oid.ab u2,Oid.aa u2,Oid.ab u3,Oid.aa u3,Oid.ab u4,Oid.aa u4,Oid.ab u5,Oid.aa u5,Oid.ab u6,Oid.aa u6]
 refine hC1 _ (hrd' _ (aw rfl hp) (hu' _ _)) (qs (ai hd (ai (uu u1) (ai (uu u2) (ai (uu u3) (ai (uu u4) (ai (uu u5) (uu u6)))))))) ?_
 simp (disch:=first|omega|assumption) only [go_sem,hd,Oid.ab u1,Oid.aa u1,Oid.ab u2,Oid.aa u2,Oid.ab u3,Oid.aa u3,Oid.ab u4,Oid.aa u4,Oid.ab u5,Oid.aa u5,Oid.ab u6,Oid.aa u6]
 refine hK ?_;clear hK hS hC hC1 K S C hf
 refine qr .o (ai hd (ai (uu u1) (ai (uu u2) (ai (uu u3) (ai (uu u4) (ai (uu u5) (uu u6))))))) (cq (hnm _ (u2' _ _)) trivial) ?_
 refine qw (ai hd (ai (uu u1) (ai (uu u2) (ai (uu u3) (ai (uu u4) (ai (uu u5) (uu u6))))))) ?_
 refine ay (aX rfl ?_ ?_)
 all_goals simp only [List.mem_cons,List.not_mem_nil,or_false,forall_eq_or_imp,forall_eq,Option.some.injEq,forall_eq',Mem.af,eq_self,if_true,↓reduceIte,reduceCtorEq,implies_true,not_true_eq_false,false_imp_iff,true_and,and_true,false_and,and_false,imp_self,hd,Oid.ab u1,Oid.aa u1,Oid.ab u2,Oid.aa u2,Oid.ab u3,Oid.aa u3,Oid.ab u4,Oid.aa u4,Oid.ab u5,Oid.aa u5,Oid.ab u6,Oid.aa u6]
def lb (n:Str) (es:List ME) (c:Nat):List ME × Nat:=if n=[] then (es,c) else (fL (.str n) (.bool true) c es,if dY (.str n) es=true then c else c+1)
theorem Dj (n:Str) (b:Bits) (p:Oid) (hp:p.mono=false) (hu:∀ i ∈ [st,t,tr,o,rd,wr],¬ Oid.under p i) :
  ah Tryz.prog 43 [.ptr st 0,.str n,b.av] (Oid.under p) ⟨[(st,.cells [.map t,.ptr tr 0]),(t,.map [.ss] false es clock),(tr,.cells [.map o,.map rd,.map wr]),(o,.map [.ss] false eso co),(rd,.map [.ss,.sb] true esr cr),(wr,.map [.ss] false esw cw)],.tuple [],[(t,some (.map [.ss] false (q7 n b es clock) (q8 n b es clock))),(wr,some (.map [.ss] false (lb n esw cw).1 (lb n esw cw).2))]⟩:=by
 simp only [List.nodup_cons,List.mem_cons,List.not_mem_nil,or_false,not_or,not_false_eq_true,List.nodup_nil,and_true] at hn;simp only [List.mem_cons,List.not_mem_nil,or_false,forall_eq_or_imp,forall_eq] at hu;have hd:=hn;obtain ⟨u1,u2,u3,u4,u5,u6⟩:=hu
 simp only [Bits.av]
 by_cases hn0:n=[]
 ·unfold q7 q8 lb
  simp only [if_pos hn0]
  refine aD (n:=35) (rs:=[]) Tryz.func43 rfl rfl (by decide) rfl rfl rfl ?_;rintro x rfl hrd hng
  refine qw (ai hd (ai (uu u1) (ai (uu u2) (ai (uu u3) (ai (uu u4) (ai (uu u5) (uu u6))))))) ?_
  refine aS rfl rfl (fun hb=>?_) (fun hb=>?_)
  ·refine qw (ai hd (ai (uu u1) (ai (uu u2) (ai (uu u3) (ai (uu u4) (ai (uu u5) (uu u6))))))) ?_
   refine ay (fm rfl ?_ ?_)
   all_goals simp only [List.mem_cons,List.not_mem_nil,or_false,forall_eq_or_imp,forall_eq,Option.some.injEq,forall_eq',Mem.af,eq_self,if_true,↓reduceIte,reduceCtorEq,implies_true,not_true_eq_false,false_imp_iff,true_and,and_true,false_and,and_false,imp_self,hd,Oid.ab u1,Oid.aa u1,Oid.ab u2,Oid.aa u2,Oid.ab u3,Oid.aa u3,Oid.ab u4,Oid.aa u4,Oid.ab u5,Oid.aa u5,Oid.ab u6,Oid.aa u6]
  ·exact absurd hn0 hb
 ·unfold q7 q8 lb
  simp only [if_neg hn0]
  refine aD (n:=35) (rs:=[]) Tryz.func43 rfl rfl (by decide) rfl rfl rfl ?_;rintro x rfl hrd hng
  refine qw (ai hd (ai (uu u1) (ai (uu u2) (ai (uu u3) (ai (uu u4) (ai (uu u5) (uu u6))))))) ?_
  refine aS rfl rfl (fun hb=>?_) (fun hb=>?_)
  ·exact absurd hb hn0
  ·refine qw (ai hd (ai (uu u1) (ai (uu u2) (ai (uu u3) (ai (uu u4) (ai (uu u5) (uu u6))))))) ?_
   by_cases hk:b.k=0
   ·simp only [if_pos hk]
    refine aS rfl rfl (fun hb=>?_) (fun hb=>?_)
    ·refine qw (ai hd (ai (uu u1) (ai (uu u2) (ai (uu u3) (ai (uu u4) (ai (uu u5) (uu u6))))))) ?_
     refine cK (bU rfl ?_ ?_)
     all_goals simp only [List.mem_cons,List.not_mem_nil,or_false,forall_eq_or_imp,forall_eq,Option.some.injEq,forall_eq',Mem.af,eq_self,if_true,↓reduceIte,reduceCtorEq,implies_true,not_true_eq_false,false_imp_iff,true_and,and_true,false_and,and_false,imp_self,hd,Oid.ab u1,Oid.aa u1,Oid.ab u2,Oid.aa u2,Oid.ab u3,Oid.aa u3,Oid.ab u4,Oid.aa u4,Oid.ab u5,Oid.aa u5,Oid.ab u6,Oid.aa u6]
    ·exact absurd hk hb
   ·simp only [if_neg hk]
    refine aS rfl rfl (fun hb=>?_) (fun hb=>?_)
    ·exact absurd hb hk
    ·(try ((first|refine zn ?_|refine ze ?_|refine zk ?_);with_reducible (constructor;repeat constructor));try refine zl ?_)
     refine qd (.d [] [] [0]) (ai hd (ai (uu u1) (ai (uu u2) (ai (uu u3) (ai (uu u4) (ai (uu u5) (uu u6))))))) trivial ?_
     refine cK (bU rfl ?_ ?_)
     all_goals simp only [List.mem_cons,List.not_mem_nil,or_false,forall_eq_or_imp,forall_eq,Option.some.injEq,forall_eq',Mem.af,eq_self,if_true,↓reduceIte,reduceCtorEq,implies_true,not_true_eq_false,false_imp_iff,true_and,and_true,false_and,and_false,imp_self,Bits.av,hd,Oid.ab u1,Oid.aa u1,Oid.ab u2,Oid.aa u2,Oid.ab u3,Oid.aa u3,Oid.ab u4,Oid.aa u4,Oid.ab u5,Oid.aa u5,Oid.ab u6,Oid.aa u6]
end
end Go.Proofs.YtmoaidkglldhcaaGreatDoor
namespace Go.Proofs.YtmoaidkglldhcaaGreatDoor
open Go Go.Ab
set_option maxRecDepth 100000
set_option maxHeartbeats 2000000
theorem Dk (b:Nat) (es:Array MapEntry) (clock:Nat) (w:World) (hb:w.heap[b]? = some (.map es clock)) :
  Calls Tryz.prog 77 #[.map (some b)] w fun e w'=>e = .returned (.map (some w.heap.size))∧w' = w.alloc (.map es clock):=by
 have hq:=fun w=>run_eql_map_nil_sl (P:=Tryz.prog) w 93 _ _ (some b) Tryz.underlying93
 go_enter Tryz.func77,Tryz.ntmps77
 go_wp2
 rw [run_callFunc_extern Tryz.func103 (by kernel_rfl) (by kernel_rfl) (by kernel_rfl) (e:=Extern.MapsClone.clone) (by kernel_rfl),run_maps_clone_sl w 93 hb]
 simp only [Result.andThen]
 rw [Oper.upon_value]
 go_wp2
 rw [run_typeAssert_map_sl _ 93 20 _ _ _ Tryz.underlying93]
 simp only [Result.andThen]
 rw [Oper.upon_value]
 go_wp2
 go_ret
 exact ⟨rfl,rfl⟩
theorem tc (o:Oid) (ks:List TyS) (ag:Bool) (es:List ME) (clock:Nat) (p:Oid):ah Tryz.prog 77 [.map o] (Oid.under p) ⟨[(o,.map ks ag es clock)],.map (.sub 0 0 p),[(.sub 0 0 p,some (.map ks ag es clock))]⟩ :=
 ⟨by kernel_rfl,fun x g args w m hm hn ha hs hx=>by
  obtain ⟨v,rfl,hv⟩:=ha.one
  obtain ⟨b,rfl,hb⟩:=hv.fv
  have hmi:=hn (o,.map ks ag es clock) (by simp)
  obtain ⟨b',h1,_,_,h4⟩:=hm.obj o _ hmi
  rw [hb] at h1;simp only [Option.some.injEq] at h1;subst h1
  obtain ⟨⟨ents,k1,k2⟩,k3⟩:=h4
  refine (Dk b ents clock w k1).mono ?_
  rintro e w' ⟨rfl,rfl⟩
  obtain ⟨hl,hu⟩:=hs (.sub 0 0 p) (Oid.ae (Oid.aq _))
  have hle:=Gh.bO (b:=w.heap.size) hl
  have hnew:=hm.new (i:=.sub 0 0 p) hl hu (o:=.map ks ag es clock) (ob:=.map ents clock) ⟨⟨ents,b5 _ _,k2.mono hle⟩,k3⟩ (fun t9 h9=>by cases h9)
  refine ⟨g.bind (.sub 0 0 p) w.heap.size,_,rfl,hle,fun i hi=>?_,.map _ _ ?_,hnew⟩
  ·simp only [Gh.bind]
   rw [if_neg]
   rintro rfl
   exact hi (Oid.ae (Oid.aq _))
  ·simp [Gh.bind]⟩
theorem A3 (st t:Oid) (tv:AV) (es:List ME) (clock:Nat) (hts:¬ t=st) (p:Oid) (hs:¬ Oid.under p st) (ht:¬ Oid.under p t) :
  ah Tryz.prog 33 [.ptr st 0] (Oid.under p) ⟨[(st,.cells [.map t,tv]),(t,.map [.ss] false es clock)],.tuple [],[(st,some (.cells [.map t,.ptr (.sub 0 9 p) 0])),(.sub 0 9 p,some (.cells [.map (.sub 0 0 (.sub 0 5 p)),.map (.sub 0 6 p),.map (.sub 0 7 p)])),(.sub 0 0 (.sub 0 5 p),some (.map [.ss] false es clock)),(.sub 0 6 p,some (.map [.ss,.sb] true [] 0)),(.sub 0 7 p,some (.map [.ss] false [] 0))]⟩:=by
 have hs5:¬ Oid.under (.sub 0 5 p) st:=fun h=>hs (Oid.ae h)
 have ht5:¬ Oid.under (.sub 0 5 p) t:=fun h=>ht (Oid.ae h)
 refine aD (n:=14) (rs:=[]) Tryz.func33 rfl rfl (by decide) rfl rfl rfl ?_;rintro x rfl hrd hng
 refine qr .o (ai (uu ht) (ai (uu hs) (ai hts (ai (Oid.aa hs5) (ai (Oid.ab hs5) (ai (Oid.aa ht5) (Oid.ab ht5))))))) (cq (tc t [.ss] false es clock _) trivial) ?_
 refine qw0 ?_
 refine cK (bU rfl ?_ ?_)
 all_goals simp only [List.mem_cons,List.not_mem_nil,or_false,forall_eq_or_imp,forall_eq,Option.some.injEq,forall_eq',Mem.af,eq_self,if_true,↓reduceIte,reduceCtorEq,implies_true,not_true_eq_false,false_imp_iff,true_and,and_true,false_and,and_false,imp_self,Oid.sub.injEq,Nat.reduceEqDiff,Oid.ab ht,Oid.aa ht,Oid.ab hs,Oid.aa hs,hts,Oid.aa hs5,Oid.ab hs5,Oid.aa ht5,Oid.ab ht5]
theorem Dl (st t:Oid) (tv:AV) (es:List ME) (clock:Nat) (hts:¬ t=st) (p:Oid) (hs:¬ Oid.under p st) (ht:¬ Oid.under p t) :
  ah Tryz.prog 42 [.ptr st 0] (Oid.under p) ⟨[(st,.cells [.map t,tv]),(t,.map [.ss] false es clock)],.ptr (.sub 1 6 p) 0,[(.sub 1 6 p,some (.cells [.map (.sub 0 0 (.sub 1 4 p)),.nilPtr])),(.sub 0 0 (.sub 1 4 p),some (.map [.ss] false es clock))]⟩:=by
 have hs5:¬ Oid.under (.sub 1 4 p) st:=fun h=>hs (Oid.ae h)
 have ht5:¬ Oid.under (.sub 1 4 p) t:=fun h=>ht (Oid.ae h)
 refine aD (n:=10) (rs:=[.tmp 2]) Tryz.func42 rfl rfl (by decide) rfl rfl rfl ?_;rintro x rfl hrd hng
 refine qw (ai (uu ht) (ai (uu hs) (ai hts (ai (Oid.aa hs5) (ai (Oid.ab hs5) (ai (Oid.aa ht5) (Oid.ab ht5))))))) ?_
 refine qr .o (ai (uu ht) (ai (uu hs) (ai hts (ai (Oid.aa hs5) (ai (Oid.ab hs5) (ai (Oid.aa ht5) (Oid.ab ht5))))))) (cq (tc t [.ss] false es clock _) trivial) ?_
 refine qw0 ?_
 refine ay (aX rfl ?_ ?_)
 all_goals simp only [List.mem_cons,List.not_mem_nil,or_false,forall_eq_or_imp,forall_eq,Option.some.injEq,forall_eq',Mem.af,eq_self,if_true,↓reduceIte,reduceCtorEq,implies_true,not_true_eq_false,false_imp_iff,true_and,and_true,false_and,and_false,imp_self,Oid.sub.injEq,Nat.reduceEqDiff,Oid.ab ht,Oid.aa ht,Oid.ab hs,Oid.aa hs,hts,Oid.aa hs5,Oid.ab hs5,Oid.aa ht5,Oid.ab ht5]
end Go.Proofs.YtmoaidkglldhcaaGreatDoor
namespace Go.Proofs.YtmoaidkglldhcaaGreatDoor
open Go Go.Ab
structure Tr where
 old:PL
 R:RL
 W:WL
structure St where
 L:PL
 t:Option Tr
def Tr.read (q:Tr) (f:Str × Bool):Tr:={ q with R:=cj q.old q.W f q.R }
def Tr.put (q:Tr) (n:Str):Tr:={ q with W:=eQ true n q.W }
def St.read (s:St) (f:Str × Bool):St:=⟨s.L,s.t.map fun q=>q.read f⟩
def St.put (s:St) (n:Str) (b:Bits):St:=⟨dz n b s.L,s.t.map fun q=>q.put n⟩
def St.begin (s:St):St:=⟨s.L,some ⟨s.L,[],[]⟩⟩
structure TOK (q:Tr):Prop where
 so:aV ltB q.old
 sr:aV ltF q.R
 sw:aV ltB q.W
 po:POk q.old
 no:xL q.old
structure SOK (s:St):Prop where
 sl:aV ltB s.L
 po:POk s.L
 no:xL s.L
 tr:∀ q,s.t=some q→TOK q
theorem oy {old:PL} {W:WL} {f:Str × Bool} {R:RL} (h:aV ltF R):aV ltF (cj old W f R):=by
 unfold cj
 split
 ·exact h
 ·split
  ·exact h
  ·exact gp jT _ _ h
theorem jL {old:PL} {W:WL} {f:Str × Bool} {R:RL} (h:aV ltF R):(cj old W f R).length≤R.length+1:=by
 unfold cj
 split
 ·omega
 ·split
  ·omega
  ·have:=(b6 jT f (some (cg old f)) h).length_eq
   rw [this,List.length_append]
   have:=List.length_filter_le (fun q=>decide (¬ q.1=f)) R
   simp only [eX,List.length_singleton];omega
theorem xO {tr:Bool} {n:Str} {W:WL} (h:aV ltB W):aV ltB (eQ tr n W):=by
 unfold eQ
 split
 ·exact h
 ·split
  ·exact gp gh _ _ h
  ·exact h
theorem SOK.read {s:St} (h:SOK s) (f:Str × Bool):SOK (s.read f) :=
 ⟨h.sl,h.po,h.no,fun q hq=>by
  simp only [St.read,Option.map_eq_some_iff] at hq
  obtain ⟨a,h1,rfl⟩:=hq
  have k:=h.tr a h1
  exact ⟨k.so,oy k.sr,k.sw,k.po,k.no⟩⟩
def cZ (st:Oid) (s:St) (N:List Oid) (F:Oid→ao):Prop:=N.Nodup∧match s.t with
 | none=>∃ (t:Oid) (es:List ME) (clock:Nat),N=[st,t]∧F st = .cells [.map t,.nilPtr]∧F t = .map [.ss] false es clock∧fH es s.L
 | some q=>∃ (t tr o rd wr:Oid) (es eso esr esw:List ME) (clock co cr cw:Nat),N=[st,t,tr,o,rd,wr]∧F st = .cells [.map t,.ptr tr 0]∧F t = .map [.ss] false es clock∧F tr = .cells [.map o,.map rd,.map wr] ∧
   F o = .map [.ss] false eso co∧F rd = .map [.ss,.sb] true esr cr∧F wr = .map [.ss] false esw cw∧fH es s.L∧fH eso q.old∧iW cI AV.str esr q.R∧iW AV.str (fun _:Unit=>.bool true) esw q.W
theorem xP {esw:List ME} {W:WL} (h:iW AV.str (fun _:Unit=>.bool true) esw W) (n:Str):ic (.str n) (.bool false) esw = .bool (aK n W).isSome:=by
 rw [sX encS h]
 cases aK n W<;>rfl
theorem xQ {old:PL} {W:WL} {esr:List ME} {R:RL} (h:iW cI AV.str esr R) (hs:aV ltF R) (n:Str) (f:Bool) (cr:Nat) :
  iW cI AV.str (eo f (aK n W).isSome (aK (n,f) R).isSome (cI (n,f)) (.str (cg old (n,f))) esr cr).1 (cj old W (n,f) R):=by
 unfold eo cj
 by_cases h1:f=false∧(aK n W).isSome=true
 ·rw [if_pos h1,if_pos (by rw [h1.1,h1.2];rfl)];exact h
 ·rw [if_neg h1]
  by_cases h2:(aK (n,f) R).isSome=true
  ·rw [if_pos h2,if_pos (by rw [h2,Bool.or_true])];exact h
  ·rw [if_neg h2,if_neg]
   ·exact oa Gx h (n,f) (cg old (n,f)) cr ((b6 jT (n,f) (some (cg old (n,f))) hs).trans (.refl _))
   ·intro h3
    rw [Bool.or_eq_true,Bool.and_eq_true,Bool.not_eq_true'] at h3
    rcases h3 with h3|h3
    ·exact h1 h3
    ·exact h2 h3
theorem td {st:Oid} {s:St} {N:List Oid} {F:Oid→ao} (h:cZ st s N F) (hs:SOK s) (g:Str × Bool) (f:FuncId) (xs:List AV) (v:AV)
  (h0:∀ (t:Oid) (es:List ME) (clock:Nat),s.t=none→¬ t=st→fH es s.L→∀ p,p.mono=false→¬ Oid.under p st→¬ Oid.under p t→ah Tryz.prog f xs (Oid.under p) ⟨[(st,.cells [.map t,.nilPtr]),(t,.map [.ss] false es clock)],v,[]⟩)
  (h1:∀ (q:Tr) (t tr o rd wr:Oid) (es eso esr esw:List ME) (clock co cr cw:Nat),s.t=some q→[wr,rd,o,tr,t,st].Nodup→fH es s.L→fH eso q.old→ic (.str g.1) (.bool false) esw = .bool (aK g.1 q.W).isSome→dY (cI (g.1,g.2)) esr=(aK (g.1,g.2) q.R).isSome →
   ∀ p,p.mono=false→(∀ i ∈ [st,t,tr,o,rd,wr],¬ Oid.under p i)→ah Tryz.prog f xs (Oid.under p) ⟨[(st,.cells [.map t,.ptr tr 0]),(t,.map [.ss] false es clock),(tr,.cells [.map o,.map rd,.map wr]),(o,.map [.ss] false eso co),(rd,.map [.ss,.sb] true esr cr),(wr,.map [.ss] false esw cw)],v,
    [(rd,some (.map [.ss,.sb] true (eo g.2 (aK g.1 q.W).isSome (aK (g.1,g.2) q.R).isSome (cI (g.1,g.2)) (.str (cg q.old (g.1,g.2))) esr cr).1 (eo g.2 (aK g.1 q.W).isSome (aK (g.1,g.2) q.R).isSome (cI (g.1,g.2)) (.str (cg q.old (g.1,g.2))) esr cr).2))]⟩) :
  ∃ F',cZ st (s.read g) N F'∧∀ p,p.mono=false→a8 p N→ah Tryz.prog f xs (Oid.under p) ⟨bk (N,F),v,sb N F'⟩:=by
 obtain ⟨L,t0⟩:=s
 obtain ⟨hnd,h⟩:=h
 cases t0 with
 | none =>
  obtain ⟨t,es,clock,rfl,k1,k2,k3⟩:=h
  have hts:¬ t=st:=fun e=>by simp [e] at hnd
  refine ⟨F,⟨hnd,t,es,clock,rfl,k1,k2,k3⟩,fun p hp ho=>?_⟩
  refine (h0 t es clock rfl hts k3 p hp (ho _ (by simp)) (ho _ (by simp))).AQ ?_ (fun _ hq=>by cases hq) fun i hi=>jo hi
  rw [bk2,k1,k2];exact fun q hq=>hq
 | some q =>
  obtain ⟨t,tr,o,rd,wr,es,eso,esr,esw,clock,co,cr,cw,rfl,k1,k2,k3,k4,k5,k6,m1,m2,m3,m4⟩:=h
  have hT:=hs.tr q rfl
  have hnd':[wr,rd,o,tr,t,st].Nodup:=(List.reverse_perm [st,t,tr,o,rd,wr]).nodup_iff.2 hnd
  have hc:=h1 q t tr o rd wr es eso esr esw clock co cr cw rfl hnd' m1 m2 (xP m4 g.1) (AF Gx m3 (g.1,g.2))
  have hme:=xQ (old:=q.old) (W:=q.W) m3 hT.sr g.1 g.2 cr
  generalize (eo g.2 (aK g.1 q.W).isSome (aK (g.1,g.2) q.R).isSome (cI (g.1,g.2)) (.str (cg q.old (g.1,g.2))) esr cr).1=E1 at hc hme
  generalize (eo g.2 (aK g.1 q.W).isSome (aK (g.1,g.2) q.R).isSome (cI (g.1,g.2)) (.str (cg q.old (g.1,g.2))) esr cr).2=C1 at hc
  have hn0:=hnd
  simp only [List.nodup_cons,List.mem_cons,List.not_mem_nil,or_false,not_or] at hn0
  obtain ⟨⟨n1,n2,n3,n4,n5⟩,⟨n6,n7,n8,n9⟩,⟨n10,n11,n12⟩,⟨n13,n14⟩,n15,_⟩:=hn0
  refine ⟨kZ F rd (.map [.ss,.sb] true E1 C1),⟨hnd,t,tr,o,rd,wr,es,eso,E1,esw,clock,co,C1,cw,rfl,?_,?_,?_,?_,?_,?_,m1,m2,hme,m4⟩,fun p hp ho=>?_⟩
  ·rw [bm,if_neg n4];exact k1
  ·rw [bm,if_neg n8];exact k2
  ·rw [bm,if_neg n11];exact k3
  ·rw [bm,if_neg n13];exact k4
  ·rw [bm,if_pos rfl]
  ·rw [bm,if_neg fun e=>n15 e.symm];exact k6
  ·refine (hc p hp ho).AQ ?_ (fun q hq=>by rw [List.mem_singleton.1 hq];simp) fun i hi=>?_
   ·rw [bk6,k1,k2,k3,k4,k5,k6];exact fun q hq=>hq
   ·show ((Mem.of _).set rd (some (.map [.ss,.sb] true E1 C1))) i=_
    simp only [Mem.set,bm]
    split
    ·rfl
    ·exact jo hi
theorem A4 {st:Oid} {s:St} {N:List Oid} {F:Oid→ao} (h:cZ st s N F) (hs:SOK s) (n:Str) (hn:n.length≤140737488355000) :
  ∃ F',cZ st (s.read (n,false)) N F'∧∀ p,p.mono=false→a8 p N→ah Tryz.prog 27 [.ptr st 0,.str n] (Oid.under p) ⟨bk (N,F),(aF s.L n).av,sb N F'⟩ :=
 td h hs (n,false) _ _ _
  (fun t es clock _ hts hm p _ h1 h2=>uB st t es clock hts p h1 h2 n ((aK n s.L).getD Bits.no) (k8 hm n))
  (fun q t tr o rd wr es eso esr esw clock co cr cw hq hn' hm hmo hw hh p hp hu=>FL st t tr o rd wr hn' es eso esr esw clock co cr cw q.old s.L hmo (hs.tr q hq).so (hs.tr q hq).po hm n hn _ _ hw hh p hp hu)
theorem xR {st:Oid} {s:St} {N:List Oid} {F:Oid→ao} (h:cZ st s N F) (hs:SOK s) (n:Str) (hn:n.length≤140737488355000) :
  ∃ F',cZ st (s.read (n,true)) N F'∧∀ p,p.mono=false→a8 p N→ah Tryz.prog 88 [.ptr st 0,.str n] (Oid.under p) ⟨bk (N,F),.list 1 ((aU s.L n).map AV.str),sb N F'⟩ :=
 td h hs (n,true) _ _ _
  (fun t es clock _ hts hm p _ h1 h2=>by
   have:=pf st t es clock hts p h1 h2 n hn (fun e he=>Nat.le_trans (ov hm hs.po e he) (by decide)) (by have:=hs.po.len;rw [k9 hm];omega)
   rwa [lQ hm hs.sl] at this)
  (fun q t tr o rd wr es eso esr esw clock co cr cw hq hn' hm hmo hw hh p hp hu=>xN st t tr o rd wr hn' es eso esr esw clock co cr cw q.old s.L hmo (hs.tr q hq).so (hs.tr q hq).po hm hs.sl hs.po n hn _ _ hw hh p hp hu)
end Go.Proofs.YtmoaidkglldhcaaGreatDoor
namespace Go.Proofs.YtmoaidkglldhcaaGreatDoor
open Go Go.Ab
set_option maxRecDepth 20000
set_option maxHeartbeats 4000000
theorem FM (r:Oid) (L:PL) (hL:L.length≤1000000) (n:Str) (o1 r1 w1 b1 o2 r2 w2 b2:AV) (hT:∀ p,¬ Oid.under p r→ah Tryz.prog 93 [.ptr r 0,.str n,.bool false] (Oid.under p) ⟨[(r,.cells [.list 4 (L.map aC),o1,r1,w1,b1])],.tuple [],[(r,some (.cells [.list 4 (L.map aC),o2,r2,w2,b2]))]⟩)
  (p:Oid) (hr:¬ Oid.under p r):ah Tryz.prog 61 [.ptr r 0,.str n] (Oid.under p) ⟨[(r,.cells [.list 4 (L.map aC),o1,r1,w1,b1])],(aF L n).av,[(r,some (.cells [.list 4 (L.map aC),o2,r2,w2,b2]))]⟩:=by
 have hr':∀ c i,¬ Oid.under (.sub c i p) r:=fun c i h=>hr (Oid.ae h)
 have hg:=fun p=>uL L (by omega) n p
 generalize aF L n=B at hg ⊢
 simp only [Bits.av] at hg ⊢
 refine aD (n:=14) (rs:=[.cell 4 50]) Tryz.func61 rfl rfl (by decide) rfl rfl rfl ?_;rintro x rfl hrd hng
 (repeat (first|(refine aA rfl rfl ?_)|(refine az rfl rfl ?_)|(refine ar nmd [] hng (by kernel_rfl) fun hf C S K hC1 hC hS hK=>?_;simp (disch:=first|omega|assumption) only [go_sem,Oid.ab hr,Oid.aa hr];(repeat ((first|refine hC1 _ (hT _ (hr' _ _)) (by simp (disch:=first|omega|assumption) only [go_sem]) ?_|refine hC1 _ (hg _) (by simp (disch:=first|omega|assumption) only [go_sem]) ?_);simp (disch:=first|omega|assumption) only [go_sem]));refine hK ?_;clear hK hS hC hC1 K S C hf)|((first|refine zn ?_|refine ze ?_|refine zk ?_);with_reducible (constructor;repeat constructor);try refine zl ?_)))
 refine ay (aX (qs (uu hr)) ?_ ?_)
 all_goals simp only [List.mem_cons,List.not_mem_nil,or_false,forall_eq_or_imp,forall_eq,Option.some.injEq,forall_eq',Mem.af,eq_self,if_true,↓reduceIte,reduceCtorEq,implies_true,not_true_eq_false,false_imp_iff,true_and,and_true,false_and,and_false,imp_self,Oid.ab hr,Oid.aa hr]
theorem xS (r:Oid) (L:PL) (hL:POk L) (n:Str) (hn:n.length≤140737488355000) (o1 r1 w1 b1 o2 r2 w2 b2:AV) (hT:∀ p,¬ Oid.under p r→ah Tryz.prog 93 [.ptr r 0,.str n,.bool true] (Oid.under p) ⟨[(r,.cells [.list 4 (L.map aC),o1,r1,w1,b1])],.tuple [],[(r,some (.cells [.list 4 (L.map aC),o2,r2,w2,b2]))]⟩)
  (p:Oid) (hr:¬ Oid.under p r):ah Tryz.prog 99 [.ptr r 0,.str n] (Oid.under p) ⟨[(r,.cells [.list 4 (L.map aC),o1,r1,w1,b1])],.list 1 ((aU L n).map AV.str),[(r,some (.cells [.list 4 (L.map aC),o2,r2,w2,b2]))]⟩:=by
 have hr':∀ c i,¬ Oid.under (.sub c i p) r:=fun c i h=>hr (Oid.ae h)
 have hg:=fun p=>pZ L hL n hn p
 generalize aU L n=B at hg ⊢
 refine aD (n:=14) (rs:=[.tmp 4]) Tryz.func99 rfl rfl (by decide) rfl rfl rfl ?_;rintro x rfl hrd hng
 (repeat (first|(refine aA rfl rfl ?_)|(refine az rfl rfl ?_)|(refine ar nmd [] hng (by kernel_rfl) fun hf C S K hC1 hC hS hK=>?_;simp (disch:=first|omega|assumption) only [go_sem,Oid.ab hr,Oid.aa hr];(repeat ((first|refine hC1 _ (hT _ (hr' _ _)) (by simp (disch:=first|omega|assumption) only [go_sem]) ?_|refine hC1 _ (hg _) (by simp (disch:=first|omega|assumption) only [go_sem]) ?_);simp (disch:=first|omega|assumption) only [go_sem]));refine hK ?_;clear hK hS hC hC1 K S C hf)|((first|refine zn ?_|refine ze ?_|refine zk ?_);with_reducible (constructor;repeat constructor);try refine zl ?_)))
 refine ay (aX (qs (uu hr)) ?_ ?_)
 all_goals simp only [List.mem_cons,List.not_mem_nil,or_false,forall_eq_or_imp,forall_eq,Option.some.injEq,forall_eq',Mem.af,eq_self,if_true,↓reduceIte,reduceCtorEq,implies_true,not_true_eq_false,false_imp_iff,true_and,and_true,false_and,and_false,imp_self,Oid.ab hr,Oid.aa hr]
def eR (r:Oid) (s:St) (N:List Oid) (F:Oid→ao):Prop:=N=[r]∧match s.t with
 | none=>∃ OO:AV,F r = .cells [.list 4 (s.L.map aC),OO,.list 3 [],.list 1 [],.bool false]
 | some q=>F r = .cells [.list 4 (s.L.map aC),.list 4 (q.old.map aC),.list 3 (q.R.map aY),.list 1 (q.W.map fun w=>.str w.1),.bool true]
theorem p5 {r:Oid} {s:St} {N:List Oid} {F:Oid→ao} (h:eR r s N F) (hs:SOK s) (hR:∀ q,s.t=some q→q.R.length≤1000000∧q.W.length≤1000000) (g:Str × Bool) (hn:g.1.length≤140737488355000) (f:FuncId) (xs:List AV) (v:AV)
  (h0:∀ (o1 r1 w1 b1 o2 r2 w2 b2:AV),(∀ p,¬ Oid.under p r→ah Tryz.prog 93 [.ptr r 0,.str g.1,.bool g.2] (Oid.under p) ⟨[(r,.cells [.list 4 (s.L.map aC),o1,r1,w1,b1])],.tuple [],[(r,some (.cells [.list 4 (s.L.map aC),o2,r2,w2,b2]))]⟩) →
   ∀ p,¬ Oid.under p r→ah Tryz.prog f xs (Oid.under p) ⟨[(r,.cells [.list 4 (s.L.map aC),o1,r1,w1,b1])],v,[(r,some (.cells [.list 4 (s.L.map aC),o2,r2,w2,b2]))]⟩) :
  ∃ F',eR r (s.read g) N F'∧∀ p,p.mono=false→a8 p N→ah Tryz.prog f xs (Oid.under p) ⟨bk (N,F),v,sb N F'⟩:=by
 obtain ⟨L,t0⟩:=s
 obtain ⟨rfl,h⟩:=h
 cases t0 with
 | none =>
  obtain ⟨OO,hF⟩:=h
  refine ⟨kZ F r (.cells [.list 4 (L.map aC),OO,.list 3 [],.list 1 [],.bool false]),⟨rfl,OO,by rw [bm,if_pos rfl];rfl⟩,fun p _ ho=>?_⟩
  exact (h0 OO (.list 3 []) (.list 1 []) (.bool false) OO (.list 3 []) (.list 1 []) (.bool false) (fun p hp=>mx (xH r L OO (.list 3 []) (.list 1 []) g.1 g.2 p hp) (by simp)) p (ho r (by simp))).one hF
 | some q =>
  have hT:=hs.tr q rfl
  obtain ⟨hR1,hW1⟩:=hR q rfl
  refine ⟨kZ F r (.cells [.list 4 (L.map aC),.list 4 (q.old.map aC),.list 3 ((cj q.old q.W g q.R).map aY),.list 1 (q.W.map fun w=>.str w.1),.bool true]),⟨rfl,by rw [bm,if_pos rfl];rfl⟩,fun p _ ho=>?_⟩
  exact (h0 _ _ _ _ _ _ _ _ (fun p hp=>xM r (.list 4 (L.map aC)) q.old hT.po hT.no q.R hR1 hT.sr q.W hW1 g.1 hn g.2 p hp) p (ho r (by simp))).one h
theorem A5 {r:Oid} {s:St} {N:List Oid} {F:Oid→ao} (h:eR r s N F) (hs:SOK s) (hR:∀ q,s.t=some q→q.R.length≤1000000∧q.W.length≤1000000) (n:Str) (hn:n.length≤140737488355000) :
  ∃ F',eR r (s.read (n,false)) N F'∧∀ p,p.mono=false→a8 p N→ah Tryz.prog 61 [.ptr r 0,.str n] (Oid.under p) ⟨bk (N,F),(aF s.L n).av,sb N F'⟩ :=
 p5 h hs hR (n,false) hn _ _ _ fun o1 r1 w1 b1 o2 r2 w2 b2 hT p hp=>FM r s.L hs.po.len n o1 r1 w1 b1 o2 r2 w2 b2 hT p hp
theorem uO {r:Oid} {s:St} {N:List Oid} {F:Oid→ao} (h:eR r s N F) (hs:SOK s) (hR:∀ q,s.t=some q→q.R.length≤1000000∧q.W.length≤1000000) (n:Str) (hn:n.length≤140737488355000) :
  ∃ F',eR r (s.read (n,true)) N F'∧∀ p,p.mono=false→a8 p N→ah Tryz.prog 99 [.ptr r 0,.str n] (Oid.under p) ⟨bk (N,F),.list 1 ((aU s.L n).map AV.str),sb N F'⟩ :=
 p5 h hs hR (n,true) hn _ _ _ fun o1 r1 w1 b1 o2 r2 w2 b2 hT p hp=>xS r s.L hs.po n hn o1 r1 w1 b1 o2 r2 w2 b2 hT p hp
end Go.Proofs.YtmoaidkglldhcaaGreatDoor
