/- A part of the proof: the texts TQ, KH, KI, KJ, KK, KL, KM, KR, TR, TS, TE, TF, TG, TH, TT, TU, FwS, SortT, Z14, Z18, ShelfB, Z19a, Z19, Z20, Z24, Z29, K9, K10, Z30, K11, K12, Z21, Z22, Z23, Z27, one behind the other. -/
import Derived.Test.YtfbnaalhioogoaaGreatDoorPWe
import Derived.Shelf.SlSortCmp.WholeK
import Derived.Shelf.SlLaysF0
import Derived.Test.YtfbnaalhioogoaaGreatDoorProg
import Derived.Shelf.Small.Bits
set_option linter.unusedVariables false
set_option linter.unusedSimpArgs false
set_option linter.unusedSectionVars false
namespace Go.Proofs.YtfbnaalhioogoaaGreatDoor
open Go Go.Ab
set_option maxRecDepth 20000
set_option maxHeartbeats 4000000
theorem yl (n:Nat) (hn:(n:Int)≤9223372036854775807):∀ p:Oid,aj Tryz.prog 311 [.int .i64 n] (Oid.under p) ⟨[],.str (Lib.decDigits n),[]⟩:=by
 induction n using Nat.strongRecOn with
 | ind n ih =>
  intro p
  have h10:(n:Int).tmod 10=((n % 10:Nat):Int):=dv n 10
  have h11:(n:Int).tdiv 10=((n / 10:Nat):Int):=ni n 10
  have hd:IntKind.u8.wrap (48+((n % 10:Nat):Int))=((UInt8.ofNat (48+n % 10)).toNat:Int):=by
   rw [w8 (by omega) (by omega),UInt8.toNat_ofNat'];omega
  have hz:(((n % 10:Nat):Int) < 0)=False:=eq_false (by omega)
  have hlen:=Lib.itoa_length_le ((n / 10:Nat):Int) (by omega) (by omega)
  rw [Lib.itoa_nonneg] at hlen
  refine aC (n:=25) (rs:=[.tmp 2]) Tryz.func311 rfl rfl (by decide) rfl rfl rfl ?_;rintro x rfl hrd hng
  (repeat (first|(refine ax rfl rfl ?_)|(refine aw rfl rfl ?_)|(refine ao nmd [] hng (by kernel_rfl) fun hf C S K hC1 hC hS hK=>?_;simp (disch:=first|omega|assumption) only [go_sem,h10,hz,decide_true,decide_false,ne_eq,not_true_eq_false,not_false_eq_true];(repeat ((first|refine hC1 _ () (by simp (disch:=first|omega|assumption) only [go_sem]) ?_);simp (disch:=first|omega|assumption) only [go_sem]));refine hK ?_;clear hK hS hC hC1 K S C hf)|((first|refine zn ?_|refine ze ?_|refine zk ?_);with_reducible (constructor;repeat constructor);try refine zl ?_)))
  refine ao nmd [] hng (by kernel_rfl) fun hf C S K hC1 hC hS hK=>?_;simp (disch:=first|omega|assumption) only [go_sem,hd,j7,vx]
  refine hK ?_;clear hK hS hC hC1 K S C hf
  (repeat (first|(refine ax rfl rfl ?_)|(refine aw rfl rfl ?_)|(refine ao nmd [] hng (by kernel_rfl) fun hf C S K hC1 hC hS hK=>?_;simp (disch:=first|omega|assumption) only [go_sem,h11];(repeat ((first|refine hC1 _ () (by simp (disch:=first|omega|assumption) only [go_sem]) ?_);simp (disch:=first|omega|assumption) only [go_sem]));refine hK ?_;clear hK hS hC hC1 K S C hf)|((first|refine zn ?_|refine ze ?_|refine zk ?_);with_reducible (constructor;repeat constructor);try refine zl ?_)))
  refine aO rfl rfl (fun hb=>?_) (fun hb=>?_)
  ·refine qw0 ?_
   exact aA (bp (congrArg AV.str (by rw [Lib.decDigits,dif_pos (by omega)];congr 2;rw [Nat.mod_eq_of_lt (by omega)])))
  ·(try ((first|refine zn ?_|refine ze ?_|refine zk ?_);with_reducible (constructor;repeat constructor));try refine zl ?_)
   refine qr .o h11 (cq (ih (n / 10) (by omega) (by omega) _) trivial) ?_
   refine qw0 ?_
   exact aA (bp (congrArg AV.str (by rw [Lib.decDigits.eq_def n,dif_neg (by omega)])))
theorem Bz (n:Nat) (h0:0 < n) (hn:(n:Int)≤9223372036854775808):∀ p:Oid,aj Tryz.prog 311 [.int .i64 (-(n:Int))] (Oid.under p) ⟨[],.str (Lib.decDigits n),[]⟩:=by
 induction n using Nat.strongRecOn with
 | ind n ih =>
  intro p
  have h10:(-(n:Int)).tmod 10 = -((n % 10:Nat):Int):=(Int.neg_tmod _ _).trans (congrArg Neg.neg (dv n 10))
  have h11:(-(n:Int)).tdiv 10 = -((n / 10:Nat):Int):=(Int.neg_tdiv _ _).trans (congrArg Neg.neg (ni n 10))
  have hd:IntKind.u8.wrap (48+((n % 10:Nat):Int))=((UInt8.ofNat (48+n % 10)).toNat:Int):=by
   rw [w8 (by omega) (by omega),UInt8.toNat_ofNat'];omega
  have hlen:=Lib.itoa_length_le ((n / 10:Nat):Int) (by omega) (by omega)
  rw [Lib.itoa_nonneg] at hlen
  have hq:(-((n / 10:Nat):Int)=0)=(n / 10=0):=propext (by omega)
  by_cases hr:n % 10=0
  case' pos =>
   have h10':(-(n:Int)).tmod 10=((n % 10:Nat):Int):=by rw [h10];omega
   have hz:(((n % 10:Nat):Int) < 0)=False:=eq_false (by omega)
   clear h10
   refine aC (n:=25) (rs:=[.tmp 2]) Tryz.func311 rfl rfl (by decide) rfl rfl rfl ?_;rintro x rfl hrd hng
   (repeat (first|(refine ax rfl rfl ?_)|(refine aw rfl rfl ?_)|(refine ao nmd [] hng (by kernel_rfl) fun hf C S K hC1 hC hS hK=>?_;simp (disch:=first|omega|assumption) only [go_sem,h10',hz,decide_true,decide_false,ne_eq,not_true_eq_false,not_false_eq_true];(repeat ((first|refine hC1 _ () (by simp (disch:=first|omega|assumption) only [go_sem]) ?_);simp (disch:=first|omega|assumption) only [go_sem]));refine hK ?_;clear hK hS hC hC1 K S C hf)|((first|refine zn ?_|refine ze ?_|refine zk ?_);with_reducible (constructor;repeat constructor);try refine zl ?_)))
  case' neg =>
   have hz:(-((n % 10:Nat):Int) < 0)=True:=eq_true (by omega)
   have hng':0 - -((n % 10:Nat):Int)=((n % 10:Nat):Int):=by omega
   refine aC (n:=25) (rs:=[.tmp 2]) Tryz.func311 rfl rfl (by decide) rfl rfl rfl ?_;rintro x rfl hrd hng
   (repeat (first|(refine ax rfl rfl ?_)|(refine aw rfl rfl ?_)|(refine ao nmd [] hng (by kernel_rfl) fun hf C S K hC1 hC hS hK=>?_;simp (disch:=first|omega|assumption) only [go_sem,h10,hz,hng',decide_true,decide_false,ne_eq,not_true_eq_false,not_false_eq_true];(repeat ((first|refine hC1 _ () (by simp (disch:=first|omega|assumption) only [go_sem]) ?_);simp (disch:=first|omega|assumption) only [go_sem]));refine hK ?_;clear hK hS hC hC1 K S C hf)|((first|refine zn ?_|refine ze ?_|refine zk ?_);with_reducible (constructor;repeat constructor);try refine zl ?_)))
  all_goals
   refine ao nmd [] hng (by kernel_rfl) fun hf C S K hC1 hC hS hK=>?_;simp (disch:=first|omega|assumption) only [go_sem,hd,j7,vx]
   refine hK ?_;clear hK hS hC hC1 K S C hf
   (repeat (first|(refine ax rfl rfl ?_)|(refine aw rfl rfl ?_)|(refine ao nmd [] hng (by kernel_rfl) fun hf C S K hC1 hC hS hK=>?_;simp (disch:=first|omega|assumption) only [go_sem,h11,hq];(repeat ((first|refine hC1 _ () (by simp (disch:=first|omega|assumption) only [go_sem]) ?_);simp (disch:=first|omega|assumption) only [go_sem]));refine hK ?_;clear hK hS hC hC1 K S C hf)|((first|refine zn ?_|refine ze ?_|refine zk ?_);with_reducible (constructor;repeat constructor);try refine zl ?_)))
   refine aO rfl rfl (fun hb=>?_) (fun hb=>?_)
   ·refine qw0 ?_
    exact aA (bp (congrArg AV.str (by rw [Lib.decDigits,dif_pos (by omega)];congr 2;rw [Nat.mod_eq_of_lt (by omega)])))
   ·(try ((first|refine zn ?_|refine ze ?_|refine zk ?_);with_reducible (constructor;repeat constructor));try refine zl ?_)
    refine qr .o h11 (cq (ih (n / 10) (by omega) (by omega) (by omega) _) trivial) ?_
    refine qw0 ?_
    exact aA (bp (congrArg AV.str (by rw [Lib.decDigits.eq_def n,dif_neg (by omega)])))
theorem uO (n:Int) (h0:-9223372036854775808≤n) (hn:n≤9223372036854775807) (p:Oid):aj Tryz.prog 265 [.int .i64 n] (Oid.under p) ⟨[],.str (Lib.itoa n),[]⟩:=by
 by_cases hz:n < 0
 ·have hT:=fun p=>Bz n.natAbs (by omega) (by omega) p
  have hl:=Lib.itoa_length_le n (by omega) (by omega)
  have hi:Lib.itoa n=45::Lib.decDigits n.natAbs:=by unfold Lib.itoa;rw [if_pos hz]
  rw [show -(n.natAbs:Int)=n by omega] at hT
  rw [hi] at hl ⊢
  simp only [List.length_cons] at hl
  refine aC (n:=10) (rs:=[.tmp 2]) Tryz.func265 rfl rfl (by decide) rfl rfl rfl ?_;rintro x rfl hrd hng
  (repeat (first|(refine ax rfl rfl ?_)|(refine aw rfl rfl ?_)|(refine ao nmd [] hng (by kernel_rfl) fun hf C S K hC1 hC hS hK=>?_;simp (disch:=first|omega|assumption) only [go_sem,hz,decide_true,decide_false,ne_eq,not_true_eq_false,not_false_eq_true];(repeat ((first|refine hC1 _ (hT _) (by simp (disch:=first|omega|assumption) only [go_sem]) ?_);simp (disch:=first|omega|assumption) only [go_sem]));refine hK ?_;clear hK hS hC hC1 K S C hf)|((first|refine zn ?_|refine ze ?_|refine zk ?_);with_reducible (constructor;repeat constructor);try refine zl ?_)))
  exact aA (bp rfl)
 ·obtain ⟨k,rfl⟩:=Int.eq_ofNat_of_zero_le (by omega:0≤n)
  have hz':((k:Int) < 0)=False:=eq_false (by omega)
  rw [Lib.itoa_nonneg]
  refine aC (n:=10) (rs:=[.tmp 2]) Tryz.func265 rfl rfl (by decide) rfl rfl rfl ?_;rintro x rfl hrd hng
  (repeat (first|(refine ax rfl rfl ?_)|(refine aw rfl rfl ?_)|(refine ao nmd [] hng (by kernel_rfl) fun hf C S K hC1 hC hS hK=>?_;simp (disch:=first|omega|assumption) only [go_sem,hz',decide_true,decide_false,ne_eq,not_true_eq_false,not_false_eq_true];(repeat ((first|refine hC1 _ (yl k hn _) (by simp (disch:=first|omega|assumption) only [go_sem]) ?_);simp (disch:=first|omega|assumption) only [go_sem]));refine hK ?_;clear hK hS hC hC1 K S C hf)|((first|refine zn ?_|refine ze ?_|refine zk ?_);with_reducible (constructor;repeat constructor);try refine zl ?_)))
  exact aA (bp rfl)
end Go.Proofs.YtfbnaalhioogoaaGreatDoor
namespace Go.Proofs.YtfbnaalhioogoaaGreatDoor
open Go Go.Ab
set_option maxRecDepth 20000
set_option maxHeartbeats 4000000
theorem E5 (s:Str) (hs:s.length≤140737488355328) (p:Oid):aj Tryz.prog 114 [.str s] (Oid.under p) ⟨[],.str (aN s),[]⟩:=by
 refine aC (n:=18) (rs:=[.tmp 2]) Tryz.func114 rfl rfl (by decide) rfl rfl rfl ?_;rintro x rfl hrd hng
 refine qw0 ?_
 refine bL [0,3] (fun k s'=>∃ c:Nat,s' = ⟨[(0,.str s),(3,.int .i64 ((k:Int) - 1))],Mem.of [],c,[]⟩∧k≤s.length∧dK s 47 s.length=dK s 47 k) _ ⟨_,rfl,Nat.le_refl _,rfl⟩ ?_
 rintro k s' ⟨c,rfl,hk,hl⟩
 refine qw0 ?_
 refine aO rfl rfl (fun hb=>?_) (fun hb=>?_)
 ·obtain ⟨k,rfl⟩:∃ k',k=k' + 1:=⟨k - 1,by omega⟩
  have e1:(((k+1:Nat):Int) - 1).toNat=k:=by omega
  have e2:(((k+1:Nat):Int) - 1)=(k:Int):=by omega
  simp only [e2]
  have hkl:k < s.length:=by omega
  refine qw0 ?_
  refine aO rfl rfl (fun hb=>?_) (fun hb=>?_)
  ·have h47:s.getD k 0=47:=UInt8.toNat_inj.1 (by show _=47;omega)
   rw [dK,if_pos h47] at hl
   refine qw0 ?_
   exact aA (bp (congrArg AV.str (by unfold aN;rw [hl];simp)))
  ·have h47:¬ s.getD k 0=47:=fun e=>hb (by rw [e];rfl)
   rw [dK,if_neg h47] at hl
   refine qw0 ?_
   exact ⟨k,_,by omega,fun _ _ h=>h,_,rfl,by omega,hl⟩
 ·obtain rfl:k=0:=by omega
  refine qw0 ?_
  exact aA (bp (congrArg AV.str (by unfold aN;rw [hl];simp [dK])))
theorem uP {cur:Str} (h:(47:UInt8) ∉ cur):aQ cur=if cur=[] then [] else [cur]:=by
 unfold aQ
 rw [jc h]
 cases cur<;>simp
theorem uQ {cur:Str} (u:Str) (h:(47:UInt8) ∉ cur):aQ (cur++(47::u))=(if cur=[] then [] else [cur])++aQ u:=by
 unfold aQ
 rw [kb u h]
 cases cur<;>simp
theorem th {s:Str} {f i:Nat} (hf:f≤i) (hi:i≤s.length) (hn:(47:UInt8) ∉ (s.take i).drop f) (h:i=s.length∨s.getD i 0=47) :
  aQ (s.drop f)=(if (s.take i).drop f=[] then [] else [(s.take i).drop f])++aQ (s.drop (i+1)):=by
 have e:s.drop f=(s.take i).drop f++s.drop i:=by
  conv=>lhs;rw [← List.take_append_drop i s]
  rw [List.drop_append_of_le_length (by rw [List.length_take];omega)]
 rw [e]
 by_cases hl:i=s.length
 ·subst hl
  have hz:s.drop (s.length+1)=[]:=List.drop_eq_nil_of_le (by omega)
  have hz2:aQ []=[]:=rfl
  rw [List.drop_length,List.append_nil,uP hn,hz,hz2,List.append_nil]
 ·have h47:=h.resolve_left hl
  have hd:s.drop i=47::s.drop (i+1):=by
   rw [List.drop_eq_getElem_cons (by omega)]
   rw [List.getD_eq_getElem?_getD,List.getElem?_eq_getElem (by omega),Option.getD_some] at h47
   rw [h47]
  rw [hd,uQ _ hn]
theorem nY (s:Str) (hs:s.length≤4000000) (p:Oid):b8 Tryz.prog 112 [.str s] (Oid.under p) []
  (fun v u=>∃ id,Oid.under p id∧v = .tuple [.sl id 1 (aQ s).length,.bool (cK s)]∧u=[(id,some (.arr 1 ((aQ s).map AV.str)))]) (fun _ _=>False):=by
 refine gB (n:=46) (rs:=[.tmp 2,.tmp 3]) Tryz.func112 rfl rfl (by decide) rfl rfl rfl ?_;rintro x rfl hrd hng
 refine qw0 ?_
 refine qz 4 1 rfl ?_
 simp (disch:=first|omega|assumption) only [go_sem]
 refine bL [0,4,5,6] (fun k s'=>∃ (i f d j c:Nat) (done:List Str),k=s.length+1 - i∧i≤s.length+1∧f≤i∧(i=s.length+1→f=s.length+1)∧d < c∧done.length≤i∧(47:UInt8) ∉ (s.take i).drop f∧aQ s=done++aQ (s.drop f) ∧
   s' = ⟨[(0,.str s),(4,.sl (.sub d j x.p) 1 done.length),(5,.int .i64 f),(6,.int .i64 i)],Mem.of [(.sub d j x.p,.arr 1 (done.map AV.str))],c,[]⟩) _ ⟨0,0,4,0,_,[],rfl,Nat.zero_le _,Nat.le_refl _,by omega,by omega,Nat.le_refl _,by simp,rfl,rfl⟩ ?_
 rintro k s' ⟨i,f,d,j,c,done,rfl,hi,hf,hfi,hdc,hdl,hno,hpc,rfl⟩
 refine qw0 ?_
 refine aO rfl rfl (fun hb=>?_) (fun hb=>?_)
 ·have hile:i≤s.length:=by omega
  (try ((first|refine zn ?_|refine ze ?_|refine zk ?_);with_reducible (constructor;repeat constructor));try refine zl ?_)
  refine cz [0,4,5,6,22] (fun s'=>∃ c':Nat,s' = ⟨[(0,.str s),(4,.sl (.sub d j x.p) 1 done.length),(5,.int .i64 f),(6,.int .i64 i),(22,.bool (decide (i=s.length∨s.getD i 0=47)))],Mem.of [(.sub d j x.p,.arr 1 (done.map AV.str))],c',[]⟩∧d < c') ?_ ?_
  ·refine ao nmd [(4,17)] hng (by kernel_rfl) fun hf C S K hC1 hC hS hK=>?_;simp (disch:=first|omega|assumption) only [go_sem]
   (repeat' (first|(refine bt (fun hv=>?_) (fun hv=>?_)<;>(try simp only [zb1,zb2,zb3,zb4,zb5] at hv)<;>simp (disch:=first|omega|assumption) only [go_sem,hv])|(refine hK ?_;clear hK hS hC hC1 K S C hf)))
   ·rw [show decide (i=s.length∨s.getD i 0=47)=decide (((s.getD i 0).toNat:Int)=47) from decide_eq_decide.2 ⟨fun h=>by
      rcases h with h|h
      ·exact absurd (by omega) hv
      ·rw [h];rfl,fun h=>.inr (UInt8.toNat_inj.1 (by show _=47;omega))⟩]
    exact aL ⟨_,rfl,by omega⟩
   ·have hil:i=s.length:=by omega
    subst hil
    rw [show decide (s.length=s.length∨s.getD s.length 0=47)=true from decide_eq_true (.inl rfl)]
    exact aL ⟨_,rfl,by omega⟩
  clear hdc c
  rintro s' ⟨c,rfl,hdc⟩
  refine aO rfl rfl (fun hb=>?_) (fun hb=>?_)
  ·have hst:=th hf hile hno hb
   have hno2:(47:UInt8) ∉ (s.take (i+1)).drop (i+1):=by
    rw [List.drop_eq_nil_of_le (by rw [List.length_take];omega)];simp
   rw [hst,← List.append_assoc] at hpc
   refine qw0 ?_
   refine aO rfl rfl (fun hb=>?_) (fun hb=>?_)
   ·have hne:¬ (s.take i).drop f=[]:=fun e=>by
     have:=congrArg List.length e
     rw [List.length_drop,List.length_take,List.length_nil] at this;omega
    rw [if_neg hne] at hpc
    have e1:((i:Int)).toNat=i:=by omega
    have e2:((f:Int)).toNat=f:=by omega
    refine qw0 ?_
    exact ⟨_,_,by omega,fun _ _ h=>h,i+1,i+1,c+1,6,c+1+1+1+1,done++[(s.take i).drop f],rfl,by omega,by omega,by omega,by omega,by simp;omega,hno2,hpc,by rw [List.map_append,List.length_append];rfl⟩
   ·have hne:(s.take i).drop f=[]:=List.drop_eq_nil_of_le (by rw [List.length_take];omega)
    rw [if_pos hne,List.append_nil] at hpc
    refine qw0 ?_
    exact ⟨_,_,by omega,fun _ _ h=>h,i+1,i+1,d,j,_,done,rfl,by omega,by omega,by omega,by omega,by omega,hno2,hpc,rfl⟩
  ·have hil:i < s.length:=by have:¬ i=s.length:=fun e=>hb (.inl e);omega
   have h47:¬ s.getD i 0=47:=fun e=>hb (.inr e)
   refine qw0 ?_
   refine ⟨_,_,by omega,fun _ _ h=>h,i+1,f,d,j,_,done,rfl,by omega,by omega,by omega,by omega,by omega,?_,hpc,rfl⟩
   have hg:s[i]? = some (s.getD i 0):=by rw [List.getD_eq_getElem?_getD,List.getElem?_eq_getElem hil];rfl
   rw [List.take_add_one,hg,List.drop_append_of_le_length (by rw [List.length_take];omega)]
   simp only [Option.toList_some,List.mem_append,List.mem_singleton,not_or]
   exact ⟨hno,fun e=>h47 e.symm⟩
 ·obtain rfl:=hfi (by omega)
  have hp0:aQ (s.drop (s.length+1))=[]:=by rw [List.drop_eq_nil_of_le (by omega)];rfl
  rw [hp0,List.append_nil] at hpc
  rw [hpc]
  refine qw0 ?_
  by_cases h0:s=[]
  ·subst h0
   refine qd (.d [] [(3,38)] [2,3]) trivial trivial ?_
   refine qw0 ?_
   refine aA (bh _ [(.sub d j x.p,some (.arr 1 (done.map AV.str)))] (by simp (disch:=first|omega|assumption) only [go_sem];rfl) ⟨_,Oid.ae (Oid.ay _),rfl,rfl⟩ fun i o h=>?_)
   simpa [Mem.of,Mem.aJ,Mem.set,Mem.emp] using h
  ·have hl:0 < s.length:=List.length_pos_iff.2 h0
   have e1:((s.length:Int) - 1).toNat=s.length - 1:=by omega
   have e3:((s.length - 1:Nat):Int)=(s.length:Int) - 1:=by omega
   refine qd (.d [] [(3,38)] [2,3]) (ai h0 e1) trivial ?_
   refine qw0 ?_
   refine aA (bh _ [(.sub d j x.p,some (.arr 1 (done.map AV.str)))] (by simp (disch:=first|omega|assumption) only [go_sem];rfl) ⟨_,Oid.ae (Oid.ay _),by
    unfold cK
    rw [decide_eq_true hl,Bool.true_and]
    rw [show decide (((s.getD (s.length - 1) 0).toNat:Int)=47)=decide (s.getD (s.length - 1) 0=47) from decide_eq_decide.2 ⟨fun h=>UInt8.toNat_inj.1 (by show _=47;omega),fun h=>by rw [h];rfl⟩],rfl⟩ fun i o h=>?_)
   simpa [Mem.of,Mem.aJ,Mem.set,Mem.emp] using h
end Go.Proofs.YtfbnaalhioogoaaGreatDoor
namespace Go.Proofs.YtfbnaalhioogoaaGreatDoor
open Go Go.Ab
set_option maxRecDepth 20000
set_option maxHeartbeats 4000000
theorem uR {m:Int} (h:0≤m∧m≤7):dG m 3=3↔¬ dG m 2=0∧¬ dG m 1=0:=by
 have:m=0∨m=1∨m=2∨m=3∨m=4∨m=5∨m=6∨m=7:=by omega
 rcases this with rfl|rfl|rfl|rfl|rfl|rfl|rfl|rfl<;>decide
theorem tj {E:List (Oid × ah)} {Bs:List Bk} (hE:∀ e ∈ E,∀ B ∈ Bs,e.1 ∉ B.1):∀ A:List (Oid × ah),∀ i o,Mem.blk A Bs i=some o→Mem.blk (A++E) Bs i=some o
 | [],i,o,h=>by
  rw [List.nil_append]
  have hin:∃ B ∈ Bs,i ∈ B.1:=by
   clear hE
   induction Bs with
   | nil=>cases h
   | cons B Bs ih =>
    obtain ⟨N,F⟩:=B
    rw [bu] at h
    split at h
    ·exact ⟨_,List.mem_cons_self,‹_›⟩
    ·obtain ⟨B,h1,h2⟩:=ih h;exact ⟨B,List.mem_cons_of_mem _ h1,h2⟩
  obtain ⟨B,h1,h2⟩:=hin
  induction E with
  | nil=>exact h
  | cons e E ih =>
   rw [Mem.gy,if_neg fun e':i=e.1=>hE e List.mem_cons_self B h1 (e' ▸ h2)]
   exact ih fun e he=>hE e (List.mem_cons_of_mem _ he)
 | a::A,i,o,h=>by
  rw [List.cons_append,Mem.gy]
  rw [Mem.gy] at h
  split at h
  ·rw [if_pos ‹_›];exact h
  ·rw [if_neg ‹_›];exact tj hE A i o h
theorem ym (L:PL) (fol:Bool) (w:Wk) (n:Str) (t:List Str):∃ rd r,bq L fol w n t=((w.pl,false)::rd,r):=by
 unfold bq
 repeat' split
 all_goals exact ⟨_,_,rfl⟩
section
variable {pp st:Oid} {N:List Oid} {F F1 F2:Oid→ah} {L:PL} {cwd:Str} (um:Int) (hpN:pp ∉ N) {p:Oid} (hp:p.mono=false) (hpp:¬ Oid.under p pp) (hO:aW p N)
include hpN hp hpp hO
theorem uS (pl:Str) (hA:RR' st N L [(pl,false)] F F1) :
  aj Tryz.prog 113 [.ptr pp 0,.str pl] (Oid.under p) ⟨(pp,prC st cwd um)::bk (N,F),.int .i64 (inE (aF L pl)),sb N F1⟩:=by
 obtain ⟨_,hA,rfl⟩:=hA
 rename_i F1
 have hA':∀ p,p.mono=false→aW p N→aj Tryz.prog 49 [.ptr st 0,.str pl] (Oid.under p) ⟨bk (N,F),(aF L pl).av,sb N F1⟩:=hA
 generalize aF L pl=B at hA' ⊢
 obtain ⟨ek,em,el⟩:=B
 simp only [Bits.av] at hA'
 unfold prC inE
 refine aC (n:=25) (rs:=[.tmp 4]) Tryz.func113 rfl rfl (by decide) rfl rfl rfl ?_;rintro x rfl hrd hng
 rw [aB]
 refine kr0 ?_
 refine kr1 hA' ?_
 refine kw0 ?_
 by_cases c1:ek=0
 ·rw [if_pos c1]
  refine aO rfl rfl (fun hb=>?_) (fun hb=>?_)
  case refine_2=>exact absurd c1 hb
  refine kw0 ?_
  exact kq
 rw [if_neg c1]
 refine aO rfl rfl (fun hb=>?_) (fun hb=>?_)
 case refine_1=>exact absurd hb c1
 refine kw0 ?_
 by_cases c2:ek=2
 case neg =>
  rw [if_pos c2]
  refine aO rfl rfl (fun hb=>?_) (fun hb=>?_)
  case refine_2=>exact absurd c2 hb
  refine kw0 ?_
  exact kq
 rw [if_neg (fun h=>h c2)]
 refine aO rfl rfl (fun hb=>?_) (fun hb=>?_)
 case refine_1=>exact absurd c2 hb
 refine kw0 ?_
 by_cases c3:dG em 1=0
 ·rw [if_pos c3]
  refine aO rfl rfl (fun hb=>?_) (fun hb=>?_)
  case refine_2=>exact absurd c3 hb
  refine kw0 ?_
  exact kq
 rw [if_neg c3]
 refine aO rfl rfl (fun hb=>?_) (fun hb=>?_)
 case refine_1=>exact absurd hb c3
 refine kw0 ?_
 exact kq
theorem dP (hm:∀ n,0≤(aF L n).m∧(aF L n).m≤7) (pl:Str) (hpl:pl.length≤140737488355328) (hA:RR' st N L [(aN pl,false)] F F1) :
  aj Tryz.prog 45 [.ptr pp 0,.str pl] (Oid.under p) ⟨(pp,prC st cwd um)::bk (N,F),.int .i64 (bO pl (aF L (aN pl))),sb N F1⟩:=by
 obtain ⟨_,hA,rfl⟩:=hA
 rename_i F1
 have hA':∀ p,p.mono=false→aW p N→aj Tryz.prog 49 [.ptr st 0,.str (aN pl)] (Oid.under p) ⟨bk (N,F),(aF L (aN pl)).av,sb N F1⟩:=hA
 have hab:=fun p=>E5 pl hpl p
 have hmm:=hm (aN pl)
 generalize aF L (aN pl)=B at hA' hmm ⊢
 generalize aN pl=A at hA' hab
 obtain ⟨ek,em,el⟩:=B
 simp only [Bits.av] at hA' hmm
 have h3:=uR hmm
 unfold prC bO
 refine aC (n:=31) (rs:=[.tmp 4]) Tryz.func45 rfl rfl (by decide) rfl rfl rfl ?_;rintro x rfl hrd hng
 rw [aB]
 refine kr0 ?_
 refine kd (.d [(3,5),(3,7),(5,7),(6,7)] [] [0,1,5]) trivial (cq (hab _) (cq hA' trivial)) ?_
 refine kw0 ?_
 by_cases c1:pl=[]
 ·rw [if_pos c1]
  refine aO rfl rfl (fun hb=>?_) (fun hb=>?_)
  case refine_2=>exact absurd c1 hb
  refine kw0 ?_
  exact kq
 rw [if_neg c1]
 refine aO rfl rfl (fun hb=>?_) (fun hb=>?_)
 case refine_1=>exact absurd hb c1
 refine kw0 ?_
 by_cases c2:ek=2
 case neg =>
  rw [if_pos c2]
  refine aO rfl rfl (fun hb=>?_) (fun hb=>?_)
  case refine_2=>exact absurd c2 hb
  refine kw0 ?_
  exact kq
 rw [if_neg (fun h=>h c2)]
 refine aO rfl rfl (fun hb=>?_) (fun hb=>?_)
 case refine_1=>exact absurd c2 hb
 refine kw0 ?_
 by_cases c3:dG em 2=0
 ·rw [if_pos (fun h=>(h3.1 h).1 c3)]
  refine kr (.d [] [(4,25)] []) c3 trivial ?_
  refine kw0 ?_
  exact kq
 by_cases c4:dG em 1=0
 ·rw [if_pos (fun h=>(h3.1 h).2 c4)]
  refine ao nmd [(4,25)] hng (by kernel_rfl) fun hf C S K hC1 hC hS hK=>?_;simp (disch:=first|omega|assumption) only [go_sem,Oid.ab hpp,Oid.aa hpp,hpN,hO,c3,c4,eq_self,decide_true,decide_false,ne_eq,not_true_eq_false,not_false_eq_true]
  refine hK ?_;clear hK hS hC hC1 K S C hf
  refine kw0 ?_
  exact kq
 ·rw [if_neg (fun h=>h (h3.2 ⟨c3,c4⟩))]
  refine ao nmd [(4,25)] hng (by kernel_rfl) fun hf C S K hC1 hC hS hK=>?_;simp (disch:=first|omega|assumption) only [go_sem,Oid.ab hpp,Oid.aa hpp,hpN,hO,c3,c4,eq_self,decide_true,decide_false,ne_eq,not_true_eq_false,not_false_eq_true]
  refine hK ?_;clear hK hS hC hC1 K S C hf
  refine kw0 ?_
  exact kq
end
end Go.Proofs.YtfbnaalhioogoaaGreatDoor
namespace Go.Proofs.YtfbnaalhioogoaaGreatDoor
open Go Go.Ab
set_option maxRecDepth 20000
set_option maxHeartbeats 8000000
def rdT (L:PL) (fol:Bool) (k:Nat) (rd:Rds):Rs Wk→Rds
 | .err _=>rd
 | .go w=>rd++(bP L fol k w).1
def rsT (L:PL) (fol:Bool) (k:Nat):Rs Wk→Rs Wk
 | .err e=>.err e
 | .go w=>(bP L fol k w).2
theorem db {pp st:Oid} {N:List Oid} {F F':Oid→ah} {L:PL} (hK:KL L) (path cwd:Str) (um:Int) (fol:Bool) (hpN:pp ∉ N) (hc:cwd.length≤1000000) (hpath:path.length≤140737488355328)
  (hA:RR' st N L (findF L cwd path fol).1 F F') (p:Oid) (hp:p.mono=false) (hpp:¬ Oid.under p pp) (hO:aW p N) :
  aj Tryz.prog 44 [.ptr pp 0,.str path,.bool fol] (Oid.under p) ⟨(pp,prC st cwd um)::bk (N,F),fnV (findF L cwd path fol).2,sb N F'⟩:=by
 by_cases c1:path=[]
 ·have hF:findF L cwd path fol=([],.err 10):=by simp only [findF,if_pos c1]
  rw [hF] at hA ⊢
  obtain rfl:F=F':=hA
  unfold prC
  refine aC (n:=149) (rs:=[.tmp 6,.cell 7 56,.tmp 8]) Tryz.func44 rfl rfl (by decide) rfl rfl rfl ?_;rintro x rfl hrd hng
  rw [aB]
  refine kw c1 ?_
  exact kq
 by_cases c2:200 < path.length
 ·have hF:findF L cwd path fol=([],.err 2):=by simp only [findF,if_neg c1,if_pos c2]
  rw [hF] at hA ⊢
  obtain rfl:F=F':=hA
  have e2:(200:Int) < (path.length:Int):=by omega
  unfold prC
  refine aC (n:=149) (rs:=[.tmp 6,.cell 7 56,.tmp 8]) Tryz.func44 rfl rfl (by decide) rfl rfl rfl ?_;rintro x rfl hrd hng
  rw [aB]
  refine kw (ai c1 e2) ?_
  exact kq
 have hF:findF L cwd path fol=cO L (bP L fol (wkW (aK cwd path)) (aK cwd path)):=by simp only [findF,if_neg c1,if_neg c2]
 rw [hF] at hA ⊢
 have e2:¬ (200:Int) < (path.length:Int):=by omega
 obtain ⟨s1,s2⟩:=ke cwd path (by omega)
 have hpc:=fun p=>nY path (by omega) p
 have h0l:0 < path.length:=List.length_pos_iff.2 c1
 have hrun:∃ F1,RR' st N L (bP L fol (wkW (aK cwd path)) (aK cwd path)).1 F F1 ∧
   match (bP L fol (wkW (aK cwd path)) (aK cwd path)).2 with
   | .err e=>F1=F'
   | .go w=>RR' st N L [(w.pl,false)] F1 F':=by
  generalize bP L fol (wkW (aK cwd path)) (aK cwd path)=y at hA
  obtain ⟨rd,r⟩:=y
  cases r with
  | err e=>exact ⟨F',hA,rfl⟩
  | go w=>exact aZ hA
 obtain ⟨F1,hrq,hlast⟩:=hrun
 obtain ⟨res,hres⟩:∃ res,(bP L fol (wkW (aK cwd path)) (aK cwd path)).2=res:=⟨_,rfl⟩
 have hfin:(cO L (bP L fol (wkW (aK cwd path)) (aK cwd path))).2=(cO L ([],res)).2:=by
  rw [← hres]
  generalize bP L fol (wkW (aK cwd path)) (aK cwd path)=y
  obtain ⟨rd,r⟩:=y
  cases r<;>rfl
 rw [hres] at hlast
 rw [hfin]
 have hw0:(aK cwd path).pl.length+wkW (aK cwd path)≤cwd.length+2617:=by omega
 have hst:aK cwd path=⟨if path.getD 0 0=47 then [] else cwd,aQ path,0,cK path⟩:=rfl
 have hplen:(aQ path).length≤path.length+1:=by
  have h1:=iz 47 path
  have h2:=List.length_filter_le (fun t:Str=>!t.isEmpty) (a8 47 path)
  unfold aQ;omega
 generalize hK':wkW (aK cwd path)=K at hres hrq s2 hfin
 have hKle:wkW (aK cwd path)≤K:=by omega
 clear hfin hF hA
 unfold prC
 refine aC (n:=149) (rs:=[.tmp 6,.cell 7 56,.tmp 8]) Tryz.func44 rfl rfl (by decide) rfl rfl rfl ?_;rintro x rfl hrd hng
 rw [aB]
 refine kw (ai c1 (ai e2 h0l)) ?_
 refine cz [0,1,2,7,9] (fun s'=>∃ c':Nat,s' = ⟨[(0,.ptr pp 0),(1,.str path),(2,.bool fol),(7,.ptr (.sub 0 1 x.p) 0),(9,.str (aK cwd path).pl)],Mem.blk ([(pp,.cells [.ptr st 0,.str cwd,.int .i64 um]),(.sub 0 1 x.p,.cells [.int .i64 0,.int .i64 0,.str []])]) [(N,F)],c',[]⟩∧4 < c') ?_ ?_
 ·rw [hst]
  refine aO rfl rfl (fun hb=>?_) (fun hb=>?_)
  ·rw [if_pos (UInt8.toNat_inj.1 (by show _=47;omega):path.getD 0 0=47)]
   refine kw0 ?_
   exact aL ⟨_,rfl,by omega⟩
  ·rw [if_neg (fun e:path.getD 0 0=47=>hb (by rw [e];rfl))]
   refine qw0 ?_
   exact aL ⟨_,rfl,by omega⟩
 rintro s' ⟨c,rfl,hc4⟩
 (try ((first|refine zn ?_|refine ze ?_|refine zk ?_);with_reducible (constructor;repeat constructor));try refine zl ?_)
 refine ao nmd [] hng (by kernel_rfl) fun hf C S K hC1 hC hS hK=>?_;simp (disch:=first|omega|assumption) only [go_sem,Oid.ab hpp,Oid.aa hpp,hpN,hO]
 refine hC _ _ _ (hpc _) (fun _ h=>by cases h) ?_ (fun _ _ h=>h.elim)
 rintro _ _ ⟨id,hid,rfl,rfl⟩
 have i1:¬ id=pp:=fun e=>hpp (Oid.ae (e ▸ hid))
 have i2:id ∉ N:=fun h=>hO id h (Oid.ae hid)
 have i3:¬ id = .sub 0 1 x.p:=fun e=>by
  subst e
  have:=(Oid.apart hid (Oid.ay _)).1;omega
 simp (disch:=first|omega|assumption) only [go_sem,Oid.ab hpp,Oid.aa hpp,hpN,hO,i1,i2,i3]
 refine hK ?_;clear hK hS hC hC1 K S C hf
 refine kw (ai i1 (ai i2 i3)) ?_
 refine kK id 1 ((aQ path).map AV.str) (ks (ai i1 (ai i2 i3))) ?_
 simp (disch:=first|omega|assumption) only [go_sem,Oid.ab hpp,Oid.aa hpp,hpN,hO,i1,i2,i3]
 have hl0:(aK cwd path).links≤8:=by rw [hst];exact Nat.zero_le _
 refine bL [0,2,7,9,10,11,12] (fun k s'=>∃ (w:Wk) (c:Nat) (G:Oid→ah),s' = ⟨[(0,.ptr pp 0),(2,.bool fol),(7,.ptr (.sub 0 1 x.p) 0),(9,.str w.pl),(10,.list 1 (w.todo.map AV.str)),(11,.bool w.dir),(12,.int .i64 w.links)],Mem.blk ([(pp,.cells [.ptr st 0,.str cwd,.int .i64 um]),(.sub 0 1 x.p,.cells [.int .i64 0,.int .i64 0,.str []])]) [(N,G)],c,[]⟩∧4 < c∧wkW w≤k∧w.links≤8∧w.pl.length+wkW w≤cwd.length+2617∧(bP L fol k w).2=res∧RR' st N L (bP L fol k w).1 G F1) _ ⟨aK cwd path,_,_,rfl,by omega,hKle,hl0,hw0,hres,hrq⟩ ?_
 clear hrq hres hw0 hKle hl0 hc4 hst hpc hplen i1 i2 i3 hid id c
 rintro k s' ⟨⟨pl,todo,l,dir⟩,c,G,rfl,hc4,hKle,hl0,hw0,hres,hrq⟩
 simp only at hl0 hw0
 have hkeep:∀ (E:List (Oid × ah)) (G:Oid→ah),(∀ e ∈ E,e.1 ∉ N)→∀ i o,Mem.blk ([(pp,.cells [.ptr st 0,.str cwd,.int .i64 um]),(.sub 0 1 x.p,.cells [.int .i64 0,.int .i64 0,.str []])]) [(N,G)] i=some o→Mem.blk (([(pp,.cells [.ptr st 0,.str cwd,.int .i64 um]),(.sub 0 1 x.p,.cells [.int .i64 0,.int .i64 0,.str []])])++E) [(N,G)] i=some o:=fun E G hE =>
  tj (fun e he B hB=>by rw [List.mem_singleton.1 hB];exact hE e he) _
 cases todo with
 | nil =>
  have hrn:bP L fol k ⟨pl,[],l,dir⟩=([],.go ⟨pl,[],l,dir⟩):=by cases k<;>rfl
  rw [hrn] at hres hrq
  obtain rfl:G=F1:=hrq
  subst hres
  simp only at hlast
  obtain ⟨_,hat,rfl⟩:=hlast
  rename_i F2
  have hat':∀ p,p.mono=false→aW p N→aj Tryz.prog 49 [.ptr st 0,.str pl] (Oid.under p) ⟨bk (N,G),(aF L pl).av,sb N F2⟩:=hat
  simp only [cO]
  generalize aF L pl=B at hat' ⊢
  obtain ⟨ek,em,el⟩:=B
  simp only [Bits.av] at hat' ⊢
  refine kw0 ?_
  refine kr1 hat' ?_
  by_cases c4:dir=true∧¬ ek=0∧¬ ek=2
  ·rw [if_pos c4]
   obtain ⟨rfl,c5,c6⟩:=c4
   refine ao nmd [(1,136),(6,141)] hng (by kernel_rfl) fun hf C S K hC1 hC hS hK=>?_;simp (disch:=first|omega|assumption) only [go_sem,Oid.ab hpp,Oid.aa hpp,hpN,hO,c5,c6,decide_true,decide_false,ne_eq,not_true_eq_false,not_false_eq_true]
   refine hK ?_;clear hK hS hC hC1 K S C hf
   refine kw0 ?_
   refine aA (bI (by simp (disch:=first|omega|assumption) only [go_sem,Oid.ab hpp,Oid.aa hpp,hpN,hO,fnV,rdB,aD,cO,rsT,Bits.no]) (by show _=some _;simp (disch:=first|omega|assumption) only [go_sem,Oid.ab hpp,Oid.aa hpp,hpN,hO]) (by exact nbA (by simp [hpN,hO.mem]) _))
  ·rw [if_neg c4]
   refine cz [0,2,7,9,19,145] (fun s'=>∃ c':Nat,s' = ⟨[(0,.ptr pp 0),(2,.bool fol),(7,.ptr (.sub 0 1 x.p) 0),(9,.str pl),(19,.ptr (.sub (c+1) 6 x.p) 0),(145,.bool false)],Mem.blk (([(pp,.cells [.ptr st 0,.str cwd,.int .i64 um]),(.sub 0 1 x.p,.cells [.int .i64 0,.int .i64 0,.str []])])++[(.sub (c+1) 6 x.p,.cells [.int .i64 ek,.int .i64 em,.str el])]) [(N,F2)],c',[]⟩) ?_ ?_
   ·cases dir with
    | false =>
     refine kr (.d [] [(1,136),(6,141)] []) trivial trivial ?_
     exact aL ⟨_,rfl⟩
    | true =>
     by_cases c5:ek=0
     ·refine ao nmd [(1,136),(6,141)] hng (by kernel_rfl) fun hf C S K hC1 hC hS hK=>?_;simp (disch:=first|omega|assumption) only [go_sem,Oid.ab hpp,Oid.aa hpp,hpN,hO,c5,eq_self,decide_true,decide_false,ne_eq,not_true_eq_false,not_false_eq_true]
      refine hK ?_;clear hK hS hC hC1 K S C hf
      exact aL ⟨_,by rw [c5];rfl⟩
     ·have c6:ek=2:=Decidable.of_not_not fun h=>c4 ⟨rfl,c5,h⟩
      have h20:¬ (2:Int)=0:=by decide
      refine kr (.d [] [(1,136),(6,141)] []) (ai c6 h20) trivial ?_
      exact aL ⟨_,by rw [c6];rfl⟩
   rintro s' ⟨c',rfl⟩
   simp only [List.cons_append,List.nil_append]
   (try ((first|refine zn ?_|refine ze ?_|refine zk ?_);with_reducible (constructor;repeat constructor));try refine zl ?_)
   refine aw rfl rfl ?_
   refine kd (.d [] [] [6,7,8]) trivial trivial ?_
   refine aA (bI (by simp (disch:=first|omega|assumption) only [go_sem,Oid.ab hpp,Oid.aa hpp,hpN,hO,fnV,rdB,aD,cO,rsT,Bits.no]) (by show _=some _;simp (disch:=first|omega|assumption) only [go_sem,Oid.ab hpp,Oid.aa hpp,hpN,hO]) (by exact nbA (by simp [hpN,hO.mem]) _))
 | cons n t =>
  have hwk:wkW ⟨pl,n::t,l,dir⟩=n.length+1+wtF t+(8 - l) * 302:=rfl
  have hwt:wtF (n::t)=n.length+1+wtF t:=rfl
  obtain ⟨k,rfl⟩:∃ k',k=k' + 1:=⟨k - 1,by omega⟩
  have htl:=ri t
  have hrn:bP L fol (k+1) ⟨pl,n::t,l,dir⟩=match bq L fol ⟨pl,n::t,l,dir⟩ n t with
   | (rd,.err e)=>(rd,.err e)
   | (rd,.go w')=>(rd++(bP L fol k w').1,(bP L fol k w').2):=rfl
  obtain ⟨rd,rr,hS⟩:=ym L fol ⟨pl,n::t,l,dir⟩ n t
  have hgo:=fun w' (h:rr = .go w')=>And.intro (kU hK.so hK.lk (hS.trans (by rw [h]))) (l8 (hS.trans (by rw [h])) hl0)
  rw [hrn,hS] at hres hrq
  have hq:∃ G2,RR' st N L [(pl,false)] G G2∧RR' st N L (rdT L fol k rd rr) G2 F1∧rsT L fol k rr=res:=by
   cases rr with
   | err e=>obtain ⟨G2,k1,k2⟩:=hrq;exact ⟨G2,⟨G2,k1,rfl⟩,k2,hres⟩
   | go w'=>obtain ⟨G2,k1,k2⟩:=hrq;exact ⟨G2,⟨G2,k1,rfl⟩,k2,hres⟩
  obtain ⟨G2,hq1,hq2,hres2⟩:=hq
  clear hrq hres hrn
  have hin:=fun p hp hpp hO=>uS (pp:=pp) (st:=st) (N:=N) (F:=G) (F1:=G2) (L:=L) (cwd:=cwd) um hpN (p:=p) hp hpp hO pl hq1
  have hab:=fun p=>E5 pl (by omega) p
  unfold prC at hin
  refine kw0 ?_
  refine aO rfl rfl (fun hb=>?_) (fun hb=>?_)
  case refine_2=>exact absurd (by omega) hb
  refine kw0 ?_
  refine kr1 hin ?_
  refine kw0 ?_
  by_cases c0:inE (aF L pl)=0
  case neg =>
   have hS':bq L fol ⟨pl,n::t,l,dir⟩ n t=([(pl,false)],.err (inE (aF L pl))):=by simp only [bq,if_pos c0]
   rw [hS'] at hS
   simp only [Prod.mk.injEq,List.cons.injEq,true_and] at hS
   obtain ⟨rfl,rfl⟩:=hS
   subst hres2
   obtain rfl:G2=F1:=hq2
   obtain rfl:G2=F':=hlast
   simp only [rsT,cO]
   generalize inE (aF L pl)=e at c0 ⊢
   refine aO rfl rfl (fun hb=>?_) (fun hb=>?_)
   case refine_2=>exact absurd (Decidable.not_not.1 hb) c0
   refine kw0 ?_
   refine aA (bI (by simp (disch:=first|omega|assumption) only [go_sem,Oid.ab hpp,Oid.aa hpp,hpN,hO,fnV,rdB,aD,cO,rsT,Bits.no]) (by show _=some _;simp (disch:=first|omega|assumption) only [go_sem,Oid.ab hpp,Oid.aa hpp,hpN,hO]) (by exact nbA (by simp [hpN,hO.mem]) _))
  refine aO rfl rfl (fun hb=>?_) (fun hb=>?_)
  case refine_1=>exact absurd c0 hb
  refine kw0 ?_
  by_cases c1':32 < n.length
  ·have hS':bq L fol ⟨pl,n::t,l,dir⟩ n t=([(pl,false)],.err 2):=by simp only [bq,c0,not_true_eq_false,if_false,if_pos c1']
   rw [hS'] at hS
   simp only [Prod.mk.injEq,List.cons.injEq,true_and] at hS
   obtain ⟨rfl,rfl⟩:=hS
   subst hres2
   obtain rfl:G2=F1:=hq2
   obtain rfl:G2=F':=hlast
   simp only [rsT,cO]
   refine aO rfl rfl (fun hb=>?_) (fun hb=>?_)
   case refine_2=>exact absurd (by omega) hb
   refine kw0 ?_
   refine aA (bI (by simp (disch:=first|omega|assumption) only [go_sem,Oid.ab hpp,Oid.aa hpp,hpN,hO,fnV,rdB,aD,cO,rsT,Bits.no]) (by show _=some _;simp (disch:=first|omega|assumption) only [go_sem,Oid.ab hpp,Oid.aa hpp,hpN,hO]) (by exact nbA (by simp [hpN,hO.mem]) _))
  refine aO rfl rfl (fun hb=>?_) (fun hb=>?_)
  case refine_1=>exact absurd (by omega) c1'
  refine kw0 ?_
  by_cases c2':n=[46]
  ·have hS':bq L fol ⟨pl,n::t,l,dir⟩ n t=([(pl,false)],.go ⟨pl,t,l,dir⟩):=by simp only [bq,c0,not_true_eq_false,if_false,if_neg c1',if_pos c2']
   rw [hS'] at hS
   simp only [Prod.mk.injEq,List.cons.injEq,true_and] at hS
   obtain ⟨rfl,rfl⟩:=hS
   obtain ⟨⟨g1,g2⟩,g3⟩:=hgo _ rfl
   simp only at g1 g2 g3
   have hwk':wkW ⟨pl,t,l,dir⟩=wtF t+(8 - l) * 302:=rfl
   refine aO rfl rfl (fun hb=>?_) (fun hb=>?_)
   case refine_2=>exact absurd c2' hb
   refine kw0 ?_
   exact ⟨_,_,by omega,fun _ _ h=>h,⟨pl,t,l,dir⟩,_,_,rfl,by omega,by omega,g3,by simp only;omega,hres2,hq2⟩
  refine aO rfl rfl (fun hb=>?_) (fun hb=>?_)
  case refine_1=>exact absurd hb c2'
  refine kw0 ?_
  by_cases c3':n=[46,46]
  ·have hS':bq L fol ⟨pl,n::t,l,dir⟩ n t=([(pl,false)],.go ⟨aN pl,t,l,dir⟩):=by simp only [bq,c0,not_true_eq_false,if_false,if_neg c1',if_neg c2',if_pos c3']
   rw [hS'] at hS
   simp only [Prod.mk.injEq,List.cons.injEq,true_and] at hS
   obtain ⟨rfl,rfl⟩:=hS
   obtain ⟨⟨g1,g2⟩,g3⟩:=hgo _ rfl
   simp only at g1 g2 g3
   have hwk':wkW ⟨aN pl,t,l,dir⟩=wtF t+(8 - l) * 302:=rfl
   have hal:=iC pl
   refine aO rfl rfl (fun hb=>?_) (fun hb=>?_)
   case refine_2=>exact absurd c3' hb
   refine kw0 ?_
   refine kr1 (hab _) ?_
   refine kw0 ?_
   exact ⟨_,_,by omega,fun _ _ h=>h,⟨aN pl,t,l,dir⟩,_,_,rfl,by omega,by omega,g3,by simp only;omega,hres2,hq2⟩
  refine aO rfl rfl (fun hb=>?_) (fun hb=>?_)
  case refine_1=>exact absurd hb c3'
  have hS':bq L fol ⟨pl,n::t,l,dir⟩ n t=([(pl,false),(pl++(47::n),false)],goF L fol ⟨pl,n::t,l,dir⟩ n t):=by simp only [bq,c0,not_true_eq_false,if_false,if_neg c1',if_neg c2',if_neg c3',iJ]
  rw [hS'] at hS
  simp only [Prod.mk.injEq,List.cons.injEq,true_and] at hS
  obtain ⟨rfl,hgf⟩:=hS
  have hq3:∃ G3,RR' st N L [(pl++(47::n),false)] G2 G3∧RR' st N L (rdT L fol k [] rr) G3 F1:=by
   cases rr with
   | err e=>obtain ⟨G3,k1,k2⟩:=hq2;exact ⟨G3,⟨G3,k1,rfl⟩,k2⟩
   | go w'=>obtain ⟨G3,k1,k2⟩:=hq2;exact ⟨G3,⟨G3,k1,rfl⟩,k2⟩
  obtain ⟨G3,⟨_,hat,rfl⟩,hq4⟩:=hq3
  rename_i G3
  have hat':∀ p,p.mono=false→aW p N→aj Tryz.prog 49 [.ptr st 0,.str (pl++(47::n))] (Oid.under p) ⟨bk (N,G2),(aF L (pl++(47::n))).av,sb N G3⟩:=hat
  have hdl:=hK.da (pl++(47::n))
  have hgo':goF L fol ⟨pl,n::t,l,dir⟩ n t=if (aF L (pl++(47::n))).k=3∧(¬ t=[]∨fol=true∨dir=true) then cX ⟨pl,n::t,l,dir⟩ t (aF L (pl++(47::n))).l
   else if ¬ t=[]∧(aF L (pl++(47::n))).k=0 then .err 10 else .go ⟨pl++(47::n),t,l,dir⟩:=rfl
  rw [hgo'] at hgf
  clear hgo' hS' hat hq2 hin
  generalize aF L (pl++(47::n))=B at hat' hdl hgf
  obtain ⟨ek,em,el⟩:=B
  simp only [Bits.av] at hat' hdl hgf
  have hcat:pl++[47]++n=pl++(47::n):=by simp
  refine kw hcat ?_
  refine kr1 hat' ?_
  refine cz [0,2,7,9,10,11,12,15,16,87] (fun s'=>∃ c' ce:Nat,s' = ⟨[(0,.ptr pp 0),(2,.bool fol),(7,.ptr (.sub 0 1 x.p) 0),(9,.str pl),(10,.list 1 (t.map AV.str)),(11,.bool dir),(12,.int .i64 l),(15,.str (pl++(47::n))),(16,.ptr (.sub ce 6 x.p) 0),(87,.bool (decide (ek=3∧(¬ t=[]∨fol=true∨dir=true))))],Mem.blk (([(pp,.cells [.ptr st 0,.str cwd,.int .i64 um]),(.sub 0 1 x.p,.cells [.int .i64 0,.int .i64 0,.str []])])++[(.sub ce 6 x.p,.cells [.int .i64 ek,.int .i64 em,.str el])]) [(N,G3)],c',[]⟩∧4 < ce∧ce < c') ?_ ?_
  ·by_cases k3:ek=3
   ·cases t with
    | cons t0 tr =>
     rw [show decide (ek=3∧(¬ (t0::tr)=[]∨fol=true∨dir=true))=true from by simp [k3]]
     have e9:(0:Int) < ((tr.length+1:Nat):Int):=by omega
     refine ao nmd [(3,77),(7,81),(10,84)] hng (by kernel_rfl) fun hf C S K hC1 hC hS hK=>?_;simp (disch:=first|omega|assumption) only [go_sem,Oid.ab hpp,Oid.aa hpp,hpN,hO,k3,e9,List.length_map,List.map_cons,List.length_cons,decide_true,decide_false,ne_eq,not_true_eq_false,not_false_eq_true]
     refine hK ?_;clear hK hS hC hC1 K S C hf
     exact aL ⟨_,_,by rw [k3];rfl,by omega,by omega⟩
    | nil =>
     rw [show decide (ek=3∧(¬ ([]:List Str)=[]∨fol=true∨dir=true))=(fol || dir) from by cases fol<;>cases dir<;>simp [k3]]
     have e9:¬ (0:Int) < ((0:Nat):Int):=by omega
     cases fol with
     | true =>
      refine kr (.d [] [(3,77),(7,81),(10,84)] []) (ai k3 e9) trivial ?_
      exact aL ⟨_,_,by rw [k3];rfl,by omega,by omega⟩
     | false =>
      cases dir with
      | true =>
       refine kr (.d [] [(3,77),(7,81),(10,84)] []) (ai k3 e9) trivial ?_
       exact aL ⟨_,_,by rw [k3];rfl,by omega,by omega⟩
      | false =>
       refine kr (.d [] [(3,77),(7,81),(10,84)] []) (ai k3 e9) trivial ?_
       exact aL ⟨_,_,by rw [k3];rfl,by omega,by omega⟩
   ·rw [show decide (ek=3∧(¬ t=[]∨fol=true∨dir=true))=false from by simp [k3]]
    refine kr (.d [] [(3,77),(7,81),(10,84)] []) k3 trivial ?_
    exact aL ⟨_,_,rfl,by omega,by omega⟩
  clear hc4 c
  rintro s' ⟨c,ce,rfl,hce,hcc⟩
  simp only [List.cons_append,List.nil_append]
  by_cases k3:ek=3∧(¬ t=[]∨fol=true∨dir=true)
  ·rw [decide_eq_true k3]
   rw [if_pos k3] at hgf
   (try ((first|refine zn ?_|refine ze ?_|refine zk ?_);with_reducible (constructor;repeat constructor));try refine zl ?_)
   refine ax rfl rfl ?_
   refine kw0 ?_
   by_cases k5:8 < l+1
   ·have hlf:cX ⟨pl,n::t,l,dir⟩ t el = .err 17:=by simp only [cX,if_pos k5]
    rw [hlf] at hgf
    subst hgf
    subst hres2
    obtain rfl:G3=F1:=hq4
    obtain rfl:G3=F':=hlast
    refine aO rfl rfl (fun hb=>?_) (fun hb=>?_)
    case refine_2=>exact absurd (by omega) hb
    refine kw0 ?_
    refine aA (bI (by simp (disch:=first|omega|assumption) only [go_sem,Oid.ab hpp,Oid.aa hpp,hpN,hO,fnV,rdB,aD,cO,rsT,Bits.no]) (by show _=some _;simp (disch:=first|omega|assumption) only [go_sem,Oid.ab hpp,Oid.aa hpp,hpN,hO]) (by exact nbA (by simp [hpN,hO.mem]) _))
   refine aO rfl rfl (fun hb=>?_) (fun hb=>?_)
   case refine_1=>exact absurd (by omega) k5
   refine kw0 ?_
   by_cases k6:el=[]
   ·have hlf:cX ⟨pl,n::t,l,dir⟩ t el = .err 10:=by simp only [cX,if_neg k5,if_pos k6]
    rw [hlf] at hgf
    subst hgf
    subst hres2
    obtain rfl:G3=F1:=hq4
    obtain rfl:G3=F':=hlast
    refine aO rfl rfl (fun hb=>?_) (fun hb=>?_)
    case refine_2=>exact absurd k6 hb
    refine kw0 ?_
    refine aA (bI (by simp (disch:=first|omega|assumption) only [go_sem,Oid.ab hpp,Oid.aa hpp,hpN,hO,fnV,rdB,aD,cO,rsT,Bits.no]) (by show _=some _;simp (disch:=first|omega|assumption) only [go_sem,Oid.ab hpp,Oid.aa hpp,hpN,hO]) (by exact nbA (by simp [hpN,hO.mem]) _))
   refine aO rfl rfl (fun hb=>?_) (fun hb=>?_)
   case refine_1=>exact absurd hb k6
   have hlf:cX ⟨pl,n::t,l,dir⟩ t el = .go ⟨if el.getD 0 0=47 then [] else pl,aQ el++t,l+1,dir || (decide (t=[]) && cK el)⟩:=by simp only [cX,if_neg k5,if_neg k6]
   rw [hlf] at hgf
   obtain ⟨⟨g1,g2⟩,g3⟩:=hgo _ hgf.symm
   subst hgf
   simp only at g1 g2 g3
   have hpc:=fun p=>nY el (by omega) p
   have hpl2:(aQ el).length≤el.length+1:=by
    have h1:=iz 47 el
    have h2:=List.length_filter_le (fun t:Str=>!t.isEmpty) (a8 47 el)
    unfold aQ;omega
   have hel:0 < el.length:=List.length_pos_iff.2 k6
   have hwk':wkW ⟨if el.getD 0 0=47 then [] else pl,aQ el++t,l+1,dir || (decide (t=[]) && cK el)⟩=wtF (aQ el++t)+(8 - (l+1)) * 302:=rfl
   generalize cK el=ee at hpc hwk' hres2 hq4 g1 g2 g3
   refine kw0 ?_
   refine ao nmd [] hng (by kernel_rfl) fun hf C S K hC1 hC hS hK=>?_;simp (disch:=first|omega|assumption) only [go_sem,Oid.ab hpp,Oid.aa hpp,hpN,hO]
   refine hC _ _ _ (hpc _) (fun _ h=>by cases h) ?_ (fun _ _ h=>h.elim)
   rintro _ _ ⟨id,hid,rfl,rfl⟩
   have i1:¬ id=pp:=fun e=>hpp (Oid.ae (e ▸ hid))
   have i2:id ∉ N:=fun h=>hO id h (Oid.ae hid)
   have i3:¬ id = .sub 0 1 x.p:=fun e=>by
    subst e
    have:=(Oid.apart hid (Oid.ay _)).1;omega
   have i4:¬ id = .sub ce 6 x.p:=fun e=>by
    subst e
    have:=(Oid.apart hid (Oid.ay _)).1;omega
   simp (disch:=first|omega|assumption) only [go_sem,Oid.ab hpp,Oid.aa hpp,hpN,hO,i1,i2,i3,i4]
   refine hK ?_;clear hK hS hC hC1 K S C hf
   (try ((first|refine zn ?_|refine ze ?_|refine zk ?_);with_reducible (constructor;repeat constructor));try refine zl ?_)
   refine cz [0,2,7,9,10,11,12,16,17] (fun s'=>∃ c':Nat,s' = ⟨[(0,.ptr pp 0),(2,.bool fol),(7,.ptr (.sub 0 1 x.p) 0),(9,.str pl),(10,.list 1 (t.map AV.str)),(11,.bool (dir || (decide (t=[]) && ee))),(12,.int .i64 ((l:Int)+1)),(16,.ptr (.sub ce 6 x.p) 0),(17,.sl id 1 (aQ el).length)],Mem.blk (([(pp,.cells [.ptr st 0,.str cwd,.int .i64 um]),(.sub 0 1 x.p,.cells [.int .i64 0,.int .i64 0,.str []])])++[(.sub ce 6 x.p,.cells [.int .i64 ek,.int .i64 em,.str el]),(id,.arr 1 ((aQ el).map AV.str))]) [(N,G3)],c',[]⟩∧c < c') ?_ ?_
   ·cases dir with
    | true =>
     refine ao nmd [(1,104),(3,106)] hng (by kernel_rfl) fun hf C S K hC1 hC hS hK=>?_;simp (disch:=first|omega|assumption) only [go_sem,Oid.ab hpp,Oid.aa hpp,hpN,hO,List.length_map,decide_true,decide_false,ne_eq,not_true_eq_false,not_false_eq_true]
     refine hK ?_;clear hK hS hC hC1 K S C hf
     exact aL ⟨_,rfl,by omega⟩
    | false =>
     cases ee with
     | false =>
      rw [Bool.and_false,Bool.or_false]
      refine ao nmd [(1,104),(3,106)] hng (by kernel_rfl) fun hf C S K hC1 hC hS hK=>?_;simp (disch:=first|omega|assumption) only [go_sem,Oid.ab hpp,Oid.aa hpp,hpN,hO,List.length_map,decide_true,decide_false,ne_eq,not_true_eq_false,not_false_eq_true]
      refine hK ?_;clear hK hS hC hC1 K S C hf
      exact aL ⟨_,rfl,by omega⟩
     | true =>
      rw [Bool.and_true,Bool.false_or]
      refine ao nmd [(1,104),(3,106)] hng (by kernel_rfl) fun hf C S K hC1 hC hS hK=>?_;simp (disch:=first|omega|assumption) only [go_sem,Oid.ab hpp,Oid.aa hpp,hpN,hO,List.length_map,decide_true,decide_false,ne_eq,not_true_eq_false,not_false_eq_true]
      refine hK ?_;clear hK hS hC hC1 K S C hf
      exact aL ⟨_,by rw [show decide (t=[])=decide ((t.length:Int)=0) from decide_eq_decide.2 ⟨fun h=>by rw [h];rfl,fun h=>List.eq_nil_of_length_eq_zero (by omega)⟩];rfl,by omega⟩
   rintro s' ⟨c5,rfl,hc5⟩
   simp only [List.cons_append,List.nil_append]
   refine kw (ai i1 (ai i2 (ai i3 (ai i4 hel)))) ?_
   refine cz [0,2,7,9,10,11,12,17] (fun s'=>∃ c':Nat,s' = ⟨[(0,.ptr pp 0),(2,.bool fol),(7,.ptr (.sub 0 1 x.p) 0),(9,.str (if el.getD 0 0=47 then [] else pl)),(10,.list 1 (t.map AV.str)),(11,.bool (dir || (decide (t=[]) && ee))),(12,.int .i64 ((l:Int)+1)),(17,.sl id 1 (aQ el).length)],Mem.blk (([(pp,.cells [.ptr st 0,.str cwd,.int .i64 um]),(.sub 0 1 x.p,.cells [.int .i64 0,.int .i64 0,.str []])])++[(.sub ce 6 x.p,.cells [.int .i64 ek,.int .i64 em,.str el]),(id,.arr 1 ((aQ el).map AV.str))]) [(N,G3)],c',[]⟩∧c < c') ?_ ?_
   ·refine aO rfl rfl (fun hb=>?_) (fun hb=>?_)
    ·rw [if_pos (UInt8.toNat_inj.1 (by show _=47;omega):el.getD 0 0=47)]
     refine kw0 ?_
     exact aL ⟨_,rfl,by omega⟩
    ·rw [if_neg (fun e:el.getD 0 0=47=>hb (by rw [e];rfl))]
     refine qw0 ?_
     exact aL ⟨_,rfl,by omega⟩
   clear hc5 c5
   rintro s' ⟨c5,rfl,hc5⟩
   simp only [List.cons_append,List.nil_append]
   have htl2:=ri t
   (try ((first|refine zn ?_|refine ze ?_|refine zk ?_);with_reducible (constructor;repeat constructor));try refine zl ?_)
   refine ao nmd [] hng (by kernel_rfl) fun hf C S K hC1 hC hS hK=>?_;simp (disch:=first|omega|assumption) only [go_sem,Oid.ab hpp,Oid.aa hpp,hpN,hO,i1,i2,i3,i4,List.length_map]
   refine hK ?_;clear hK hS hC hC1 K S C hf
   show T Tryz.prog x 149 _ _ _
   have i5:¬ Oid.sub ce 6 x.p=Oid.sub c5 2 x.p:=by rw [Oid.ub (by omega)];exact not_false
   have i6:¬ Oid.sub 0 1 x.p=Oid.sub c5 2 x.p:=by rw [Oid.ub (by omega)];exact not_false
   refine kK (.sub c5 2 x.p) 1 ((aQ el).map AV.str++t.map AV.str) (ks (ai i1 (ai i2 (ai i3 i4)))) ?_
   simp (disch:=first|omega|assumption) only [go_sem,Oid.ab hpp,Oid.aa hpp,hpN,hO,i1,i2,i3,i4,i5,i6,List.length_map,List.length_append]
   rw [← List.map_append]
   refine qw0 ?_
   exact ⟨_,_,by omega,hkeep [(.sub ce 6 x.p,_)] G3 (fun e he=>by rw [List.mem_singleton.1 he];exact hO.mem),⟨if el.getD 0 0=47 then [] else pl,aQ el++t,l+1,dir || (decide (t=[]) && ee)⟩,_,_,rfl,by omega,by omega,g3,by simp only;omega,hres2,hq4⟩
  ·rw [decide_eq_false k3]
   rw [if_neg k3] at hgf
   (try ((first|refine zn ?_|refine ze ?_|refine zk ?_);with_reducible (constructor;repeat constructor));try refine zl ?_)
   refine aw rfl rfl ?_
   (try ((first|refine zn ?_|refine ze ?_|refine zk ?_);with_reducible (constructor;repeat constructor));try refine zl ?_)
   by_cases k4:¬ t=[]∧ek=0
   ·rw [if_pos k4] at hgf
    subst hgf
    subst hres2
    obtain rfl:G3=F1:=hq4
    obtain rfl:G3=F':=hlast
    have e9:(0:Int) < (t.length:Int):=by have:=List.length_pos_iff.2 k4.1;omega
    have k4':=k4.2
    refine ao nmd [(3,122)] hng (by kernel_rfl) fun hf C S K hC1 hC hS hK=>?_;simp (disch:=first|omega|assumption) only [go_sem,Oid.ab hpp,Oid.aa hpp,hpN,hO,e9,k4',List.length_map,eq_self,decide_true,decide_false,ne_eq,not_true_eq_false,not_false_eq_true]
    refine hK ?_;clear hK hS hC hC1 K S C hf
    refine kw0 ?_
    refine aA (bI (by simp (disch:=first|omega|assumption) only [go_sem,Oid.ab hpp,Oid.aa hpp,hpN,hO,fnV,rdB,aD,cO,rsT,Bits.no]) (by show _=some _;simp (disch:=first|omega|assumption) only [go_sem,Oid.ab hpp,Oid.aa hpp,hpN,hO]) (by exact nbA (by simp [hpN,hO.mem]) _))
   ·rw [if_neg k4] at hgf
    obtain ⟨⟨g1,g2⟩,g3⟩:=hgo _ hgf.symm
    subst hgf
    simp only at g1 g2 g3
    have hwk':wkW ⟨pl++(47::n),t,l,dir⟩=wtF t+(8 - l) * 302:=rfl
    refine cz [0,2,7,9,10,11,12,15,126] (fun s'=>∃ c':Nat,s' = ⟨[(0,.ptr pp 0),(2,.bool fol),(7,.ptr (.sub 0 1 x.p) 0),(9,.str pl),(10,.list 1 (t.map AV.str)),(11,.bool dir),(12,.int .i64 l),(15,.str (pl++(47::n))),(126,.bool false)],Mem.blk (([(pp,.cells [.ptr st 0,.str cwd,.int .i64 um]),(.sub 0 1 x.p,.cells [.int .i64 0,.int .i64 0,.str []])])++[(.sub ce 6 x.p,.cells [.int .i64 ek,.int .i64 em,.str el])]) [(N,G3)],c',[]⟩∧4 < c') ?_ ?_
    ·by_cases ht0:t=[]
     ·have e9:¬ (0:Int) < (t.length:Int):=by rw [ht0];decide
      refine ao nmd [(3,122)] hng (by kernel_rfl) fun hf C S K hC1 hC hS hK=>?_;simp (disch:=first|omega|assumption) only [go_sem,Oid.ab hpp,Oid.aa hpp,hpN,hO,e9,List.length_map,decide_true,decide_false,ne_eq,not_true_eq_false,not_false_eq_true]
      refine hK ?_;clear hK hS hC hC1 K S C hf
      exact aL ⟨_,rfl,by omega⟩
     ·have he0:¬ ek=0:=fun e=>k4 ⟨ht0,e⟩
      have e9:(0:Int) < (t.length:Int):=by have:=List.length_pos_iff.2 ht0;omega
      refine ao nmd [(3,122)] hng (by kernel_rfl) fun hf C S K hC1 hC hS hK=>?_;simp (disch:=first|omega|assumption) only [go_sem,Oid.ab hpp,Oid.aa hpp,hpN,hO,e9,he0,List.length_map,decide_true,decide_false,ne_eq,not_true_eq_false,not_false_eq_true]
      refine hK ?_;clear hK hS hC hC1 K S C hf
      exact aL ⟨_,rfl,by omega⟩
    rintro s' ⟨c',rfl,hc'⟩
    (try ((first|refine zn ?_|refine ze ?_|refine zk ?_);with_reducible (constructor;repeat constructor));try refine zl ?_)
    refine aw rfl rfl ?_
    refine kw0 ?_
    exact ⟨_,_,by omega,hkeep [(.sub ce 6 x.p,_)] G3 (fun e he=>by rw [List.mem_singleton.1 he];exact hO.mem),⟨pl++(47::n),t,l,dir⟩,_,_,rfl,by omega,by omega,g3,by simp only;omega,hres2,hq4⟩
end Go.Proofs.YtfbnaalhioogoaaGreatDoor
namespace Go.Proofs.YtfbnaalhioogoaaGreatDoor
open Go Go.Ab
set_option maxRecDepth 20000
set_option maxHeartbeats 8000000
theorem tk {L:PL} (hs:aU ltB L) (hl:jh L) (fol:Bool):∀ (k:Nat) (w:Wk),wkW w≤k→∀ e,(bP L fol k w).2 = .err e→¬ e=0
 | 0,⟨a,todo,l,d⟩,h,e,he=>by
  cases todo with
  | nil=>simp only [bP,if_true] at he;cases he
  | cons n t=>simp only [wkW,wtF] at h;omega
 | k+1,⟨a,todo,l,d⟩,h,e,he=>by
  cases todo with
  | nil=>simp only [bP] at he;cases he
  | cons n t =>
   have hw:wkW ⟨a,n::t,l,d⟩=n.length+1+wtF t+(8 - l) * 302:=rfl
   have hwt:wtF (n::t)=n.length+1+wtF t:=rfl
   simp only [bP] at he
   cases hst:bq L fol ⟨a,n::t,l,d⟩ n t with
   | mk rd r =>
    rw [hst] at he
    cases r with
    | err e' =>
     simp only [Rs.err.injEq] at he
     subst he
     unfold bq at hst
     split at hst
     ·rename_i h0;simp only [Prod.mk.injEq,Rs.err.injEq] at hst;rw [← hst.2];exact h0
     split at hst
     ·simp only [Prod.mk.injEq,Rs.err.injEq] at hst;rw [← hst.2];decide
     split at hst
     ·simp at hst
     split at hst
     ·simp at hst
     obtain ⟨-,hst⟩:=Prod.mk.inj hst
     unfold goF at hst
     split at hst
     ·unfold cX at hst
      split at hst
      ·rw [← Rs.err.inj hst];decide
      split at hst
      ·rw [← Rs.err.inj hst];decide
      ·cases hst
     ·split at hst
      ·rw [← Rs.err.inj hst];decide
      ·cases hst
    | go w' =>
     obtain ⟨g1,g2⟩:=kU hs hl hst
     simp only at g1 g2
     have hw':wkW w' = wtF w'.todo+(8 - w'.links) * 302:=rfl
     exact tk hs hl fol k w' (by omega) e he
theorem dA {L:PL} (hK:KL L) {cwd:Str} (path:Str) (fol:Bool):∀ e,(findF L cwd path fol).2 = .err e→¬ e=0:=fun e he=>by
 unfold findF at he
 split at he
 ·rw [← Rs.err.inj he];decide
 split at he
 ·rw [← Rs.err.inj he];decide
 have hr:=tk hK.so hK.lk fol (wkW (aK cwd path)) (aK cwd path) (Nat.le_refl _)
 generalize bP L fol (wkW (aK cwd path)) (aK cwd path)=y at he hr
 obtain ⟨rd,r⟩:=y
 cases r with
 | err e'=>simp only [cO,Rs.err.injEq] at he;subst he;exact hr _ rfl
 | go w =>
  simp only [cO] at he
  split at he
  ·rw [← Rs.err.inj he];decide
  ·cases he
theorem cY (L:PL) (cwd path:Str) (fol:Bool):(∃ rd e,findF L cwd path fol=(rd,.err e)∧bS L cwd path fol=(rd,.err e))∨(∃ rd pl ek em el,findF L cwd path fol=(rd,.go (pl,⟨ek,em,el⟩))∧ek=0∧bS L cwd path fol=(rd,.err 10)) ∨
  (∃ rd pl ek em el,findF L cwd path fol=(rd,.go (pl,⟨ek,em,el⟩))∧¬ ek=0∧bS L cwd path fol=(rd,.go (pl,⟨ek,em,el⟩))):=by
 unfold bS
 generalize findF L cwd path fol=y
 obtain ⟨rd,r⟩:=y
 cases r with
 | err e=>exact .inl ⟨rd,e,rfl,rfl⟩
 | go a =>
  obtain ⟨pl,ek,em,el⟩:=a
  by_cases h:ek=0
  ·exact .inr (.inl ⟨rd,pl,ek,em,el,rfl,h,by simp only [aV,h,if_true,List.append_nil]⟩)
  ·exact .inr (.inr ⟨rd,pl,ek,em,el,rfl,h,by simp only [aV,if_neg h,List.append_nil]⟩)
theorem kg (L:PL) (cwd path:Str) (fol:Bool):(∃ rd e,findF L cwd path fol=(rd,.err e))∨(∃ rd pl ek em el,findF L cwd path fol=(rd,.go (pl,⟨ek,em,el⟩))):=by
 generalize findF L cwd path fol=y
 obtain ⟨rd,r⟩:=y
 cases r with
 | err e=>exact .inl ⟨rd,e,rfl⟩
 | go a=>obtain ⟨pl,ek,em,el⟩:=a;exact .inr ⟨rd,pl,ek,em,el,rfl⟩
theorem fC:¬ (2:Int)=0:=by decide
theorem Hz:¬ (3:Int)=0:=by decide
section
variable {pp st:Oid} {N:List Oid} {F F1 F2:Oid→ah} {L:PL} (hK:KL L) (hm:∀ n,0≤(aF L n).m∧(aF L n).m≤7) {cwd:Str} (hc:cwd.length≤1000000) (um:Int) (hpN:pp ∉ N) {p:Oid} (hp:p.mono=false) (hpp:¬ Oid.under p pp) (hO:aW p N)
include hK hm hc hpN hp hpp hO
omit hm in
theorem HA (path:Str) (hpath:path.length≤140737488355328) (hA:RR' st N L (cL L cwd path).1 F F1) :
  aj Tryz.prog 165 [.ptr pp 0,.str path] (Oid.under p) ⟨(pp,prC st cwd um)::bk (N,F),rdV (cL L cwd path).2,sb N F1⟩:=by
 have hf:=fun F' h p hp hpp hO=>db (pp:=pp) (st:=st) (N:=N) (F:=F) (F':=F') hK path cwd um true hpN hc hpath h p hp hpp hO
 have hne:=dA hK (cwd:=cwd) path true
 have hlen:=cj hK hc path true
 unfold cL at hA ⊢
 rcases cY L cwd path true with ⟨rd,e,h1,h2⟩|⟨rd,pl,ek,em,el,h1,h0,h2⟩|⟨rd,pl,ek,em,el,h1,h0,h2⟩
 ·rw [h2] at hA ⊢
  rw [h1] at hf hne
  simp only [aV] at hA ⊢
  have e0:¬ e=0:=hne _ rfl
  have hf':=hf _ hA
  unfold prC at hf' ⊢
  simp only [fnV,rdB,Bits.no,aD] at hf'
  refine aC (n:=35) (rs:=[.tmp 4,.tmp 5]) Tryz.func165 rfl rfl (by decide) rfl rfl rfl ?_;rintro x rfl hrd hng
  rw [aB]
  refine kr0 ?_
  refine kr1 hf' ?_
  refine kw e0 ?_
  exact kq
 ·rw [h2] at hA ⊢
  rw [h1] at hf hne
  simp only [aV] at hA ⊢
  have hf':=hf _ hA
  unfold prC at hf' ⊢
  simp only [fnV,rdB,Bits.no,aD] at hf'
  refine aC (n:=35) (rs:=[.tmp 4,.tmp 5]) Tryz.func165 rfl rfl (by decide) rfl rfl rfl ?_;rintro x rfl hrd hng
  rw [aB]
  refine kr0 ?_
  refine kr1 hf' ?_
  refine kw h0 ?_
  exact kq
 ·rw [h2] at hA ⊢
  rw [h1] at hf hne hlen
  simp only [bG] at hA ⊢
  have hpl:=hlen _ rfl
  simp only at hpl
  obtain ⟨F0,hA1,hA2⟩:=aZ hA
  by_cases c1:ek=2
  ·rw [if_pos c1]
   obtain rfl:F0=F1:=hA2
   have hf':=hf _ hA1
   unfold prC at hf' ⊢
   simp only [fnV,rdB,Bits.no,aD] at hf'
   refine aC (n:=35) (rs:=[.tmp 4,.tmp 5]) Tryz.func165 rfl rfl (by decide) rfl rfl rfl ?_;rintro x rfl hrd hng
   rw [aB]
   refine kr0 ?_
   refine kr1 hf' ?_
   (repeat (first|(refine ax rfl rfl ?_)|(refine aw rfl rfl ?_)|(refine ao nmd [] hng (by kernel_rfl) fun hf C S K hC1 hC hS hK=>?_;simp (disch:=first|omega|assumption) only [go_sem,Oid.ab hpp,Oid.aa hpp,hpN,hO,h0,c1,fC,eq_self,decide_true,decide_false,ne_eq,not_true_eq_false,not_false_eq_true];refine hK ?_;clear hK hS hC hC1 K S C hf)|((first|refine zn ?_|refine ze ?_|refine zk ?_);with_reducible (constructor;repeat constructor);try refine zl ?_)))
   exact kq
  by_cases c2:dG em 4=0
  ·rw [if_neg c1,if_pos c2]
   obtain rfl:F0=F1:=hA2
   have hf':=hf _ hA1
   unfold prC at hf' ⊢
   simp only [fnV,rdB,Bits.no,aD] at hf'
   refine aC (n:=35) (rs:=[.tmp 4,.tmp 5]) Tryz.func165 rfl rfl (by decide) rfl rfl rfl ?_;rintro x rfl hrd hng
   rw [aB]
   refine kr0 ?_
   refine kr1 hf' ?_
   refine kw (ai h0 (ai c1 c2)) ?_
   exact kq
  ·rw [if_neg c1,if_neg c2]
   obtain rfl:F0=F1:=hA2
   have hf':=hf _ hA1
   unfold prC at hf' ⊢
   simp only [fnV,rdB,Bits.no,aD] at hf'
   refine aC (n:=35) (rs:=[.tmp 4,.tmp 5]) Tryz.func165 rfl rfl (by decide) rfl rfl rfl ?_;rintro x rfl hrd hng
   rw [aB]
   refine kr0 ?_
   refine kr1 hf' ?_
   refine kw (ai h0 (ai c1 c2)) ?_
   exact kq
omit hm in
theorem uT (path:Str) (hpath:path.length≤140737488355328) (hA:RR' st N L (dH L cwd path).1 F F1) :
  aj Tryz.prog 125 [.ptr pp 0,.str path] (Oid.under p) ⟨(pp,prC st cwd um)::bk (N,F),rdV (dH L cwd path).2,sb N F1⟩:=by
 have hf:=fun F' h p hp hpp hO=>db (pp:=pp) (st:=st) (N:=N) (F:=F) (F':=F') hK path cwd um false hpN hc hpath h p hp hpp hO
 have hne:=dA hK (cwd:=cwd) path false
 have hlen:=cj hK hc path false
 unfold dH at hA ⊢
 rcases cY L cwd path false with ⟨rd,e,h1,h2⟩|⟨rd,pl,ek,em,el,h1,h0,h2⟩|⟨rd,pl,ek,em,el,h1,h0,h2⟩
 ·rw [h2] at hA ⊢
  rw [h1] at hf hne
  simp only [aV] at hA ⊢
  have e0:¬ e=0:=hne _ rfl
  have hf':=hf _ hA
  unfold prC at hf' ⊢
  simp only [fnV,rdB,Bits.no,aD] at hf'
  refine aC (n:=30) (rs:=[.tmp 4,.tmp 5]) Tryz.func125 rfl rfl (by decide) rfl rfl rfl ?_;rintro x rfl hrd hng
  rw [aB]
  refine kr0 ?_
  refine kr1 hf' ?_
  refine kw e0 ?_
  exact kq
 ·rw [h2] at hA ⊢
  rw [h1] at hf hne
  simp only [aV] at hA ⊢
  have hf':=hf _ hA
  unfold prC at hf' ⊢
  simp only [fnV,rdB,Bits.no,aD] at hf'
  refine aC (n:=30) (rs:=[.tmp 4,.tmp 5]) Tryz.func125 rfl rfl (by decide) rfl rfl rfl ?_;rintro x rfl hrd hng
  rw [aB]
  refine kr0 ?_
  refine kr1 hf' ?_
  refine kw h0 ?_
  exact kq
 ·rw [h2] at hA ⊢
  rw [h1] at hf hne hlen
  simp only [bG] at hA ⊢
  have hpl:=hlen _ rfl
  simp only at hpl
  obtain ⟨F0,hA1,hA2⟩:=aZ hA
  by_cases c1:ek=3
  ·rw [if_neg (fun h=>h c1)]
   obtain rfl:F0=F1:=hA2
   have hf':=hf _ hA1
   unfold prC at hf' ⊢
   simp only [fnV,rdB,Bits.no,aD] at hf'
   refine aC (n:=30) (rs:=[.tmp 4,.tmp 5]) Tryz.func125 rfl rfl (by decide) rfl rfl rfl ?_;rintro x rfl hrd hng
   rw [aB]
   refine kr0 ?_
   refine kr1 hf' ?_
   (repeat (first|(refine ax rfl rfl ?_)|(refine aw rfl rfl ?_)|(refine ao nmd [] hng (by kernel_rfl) fun hf C S K hC1 hC hS hK=>?_;simp (disch:=first|omega|assumption) only [go_sem,Oid.ab hpp,Oid.aa hpp,hpN,hO,h0,c1,Hz,eq_self,decide_true,decide_false,ne_eq,not_true_eq_false,not_false_eq_true];refine hK ?_;clear hK hS hC hC1 K S C hf)|((first|refine zn ?_|refine ze ?_|refine zk ?_);with_reducible (constructor;repeat constructor);try refine zl ?_)))
   exact kq
  ·rw [if_pos c1]
   obtain rfl:F0=F1:=hA2
   have hf':=hf _ hA1
   unfold prC at hf' ⊢
   simp only [fnV,rdB,Bits.no,aD] at hf'
   refine aC (n:=30) (rs:=[.tmp 4,.tmp 5]) Tryz.func125 rfl rfl (by decide) rfl rfl rfl ?_;rintro x rfl hrd hng
   rw [aB]
   refine kr0 ?_
   refine kr1 hf' ?_
   refine kw (ai h0 c1) ?_
   exact kq
omit hm in
theorem HB (path:Str) (hpath:path.length≤140737488355328) (hA:RR' st N L (iK L cwd path).1 F F1) :
  aj Tryz.prog 166 [.ptr pp 0,.str path] (Oid.under p) ⟨(pp,prC st cwd um)::bk (N,F),lsV (iK L cwd path).2,sb N F1⟩:=by
 have hf:=fun F' h p hp hpp hO=>db (pp:=pp) (st:=st) (N:=N) (F:=F) (F':=F') hK path cwd um true hpN hc hpath h p hp hpp hO
 have hne:=dA hK (cwd:=cwd) path true
 have hlen:=cj hK hc path true
 unfold iK at hA ⊢
 rcases cY L cwd path true with ⟨rd,e,h1,h2⟩|⟨rd,pl,ek,em,el,h1,h0,h2⟩|⟨rd,pl,ek,em,el,h1,h0,h2⟩
 ·rw [h2] at hA ⊢
  rw [h1] at hf hne
  simp only [aV] at hA ⊢
  have e0:¬ e=0:=hne _ rfl
  have hf':=hf _ hA
  unfold prC at hf' ⊢
  simp only [fnV,rdB,Bits.no,aD] at hf'
  refine aC (n:=39) (rs:=[.tmp 4,.tmp 5]) Tryz.func166 rfl rfl (by decide) rfl rfl rfl ?_;rintro x rfl hrd hng
  rw [aB]
  refine kr0 ?_
  refine kr1 hf' ?_
  refine kw e0 ?_
  refine ga 4 1 rfl ?_
  exact kq
 ·rw [h2] at hA ⊢
  rw [h1] at hf hne
  simp only [aV] at hA ⊢
  have hf':=hf _ hA
  unfold prC at hf' ⊢
  simp only [fnV,rdB,Bits.no,aD] at hf'
  refine aC (n:=39) (rs:=[.tmp 4,.tmp 5]) Tryz.func166 rfl rfl (by decide) rfl rfl rfl ?_;rintro x rfl hrd hng
  rw [aB]
  refine kr0 ?_
  refine kr1 hf' ?_
  refine kw h0 ?_
  refine ga 4 1 rfl ?_
  exact kq
 ·rw [h2] at hA ⊢
  rw [h1] at hf hne hlen
  simp only [bG] at hA ⊢
  have hpl:=hlen _ rfl
  simp only at hpl
  obtain ⟨F0,hA1,hA2⟩:=aZ hA
  by_cases c1:ek=2
  case neg =>
   rw [if_pos c1] at hA2 ⊢
   obtain rfl:F0=F1:=hA2
   have hf':=hf _ hA1
   unfold prC at hf' ⊢
   simp only [fnV,rdB,Bits.no,aD] at hf'
   refine aC (n:=39) (rs:=[.tmp 4,.tmp 5]) Tryz.func166 rfl rfl (by decide) rfl rfl rfl ?_;rintro x rfl hrd hng
   rw [aB]
   refine kr0 ?_
   refine kr1 hf' ?_
   refine kw (ai h0 c1) ?_
   refine ga 4 1 rfl ?_
   exact kq
  rw [if_neg (fun h=>h c1)] at hA2 ⊢
  by_cases c2:dG em 4=0
  ·rw [if_pos c2] at hA2 ⊢
   obtain rfl:F0=F1:=hA2
   have hf':=hf _ hA1
   unfold prC at hf' ⊢
   simp only [fnV,rdB,Bits.no,aD] at hf'
   refine aC (n:=39) (rs:=[.tmp 4,.tmp 5]) Tryz.func166 rfl rfl (by decide) rfl rfl rfl ?_;rintro x rfl hrd hng
   rw [aB]
   refine kr0 ?_
   refine kr1 hf' ?_
   (repeat (first|(refine ax rfl rfl ?_)|(refine aw rfl rfl ?_)|(refine ao nmd [] hng (by kernel_rfl) fun hf C S K hC1 hC hS hK=>?_;simp (disch:=first|omega|assumption) only [go_sem,Oid.ab hpp,Oid.aa hpp,hpN,hO,h0,c1,fC,c2,eq_self,decide_true,decide_false,ne_eq,not_true_eq_false,not_false_eq_true];refine hK ?_;clear hK hS hC hC1 K S C hf)|((first|refine zn ?_|refine ze ?_|refine zk ?_);with_reducible (constructor;repeat constructor);try refine zl ?_)))
   refine ga 4 1 rfl ?_
   exact kq
  ·rw [if_neg c2] at hA2 ⊢
   obtain ⟨_,hnm,rfl⟩:=hA2
   rename_i F1
   have hnm':∀ p,p.mono=false→aW p N→aj Tryz.prog 172 [.ptr st 0,.str pl] (Oid.under p) ⟨bk (N,F0),.list 1 ((aP L pl).map AV.str),sb N F1⟩:=hnm
   generalize aP L pl=NL at hnm' ⊢
   have hf':=hf _ hA1
   unfold prC at hf' ⊢
   simp only [fnV,rdB,Bits.no,aD] at hf'
   refine aC (n:=39) (rs:=[.tmp 4,.tmp 5]) Tryz.func166 rfl rfl (by decide) rfl rfl rfl ?_;rintro x rfl hrd hng
   rw [aB]
   refine kr0 ?_
   refine kr1 hf' ?_
   (repeat (first|(refine ax rfl rfl ?_)|(refine aw rfl rfl ?_)|(refine ao nmd [] hng (by kernel_rfl) fun hf C S K hC1 hC hS hK=>?_;simp (disch:=first|omega|assumption) only [go_sem,Oid.ab hpp,Oid.aa hpp,hpN,hO,h0,c1,fC,c2,eq_self,decide_true,decide_false,ne_eq,not_true_eq_false,not_false_eq_true];refine hK ?_;clear hK hS hC hC1 K S C hf)|((first|refine zn ?_|refine ze ?_|refine zk ?_);with_reducible (constructor;repeat constructor);try refine zl ?_)))
   refine kr1 hnm' ?_
   refine kw0 ?_
   exact kq
end
end Go.Proofs.YtfbnaalhioogoaaGreatDoor
namespace Go.Proofs.YtfbnaalhioogoaaGreatDoor
open Go Go.Ab
set_option maxRecDepth 20000
set_option maxHeartbeats 8000000
section
variable {pp st:Oid} {N:List Oid} {F F1 F2:Oid→ah} {L:PL} (hK:KL L) (hm:∀ n,0≤(aF L n).m∧(aF L n).m≤7) {cwd:Str} (hc:cwd.length≤1000000) (um:Int) (hpN:pp ∉ N) {p:Oid} (hp:p.mono=false) (hpp:¬ Oid.under p pp) (hO:aW p N)
include hK hm hc hpN hp hpp hO
theorem BA (path:Str) (hpath:path.length≤140737488355328) (nk nm:Int) (nl:Str) (hA:RR' st N L (eJ L cwd path ⟨nk,nm,nl⟩).1 F F1) (hP:PR st N (bT (eJ L cwd path ⟨nk,nm,nl⟩).2) F1 F2) :
  aj Tryz.prog 170 [.ptr pp 0,.str path,.agg [.int .i64 nk,.int .i64 nm,.str nl]] (Oid.under p) ⟨(pp,prC st cwd um)::bk (N,F),.int .i64 (aD (eJ L cwd path ⟨nk,nm,nl⟩).2),sb N F2⟩:=by
 have hf:=fun F' h p hp hpp hO=>db (pp:=pp) (st:=st) (N:=N) (F:=F) (F':=F') hK path cwd um false hpN hc hpath h p hp hpp hO
 have hne:=dA hK (cwd:=cwd) path false
 have hlen:=cj hK hc path false
 unfold eJ at hA hP ⊢
 rcases kg L cwd path false with ⟨rd,e,h1⟩|⟨rd,pl,ek,em,el,h1⟩
 ·rw [h1] at hA hP ⊢
  rw [h1] at hf hne
  simp only [aV] at hA hP ⊢
  obtain rfl:F1=F2:=hP
  have e0:¬ e=0:=hne _ rfl
  have hf':=hf _ hA
  unfold prC at hf' ⊢
  simp only [fnV,rdB,Bits.no,aD] at hf'
  refine aC (n:=37) (rs:=[.tmp 6]) Tryz.func170 rfl rfl (by decide) rfl rfl rfl ?_;rintro x rfl hrd hng
  rw [aB]
  refine kr0 ?_
  refine kr1 hf' ?_
  refine kw e0 ?_
  exact kq
 ·rw [h1] at hA hP ⊢
  rw [h1] at hf hlen
  simp only [bG] at hA hP ⊢
  have hpl:=hlen _ rfl
  simp only at hpl
  obtain ⟨F0,hA1,hA2⟩:=aZ hA
  by_cases c1:ek=0
  case neg =>
   rw [if_pos c1] at hA2 hP ⊢
   obtain rfl:F0=F1:=hA2
   obtain rfl:F0=F2:=hP
   have hf':=hf _ hA1
   unfold prC at hf' ⊢
   simp only [fnV,rdB,Bits.no,aD] at hf'
   refine aC (n:=37) (rs:=[.tmp 6]) Tryz.func170 rfl rfl (by decide) rfl rfl rfl ?_;rintro x rfl hrd hng
   rw [aB]
   refine kr0 ?_
   refine kr1 hf' ?_
   refine kw c1 ?_
   exact kq
  rw [if_neg (fun h=>h c1)] at hA2 hP ⊢
  simp only [b7] at hA2 hP ⊢
  subst c1
  have hrm:=fun p hp hpp hO=>dP (pp:=pp) (st:=st) (N:=N) (F:=F0) (F1:=F1) (L:=L) (cwd:=cwd) um hpN (p:=p) hp hpp hO hm pl hpl hA2
  unfold prC at hrm
  generalize bO pl (aF L (aN pl))=g at hrm hP ⊢
  by_cases g0:g=0
  case neg =>
   rw [if_pos g0] at hP ⊢
   obtain rfl:F1=F2:=hP
   have hf':=hf _ hA1
   unfold prC at hf' ⊢
   simp only [fnV,rdB,Bits.no,aD] at hf'
   refine aC (n:=37) (rs:=[.tmp 6]) Tryz.func170 rfl rfl (by decide) rfl rfl rfl ?_;rintro x rfl hrd hng
   rw [aB]
   refine kr0 ?_
   refine kr1 hf' ?_
   refine kw0 ?_
   refine kr1 hrm ?_
   refine kw g0 ?_
   exact kq
  rw [if_neg (fun h=>h g0)] at hP ⊢
  obtain ⟨_,hput,rfl⟩:=hP
  rename_i F2
  have hput':∀ p,p.mono=false→aW p N→aj Tryz.prog 46 [.ptr st 0,.str pl,.agg [.int .i64 nk,.int .i64 nm,.str nl]] (Oid.under p) ⟨bk (N,F1),.tuple [],sb N F2⟩:=hput
  have hf':=hf _ hA1
  unfold prC at hf' ⊢
  simp only [fnV,rdB,Bits.no,aD] at hf'
  refine aC (n:=37) (rs:=[.tmp 6]) Tryz.func170 rfl rfl (by decide) rfl rfl rfl ?_;rintro x rfl hrd hng
  rw [aB]
  refine kr0 ?_
  refine kr1 hf' ?_
  refine kw0 ?_
  refine kr1 hrm ?_
  refine kw g0 ?_
  refine kd (.d [] [] [5]) trivial (cq hput' trivial) ?_
  refine kw0 ?_
  exact kq
theorem tn (path:Str) (hpath:path.length≤140737488355328) (hA:RR' st N L (dn L cwd path).1 F F1) (hP:PR st N (bT (dn L cwd path).2) F1 F2) :
  aj Tryz.prog 87 [.ptr pp 0,.str path] (Oid.under p) ⟨(pp,prC st cwd um)::bk (N,F),.int .i64 (aD (dn L cwd path).2),sb N F2⟩:=by
 have hf:=fun F' h p hp hpp hO=>db (pp:=pp) (st:=st) (N:=N) (F:=F) (F':=F') hK path cwd um false hpN hc hpath h p hp hpp hO
 have hne:=dA hK (cwd:=cwd) path false
 have hlen:=cj hK hc path false
 unfold dn at hA hP ⊢
 rcases cY L cwd path false with ⟨rd,e,h1,h2⟩|⟨rd,pl,ek,em,el,h1,h0,h2⟩|⟨rd,pl,ek,em,el,h1,h0,h2⟩
 ·rw [h2] at hA hP ⊢
  rw [h1] at hf hne
  simp only [aV] at hA hP ⊢
  obtain rfl:F1=F2:=hP
  have e0:¬ e=0:=hne _ rfl
  have hf':=hf _ hA
  unfold prC at hf' ⊢
  simp only [fnV,rdB,Bits.no,aD] at hf'
  refine aC (n:=41) (rs:=[.tmp 4]) Tryz.func87 rfl rfl (by decide) rfl rfl rfl ?_;rintro x rfl hrd hng
  rw [aB]
  refine kr0 ?_
  refine kr1 hf' ?_
  refine kw e0 ?_
  exact kq
 ·rw [h2] at hA hP ⊢
  rw [h1] at hf hne
  simp only [aV] at hA hP ⊢
  obtain rfl:F1=F2:=hP
  have hf':=hf _ hA
  unfold prC at hf' ⊢
  simp only [fnV,rdB,Bits.no,aD] at hf'
  refine aC (n:=41) (rs:=[.tmp 4]) Tryz.func87 rfl rfl (by decide) rfl rfl rfl ?_;rintro x rfl hrd hng
  rw [aB]
  refine kr0 ?_
  refine kr1 hf' ?_
  refine kw h0 ?_
  exact kq
 ·rw [h2] at hA hP ⊢
  rw [h1] at hf hne hlen
  simp only [bG] at hA hP ⊢
  have hpl:=hlen _ rfl
  simp only at hpl
  obtain ⟨F0,hA1,hA2⟩:=aZ hA
  by_cases c1:ek=2
  ·rw [if_pos c1] at hA2 hP ⊢
   obtain rfl:F0=F1:=hA2
   obtain rfl:F0=F2:=hP
   have hf':=hf _ hA1
   unfold prC at hf' ⊢
   simp only [fnV,rdB,Bits.no,aD] at hf'
   refine aC (n:=41) (rs:=[.tmp 4]) Tryz.func87 rfl rfl (by decide) rfl rfl rfl ?_;rintro x rfl hrd hng
   rw [aB]
   refine kr0 ?_
   refine kr1 hf' ?_
   (repeat (first|(refine ax rfl rfl ?_)|(refine aw rfl rfl ?_)|(refine ao nmd [] hng (by kernel_rfl) fun hf C S K hC1 hC hS hK=>?_;simp (disch:=first|omega|assumption) only [go_sem,Oid.ab hpp,Oid.aa hpp,hpN,hO,h0,c1,fC,eq_self,decide_true,decide_false,ne_eq,not_true_eq_false,not_false_eq_true];refine hK ?_;clear hK hS hC hC1 K S C hf)|((first|refine zn ?_|refine ze ?_|refine zk ?_);with_reducible (constructor;repeat constructor);try refine zl ?_)))
   exact kq
  rw [if_neg c1] at hA2 hP ⊢
  simp only [b7] at hA2 hP ⊢
  have hrm:=fun p hp hpp hO=>dP (pp:=pp) (st:=st) (N:=N) (F:=F0) (F1:=F1) (L:=L) (cwd:=cwd) um hpN (p:=p) hp hpp hO hm pl hpl hA2
  unfold prC at hrm
  generalize bO pl (aF L (aN pl))=g at hrm hP ⊢
  by_cases g0:g=0
  case neg =>
   rw [if_pos g0] at hP ⊢
   obtain rfl:F1=F2:=hP
   have hf':=hf _ hA1
   unfold prC at hf' ⊢
   simp only [fnV,rdB,Bits.no,aD] at hf'
   refine aC (n:=41) (rs:=[.tmp 4]) Tryz.func87 rfl rfl (by decide) rfl rfl rfl ?_;rintro x rfl hrd hng
   rw [aB]
   refine kr0 ?_
   refine kr1 hf' ?_
   refine kw (ai h0 c1) ?_
   refine kr1 hrm ?_
   refine kw (ai g0 (ai h0 c1)) ?_
   exact kq
  rw [if_neg (fun h=>h g0)] at hP ⊢
  obtain ⟨_,hput,rfl⟩:=hP
  rename_i F2
  have hput':∀ p,p.mono=false→aW p N→aj Tryz.prog 46 [.ptr st 0,.str pl,.agg [.int .i64 0,.int .i64 0,.str []]] (Oid.under p) ⟨bk (N,F1),.tuple [],sb N F2⟩:=hput
  have hf':=hf _ hA1
  unfold prC at hf' ⊢
  simp only [fnV,rdB,Bits.no,aD] at hf'
  refine aC (n:=41) (rs:=[.tmp 4]) Tryz.func87 rfl rfl (by decide) rfl rfl rfl ?_;rintro x rfl hrd hng
  rw [aB]
  refine kr0 ?_
  refine kr1 hf' ?_
  refine kw (ai h0 c1) ?_
  refine kr1 hrm ?_
  refine kw (ai g0 (ai h0 c1)) ?_
  refine kr1 hput' ?_
  refine kw0 ?_
  exact kq
theorem wb (path:Str) (hpath:path.length≤140737488355328) (hA:RR' st N L (eL L cwd path).1 F F1) (hP:PR st N (bT (eL L cwd path).2) F1 F2) :
  aj Tryz.prog 89 [.ptr pp 0,.str path] (Oid.under p) ⟨(pp,prC st cwd um)::bk (N,F),.int .i64 (aD (eL L cwd path).2),sb N F2⟩:=by
 have hf:=fun F' h p hp hpp hO=>db (pp:=pp) (st:=st) (N:=N) (F:=F) (F':=F') hK path cwd um false hpN hc hpath h p hp hpp hO
 have hne:=dA hK (cwd:=cwd) path false
 have hlen:=cj hK hc path false
 unfold eL at hA hP ⊢
 rcases cY L cwd path false with ⟨rd,e,h1,h2⟩|⟨rd,pl,ek,em,el,h1,h0,h2⟩|⟨rd,pl,ek,em,el,h1,h0,h2⟩
 ·rw [h2] at hA hP ⊢
  rw [h1] at hf hne
  simp only [aV] at hA hP ⊢
  obtain rfl:F1=F2:=hP
  have e0:¬ e=0:=hne _ rfl
  have hf':=hf _ hA
  unfold prC at hf' ⊢
  simp only [fnV,rdB,Bits.no,aD] at hf'
  refine aC (n:=60) (rs:=[.tmp 4]) Tryz.func89 rfl rfl (by decide) rfl rfl rfl ?_;rintro x rfl hrd hng
  rw [aB]
  refine kr0 ?_
  refine kr1 hf' ?_
  refine kw e0 ?_
  exact kq
 ·rw [h2] at hA hP ⊢
  rw [h1] at hf hne
  simp only [aV] at hA hP ⊢
  obtain rfl:F1=F2:=hP
  have hf':=hf _ hA
  unfold prC at hf' ⊢
  simp only [fnV,rdB,Bits.no,aD] at hf'
  refine aC (n:=60) (rs:=[.tmp 4]) Tryz.func89 rfl rfl (by decide) rfl rfl rfl ?_;rintro x rfl hrd hng
  rw [aB]
  refine kr0 ?_
  refine kr1 hf' ?_
  refine kw h0 ?_
  exact kq
 ·rw [h2] at hA hP ⊢
  rw [h1] at hf hne hlen
  simp only [bG] at hA hP ⊢
  have hpl:=hlen _ rfl
  simp only at hpl
  obtain ⟨F0,hA1,hA2⟩:=aZ hA
  by_cases c1:ek=2
  case neg =>
   rw [if_pos c1] at hA2 hP ⊢
   obtain rfl:F0=F1:=hA2
   obtain rfl:F0=F2:=hP
   have hf':=hf _ hA1
   unfold prC at hf' ⊢
   simp only [fnV,rdB,Bits.no,aD] at hf'
   refine aC (n:=60) (rs:=[.tmp 4]) Tryz.func89 rfl rfl (by decide) rfl rfl rfl ?_;rintro x rfl hrd hng
   rw [aB]
   refine kr0 ?_
   refine kr1 hf' ?_
   refine kw (ai h0 c1) ?_
   exact kq
  rw [if_neg (fun h=>h c1)] at hA2 hP ⊢
  by_cases c2:pl=cwd
  ·rw [if_pos (.inl c2)] at hA2 hP ⊢
   obtain rfl:F0=F1:=hA2
   obtain rfl:F0=F2:=hP
   have hf':=hf _ hA1
   unfold prC at hf' ⊢
   simp only [fnV,rdB,Bits.no,aD] at hf'
   refine aC (n:=60) (rs:=[.tmp 4]) Tryz.func89 rfl rfl (by decide) rfl rfl rfl ?_;rintro x rfl hrd hng
   rw [aB]
   refine kr0 ?_
   refine kr1 hf' ?_
   (repeat (first|(refine ax rfl rfl ?_)|(refine aw rfl rfl ?_)|(refine ao nmd [] hng (by kernel_rfl) fun hf C S K hC1 hC hS hK=>?_;simp (disch:=first|omega|assumption) only [go_sem,Oid.ab hpp,Oid.aa hpp,hpN,hO,h0,c1,c2,fC,eq_self,decide_true,decide_false,ne_eq,not_true_eq_false,not_false_eq_true];refine hK ?_;clear hK hS hC hC1 K S C hf)|((first|refine zn ?_|refine ze ?_|refine zk ?_);with_reducible (constructor;repeat constructor);try refine zl ?_)))
   refine ao nmd [(6,35)] hng (by kernel_rfl) fun hf C S K hC1 hC hS hK=>?_;simp (disch:=first|omega|assumption) only [go_sem,Oid.ab hpp,Oid.aa hpp,hpN,hO,h0,c1,c2,fC,eq_self,decide_true,decide_false,ne_eq,not_true_eq_false,not_false_eq_true]
   refine hK ?_;clear hK hS hC hC1 K S C hf
   (repeat (first|(refine ax rfl rfl ?_)|(refine aw rfl rfl ?_)|(refine ao nmd [] hng (by kernel_rfl) fun hf C S K hC1 hC hS hK=>?_;simp (disch:=first|omega|assumption) only [go_sem,Oid.ab hpp,Oid.aa hpp,hpN,hO,h0,c1,c2,fC,eq_self,decide_true,decide_false,ne_eq,not_true_eq_false,not_false_eq_true];refine hK ?_;clear hK hS hC hC1 K S C hf)|((first|refine zn ?_|refine ze ?_|refine zk ?_);with_reducible (constructor;repeat constructor);try refine zl ?_)))
   exact kq
  by_cases c3:pl=[]
  ·rw [if_pos (.inr c3)] at hA2 hP ⊢
   obtain rfl:F0=F1:=hA2
   subst c3
   obtain rfl:F0=F2:=hP
   have hf':=hf _ hA1
   unfold prC at hf' ⊢
   simp only [fnV,rdB,Bits.no,aD] at hf'
   refine aC (n:=60) (rs:=[.tmp 4]) Tryz.func89 rfl rfl (by decide) rfl rfl rfl ?_;rintro x rfl hrd hng
   rw [aB]
   refine kr0 ?_
   refine kr1 hf' ?_
   (repeat (first|(refine ax rfl rfl ?_)|(refine aw rfl rfl ?_)|(refine ao nmd [] hng (by kernel_rfl) fun hf C S K hC1 hC hS hK=>?_;simp (disch:=first|omega|assumption) only [go_sem,Oid.ab hpp,Oid.aa hpp,hpN,hO,h0,c1,c2,fC,eq_self,decide_true,decide_false,ne_eq,not_true_eq_false,not_false_eq_true];refine hK ?_;clear hK hS hC hC1 K S C hf)|((first|refine zn ?_|refine ze ?_|refine zk ?_);with_reducible (constructor;repeat constructor);try refine zl ?_)))
   refine ao nmd [(6,35)] hng (by kernel_rfl) fun hf C S K hC1 hC hS hK=>?_;simp (disch:=first|omega|assumption) only [go_sem,Oid.ab hpp,Oid.aa hpp,hpN,hO,h0,c1,c2,fC,eq_self,decide_true,decide_false,ne_eq,not_true_eq_false,not_false_eq_true]
   refine hK ?_;clear hK hS hC hC1 K S C hf
   (repeat (first|(refine ax rfl rfl ?_)|(refine aw rfl rfl ?_)|(refine ao nmd [] hng (by kernel_rfl) fun hf C S K hC1 hC hS hK=>?_;simp (disch:=first|omega|assumption) only [go_sem,Oid.ab hpp,Oid.aa hpp,hpN,hO,h0,c1,c2,fC,eq_self,decide_true,decide_false,ne_eq,not_true_eq_false,not_false_eq_true];refine hK ?_;clear hK hS hC hC1 K S C hf)|((first|refine zn ?_|refine ze ?_|refine zk ?_);with_reducible (constructor;repeat constructor);try refine zl ?_)))
   exact kq
  rw [if_neg (fun h=>h.elim c2 c3)] at hA2 hP ⊢
  obtain ⟨F0n,hAn,hA3⟩:∃ F0n,RR' st N L [(pl,true)] F0 F0n∧RR' st N L (if aP L pl=[] then [(aN pl,false)] else []) F0n F1:=by
   by_cases c4:aP L pl=[]
   ·rw [c4] at hA2
    obtain ⟨G,k1,k2⟩:=hA2
    refine ⟨G,⟨G,k1,rfl⟩,?_⟩
    rw [if_pos c4]
    exact k2
   ·simp only [aV,if_pos c4] at hA2
    rw [if_neg c4]
    exact ⟨F1,hA2,rfl⟩
  obtain ⟨_,hnm,rfl⟩:=hAn
  rename_i F0n
  have hnm':∀ p,p.mono=false→aW p N→aj Tryz.prog 172 [.ptr st 0,.str pl] (Oid.under p) ⟨bk (N,F0),.list 1 ((aP L pl).map AV.str),sb N F0n⟩:=hnm
  generalize aP L pl=NL at hA2 hA3 hP hnm' ⊢
  cases NL with
  | cons n0 nr =>
   simp only [aV,reduceCtorEq,not_false_eq_true,if_true,if_false] at hA3 hP ⊢
   obtain rfl:F0n=F1:=hA3
   obtain rfl:F0n=F2:=hP
   have e9:(0:Int) < ((nr.length+1:Nat):Int):=by omega
   have hf':=hf _ hA1
   unfold prC at hf' ⊢
   simp only [fnV,rdB,Bits.no,aD] at hf'
   refine aC (n:=60) (rs:=[.tmp 4]) Tryz.func89 rfl rfl (by decide) rfl rfl rfl ?_;rintro x rfl hrd hng
   rw [aB]
   refine kr0 ?_
   refine kr1 hf' ?_
   (repeat (first|(refine ax rfl rfl ?_)|(refine aw rfl rfl ?_)|(refine ao nmd [] hng (by kernel_rfl) fun hf C S K hC1 hC hS hK=>?_;simp (disch:=first|omega|assumption) only [go_sem,Oid.ab hpp,Oid.aa hpp,hpN,hO,h0,c1,c2,c3,fC,eq_self,decide_true,decide_false,ne_eq,not_true_eq_false,not_false_eq_true];refine hK ?_;clear hK hS hC hC1 K S C hf)|((first|refine zn ?_|refine ze ?_|refine zk ?_);with_reducible (constructor;repeat constructor);try refine zl ?_)))
   refine ao nmd [(6,35)] hng (by kernel_rfl) fun hf C S K hC1 hC hS hK=>?_;simp (disch:=first|omega|assumption) only [go_sem,Oid.ab hpp,Oid.aa hpp,hpN,hO,h0,c1,c2,c3,fC,eq_self,decide_true,decide_false,ne_eq,not_true_eq_false,not_false_eq_true]
   refine hK ?_;clear hK hS hC hC1 K S C hf
   (repeat (first|(refine ax rfl rfl ?_)|(refine aw rfl rfl ?_)|(refine ao nmd [] hng (by kernel_rfl) fun hf C S K hC1 hC hS hK=>?_;simp (disch:=first|omega|assumption) only [go_sem,Oid.ab hpp,Oid.aa hpp,hpN,hO,h0,c1,c2,c3,fC,eq_self,decide_true,decide_false,ne_eq,not_true_eq_false,not_false_eq_true];refine hK ?_;clear hK hS hC hC1 K S C hf)|((first|refine zn ?_|refine ze ?_|refine zk ?_);with_reducible (constructor;repeat constructor);try refine zl ?_)))
   refine ao nmd [] hng (by kernel_rfl) fun hf C S K hC1 hC hS hK=>?_;simp (disch:=first|omega|assumption) only [go_sem,Oid.ab hpp,Oid.aa hpp,hpN,hO]
   refine hC1 _ (hnm' _ (ar rfl hp) (hO.sub _ _)) (by first|exact nbu _|exact nbA (by simp [hpN,hO.mem]) _) ?_
   simp (disch:=first|omega|assumption) only [go_sem,Oid.ab hpp,Oid.aa hpp,hpN,hO,List.length_map,List.map_cons,List.length_cons,e9]
   refine hK ?_;clear hK hS hC hC1 K S C hf
   refine kw e9 ?_
   exact kq
  | nil =>
   simp only [aV,not_true_eq_false,if_true,if_false] at hA3 hP ⊢
   simp only [b7] at hP ⊢
   have hrm:=fun p hp hpp hO=>dP (pp:=pp) (st:=st) (N:=N) (F:=F0n) (F1:=F1) (L:=L) (cwd:=cwd) um hpN (p:=p) hp hpp hO hm pl hpl hA3
   unfold prC at hrm
   generalize bO pl (aF L (aN pl))=g at hrm hP ⊢
   by_cases g0:g=0
   case neg =>
    rw [if_pos g0] at hP ⊢
    obtain rfl:F1=F2:=hP
    have hf':=hf _ hA1
    unfold prC at hf' ⊢
    simp only [fnV,rdB,Bits.no,aD] at hf'
    refine aC (n:=60) (rs:=[.tmp 4]) Tryz.func89 rfl rfl (by decide) rfl rfl rfl ?_;rintro x rfl hrd hng
    rw [aB]
    refine kr0 ?_
    refine kr1 hf' ?_
    (repeat (first|(refine ax rfl rfl ?_)|(refine aw rfl rfl ?_)|(refine ao nmd [] hng (by kernel_rfl) fun hf C S K hC1 hC hS hK=>?_;simp (disch:=first|omega|assumption) only [go_sem,Oid.ab hpp,Oid.aa hpp,hpN,hO,h0,c1,c2,c3,fC,eq_self,decide_true,decide_false,ne_eq,not_true_eq_false,not_false_eq_true];refine hK ?_;clear hK hS hC hC1 K S C hf)|((first|refine zn ?_|refine ze ?_|refine zk ?_);with_reducible (constructor;repeat constructor);try refine zl ?_)))
    refine ao nmd [(6,35)] hng (by kernel_rfl) fun hf C S K hC1 hC hS hK=>?_;simp (disch:=first|omega|assumption) only [go_sem,Oid.ab hpp,Oid.aa hpp,hpN,hO,h0,c1,c2,c3,fC,eq_self,decide_true,decide_false,ne_eq,not_true_eq_false,not_false_eq_true]
    refine hK ?_;clear hK hS hC hC1 K S C hf
    (repeat (first|(refine ax rfl rfl ?_)|(refine aw rfl rfl ?_)|(refine ao nmd [] hng (by kernel_rfl) fun hf C S K hC1 hC hS hK=>?_;simp (disch:=first|omega|assumption) only [go_sem,Oid.ab hpp,Oid.aa hpp,hpN,hO,h0,c1,c2,c3,fC,eq_self,decide_true,decide_false,ne_eq,not_true_eq_false,not_false_eq_true];refine hK ?_;clear hK hS hC hC1 K S C hf)|((first|refine zn ?_|refine ze ?_|refine zk ?_);with_reducible (constructor;repeat constructor);try refine zl ?_)))
    refine ao nmd [] hng (by kernel_rfl) fun hf C S K hC1 hC hS hK=>?_;simp (disch:=first|omega|assumption) only [go_sem,Oid.ab hpp,Oid.aa hpp,hpN,hO,List.map_nil,List.length_nil]
    refine hC1 _ (hnm' _ (ar rfl hp) (hO.sub _ _)) (by first|exact nbu _|exact nbA (by simp [hpN,hO.mem]) _) ?_
    simp (disch:=first|omega|assumption) only [go_sem,Oid.ab hpp,Oid.aa hpp,hpN,hO,List.map_nil,List.length_nil]
    refine hK ?_;clear hK hS hC hC1 K S C hf
    refine kw0 ?_
    refine kr1 hrm ?_
    (repeat (first|(refine ax rfl rfl ?_)|(refine aw rfl rfl ?_)|(refine ao nmd [] hng (by kernel_rfl) fun hf C S K hC1 hC hS hK=>?_;simp (disch:=first|omega|assumption) only [go_sem,Oid.ab hpp,Oid.aa hpp,hpN,hO,g0,h0,c1,c2,c3,fC,eq_self,decide_true,decide_false,ne_eq,not_true_eq_false,not_false_eq_true];refine hK ?_;clear hK hS hC hC1 K S C hf)|((first|refine zn ?_|refine ze ?_|refine zk ?_);with_reducible (constructor;repeat constructor);try refine zl ?_)))
    exact kq
   rw [if_neg (fun h=>h g0)] at hP ⊢
   obtain ⟨_,hput,rfl⟩:=hP
   rename_i F2
   have hput':∀ p,p.mono=false→aW p N→aj Tryz.prog 46 [.ptr st 0,.str pl,.agg [.int .i64 0,.int .i64 0,.str []]] (Oid.under p) ⟨bk (N,F1),.tuple [],sb N F2⟩:=hput
   have hf':=hf _ hA1
   unfold prC at hf' ⊢
   simp only [fnV,rdB,Bits.no,aD] at hf'
   refine aC (n:=60) (rs:=[.tmp 4]) Tryz.func89 rfl rfl (by decide) rfl rfl rfl ?_;rintro x rfl hrd hng
   rw [aB]
   refine kr0 ?_
   refine kr1 hf' ?_
   (repeat (first|(refine ax rfl rfl ?_)|(refine aw rfl rfl ?_)|(refine ao nmd [] hng (by kernel_rfl) fun hf C S K hC1 hC hS hK=>?_;simp (disch:=first|omega|assumption) only [go_sem,Oid.ab hpp,Oid.aa hpp,hpN,hO,h0,c1,c2,c3,fC,eq_self,decide_true,decide_false,ne_eq,not_true_eq_false,not_false_eq_true];refine hK ?_;clear hK hS hC hC1 K S C hf)|((first|refine zn ?_|refine ze ?_|refine zk ?_);with_reducible (constructor;repeat constructor);try refine zl ?_)))
   refine ao nmd [(6,35)] hng (by kernel_rfl) fun hf C S K hC1 hC hS hK=>?_;simp (disch:=first|omega|assumption) only [go_sem,Oid.ab hpp,Oid.aa hpp,hpN,hO,h0,c1,c2,c3,fC,eq_self,decide_true,decide_false,ne_eq,not_true_eq_false,not_false_eq_true]
   refine hK ?_;clear hK hS hC hC1 K S C hf
   (repeat (first|(refine ax rfl rfl ?_)|(refine aw rfl rfl ?_)|(refine ao nmd [] hng (by kernel_rfl) fun hf C S K hC1 hC hS hK=>?_;simp (disch:=first|omega|assumption) only [go_sem,Oid.ab hpp,Oid.aa hpp,hpN,hO,h0,c1,c2,c3,fC,eq_self,decide_true,decide_false,ne_eq,not_true_eq_false,not_false_eq_true];refine hK ?_;clear hK hS hC hC1 K S C hf)|((first|refine zn ?_|refine ze ?_|refine zk ?_);with_reducible (constructor;repeat constructor);try refine zl ?_)))
   refine ao nmd [] hng (by kernel_rfl) fun hf C S K hC1 hC hS hK=>?_;simp (disch:=first|omega|assumption) only [go_sem,Oid.ab hpp,Oid.aa hpp,hpN,hO,List.map_nil,List.length_nil]
   refine hC1 _ (hnm' _ (ar rfl hp) (hO.sub _ _)) (by first|exact nbu _|exact nbA (by simp [hpN,hO.mem]) _) ?_
   simp (disch:=first|omega|assumption) only [go_sem,Oid.ab hpp,Oid.aa hpp,hpN,hO,List.map_nil,List.length_nil]
   refine hK ?_;clear hK hS hC hC1 K S C hf
   refine kw0 ?_
   refine kr1 hrm ?_
   (repeat (first|(refine ax rfl rfl ?_)|(refine aw rfl rfl ?_)|(refine ao nmd [] hng (by kernel_rfl) fun hf C S K hC1 hC hS hK=>?_;simp (disch:=first|omega|assumption) only [go_sem,Oid.ab hpp,Oid.aa hpp,hpN,hO,g0,eq_self,h0,c1,c2,c3,fC,eq_self,decide_true,decide_false,ne_eq,not_true_eq_false,not_false_eq_true];refine hK ?_;clear hK hS hC hC1 K S C hf)|((first|refine zn ?_|refine ze ?_|refine zk ?_);with_reducible (constructor;repeat constructor);try refine zl ?_)))
   refine kr1 hput' ?_
   refine kw0 ?_
   exact kq
omit hm in
theorem wc (path:Str) (hpath:path.length≤140737488355328) (mode:Int) (hA:RR' st N L (bM L cwd path mode).1 F F1) (hP:PR st N (bT (bM L cwd path mode).2) F1 F2) :
  aj Tryz.prog 93 [.ptr pp 0,.str path,.int .i64 mode] (Oid.under p) ⟨(pp,prC st cwd um)::bk (N,F),.int .i64 (aD (bM L cwd path mode).2),sb N F2⟩:=by
 have hf:=fun F' h p hp hpp hO=>db (pp:=pp) (st:=st) (N:=N) (F:=F) (F':=F') hK path cwd um true hpN hc hpath h p hp hpp hO
 have hne:=dA hK (cwd:=cwd) path true
 have hlen:=cj hK hc path true
 unfold bM at hA hP ⊢
 rcases cY L cwd path true with ⟨rd,e,h1,h2⟩|⟨rd,pl,ek,em,el,h1,h0,h2⟩|⟨rd,pl,ek,em,el,h1,h0,h2⟩
 ·rw [h2] at hA hP ⊢
  rw [h1] at hf hne
  simp only [aV] at hA hP ⊢
  obtain rfl:F1=F2:=hP
  have e0:¬ e=0:=hne _ rfl
  have hf':=hf _ hA
  unfold prC at hf' ⊢
  simp only [fnV,rdB,Bits.no,aD] at hf'
  refine aC (n:=44) (rs:=[.tmp 6]) Tryz.func93 rfl rfl (by decide) rfl rfl rfl ?_;rintro x rfl hrd hng
  rw [aB]
  refine kr0 ?_
  refine kr1 hf' ?_
  refine kw e0 ?_
  exact kq
 ·rw [h2] at hA hP ⊢
  rw [h1] at hf hne
  simp only [aV] at hA hP ⊢
  obtain rfl:F1=F2:=hP
  have hf':=hf _ hA
  unfold prC at hf' ⊢
  simp only [fnV,rdB,Bits.no,aD] at hf'
  refine aC (n:=44) (rs:=[.tmp 6]) Tryz.func93 rfl rfl (by decide) rfl rfl rfl ?_;rintro x rfl hrd hng
  rw [aB]
  refine kr0 ?_
  refine kr1 hf' ?_
  refine kw h0 ?_
  exact kq
 ·rw [h2] at hA hP ⊢
  rw [h1] at hf hne hlen
  simp only [bG] at hA hP ⊢
  have hpl:=hlen _ rfl
  simp only at hpl
  obtain ⟨F0,hA1,hA2⟩:=aZ hA
  obtain rfl:F0=F1:=hA2
  by_cases c1:mode < 0
  ·have c1':¬ (0≤mode∧mode≤7):=by omega
   rw [if_pos c1'] at hP ⊢
   obtain rfl:F0=F2:=hP
   have hf':=hf _ hA1
   unfold prC at hf' ⊢
   simp only [fnV,rdB,Bits.no,aD] at hf'
   refine aC (n:=44) (rs:=[.tmp 6]) Tryz.func93 rfl rfl (by decide) rfl rfl rfl ?_;rintro x rfl hrd hng
   rw [aB]
   refine kr0 ?_
   refine kr1 hf' ?_
   refine kw (ai h0 c1) ?_
   refine kr (.d [] [(2,28)] []) (ai h0 c1) trivial ?_
   refine kw (ai h0 c1) ?_
   exact kq
  by_cases c2:7 < mode
  ·have c1':¬ (0≤mode∧mode≤7):=by omega
   rw [if_pos c1'] at hP ⊢
   obtain rfl:F0=F2:=hP
   have hf':=hf _ hA1
   unfold prC at hf' ⊢
   simp only [fnV,rdB,Bits.no,aD] at hf'
   refine aC (n:=44) (rs:=[.tmp 6]) Tryz.func93 rfl rfl (by decide) rfl rfl rfl ?_;rintro x rfl hrd hng
   rw [aB]
   refine kr0 ?_
   refine kr1 hf' ?_
   refine kw (ai h0 (ai c1 c2)) ?_
   refine kr (.d [] [(2,28)] []) (ai h0 (ai c1 c2)) trivial ?_
   refine kw (ai h0 (ai c1 c2)) ?_
   exact kq
  have c1':¬ ¬ (0≤mode∧mode≤7):=by omega
  rw [if_neg c1'] at hP ⊢
  by_cases c3:pl=[]
  ·rw [if_pos c3] at hP ⊢
   subst c3
   obtain rfl:F0=F2:=hP
   have hf':=hf _ hA1
   unfold prC at hf' ⊢
   simp only [fnV,rdB,Bits.no,aD] at hf'
   refine aC (n:=44) (rs:=[.tmp 6]) Tryz.func93 rfl rfl (by decide) rfl rfl rfl ?_;rintro x rfl hrd hng
   rw [aB]
   refine kr0 ?_
   refine kr1 hf' ?_
   refine kw (ai h0 (ai c1 c2)) ?_
   refine kr (.d [] [(2,28)] []) (ai h0 (ai c1 c2)) trivial ?_
   refine kw (ai h0 (ai c1 c2)) ?_
   exact kq
  rw [if_neg c3] at hP ⊢
  obtain ⟨_,hput,rfl⟩:=hP
  rename_i F2
  have hput':∀ p,p.mono=false→aW p N→aj Tryz.prog 46 [.ptr st 0,.str pl,.agg [.int .i64 ek,.int .i64 mode,.str el]] (Oid.under p) ⟨bk (N,F0),.tuple [],sb N F2⟩:=hput
  have hf':=hf _ hA1
  unfold prC at hf' ⊢
  simp only [fnV,rdB,Bits.no,aD] at hf'
  refine aC (n:=44) (rs:=[.tmp 6]) Tryz.func93 rfl rfl (by decide) rfl rfl rfl ?_;rintro x rfl hrd hng
  rw [aB]
  refine kr0 ?_
  refine kr1 hf' ?_
  refine kw (ai h0 (ai c1 (ai c2 c3))) ?_
  refine kr (.d [] [(2,28)] []) (ai h0 (ai c1 (ai c2 c3))) trivial ?_
  refine kw (ai h0 (ai c1 (ai c2 c3))) ?_
  refine kd (.d [] [] [0,7]) trivial (cq hput' trivial) ?_
  refine kw0 ?_
  exact kq
omit hm in
theorem Ew (path:Str) (hpath:path.length≤140737488355328) (hA:RR' st N L (cF L cwd path).1 F F1) :
  aj Tryz.prog 95 [.ptr pp 0,.str path] (Oid.under p) ⟨(pp,prC st cwd um)::bk (N,F),.int .i64 (aD (cF L cwd path).2),(pp,some (prC st (cdN cwd (cF L cwd path).2) um))::sb N F1⟩:=by
 have hf:=fun F' h p hp hpp hO=>db (pp:=pp) (st:=st) (N:=N) (F:=F) (F':=F') hK path cwd um true hpN hc hpath h p hp hpp hO
 have hne:=dA hK (cwd:=cwd) path true
 have hlen:=cj hK hc path true
 unfold cF at hA ⊢
 rcases cY L cwd path true with ⟨rd,e,h1,h2⟩|⟨rd,pl,ek,em,el,h1,h0,h2⟩|⟨rd,pl,ek,em,el,h1,h0,h2⟩
 ·rw [h2] at hA ⊢
  rw [h1] at hf hne
  simp only [aV] at hA ⊢
  have e0:¬ e=0:=hne _ rfl
  have hf':=hf _ hA
  unfold prC at hf' ⊢
  simp only [fnV,rdB,Bits.no,aD] at hf'
  refine aC (n:=36) (rs:=[.tmp 4]) Tryz.func95 rfl rfl (by decide) rfl rfl rfl ?_;rintro x rfl hrd hng
  rw [aB]
  refine kr0 ?_
  refine kr1 hf' ?_
  refine kw e0 ?_
  refine aA (je (by simp (disch:=first|omega|assumption) only [go_sem,Oid.ab hpp,Oid.aa hpp,hpN,hO,aD,cdN]) (by show _=some _;(try simp only [cdN]);simp (disch:=first|omega|assumption) only [go_sem,Oid.ab hpp,Oid.aa hpp,hpN,hO]) (by first|exact nbu _|exact nbA (by simp [hpN,hO.mem]) _))
 ·rw [h2] at hA ⊢
  rw [h1] at hf hne
  simp only [aV] at hA ⊢
  have hf':=hf _ hA
  unfold prC at hf' ⊢
  simp only [fnV,rdB,Bits.no,aD] at hf'
  refine aC (n:=36) (rs:=[.tmp 4]) Tryz.func95 rfl rfl (by decide) rfl rfl rfl ?_;rintro x rfl hrd hng
  rw [aB]
  refine kr0 ?_
  refine kr1 hf' ?_
  refine kw h0 ?_
  refine aA (je (by simp (disch:=first|omega|assumption) only [go_sem,Oid.ab hpp,Oid.aa hpp,hpN,hO,aD,cdN]) (by show _=some _;(try simp only [cdN]);simp (disch:=first|omega|assumption) only [go_sem,Oid.ab hpp,Oid.aa hpp,hpN,hO]) (by first|exact nbu _|exact nbA (by simp [hpN,hO.mem]) _))
 ·rw [h2] at hA ⊢
  rw [h1] at hf hne hlen
  simp only [bG] at hA ⊢
  have hpl:=hlen _ rfl
  simp only at hpl
  obtain ⟨F0,hA1,hA2⟩:=aZ hA
  obtain rfl:F0=F1:=hA2
  by_cases c1:ek=2
  case neg =>
   rw [if_pos c1]
   have hf':=hf _ hA1
   unfold prC at hf' ⊢
   simp only [fnV,rdB,Bits.no,aD] at hf'
   refine aC (n:=36) (rs:=[.tmp 4]) Tryz.func95 rfl rfl (by decide) rfl rfl rfl ?_;rintro x rfl hrd hng
   rw [aB]
   refine kr0 ?_
   refine kr1 hf' ?_
   refine kw (ai h0 c1) ?_
   refine aA (je (by simp (disch:=first|omega|assumption) only [go_sem,Oid.ab hpp,Oid.aa hpp,hpN,hO,aD,cdN]) (by show _=some _;(try simp only [cdN]);simp (disch:=first|omega|assumption) only [go_sem,Oid.ab hpp,Oid.aa hpp,hpN,hO]) (by first|exact nbu _|exact nbA (by simp [hpN,hO.mem]) _))
  rw [if_neg (fun h=>h c1)]
  by_cases c2:dG em 1=0
  ·rw [if_pos c2]
   have hf':=hf _ hA1
   unfold prC at hf' ⊢
   simp only [fnV,rdB,Bits.no,aD] at hf'
   refine aC (n:=36) (rs:=[.tmp 4]) Tryz.func95 rfl rfl (by decide) rfl rfl rfl ?_;rintro x rfl hrd hng
   rw [aB]
   refine kr0 ?_
   refine kr1 hf' ?_
   (repeat (first|(refine ax rfl rfl ?_)|(refine aw rfl rfl ?_)|(refine ao nmd [] hng (by kernel_rfl) fun hf C S K hC1 hC hS hK=>?_;simp (disch:=first|omega|assumption) only [go_sem,Oid.ab hpp,Oid.aa hpp,hpN,hO,h0,c1,c2,fC,eq_self,decide_true,decide_false,ne_eq,not_true_eq_false,not_false_eq_true];refine hK ?_;clear hK hS hC hC1 K S C hf)|((first|refine zn ?_|refine ze ?_|refine zk ?_);with_reducible (constructor;repeat constructor);try refine zl ?_)))
   refine aA (je (by simp (disch:=first|omega|assumption) only [go_sem,Oid.ab hpp,Oid.aa hpp,hpN,hO,aD,cdN]) (by show _=some _;(try simp only [cdN]);simp (disch:=first|omega|assumption) only [go_sem,Oid.ab hpp,Oid.aa hpp,hpN,hO]) (by first|exact nbu _|exact nbA (by simp [hpN,hO.mem]) _))
  ·rw [if_neg c2]
   have hf':=hf _ hA1
   unfold prC at hf' ⊢
   simp only [fnV,rdB,Bits.no,aD] at hf'
   refine aC (n:=36) (rs:=[.tmp 4]) Tryz.func95 rfl rfl (by decide) rfl rfl rfl ?_;rintro x rfl hrd hng
   rw [aB]
   refine kr0 ?_
   refine kr1 hf' ?_
   (repeat (first|(refine ax rfl rfl ?_)|(refine aw rfl rfl ?_)|(refine ao nmd [] hng (by kernel_rfl) fun hf C S K hC1 hC hS hK=>?_;simp (disch:=first|omega|assumption) only [go_sem,Oid.ab hpp,Oid.aa hpp,hpN,hO,h0,c1,c2,fC,eq_self,decide_true,decide_false,ne_eq,not_true_eq_false,not_false_eq_true];refine hK ?_;clear hK hS hC hC1 K S C hf)|((first|refine zn ?_|refine ze ?_|refine zk ?_);with_reducible (constructor;repeat constructor);try refine zl ?_)))
   refine aA (je (by simp (disch:=first|omega|assumption) only [go_sem,Oid.ab hpp,Oid.aa hpp,hpN,hO,aD,cdN]) (by show _=some _;(try simp only [cdN]);simp (disch:=first|omega|assumption) only [go_sem,Oid.ab hpp,Oid.aa hpp,hpN,hO]) (by first|exact nbu _|exact nbA (by simp [hpN,hO.mem]) _))
end
end Go.Proofs.YtfbnaalhioogoaaGreatDoor
namespace Go.Proofs.YtfbnaalhioogoaaGreatDoor
open Go Go.Ab
set_option maxRecDepth 20000
set_option maxHeartbeats 8000000
theorem pY {L:PL} {cwd path:Str} {fol:Bool} {rd:Rds} {a:Str × Bits} (h:findF L cwd path fol=(rd,.go a)):¬ path=[]:=fun e=>by
 subst e;simp [findF] at h
theorem yn {L:PL} (hK:KL L) {cwd path:Str} {fol:Bool} {rd:Rds} {a:Str × Bits} (h:findF L cwd path fol=(rd,.go a)):a.2.l.length≤4000000:=by
 have h5:=(ij hK.so hK.lk cwd path fol).2.2 a (by rw [h])
 rw [h5.2];exact hK.da _
theorem nZ {path:Str} (h:¬ path=[]):cK path=true↔((path.getD (path.length - 1) 0).toNat:Int)=47:=by
 have hl:0 < path.length:=List.length_pos_iff.2 h
 unfold cK
 rw [decide_eq_true hl,Bool.true_and,decide_eq_true_eq]
 exact ⟨fun h=>by rw [h];rfl,fun h=>UInt8.toNat_inj.1 (by show _=47;omega)⟩
section
variable {pp st:Oid} {N:List Oid} {F F1 F2:Oid→ah} {L:PL} (hK:KL L) (hm:∀ n,0≤(aF L n).m∧(aF L n).m≤7) {cwd:Str} (hc:cwd.length≤1000000) (um:Int) (hpN:pp ∉ N) {p:Oid} (hp:p.mono=false) (hpp:¬ Oid.under p pp) (hO:aW p N)
include hK hm hc hpN hp hpp hO
theorem wg (path:Str) (hpath:path.length≤140737488355328) (data:Str) (hdata:data.length≤4000000000) (more:Bool) (hA:RR' st N L (b9 L cwd um path data more).1 F F1) (hP:PR st N (bT (b9 L cwd um path data more).2) F1 F2) :
  aj Tryz.prog 13 [.ptr pp 0,.str path,.str data,.bool more] (Oid.under p) ⟨(pp,prC st cwd um)::bk (N,F),.int .i64 (aD (b9 L cwd um path data more).2),sb N F2⟩:=by
 have hf:=fun F' h p hp hpp hO=>db (pp:=pp) (st:=st) (N:=N) (F:=F) (F':=F') hK path cwd um true hpN hc hpath h p hp hpp hO
 have hne:=dA hK (cwd:=cwd) path true
 have hlen:=cj hK hc path true
 unfold b9 at hA hP ⊢
 rcases kg L cwd path true with ⟨rd,e,h1⟩|⟨rd,pl,ek,em,el,h1⟩
 ·rw [h1] at hA hP ⊢
  rw [h1] at hf hne
  simp only [aV] at hA hP ⊢
  obtain rfl:F1=F2:=hP
  have e0:¬ e=0:=hne _ rfl
  have hf':=hf _ hA
  unfold prC at hf' ⊢
  simp only [fnV,rdB,Bits.no,aD] at hf'
  refine aC (n:=78) (rs:=[.tmp 8]) Tryz.func13 rfl rfl (by decide) rfl rfl rfl ?_;rintro x rfl hrd hng
  rw [aB]
  refine kr0 ?_
  refine kr1 hf' ?_
  refine kw e0 ?_
  exact kq
 ·have hpne:=pY h1
  have hpl0:0 < path.length:=List.length_pos_iff.2 hpne
  have hel:=yn hK h1
  have hen:=nZ hpne
  have e1:((path.length:Int) - 1).toNat=path.length - 1:=by omega
  have e3:((path.length - 1:Nat):Int)=(path.length:Int) - 1:=by omega
  rw [h1] at hA hP ⊢
  rw [h1] at hf hlen
  simp only [bG] at hA hP ⊢
  have hpl:=hlen _ rfl
  simp only at hpl hel
  obtain ⟨F0,hA1,hA2⟩:=aZ hA
  by_cases c1:ek=2
  ·rw [if_pos c1] at hA2 hP ⊢
   obtain rfl:F0=F1:=hA2
   obtain rfl:F0=F2:=hP
   have hf':=hf _ hA1
   unfold prC at hf' ⊢
   simp only [fnV,rdB,Bits.no,aD] at hf'
   refine aC (n:=78) (rs:=[.tmp 8]) Tryz.func13 rfl rfl (by decide) rfl rfl rfl ?_;rintro x rfl hrd hng
   rw [aB]
   refine kr0 ?_
   refine kr1 hf' ?_
   (repeat (first|(refine ax rfl rfl ?_)|(refine aw rfl rfl ?_)|(refine ao nmd [] hng (by kernel_rfl) fun hf C S K hC1 hC hS hK=>?_;simp (disch:=first|omega|assumption) only [go_sem,Oid.ab hpp,Oid.aa hpp,hpN,hO,c1,fC,eq_self,decide_true,decide_false,ne_eq,not_true_eq_false,not_false_eq_true];refine hK ?_;clear hK hS hC hC1 K S C hf)|((first|refine zn ?_|refine ze ?_|refine zk ?_);with_reducible (constructor;repeat constructor);try refine zl ?_)))
   exact kq
  rw [if_neg c1] at hA2 hP ⊢
  by_cases c2:ek=0
  ·rw [if_pos c2] at hA2 hP ⊢
   subst c2
   by_cases c3:cK path=true
   ·rw [if_pos c3] at hA2 hP ⊢
    have h47:=hen.1 c3
    obtain rfl:F0=F1:=hA2
    obtain rfl:F0=F2:=hP
    have hf':=hf _ hA1
    unfold prC at hf' ⊢
    simp only [fnV,rdB,Bits.no,aD] at hf'
    refine aC (n:=78) (rs:=[.tmp 8]) Tryz.func13 rfl rfl (by decide) rfl rfl rfl ?_;rintro x rfl hrd hng
    rw [aB]
    refine kr0 ?_
    refine kr1 hf' ?_
    refine kw (ai c1 (ai e1 h47)) ?_
    refine kr (.d [] [(3,32)] []) (ai c1 (ai e1 h47)) trivial ?_
    refine kw (ai c1 (ai e1 h47)) ?_
    exact kq
   rw [if_neg c3] at hA2 hP ⊢
   have h47:¬ ((path.getD (path.length - 1) 0).toNat:Int)=47:=fun h=>c3 (hen.2 h)
   have hr1:(aV (b7 L pl ()) fun _=>(([],dm pl ⟨1,bJ 6 um,[]⟩ more data):Rds × Rs Pts)).1=[(aN pl,false)]:=by
    by_cases h:bO pl (aF L (aN pl))=0
    ·rw [e8 h];rfl
    ·rw [fc h]
   have hr2:(aV (b7 L pl ()) fun _=>(([],dm pl ⟨1,bJ 6 um,[]⟩ more data):Rds × Rs Pts)).2=if ¬ bO pl (aF L (aN pl))=0 then .err (bO pl (aF L (aN pl))) else dm pl ⟨1,bJ 6 um,[]⟩ more data:=by
    by_cases h:bO pl (aF L (aN pl))=0
    ·rw [e8 h,if_neg (fun h'=>h' h)]
    ·rw [fc h,if_pos h]
   rw [hr1] at hA2
   rw [hr2] at hP ⊢
   clear hr1 hr2
   have hrm:=fun p hp hpp hO=>dP (pp:=pp) (st:=st) (N:=N) (F:=F0) (F1:=F1) (L:=L) (cwd:=cwd) um hpN (p:=p) hp hpp hO hm pl hpl hA2
   unfold prC at hrm
   generalize bO pl (aF L (aN pl))=g at hrm hP ⊢
   by_cases g0:g=0
   case neg =>
    rw [if_pos g0] at hP ⊢
    obtain rfl:F1=F2:=hP
    have hf':=hf _ hA1
    unfold prC at hf' ⊢
    simp only [fnV,rdB,Bits.no,aD] at hf'
    refine aC (n:=78) (rs:=[.tmp 8]) Tryz.func13 rfl rfl (by decide) rfl rfl rfl ?_;rintro x rfl hrd hng
    rw [aB]
    refine kr0 ?_
    refine kr1 hf' ?_
    refine kw (ai c1 (ai e1 h47)) ?_
    refine kr (.d [] [(3,32)] []) (ai c1 (ai e1 h47)) trivial ?_
    refine kw (ai c1 (ai e1 h47)) ?_
    refine kr1 hrm ?_
    refine kw (ai g0 (ai c1 (ai e1 h47))) ?_
    exact kq
   rw [if_neg (fun h=>h g0)] at hP ⊢
   unfold dm at hP ⊢
   cases more with
   | true =>
    simp only [l7,if_true,List.nil_append] at hP ⊢
    have hDl:data.length≤4004000000:=by (try simp only [List.length_append]);omega
    by_cases c5:100000 < data.length
    ·rw [if_pos c5] at hP ⊢
     obtain rfl:F1=F2:=hP
     have e5:(100000:Int) < (data.length:Int):=by (try simp only [List.length_append] at c5);omega
     have hf':=hf _ hA1
     unfold prC at hf' ⊢
     simp only [fnV,rdB,Bits.no,aD] at hf'
     refine aC (n:=78) (rs:=[.tmp 8]) Tryz.func13 rfl rfl (by decide) rfl rfl rfl ?_;rintro x rfl hrd hng
     rw [aB]
     refine kr0 ?_
     refine kr1 hf' ?_
     (repeat (first|(refine ax rfl rfl ?_)|(refine aw rfl rfl ?_)|(refine ao nmd [] hng (by kernel_rfl) fun hf C S K hC1 hC hS hK=>?_;simp (disch:=first|omega|assumption) only [go_sem,Oid.ab hpp,Oid.aa hpp,hpN,hO,c1,e1,h47,eq_self,List.nil_append,e5,decide_true,decide_false,ne_eq,not_true_eq_false,not_false_eq_true];refine hK ?_;clear hK hS hC hC1 K S C hf)|((first|refine zn ?_|refine ze ?_|refine zk ?_);with_reducible (constructor;repeat constructor);try refine zl ?_)))
     refine ao nmd [(3,32)] hng (by kernel_rfl) fun hf C S K hC1 hC hS hK=>?_;simp (disch:=first|omega|assumption) only [go_sem,Oid.ab hpp,Oid.aa hpp,hpN,hO,c1,e1,h47,eq_self,List.nil_append,e5,decide_true,decide_false,ne_eq,not_true_eq_false,not_false_eq_true]
     refine hK ?_;clear hK hS hC hC1 K S C hf
     (repeat (first|(refine ax rfl rfl ?_)|(refine aw rfl rfl ?_)|(refine ao nmd [] hng (by kernel_rfl) fun hf C S K hC1 hC hS hK=>?_;simp (disch:=first|omega|assumption) only [go_sem,Oid.ab hpp,Oid.aa hpp,hpN,hO,c1,e1,h47,eq_self,List.nil_append,e5,decide_true,decide_false,ne_eq,not_true_eq_false,not_false_eq_true];refine hK ?_;clear hK hS hC hC1 K S C hf)|((first|refine zn ?_|refine ze ?_|refine zk ?_);with_reducible (constructor;repeat constructor);try refine zl ?_)))
     refine kr1 hrm ?_
     (repeat (first|(refine ax rfl rfl ?_)|(refine aw rfl rfl ?_)|(refine ao nmd [] hng (by kernel_rfl) fun hf C S K hC1 hC hS hK=>?_;simp (disch:=first|omega|assumption) only [go_sem,Oid.ab hpp,Oid.aa hpp,hpN,hO,g0,eq_self,c1,e1,h47,eq_self,List.nil_append,e5,decide_true,decide_false,ne_eq,not_true_eq_false,not_false_eq_true];refine hK ?_;clear hK hS hC hC1 K S C hf)|((first|refine zn ?_|refine ze ?_|refine zk ?_);with_reducible (constructor;repeat constructor);try refine zl ?_)))
     exact kq
    ·rw [if_neg c5] at hP ⊢
     have e5:¬ (100000:Int) < (data.length:Int):=by (try simp only [List.length_append] at c5);omega
     obtain ⟨_,hput,rfl⟩:=hP
     rename_i F2
     have hput':∀ p,p.mono=false→aW p N→aj Tryz.prog 46 [.ptr st 0,.str pl,.agg [.int .i64 1,.int .i64 (bJ 6 um),.str data]] (Oid.under p) ⟨bk (N,F1),.tuple [],sb N F2⟩:=hput
     have hf':=hf _ hA1
     unfold prC at hf' ⊢
     simp only [fnV,rdB,Bits.no,aD] at hf'
     refine aC (n:=78) (rs:=[.tmp 8]) Tryz.func13 rfl rfl (by decide) rfl rfl rfl ?_;rintro x rfl hrd hng
     rw [aB]
     refine kr0 ?_
     refine kr1 hf' ?_
     (repeat (first|(refine ax rfl rfl ?_)|(refine aw rfl rfl ?_)|(refine ao nmd [] hng (by kernel_rfl) fun hf C S K hC1 hC hS hK=>?_;simp (disch:=first|omega|assumption) only [go_sem,Oid.ab hpp,Oid.aa hpp,hpN,hO,c1,e1,h47,eq_self,List.nil_append,e5,decide_true,decide_false,ne_eq,not_true_eq_false,not_false_eq_true];refine hK ?_;clear hK hS hC hC1 K S C hf)|((first|refine zn ?_|refine ze ?_|refine zk ?_);with_reducible (constructor;repeat constructor);try refine zl ?_)))
     refine ao nmd [(3,32)] hng (by kernel_rfl) fun hf C S K hC1 hC hS hK=>?_;simp (disch:=first|omega|assumption) only [go_sem,Oid.ab hpp,Oid.aa hpp,hpN,hO,c1,e1,h47,eq_self,List.nil_append,e5,decide_true,decide_false,ne_eq,not_true_eq_false,not_false_eq_true]
     refine hK ?_;clear hK hS hC hC1 K S C hf
     (repeat (first|(refine ax rfl rfl ?_)|(refine aw rfl rfl ?_)|(refine ao nmd [] hng (by kernel_rfl) fun hf C S K hC1 hC hS hK=>?_;simp (disch:=first|omega|assumption) only [go_sem,Oid.ab hpp,Oid.aa hpp,hpN,hO,c1,e1,h47,eq_self,List.nil_append,e5,decide_true,decide_false,ne_eq,not_true_eq_false,not_false_eq_true];refine hK ?_;clear hK hS hC hC1 K S C hf)|((first|refine zn ?_|refine ze ?_|refine zk ?_);with_reducible (constructor;repeat constructor);try refine zl ?_)))
     refine kr1 hrm ?_
     (repeat (first|(refine ax rfl rfl ?_)|(refine aw rfl rfl ?_)|(refine ao nmd [] hng (by kernel_rfl) fun hf C S K hC1 hC hS hK=>?_;simp (disch:=first|omega|assumption) only [go_sem,Oid.ab hpp,Oid.aa hpp,hpN,hO,g0,eq_self,c1,e1,h47,eq_self,List.nil_append,e5,decide_true,decide_false,ne_eq,not_true_eq_false,not_false_eq_true];refine hK ?_;clear hK hS hC hC1 K S C hf)|((first|refine zn ?_|refine ze ?_|refine zk ?_);with_reducible (constructor;repeat constructor);try refine zl ?_)))
     refine bY nmd [] [] mixed hng (by kernel_rfl) [0,9] fun hf C S K hC hS hK=>?_;simp (disch:=first|omega|assumption) only [go_sem,Oid.ab hpp,Oid.aa hpp,hpN,hO,List.nil_append]
     refine hC _ (hput' _ (ar rfl hp) (hO.sub _ _)) (by first|exact nbu _|exact nbA (by simp [hpN,hO.mem]) _) ?_
     simp (disch:=first|omega|assumption) only [go_sem,Oid.ab hpp,Oid.aa hpp,hpN,hO,List.nil_append]
     (first|refine hK (aH rfl) ?_|refine hK (by simp (disch:=first|omega|assumption) only [go_sem,List.reverse_cons,List.reverse_nil,ne_eq,not_false_eq_true,implies_true]) ?_);clear hK hS hC K S C hf
     refine kw0 ?_
     exact kq
   | false =>
    simp only [l7,Bool.false_eq_true,if_false] at hP ⊢
    have hDl:data.length≤4004000000:=by (try simp only [List.length_append]);omega
    by_cases c5:100000 < data.length
    ·rw [if_pos c5] at hP ⊢
     obtain rfl:F1=F2:=hP
     have e5:(100000:Int) < (data.length:Int):=by (try simp only [List.length_append] at c5);omega
     have hf':=hf _ hA1
     unfold prC at hf' ⊢
     simp only [fnV,rdB,Bits.no,aD] at hf'
     refine aC (n:=78) (rs:=[.tmp 8]) Tryz.func13 rfl rfl (by decide) rfl rfl rfl ?_;rintro x rfl hrd hng
     rw [aB]
     refine kr0 ?_
     refine kr1 hf' ?_
     (repeat (first|(refine ax rfl rfl ?_)|(refine aw rfl rfl ?_)|(refine ao nmd [] hng (by kernel_rfl) fun hf C S K hC1 hC hS hK=>?_;simp (disch:=first|omega|assumption) only [go_sem,Oid.ab hpp,Oid.aa hpp,hpN,hO,c1,e1,h47,eq_self,List.nil_append,e5,decide_true,decide_false,ne_eq,not_true_eq_false,not_false_eq_true];refine hK ?_;clear hK hS hC hC1 K S C hf)|((first|refine zn ?_|refine ze ?_|refine zk ?_);with_reducible (constructor;repeat constructor);try refine zl ?_)))
     refine ao nmd [(3,32)] hng (by kernel_rfl) fun hf C S K hC1 hC hS hK=>?_;simp (disch:=first|omega|assumption) only [go_sem,Oid.ab hpp,Oid.aa hpp,hpN,hO,c1,e1,h47,eq_self,List.nil_append,e5,decide_true,decide_false,ne_eq,not_true_eq_false,not_false_eq_true]
     refine hK ?_;clear hK hS hC hC1 K S C hf
     (repeat (first|(refine ax rfl rfl ?_)|(refine aw rfl rfl ?_)|(refine ao nmd [] hng (by kernel_rfl) fun hf C S K hC1 hC hS hK=>?_;simp (disch:=first|omega|assumption) only [go_sem,Oid.ab hpp,Oid.aa hpp,hpN,hO,c1,e1,h47,eq_self,List.nil_append,e5,decide_true,decide_false,ne_eq,not_true_eq_false,not_false_eq_true];refine hK ?_;clear hK hS hC hC1 K S C hf)|((first|refine zn ?_|refine ze ?_|refine zk ?_);with_reducible (constructor;repeat constructor);try refine zl ?_)))
     refine kr1 hrm ?_
     (repeat (first|(refine ax rfl rfl ?_)|(refine aw rfl rfl ?_)|(refine ao nmd [] hng (by kernel_rfl) fun hf C S K hC1 hC hS hK=>?_;simp (disch:=first|omega|assumption) only [go_sem,Oid.ab hpp,Oid.aa hpp,hpN,hO,g0,eq_self,c1,e1,h47,eq_self,List.nil_append,e5,decide_true,decide_false,ne_eq,not_true_eq_false,not_false_eq_true];refine hK ?_;clear hK hS hC hC1 K S C hf)|((first|refine zn ?_|refine ze ?_|refine zk ?_);with_reducible (constructor;repeat constructor);try refine zl ?_)))
     exact kq
    ·rw [if_neg c5] at hP ⊢
     have e5:¬ (100000:Int) < (data.length:Int):=by (try simp only [List.length_append] at c5);omega
     obtain ⟨_,hput,rfl⟩:=hP
     rename_i F2
     have hput':∀ p,p.mono=false→aW p N→aj Tryz.prog 46 [.ptr st 0,.str pl,.agg [.int .i64 1,.int .i64 (bJ 6 um),.str data]] (Oid.under p) ⟨bk (N,F1),.tuple [],sb N F2⟩:=hput
     have hf':=hf _ hA1
     unfold prC at hf' ⊢
     simp only [fnV,rdB,Bits.no,aD] at hf'
     refine aC (n:=78) (rs:=[.tmp 8]) Tryz.func13 rfl rfl (by decide) rfl rfl rfl ?_;rintro x rfl hrd hng
     rw [aB]
     refine kr0 ?_
     refine kr1 hf' ?_
     (repeat (first|(refine ax rfl rfl ?_)|(refine aw rfl rfl ?_)|(refine ao nmd [] hng (by kernel_rfl) fun hf C S K hC1 hC hS hK=>?_;simp (disch:=first|omega|assumption) only [go_sem,Oid.ab hpp,Oid.aa hpp,hpN,hO,c1,e1,h47,eq_self,List.nil_append,e5,decide_true,decide_false,ne_eq,not_true_eq_false,not_false_eq_true];refine hK ?_;clear hK hS hC hC1 K S C hf)|((first|refine zn ?_|refine ze ?_|refine zk ?_);with_reducible (constructor;repeat constructor);try refine zl ?_)))
     refine ao nmd [(3,32)] hng (by kernel_rfl) fun hf C S K hC1 hC hS hK=>?_;simp (disch:=first|omega|assumption) only [go_sem,Oid.ab hpp,Oid.aa hpp,hpN,hO,c1,e1,h47,eq_self,List.nil_append,e5,decide_true,decide_false,ne_eq,not_true_eq_false,not_false_eq_true]
     refine hK ?_;clear hK hS hC hC1 K S C hf
     (repeat (first|(refine ax rfl rfl ?_)|(refine aw rfl rfl ?_)|(refine ao nmd [] hng (by kernel_rfl) fun hf C S K hC1 hC hS hK=>?_;simp (disch:=first|omega|assumption) only [go_sem,Oid.ab hpp,Oid.aa hpp,hpN,hO,c1,e1,h47,eq_self,List.nil_append,e5,decide_true,decide_false,ne_eq,not_true_eq_false,not_false_eq_true];refine hK ?_;clear hK hS hC hC1 K S C hf)|((first|refine zn ?_|refine ze ?_|refine zk ?_);with_reducible (constructor;repeat constructor);try refine zl ?_)))
     refine kr1 hrm ?_
     (repeat (first|(refine ax rfl rfl ?_)|(refine aw rfl rfl ?_)|(refine ao nmd [] hng (by kernel_rfl) fun hf C S K hC1 hC hS hK=>?_;simp (disch:=first|omega|assumption) only [go_sem,Oid.ab hpp,Oid.aa hpp,hpN,hO,g0,eq_self,c1,e1,h47,eq_self,List.nil_append,e5,decide_true,decide_false,ne_eq,not_true_eq_false,not_false_eq_true];refine hK ?_;clear hK hS hC hC1 K S C hf)|((first|refine zn ?_|refine ze ?_|refine zk ?_);with_reducible (constructor;repeat constructor);try refine zl ?_)))
     refine bY nmd [] [] mixed hng (by kernel_rfl) [0,9] fun hf C S K hC hS hK=>?_;simp (disch:=first|omega|assumption) only [go_sem,Oid.ab hpp,Oid.aa hpp,hpN,hO,List.nil_append]
     refine hC _ (hput' _ (ar rfl hp) (hO.sub _ _)) (by first|exact nbu _|exact nbA (by simp [hpN,hO.mem]) _) ?_
     simp (disch:=first|omega|assumption) only [go_sem,Oid.ab hpp,Oid.aa hpp,hpN,hO,List.nil_append]
     (first|refine hK (aH rfl) ?_|refine hK (by simp (disch:=first|omega|assumption) only [go_sem,List.reverse_cons,List.reverse_nil,ne_eq,not_false_eq_true,implies_true]) ?_);clear hK hS hC K S C hf
     refine kw0 ?_
     exact kq
  rw [if_neg c2] at hA2 hP ⊢
  by_cases c4:dG em 2=0
  ·rw [if_pos c4] at hA2 hP ⊢
   obtain rfl:F0=F1:=hA2
   obtain rfl:F0=F2:=hP
   have hf':=hf _ hA1
   unfold prC at hf' ⊢
   simp only [fnV,rdB,Bits.no,aD] at hf'
   refine aC (n:=78) (rs:=[.tmp 8]) Tryz.func13 rfl rfl (by decide) rfl rfl rfl ?_;rintro x rfl hrd hng
   rw [aB]
   refine kr0 ?_
   refine kr1 hf' ?_
   (repeat (first|(refine ax rfl rfl ?_)|(refine aw rfl rfl ?_)|(refine ao nmd [] hng (by kernel_rfl) fun hf C S K hC1 hC hS hK=>?_;simp (disch:=first|omega|assumption) only [go_sem,Oid.ab hpp,Oid.aa hpp,hpN,hO,c1,c2,c4,eq_self,decide_true,decide_false,ne_eq,not_true_eq_false,not_false_eq_true];refine hK ?_;clear hK hS hC hC1 K S C hf)|((first|refine zn ?_|refine ze ?_|refine zk ?_);with_reducible (constructor;repeat constructor);try refine zl ?_)))
   refine ao nmd [(3,32)] hng (by kernel_rfl) fun hf C S K hC1 hC hS hK=>?_;simp (disch:=first|omega|assumption) only [go_sem,Oid.ab hpp,Oid.aa hpp,hpN,hO,c1,c2,c4,eq_self,decide_true,decide_false,ne_eq,not_true_eq_false,not_false_eq_true]
   refine hK ?_;clear hK hS hC hC1 K S C hf
   (repeat (first|(refine ax rfl rfl ?_)|(refine aw rfl rfl ?_)|(refine ao nmd [] hng (by kernel_rfl) fun hf C S K hC1 hC hS hK=>?_;simp (disch:=first|omega|assumption) only [go_sem,Oid.ab hpp,Oid.aa hpp,hpN,hO,c1,c2,c4,eq_self,decide_true,decide_false,ne_eq,not_true_eq_false,not_false_eq_true];refine hK ?_;clear hK hS hC hC1 K S C hf)|((first|refine zn ?_|refine ze ?_|refine zk ?_);with_reducible (constructor;repeat constructor);try refine zl ?_)))
   exact kq
  rw [if_neg c4] at hA2 hP ⊢
  obtain rfl:F0=F1:=hA2
  unfold dm at hP ⊢
  cases more with
  | true =>
   simp only [l7,if_true] at hP ⊢
   have hDl:(el++data).length≤4004000000:=by (try simp only [List.length_append]);omega
   by_cases c5:100000 < (el++data).length
   ·rw [if_pos c5] at hP ⊢
    obtain rfl:F0=F2:=hP
    have e5:(100000:Int) < (((el.length+data.length:Nat)):Int):=by (try simp only [List.length_append] at c5);omega
    have hf':=hf _ hA1
    unfold prC at hf' ⊢
    simp only [fnV,rdB,Bits.no,aD] at hf'
    refine aC (n:=78) (rs:=[.tmp 8]) Tryz.func13 rfl rfl (by decide) rfl rfl rfl ?_;rintro x rfl hrd hng
    rw [aB]
    refine kr0 ?_
    refine kr1 hf' ?_
    (repeat (first|(refine ax rfl rfl ?_)|(refine aw rfl rfl ?_)|(refine ao nmd [] hng (by kernel_rfl) fun hf C S K hC1 hC hS hK=>?_;simp (disch:=first|omega|assumption) only [go_sem,Oid.ab hpp,Oid.aa hpp,hpN,hO,c1,c2,c4,eq_self,e5,decide_true,decide_false,ne_eq,not_true_eq_false,not_false_eq_true];refine hK ?_;clear hK hS hC hC1 K S C hf)|((first|refine zn ?_|refine ze ?_|refine zk ?_);with_reducible (constructor;repeat constructor);try refine zl ?_)))
    refine ao nmd [(3,32)] hng (by kernel_rfl) fun hf C S K hC1 hC hS hK=>?_;simp (disch:=first|omega|assumption) only [go_sem,Oid.ab hpp,Oid.aa hpp,hpN,hO,c1,c2,c4,eq_self,e5,decide_true,decide_false,ne_eq,not_true_eq_false,not_false_eq_true]
    refine hK ?_;clear hK hS hC hC1 K S C hf
    (repeat (first|(refine ax rfl rfl ?_)|(refine aw rfl rfl ?_)|(refine ao nmd [] hng (by kernel_rfl) fun hf C S K hC1 hC hS hK=>?_;simp (disch:=first|omega|assumption) only [go_sem,Oid.ab hpp,Oid.aa hpp,hpN,hO,c1,c2,c4,eq_self,e5,decide_true,decide_false,ne_eq,not_true_eq_false,not_false_eq_true];refine hK ?_;clear hK hS hC hC1 K S C hf)|((first|refine zn ?_|refine ze ?_|refine zk ?_);with_reducible (constructor;repeat constructor);try refine zl ?_)))
    exact kq
   ·rw [if_neg c5] at hP ⊢
    have e5:¬ (100000:Int) < (((el.length+data.length:Nat)):Int):=by (try simp only [List.length_append] at c5);omega
    obtain ⟨_,hput,rfl⟩:=hP
    rename_i F2
    have hput':∀ p,p.mono=false→aW p N→aj Tryz.prog 46 [.ptr st 0,.str pl,.agg [.int .i64 ek,.int .i64 em,.str (el++data)]] (Oid.under p) ⟨bk (N,F0),.tuple [],sb N F2⟩:=hput
    have hf':=hf _ hA1
    unfold prC at hf' ⊢
    simp only [fnV,rdB,Bits.no,aD] at hf'
    refine aC (n:=78) (rs:=[.tmp 8]) Tryz.func13 rfl rfl (by decide) rfl rfl rfl ?_;rintro x rfl hrd hng
    rw [aB]
    refine kr0 ?_
    refine kr1 hf' ?_
    (repeat (first|(refine ax rfl rfl ?_)|(refine aw rfl rfl ?_)|(refine ao nmd [] hng (by kernel_rfl) fun hf C S K hC1 hC hS hK=>?_;simp (disch:=first|omega|assumption) only [go_sem,Oid.ab hpp,Oid.aa hpp,hpN,hO,c1,c2,c4,eq_self,e5,decide_true,decide_false,ne_eq,not_true_eq_false,not_false_eq_true];refine hK ?_;clear hK hS hC hC1 K S C hf)|((first|refine zn ?_|refine ze ?_|refine zk ?_);with_reducible (constructor;repeat constructor);try refine zl ?_)))
    refine ao nmd [(3,32)] hng (by kernel_rfl) fun hf C S K hC1 hC hS hK=>?_;simp (disch:=first|omega|assumption) only [go_sem,Oid.ab hpp,Oid.aa hpp,hpN,hO,c1,c2,c4,eq_self,e5,decide_true,decide_false,ne_eq,not_true_eq_false,not_false_eq_true]
    refine hK ?_;clear hK hS hC hC1 K S C hf
    (repeat (first|(refine ax rfl rfl ?_)|(refine aw rfl rfl ?_)|(refine ao nmd [] hng (by kernel_rfl) fun hf C S K hC1 hC hS hK=>?_;simp (disch:=first|omega|assumption) only [go_sem,Oid.ab hpp,Oid.aa hpp,hpN,hO,c1,c2,c4,eq_self,e5,decide_true,decide_false,ne_eq,not_true_eq_false,not_false_eq_true];refine hK ?_;clear hK hS hC hC1 K S C hf)|((first|refine zn ?_|refine ze ?_|refine zk ?_);with_reducible (constructor;repeat constructor);try refine zl ?_)))
    refine kd (.d [] [] [0,9]) trivial (cq hput' trivial) ?_
    refine kw0 ?_
    exact kq
  | false =>
   simp only [l7,Bool.false_eq_true,if_false] at hP ⊢
   have hDl:data.length≤4004000000:=by (try simp only [List.length_append]);omega
   by_cases c5:100000 < data.length
   ·rw [if_pos c5] at hP ⊢
    obtain rfl:F0=F2:=hP
    have e5:(100000:Int) < (data.length:Int):=by (try simp only [List.length_append] at c5);omega
    have hf':=hf _ hA1
    unfold prC at hf' ⊢
    simp only [fnV,rdB,Bits.no,aD] at hf'
    refine aC (n:=78) (rs:=[.tmp 8]) Tryz.func13 rfl rfl (by decide) rfl rfl rfl ?_;rintro x rfl hrd hng
    rw [aB]
    refine kr0 ?_
    refine kr1 hf' ?_
    (repeat (first|(refine ax rfl rfl ?_)|(refine aw rfl rfl ?_)|(refine ao nmd [] hng (by kernel_rfl) fun hf C S K hC1 hC hS hK=>?_;simp (disch:=first|omega|assumption) only [go_sem,Oid.ab hpp,Oid.aa hpp,hpN,hO,c1,c2,c4,eq_self,e5,decide_true,decide_false,ne_eq,not_true_eq_false,not_false_eq_true];refine hK ?_;clear hK hS hC hC1 K S C hf)|((first|refine zn ?_|refine ze ?_|refine zk ?_);with_reducible (constructor;repeat constructor);try refine zl ?_)))
    refine ao nmd [(3,32)] hng (by kernel_rfl) fun hf C S K hC1 hC hS hK=>?_;simp (disch:=first|omega|assumption) only [go_sem,Oid.ab hpp,Oid.aa hpp,hpN,hO,c1,c2,c4,eq_self,e5,decide_true,decide_false,ne_eq,not_true_eq_false,not_false_eq_true]
    refine hK ?_;clear hK hS hC hC1 K S C hf
    (repeat (first|(refine ax rfl rfl ?_)|(refine aw rfl rfl ?_)|(refine ao nmd [] hng (by kernel_rfl) fun hf C S K hC1 hC hS hK=>?_;simp (disch:=first|omega|assumption) only [go_sem,Oid.ab hpp,Oid.aa hpp,hpN,hO,c1,c2,c4,eq_self,e5,decide_true,decide_false,ne_eq,not_true_eq_false,not_false_eq_true];refine hK ?_;clear hK hS hC hC1 K S C hf)|((first|refine zn ?_|refine ze ?_|refine zk ?_);with_reducible (constructor;repeat constructor);try refine zl ?_)))
    exact kq
   ·rw [if_neg c5] at hP ⊢
    have e5:¬ (100000:Int) < (data.length:Int):=by (try simp only [List.length_append] at c5);omega
    obtain ⟨_,hput,rfl⟩:=hP
    rename_i F2
    have hput':∀ p,p.mono=false→aW p N→aj Tryz.prog 46 [.ptr st 0,.str pl,.agg [.int .i64 ek,.int .i64 em,.str data]] (Oid.under p) ⟨bk (N,F0),.tuple [],sb N F2⟩:=hput
    have hf':=hf _ hA1
    unfold prC at hf' ⊢
    simp only [fnV,rdB,Bits.no,aD] at hf'
    refine aC (n:=78) (rs:=[.tmp 8]) Tryz.func13 rfl rfl (by decide) rfl rfl rfl ?_;rintro x rfl hrd hng
    rw [aB]
    refine kr0 ?_
    refine kr1 hf' ?_
    (repeat (first|(refine ax rfl rfl ?_)|(refine aw rfl rfl ?_)|(refine ao nmd [] hng (by kernel_rfl) fun hf C S K hC1 hC hS hK=>?_;simp (disch:=first|omega|assumption) only [go_sem,Oid.ab hpp,Oid.aa hpp,hpN,hO,c1,c2,c4,eq_self,e5,decide_true,decide_false,ne_eq,not_true_eq_false,not_false_eq_true];refine hK ?_;clear hK hS hC hC1 K S C hf)|((first|refine zn ?_|refine ze ?_|refine zk ?_);with_reducible (constructor;repeat constructor);try refine zl ?_)))
    refine ao nmd [(3,32)] hng (by kernel_rfl) fun hf C S K hC1 hC hS hK=>?_;simp (disch:=first|omega|assumption) only [go_sem,Oid.ab hpp,Oid.aa hpp,hpN,hO,c1,c2,c4,eq_self,e5,decide_true,decide_false,ne_eq,not_true_eq_false,not_false_eq_true]
    refine hK ?_;clear hK hS hC hC1 K S C hf
    (repeat (first|(refine ax rfl rfl ?_)|(refine aw rfl rfl ?_)|(refine ao nmd [] hng (by kernel_rfl) fun hf C S K hC1 hC hS hK=>?_;simp (disch:=first|omega|assumption) only [go_sem,Oid.ab hpp,Oid.aa hpp,hpN,hO,c1,c2,c4,eq_self,e5,decide_true,decide_false,ne_eq,not_true_eq_false,not_false_eq_true];refine hK ?_;clear hK hS hC hC1 K S C hf)|((first|refine zn ?_|refine ze ?_|refine zk ?_);with_reducible (constructor;repeat constructor);try refine zl ?_)))
    refine kd (.d [] [] [0,9]) trivial (cq hput' trivial) ?_
    refine kw0 ?_
    exact kq
theorem wh (path:Str) (hpath:path.length≤140737488355328) (hA:RR' st N L (eK L cwd um path).1 F F1) (hP:PR st N (bT (eK L cwd um path).2) F1 F2) :
  aj Tryz.prog 83 [.ptr pp 0,.str path] (Oid.under p) ⟨(pp,prC st cwd um)::bk (N,F),.int .i64 (aD (eK L cwd um path).2),sb N F2⟩:=by
 have hm1:=fun p hp hpp hO=>BA (pp:=pp) (st:=st) (N:=N) (F:=F) (F1:=F1) (F2:=F2) hK hm hc um hpN (p:=p) hp hpp hO path hpath 2 (bJ 7 um) [] hA hP
 unfold eK at hA hP ⊢
 generalize aD (eJ L cwd path ⟨2,bJ 7 um,[]⟩).2=E at hm1 ⊢
 unfold prC at hm1 ⊢
 refine aC (n:=14) (rs:=[.tmp 4]) Tryz.func83 rfl rfl (by decide) rfl rfl rfl ?_;rintro x rfl hrd hng
 rw [aB]
 refine kr0 ?_
 refine kr1 hm1 ?_
 refine kw0 ?_
 exact kq
theorem pZ (path:Str) (hpath:path.length≤140737488355328) (target:Str) (ht:target.length≤140737488355328) (hA:RR' st N L (cg L cwd target path).1 F F1) (hP:PR st N (bT (cg L cwd target path).2) F1 F2) :
  aj Tryz.prog 85 [.ptr pp 0,.str target,.str path] (Oid.under p) ⟨(pp,prC st cwd um)::bk (N,F),.int .i64 (aD (cg L cwd target path).2),sb N F2⟩:=by
 unfold cg at hA hP ⊢
 by_cases c1:target=[]
 ·rw [if_pos (.inl c1)] at hA hP ⊢
  obtain rfl:F=F1:=hA
  obtain rfl:F=F2:=hP
  subst c1
  unfold prC
  refine aC (n:=29) (rs:=[.tmp 6]) Tryz.func85 rfl rfl (by decide) rfl rfl rfl ?_;rintro x rfl hrd hng
  rw [aB]
  refine kr0 ?_
  refine kr (.d [] [(2,9)] []) trivial trivial ?_
  refine kw0 ?_
  exact kq
 by_cases c2:200 < target.length
 ·rw [if_pos (.inr c2)] at hA hP ⊢
  obtain rfl:F=F1:=hA
  obtain rfl:F=F2:=hP
  have e2:(200:Int) < (target.length:Int):=by omega
  unfold prC
  refine aC (n:=29) (rs:=[.tmp 6]) Tryz.func85 rfl rfl (by decide) rfl rfl rfl ?_;rintro x rfl hrd hng
  rw [aB]
  refine kr0 ?_
  refine kr (.d [] [(2,9)] []) (ai c1 e2) trivial ?_
  refine kw (ai c1 e2) ?_
  exact kq
 have e2:¬ (200:Int) < (target.length:Int):=by omega
 rw [if_neg (fun h=>h.elim c1 c2)] at hA hP ⊢
 have hmk:(cK path=false)→∀ p,p.mono=false→¬ Oid.under p pp→aW p N→aj Tryz.prog 170 [.ptr pp 0,.str path,.agg [.int .i64 3,.int .i64 7,.str target]] (Oid.under p) ⟨(pp,.cells [.ptr st 0,.str cwd,.int .i64 um])::bk (N,F),.int .i64 (aD (eJ L cwd path ⟨3,7,target⟩).2),sb N F2⟩:=fun hE p hp hpp hO=>by
  rw [if_neg (by rw [hE];decide)] at hA hP
  exact BA (pp:=pp) (st:=st) (N:=N) (F:=F) (F1:=F1) (F2:=F2) hK hm hc um hpN (p:=p) hp hpp hO path hpath 3 7 target hA hP
 by_cases c3:path=[]
 ·subst c3
  rw [if_neg (by decide)] at hA hP ⊢
  have hm1:=hmk rfl
  generalize aD (eJ L cwd [] ⟨3,7,target⟩).2=E at hm1 ⊢
  unfold prC
  refine aC (n:=29) (rs:=[.tmp 6]) Tryz.func85 rfl rfl (by decide) rfl rfl rfl ?_;rintro x rfl hrd hng
  rw [aB]
  refine kr0 ?_
  refine kr (.d [] [(2,9)] []) (ai c1 e2) trivial ?_
  refine kw (ai c1 e2) ?_
  refine kr (.d [] [(2,16)] []) trivial trivial ?_
  refine kw0 ?_
  refine kr1 hm1 ?_
  refine kw0 ?_
  exact kq
 have hpl0:0 < path.length:=List.length_pos_iff.2 c3
 have hen:=nZ c3
 have e1:((path.length:Int) - 1).toNat=path.length - 1:=by omega
 have e3:((path.length - 1:Nat):Int)=(path.length:Int) - 1:=by omega
 by_cases c4:cK path=true
 ·rw [if_pos c4] at hA hP ⊢
  obtain rfl:F=F1:=hA
  obtain rfl:F=F2:=hP
  have h47:=hen.1 c4
  unfold prC
  refine aC (n:=29) (rs:=[.tmp 6]) Tryz.func85 rfl rfl (by decide) rfl rfl rfl ?_;rintro x rfl hrd hng
  rw [aB]
  refine kr0 ?_
  refine kr (.d [] [(2,9)] []) (ai c1 e2) trivial ?_
  refine kw (ai c1 e2) ?_
  refine kr (.d [] [(2,16)] []) (ai c3 (ai e1 h47)) trivial ?_
  refine kw0 ?_
  exact kq
 ·rw [if_neg c4] at hA hP ⊢
  have hm1:=hmk (by simpa using c4)
  have h47:¬ ((path.getD (path.length - 1) 0).toNat:Int)=47:=fun h=>c4 (hen.2 h)
  generalize aD (eJ L cwd path ⟨3,7,target⟩).2=E at hm1 ⊢
  unfold prC
  refine aC (n:=29) (rs:=[.tmp 6]) Tryz.func85 rfl rfl (by decide) rfl rfl rfl ?_;rintro x rfl hrd hng
  rw [aB]
  refine kr0 ?_
  refine kr (.d [] [(2,9)] []) (ai c1 e2) trivial ?_
  refine kw (ai c1 e2) ?_
  refine kr (.d [] [(2,16)] []) (ai c3 (ai e1 h47)) trivial ?_
  refine kw0 ?_
  refine kr1 hm1 ?_
  refine kw0 ?_
  exact kq
omit hK hm hc hp hpp hO in
theorem IH:aj Tryz.prog 168 [.ptr pp 0] (Oid.under p) ⟨(pp,prC st cwd um)::bk (N,F),.str (Bm cwd),sb N F⟩:=by
 unfold prC
 refine aC (n:=12) (rs:=[.tmp 2]) Tryz.func168 rfl rfl (by decide) rfl rfl rfl ?_;rintro x rfl hrd hng
 rw [aB]
 refine qr .o hpN trivial ?_
 refine qw hpN ?_
 unfold Bm
 by_cases c:cwd=[]
 ·rw [if_pos c]
  refine aO rfl rfl (fun hb=>?_) (fun hb=>?_)
  case refine_2=>exact absurd c hb
  refine qw hpN ?_
  refine aA (bI (qs hpN) (by show _=some _;simp (disch:=first|omega|assumption) only [go_sem,hpN]) (by first|exact nbu _|exact nbA (by simp [hpN]) _))
 ·rw [if_neg c]
  refine aO rfl rfl (fun hb=>?_) (fun hb=>?_)
  case refine_1=>exact absurd hb c
  refine qw hpN ?_
  refine aA (bI (qs hpN) (by show _=some _;simp (disch:=first|omega|assumption) only [go_sem,hpN]) (by first|exact nbu _|exact nbA (by simp [hpN]) _))
end
end Go.Proofs.YtfbnaalhioogoaaGreatDoor
namespace Go.Proofs.YtfbnaalhioogoaaGreatDoor
open Go Go.Ab
set_option maxRecDepth 20000
set_option maxHeartbeats 8000000
section
variable {pp st:Oid} {N:List Oid} {F F1 F2:Oid→ah} {L:PL} (hK:KL L) (hm:∀ n,0≤(aF L n).m∧(aF L n).m≤7) {cwd:Str} (hc:cwd.length≤1000000) (um:Int) (hpN:pp ∉ N) {p:Oid} (hp:p.mono=false) (hpp:¬ Oid.under p pp) (hO:aW p N)
include hK hm hc hpN hp hpp hO
theorem BB (path:Str) (hpath:path.length≤140737488355328) (to':Str) (hto':to'.length≤140737488355328) (hA:RR' st N L (dQ L cwd path to').1 F F1) (hP:PR st N (bT (dQ L cwd path to').2) F1 F2) :
  aj Tryz.prog 91 [.ptr pp 0,.str path,.str to'] (Oid.under p) ⟨(pp,prC st cwd um)::bk (N,F),.int .i64 (aD (dQ L cwd path to').2),sb N F2⟩:=by
 have hf:=fun F' h p hp hpp hO=>db (pp:=pp) (st:=st) (N:=N) (F:=F) (F':=F') hK path cwd um false hpN hc hpath h p hp hpp hO
 have hne:=dA hK (cwd:=cwd) path false
 have hlen:=cj hK hc path false
 unfold dQ at hA hP ⊢
 rcases cY L cwd path false with ⟨rd,e,h1,h2⟩|⟨rd,pl,ek,em,el,h1,h0,h2⟩|⟨rd,pl,ek,em,el,h1,h0,h2⟩
 ·rw [h2] at hA hP ⊢
  rw [h1] at hf hne
  simp only [aV] at hA hP ⊢
  obtain rfl:F1=F2:=hP
  have e0:¬ e=0:=hne _ rfl
  have hf':=hf _ hA
  unfold prC at hf' ⊢
  simp only [fnV,rdB,Bits.no,aD] at hf'
  refine aC (n:=89) (rs:=[.tmp 6]) Tryz.func91 rfl rfl (by decide) rfl rfl rfl ?_;rintro x rfl hrd hng
  rw [aB]
  refine kr0 ?_
  refine kr1 hf' ?_
  refine kw e0 ?_
  exact kq
 ·rw [h2] at hA hP ⊢
  rw [h1] at hf hne
  simp only [aV] at hA hP ⊢
  obtain rfl:F1=F2:=hP
  have hf':=hf _ hA
  unfold prC at hf' ⊢
  simp only [fnV,rdB,Bits.no,aD] at hf'
  refine aC (n:=89) (rs:=[.tmp 6]) Tryz.func91 rfl rfl (by decide) rfl rfl rfl ?_;rintro x rfl hrd hng
  rw [aB]
  refine kr0 ?_
  refine kr1 hf' ?_
  refine kw h0 ?_
  exact kq
 ·rw [h2] at hA hP ⊢
  rw [h1] at hf hne hlen
  simp only [bG] at hA hP ⊢
  have hpl:=hlen _ rfl
  simp only at hpl
  obtain ⟨F0,hA1,hA2⟩:=aZ hA
  by_cases c1:ek=2
  ·rw [if_pos c1] at hA2 hP ⊢
   obtain rfl:F0=F1:=hA2
   obtain rfl:F0=F2:=hP
   have hf':=hf _ hA1
   unfold prC at hf' ⊢
   simp only [fnV,rdB,Bits.no,aD] at hf'
   refine aC (n:=89) (rs:=[.tmp 6]) Tryz.func91 rfl rfl (by decide) rfl rfl rfl ?_;rintro x rfl hrd hng
   rw [aB]
   refine kr0 ?_
   refine kr1 hf' ?_
   (repeat (first|(refine ax rfl rfl ?_)|(refine aw rfl rfl ?_)|(refine ao nmd [] hng (by kernel_rfl) fun hf C S K hC1 hC hS hK=>?_;simp (disch:=first|omega|assumption) only [go_sem,Oid.ab hpp,Oid.aa hpp,hpN,hO,h0,c1,fC,eq_self,decide_true,decide_false,ne_eq,not_true_eq_false,not_false_eq_true];refine hK ?_;clear hK hS hC hC1 K S C hf)|((first|refine zn ?_|refine ze ?_|refine zk ?_);with_reducible (constructor;repeat constructor);try refine zl ?_)))
   exact kq
  rw [if_neg c1] at hA2 hP ⊢
  have hf2:=fun F' h p hp hpp hO=>db (pp:=pp) (st:=st) (N:=N) (F:=F0) (F':=F') hK to' cwd um false hpN hc hto' h p hp hpp hO
  have hne2:=dA hK (cwd:=cwd) to' false
  have hlen2:=cj hK hc to' false
  rcases kg L cwd to' false with ⟨rd2,e2,h1b⟩|⟨rd2,pl2,ek2,em2,el2,h1b⟩
  ·rw [h1b] at hA2 hP ⊢
   rw [h1b] at hf2 hne2
   simp only [aV] at hA2 hP ⊢
   obtain rfl:F1=F2:=hP
   have e20:¬ e2=0:=hne2 _ rfl
   have hf2':=hf2 _ hA2
   unfold prC at hf2'
   simp only [fnV,rdB,Bits.no,aD] at hf2'
   have hf':=hf _ hA1
   unfold prC at hf' ⊢
   simp only [fnV,rdB,Bits.no,aD] at hf'
   refine aC (n:=89) (rs:=[.tmp 6]) Tryz.func91 rfl rfl (by decide) rfl rfl rfl ?_;rintro x rfl hrd hng
   rw [aB]
   refine kr0 ?_
   refine kr1 hf' ?_
   refine kw (ai h0 c1) ?_
   refine kr1 hf2' ?_
   refine kw e20 ?_
   exact kq
  ·have hpne:=pY h1b
   have hpl0:0 < to'.length:=List.length_pos_iff.2 hpne
   have hen:=nZ hpne
   have e1:((to'.length:Int) - 1).toNat=to'.length - 1:=by omega
   have e3:((to'.length - 1:Nat):Int)=(to'.length:Int) - 1:=by omega
   rw [h1b] at hA2 hP ⊢
   rw [h1b] at hf2 hlen2
   simp only [bG] at hA2 hP ⊢
   have hpl2:=hlen2 _ rfl
   simp only at hpl2
   obtain ⟨F4,hA3,hA4⟩:=aZ hA2
   by_cases c2:ek2=2
   ·rw [if_pos c2] at hA4 hP ⊢
    obtain rfl:F4=F1:=hA4
    obtain rfl:F4=F2:=hP
    have hf2':=hf2 _ hA3
    unfold prC at hf2'
    simp only [fnV,rdB,Bits.no,aD] at hf2'
    have hf':=hf _ hA1
    unfold prC at hf' ⊢
    simp only [fnV,rdB,Bits.no,aD] at hf'
    refine aC (n:=89) (rs:=[.tmp 6]) Tryz.func91 rfl rfl (by decide) rfl rfl rfl ?_;rintro x rfl hrd hng
    rw [aB]
    refine kr0 ?_
    refine kr1 hf' ?_
    refine kw (ai h0 c1) ?_
    refine kr1 hf2' ?_
    (repeat (first|(refine ax rfl rfl ?_)|(refine aw rfl rfl ?_)|(refine ao nmd [] hng (by kernel_rfl) fun hf C S K hC1 hC hS hK=>?_;simp (disch:=first|omega|assumption) only [go_sem,Oid.ab hpp,Oid.aa hpp,hpN,hO,c2,fC,eq_self,decide_true,decide_false,ne_eq,not_true_eq_false,not_false_eq_true];refine hK ?_;clear hK hS hC hC1 K S C hf)|((first|refine zn ?_|refine ze ?_|refine zk ?_);with_reducible (constructor;repeat constructor);try refine zl ?_)))
    exact kq
   rw [if_neg c2] at hA4 hP ⊢
   by_cases c3:ek2=0
   case neg =>
    rw [if_neg (fun h=>c3 h.1)] at hA4 hP ⊢
    by_cases g0:bO pl (aF L (aN pl))=0
    case neg =>
     rw [fc g0] at hA4 hP ⊢
     obtain rfl:F1=F2:=hP
     have hrm:=fun p hp hpp hO=>dP (pp:=pp) (st:=st) (N:=N) (F:=F4) (F1:=F1) (L:=L) (cwd:=cwd) um hpN (p:=p) hp hpp hO hm pl hpl hA4
     unfold prC at hrm
     generalize bO pl (aF L (aN pl))=g at hrm g0 ⊢
     have hf2':=hf2 _ hA3
     unfold prC at hf2'
     simp only [fnV,rdB,Bits.no,aD] at hf2'
     have hf':=hf _ hA1
     unfold prC at hf' ⊢
     simp only [fnV,rdB,Bits.no,aD] at hf'
     refine aC (n:=89) (rs:=[.tmp 6]) Tryz.func91 rfl rfl (by decide) rfl rfl rfl ?_;rintro x rfl hrd hng
     rw [aB]
     refine kr0 ?_
     refine kr1 hf' ?_
     refine kw (ai h0 c1) ?_
     refine kr1 hf2' ?_
     refine kw (ai c2 c3) ?_
     refine kr (.d [] [(3,52)] []) c3 trivial ?_
     refine kw c3 ?_
     refine kr1 hrm ?_
     refine kw g0 ?_
     exact kq
    rw [e8 g0] at hA4 hP ⊢
    obtain ⟨F3,hA5,hA6⟩:=aZ hA4
    have hrm:=fun p hp hpp hO=>dP (pp:=pp) (st:=st) (N:=N) (F:=F4) (F1:=F3) (L:=L) (cwd:=cwd) um hpN (p:=p) hp hpp hO hm pl hpl hA5
    rw [g0] at hrm
    simp only [b7] at hA6 hP ⊢
    have hrm2:=fun p hp hpp hO=>dP (pp:=pp) (st:=st) (N:=N) (F:=F3) (F1:=F1) (L:=L) (cwd:=cwd) um hpN (p:=p) hp hpp hO hm pl2 hpl2 hA6
    unfold prC at hrm hrm2
    generalize bO pl2 (aF L (aN pl2))=g2 at hrm2 hP ⊢
    by_cases g20:g2=0
    case neg =>
     rw [if_pos g20] at hP ⊢
     obtain rfl:F1=F2:=hP
     have hf2':=hf2 _ hA3
     unfold prC at hf2'
     simp only [fnV,rdB,Bits.no,aD] at hf2'
     have hf':=hf _ hA1
     unfold prC at hf' ⊢
     simp only [fnV,rdB,Bits.no,aD] at hf'
     refine aC (n:=89) (rs:=[.tmp 6]) Tryz.func91 rfl rfl (by decide) rfl rfl rfl ?_;rintro x rfl hrd hng
     rw [aB]
     refine kr0 ?_
     refine kr1 hf' ?_
     refine kw (ai h0 c1) ?_
     refine kr1 hf2' ?_
     refine kw (ai c2 c3) ?_
     refine kr (.d [] [(3,52)] []) c3 trivial ?_
     refine kw c3 ?_
     refine kr1 hrm ?_
     refine kw0 ?_
     refine kr1 hrm2 ?_
     refine kw g20 ?_
     exact kq
    rw [if_neg (fun h=>h g20)] at hP ⊢
    subst g20
    by_cases hab:pl=pl2
    ·rw [if_pos hab] at hP ⊢
     obtain rfl:F1=F2:=hP
     have hf2':=hf2 _ hA3
     unfold prC at hf2'
     simp only [fnV,rdB,Bits.no,aD] at hf2'
     have hf':=hf _ hA1
     unfold prC at hf' ⊢
     simp only [fnV,rdB,Bits.no,aD] at hf'
     refine aC (n:=89) (rs:=[.tmp 6]) Tryz.func91 rfl rfl (by decide) rfl rfl rfl ?_;rintro x rfl hrd hng
     rw [aB]
     refine kr0 ?_
     refine kr1 hf' ?_
     refine kw (ai h0 c1) ?_
     refine kr1 hf2' ?_
     refine kw (ai c2 c3) ?_
     refine kr (.d [] [(3,52)] []) c3 trivial ?_
     refine kw c3 ?_
     refine kr1 hrm ?_
     refine kw0 ?_
     refine kr1 hrm2 ?_
     refine kw hab ?_
     exact kq
    rw [if_neg hab] at hP ⊢
    obtain ⟨F5,hput1,F6,hput2,rfl⟩:=hP
    have hput1':∀ p,p.mono=false→aW p N→aj Tryz.prog 46 [.ptr st 0,.str pl,.agg [.int .i64 0,.int .i64 0,.str []]] (Oid.under p) ⟨bk (N,F1),.tuple [],sb N F5⟩:=hput1
    have hput2':∀ p,p.mono=false→aW p N→aj Tryz.prog 46 [.ptr st 0,.str pl2,.agg [.int .i64 ek,.int .i64 em,.str el]] (Oid.under p) ⟨bk (N,F5),.tuple [],sb N F6⟩:=hput2
    have hf2':=hf2 _ hA3
    unfold prC at hf2'
    simp only [fnV,rdB,Bits.no,aD] at hf2'
    have hf':=hf _ hA1
    unfold prC at hf' ⊢
    simp only [fnV,rdB,Bits.no,aD] at hf'
    refine aC (n:=89) (rs:=[.tmp 6]) Tryz.func91 rfl rfl (by decide) rfl rfl rfl ?_;rintro x rfl hrd hng
    rw [aB]
    refine kr0 ?_
    refine kr1 hf' ?_
    refine kw (ai h0 c1) ?_
    refine kr1 hf2' ?_
    refine kw (ai c2 c3) ?_
    refine kr (.d [] [(3,52)] []) c3 trivial ?_
    refine kw c3 ?_
    refine kr1 hrm ?_
    refine kw0 ?_
    refine kr1 hrm2 ?_
    refine kw hab ?_
    refine kr1 hput1' ?_
    refine kd (.d [] [] [0]) trivial (cq hput2' trivial) ?_
    refine kw0 ?_
    exact kq
   subst c3
   by_cases c4:cK to' = true
   ·rw [if_pos ⟨rfl,c4⟩] at hA4 hP ⊢
    have h47:=hen.1 c4
    obtain rfl:F4=F1:=hA4
    obtain rfl:F4=F2:=hP
    have hf2':=hf2 _ hA3
    unfold prC at hf2'
    simp only [fnV,rdB,Bits.no,aD] at hf2'
    have hf':=hf _ hA1
    unfold prC at hf' ⊢
    simp only [fnV,rdB,Bits.no,aD] at hf'
    refine aC (n:=89) (rs:=[.tmp 6]) Tryz.func91 rfl rfl (by decide) rfl rfl rfl ?_;rintro x rfl hrd hng
    rw [aB]
    refine kr0 ?_
    refine kr1 hf' ?_
    refine kw (ai h0 c1) ?_
    refine kr1 hf2' ?_
    refine kw c2 ?_
    refine kr (.d [] [(3,52)] []) (ai e1 h47) trivial ?_
    refine kw (ai e1 h47) ?_
    exact kq
   rw [if_neg (fun h=>c4 h.2)] at hA4 hP ⊢
   have h47:¬ ((to'.getD (to'.length - 1) 0).toNat:Int)=47:=fun h=>c4 (hen.2 h)
   by_cases g0:bO pl (aF L (aN pl))=0
   case neg =>
    rw [fc g0] at hA4 hP ⊢
    obtain rfl:F1=F2:=hP
    have hrm:=fun p hp hpp hO=>dP (pp:=pp) (st:=st) (N:=N) (F:=F4) (F1:=F1) (L:=L) (cwd:=cwd) um hpN (p:=p) hp hpp hO hm pl hpl hA4
    unfold prC at hrm
    generalize bO pl (aF L (aN pl))=g at hrm g0 ⊢
    have hf2':=hf2 _ hA3
    unfold prC at hf2'
    simp only [fnV,rdB,Bits.no,aD] at hf2'
    have hf':=hf _ hA1
    unfold prC at hf' ⊢
    simp only [fnV,rdB,Bits.no,aD] at hf'
    refine aC (n:=89) (rs:=[.tmp 6]) Tryz.func91 rfl rfl (by decide) rfl rfl rfl ?_;rintro x rfl hrd hng
    rw [aB]
    refine kr0 ?_
    refine kr1 hf' ?_
    refine kw (ai h0 c1) ?_
    refine kr1 hf2' ?_
    refine kw (ai c2 (ai e1 h47)) ?_
    refine kr (.d [] [(3,52)] []) (ai e1 h47) trivial ?_
    refine kw (ai e1 h47) ?_
    refine kr1 hrm ?_
    refine kw g0 ?_
    exact kq
   rw [e8 g0] at hA4 hP ⊢
   obtain ⟨F3,hA5,hA6⟩:=aZ hA4
   have hrm:=fun p hp hpp hO=>dP (pp:=pp) (st:=st) (N:=N) (F:=F4) (F1:=F3) (L:=L) (cwd:=cwd) um hpN (p:=p) hp hpp hO hm pl hpl hA5
   rw [g0] at hrm
   simp only [b7] at hA6 hP ⊢
   have hrm2:=fun p hp hpp hO=>dP (pp:=pp) (st:=st) (N:=N) (F:=F3) (F1:=F1) (L:=L) (cwd:=cwd) um hpN (p:=p) hp hpp hO hm pl2 hpl2 hA6
   unfold prC at hrm hrm2
   generalize bO pl2 (aF L (aN pl2))=g2 at hrm2 hP ⊢
   by_cases g20:g2=0
   case neg =>
    rw [if_pos g20] at hP ⊢
    obtain rfl:F1=F2:=hP
    have hf2':=hf2 _ hA3
    unfold prC at hf2'
    simp only [fnV,rdB,Bits.no,aD] at hf2'
    have hf':=hf _ hA1
    unfold prC at hf' ⊢
    simp only [fnV,rdB,Bits.no,aD] at hf'
    refine aC (n:=89) (rs:=[.tmp 6]) Tryz.func91 rfl rfl (by decide) rfl rfl rfl ?_;rintro x rfl hrd hng
    rw [aB]
    refine kr0 ?_
    refine kr1 hf' ?_
    refine kw (ai h0 c1) ?_
    refine kr1 hf2' ?_
    refine kw (ai c2 (ai e1 h47)) ?_
    refine kr (.d [] [(3,52)] []) (ai e1 h47) trivial ?_
    refine kw (ai e1 h47) ?_
    refine kr1 hrm ?_
    refine kw0 ?_
    refine kr1 hrm2 ?_
    refine kw g20 ?_
    exact kq
   rw [if_neg (fun h=>h g20)] at hP ⊢
   subst g20
   by_cases hab:pl=pl2
   ·rw [if_pos hab] at hP ⊢
    obtain rfl:F1=F2:=hP
    have hf2':=hf2 _ hA3
    unfold prC at hf2'
    simp only [fnV,rdB,Bits.no,aD] at hf2'
    have hf':=hf _ hA1
    unfold prC at hf' ⊢
    simp only [fnV,rdB,Bits.no,aD] at hf'
    refine aC (n:=89) (rs:=[.tmp 6]) Tryz.func91 rfl rfl (by decide) rfl rfl rfl ?_;rintro x rfl hrd hng
    rw [aB]
    refine kr0 ?_
    refine kr1 hf' ?_
    refine kw (ai h0 c1) ?_
    refine kr1 hf2' ?_
    refine kw (ai c2 (ai e1 h47)) ?_
    refine kr (.d [] [(3,52)] []) (ai e1 h47) trivial ?_
    refine kw (ai e1 h47) ?_
    refine kr1 hrm ?_
    refine kw0 ?_
    refine kr1 hrm2 ?_
    refine kw hab ?_
    exact kq
   rw [if_neg hab] at hP ⊢
   obtain ⟨F5,hput1,F6,hput2,rfl⟩:=hP
   have hput1':∀ p,p.mono=false→aW p N→aj Tryz.prog 46 [.ptr st 0,.str pl,.agg [.int .i64 0,.int .i64 0,.str []]] (Oid.under p) ⟨bk (N,F1),.tuple [],sb N F5⟩:=hput1
   have hput2':∀ p,p.mono=false→aW p N→aj Tryz.prog 46 [.ptr st 0,.str pl2,.agg [.int .i64 ek,.int .i64 em,.str el]] (Oid.under p) ⟨bk (N,F5),.tuple [],sb N F6⟩:=hput2
   have hf2':=hf2 _ hA3
   unfold prC at hf2'
   simp only [fnV,rdB,Bits.no,aD] at hf2'
   have hf':=hf _ hA1
   unfold prC at hf' ⊢
   simp only [fnV,rdB,Bits.no,aD] at hf'
   refine aC (n:=89) (rs:=[.tmp 6]) Tryz.func91 rfl rfl (by decide) rfl rfl rfl ?_;rintro x rfl hrd hng
   rw [aB]
   refine kr0 ?_
   refine kr1 hf' ?_
   refine kw (ai h0 c1) ?_
   refine kr1 hf2' ?_
   refine kw (ai c2 (ai e1 h47)) ?_
   refine kr (.d [] [(3,52)] []) (ai e1 h47) trivial ?_
   refine kw (ai e1 h47) ?_
   refine kr1 hrm ?_
   refine kw0 ?_
   refine kr1 hrm2 ?_
   refine kw hab ?_
   refine kr1 hput1' ?_
   refine kd (.d [] [] [0]) trivial (cq hput2' trivial) ?_
   refine kw0 ?_
   exact kq
end
end Go.Proofs.YtfbnaalhioogoaaGreatDoor
namespace Go.Proofs.YtfbnaalhioogoaaGreatDoor
open Go Go.Ab
set_option maxRecDepth 20000
set_option maxHeartbeats 4000000
theorem BC (nm path:Str) (e:Int) (hnm:nm.length≤4000000000) (hpl:path.length≤4000000000) (he:-9223372036854775808≤e∧e≤9223372036854775807) (p:Oid) :
  aj Tryz.prog 196 [.str nm,.str path,.int .i64 e] (Oid.under p) ⟨[],.str (jj nm path e),[]⟩:=by
 have hI:=fun p=>uO e he.1 he.2 p
 have hil:=Lib.itoa_length_le e he.1 he.2
 unfold jj
 refine aC (n:=16) (rs:=[.tmp 6]) Tryz.func196 rfl rfl (by decide) rfl rfl rfl ?_;rintro x rfl hrd hng
 refine qw0 ?_
 refine qr1 (hI _) ?_
 refine qw0 ?_
 exact aA (bg qs0)
theorem ik (r:Res) (nm path:Str) (e:Int) (hnm:nm.length≤4000000000) (hpl:path.length≤4000000000) (hre:r.err.length≤1000000000000) (he:-9223372036854775808≤e∧e≤9223372036854775807) (p:Oid) :
  aj Tryz.prog 124 [r.av,.str nm,.str path,.int .i64 e] (Oid.under p) ⟨[],(r.add nm path e).av,[]⟩:=by
 have hT:=fun p=>BC nm path e hnm hpl he p
 have htl:(jj nm path e).length≤9000000000:=by
  have:=Lib.itoa_length_le e he.1 he.2
  unfold jj
  simp only [List.length_append,List.length_cons,List.length_nil];omega
 obtain ⟨st,out,err⟩:=r
 simp only at hre
 by_cases h0:e=0
 ·subst h0
  rw [tg]
  unfold Res.av
  refine aC (n:=21) (rs:=[.cell 8 45]) Tryz.func124 rfl rfl (by decide) rfl rfl rfl ?_;rintro x rfl hrd hng
  (repeat (first|(refine ax rfl rfl ?_)|(refine aw rfl rfl ?_)|(refine ao nmd [] hng (by kernel_rfl) fun hf C S K hC1 hC hS hK=>?_;simp (disch:=first|omega|assumption) only [go_sem];refine hK ?_;clear hK hS hC hC1 K S C hf)|((first|refine zn ?_|refine ze ?_|refine zk ?_);with_reducible (constructor;repeat constructor);try refine zl ?_)))
  exact aA (bg (by simp (disch:=first|omega|assumption) only [go_sem]))
 ·rw [E4 _ _ _ h0]
  generalize jj nm path e=TT at hT htl
  unfold Res.av
  refine aC (n:=21) (rs:=[.cell 8 45]) Tryz.func124 rfl rfl (by decide) rfl rfl rfl ?_;rintro x rfl hrd hng
  (try ((first|refine zn ?_|refine ze ?_|refine zk ?_);with_reducible (constructor;repeat constructor));try refine zl ?_)
  refine ao nmd [] hng (by kernel_rfl) fun hf C S K hC1 hC hS hK=>?_;simp (disch:=first|omega|assumption) only [go_sem]
  refine hK ?_;clear hK hS hC hC1 K S C hf
  (try ((first|refine zn ?_|refine ze ?_|refine zk ?_);with_reducible (constructor;repeat constructor));try refine zl ?_)
  refine ao nmd [] hng (by kernel_rfl) fun hf C S K hC1 hC hS hK=>?_;simp (disch:=first|omega|assumption) only [go_sem,h0,decide_true,decide_false,ne_eq,not_true_eq_false,not_false_eq_true]
  refine hK ?_;clear hK hS hC hC1 K S C hf
  (repeat (first|(refine ax rfl rfl ?_)|(refine aw rfl rfl ?_)|(refine ao nmd [] hng (by kernel_rfl) fun hf C S K hC1 hC hS hK=>?_;simp (disch:=first|omega|assumption) only [go_sem];refine hK ?_;clear hK hS hC hC1 K S C hf)|((first|refine zn ?_|refine ze ?_|refine zk ?_);with_reducible (constructor;repeat constructor);try refine zl ?_)))
  refine bY nmd [] [(1,5)] mixed hng (by kernel_rfl) [4,8] fun hf C S K hC hS hK=>?_;simp (disch:=first|omega|assumption) only [go_sem]
  refine hC _ (hT _) (fun _ h=>by cases h) ?_
  simp (disch:=first|omega|assumption) only [go_sem]
  (first|refine hK (aH rfl) ?_|refine hK (by simp (disch:=first|omega|assumption) only [go_sem,List.reverse_cons,List.reverse_nil,ne_eq,not_false_eq_true,implies_true]) ?_);clear hK hS hC K S C hf
  (repeat (first|(refine ax rfl rfl ?_)|(refine aw rfl rfl ?_)|(refine ao nmd [] hng (by kernel_rfl) fun hf C S K hC1 hC hS hK=>?_;simp (disch:=first|omega|assumption) only [go_sem];refine hK ?_;clear hK hS hC hC1 K S C hf)|((first|refine zn ?_|refine ze ?_|refine zk ?_);with_reducible (constructor;repeat constructor);try refine zl ?_)))
  exact aA (bg (by simp (disch:=first|omega|assumption) only [go_sem]))
section
variable {pp st:Oid} {N:List Oid} {F F1 F2 F3 F4:Oid→ah} {L:PL} (hK:KL L) {cwd:Str} (hc:cwd.length≤1000000) (um:Int) (hpN:pp ∉ N)
include hK hc hpN
end
end Go.Proofs.YtfbnaalhioogoaaGreatDoor
namespace Go.Proofs.YtfbnaalhioogoaaGreatDoor
open Go Go.Ab
set_option maxRecDepth 20000
set_option maxHeartbeats 4000000
def UtR (pp st:Oid) (cwd:Str) (um:Int) (N:List Oid) (F F':Oid→ah) (fu:Nat) (xs:List AV) (r':Res):Prop :=
 ∀ p,p.mono=false→¬ Oid.under p pp→aW p N→aj Tryz.prog fu (.ptr pp 0::xs) (Oid.under p) ⟨(pp,prC st cwd um)::bk (N,F),r'.av,sb N F'⟩
section
variable {pp st:Oid} {N:List Oid} {F F1 F2 F3 F4:Oid→ah} {L:PL} (hK:KL L) {cwd:Str} (hc:cwd.length≤1000000) (um:Int) (hpN:pp ∉ N)
include hK hc hpN
variable (hm:∀ n,0≤(aF L n).m∧(aF L n).m≤7)
include hm
end
end Go.Proofs.YtfbnaalhioogoaaGreatDoor
namespace Go.Proofs.YtfbnaalhioogoaaGreatDoor
open Go Go.Ab
set_option maxRecDepth 20000
set_option maxHeartbeats 4000000
def oa (L:PL) (cwd nm inp:Str):List Str→Res→Res
 | [],r=>r
 | a::l,r=>if a=[45] then oa L cwd nm inp l ⟨r.st,r.out++inp,r.err⟩ else oa L cwd nm inp l ⟨(r.add nm a (aD (cL L cwd a).2)).st,(r.add nm a (aD (cL L cwd a).2)).out++rdS (cL L cwd a).2,(r.add nm a (aD (cL L cwd a).2)).err⟩
def tp (st:Oid) (N:List Oid) (L:PL) (cwd:Str):List Str→(Oid→ah)→(Oid→ah)→Prop
 | [],F,F'=>F=F'
 | a::l,F,F'=>if a=[45] then tp st N L cwd l F F' else ∃ F1,RP st N L (cL L cwd a).1 F F1∧tp st N L cwd l F1 F'
theorem iE (r:Res) (nm p:Str) (e:Int) (he:-9223372036854775808≤e∧e≤9223372036854775807):(r.add nm p e).err.length≤r.err.length+nm.length+p.length+40∧(r.add nm p e).out=r.out:=by
 unfold Res.add jj
 have:=Lib.itoa_length_le e he.1 he.2
 split
 ·exact ⟨by omega,rfl⟩
 ·refine ⟨?_,rfl⟩
  simp only [List.length_append,List.length_cons,List.length_nil];omega
section
variable {pp st:Oid} {N:List Oid} {F F':Oid→ah} {L:PL} (hK:KL L) {cwd:Str} (hc:cwd.length≤1000000) (um:Int) (hpN:pp ∉ N)
include hK hc hpN
theorem HC (nm inp:Str) (r:Res) (hnm:nm.length≤1000000) (hinp:inp.length≤1000000000) (hre:r.err.length≤1000000000) (hro:r.out.length≤1000000000) (args:List Str) (h0:¬ args=[]) (hl:args.length≤1000) (ha:∀ a ∈ args,a.length≤1000000) (hS:tp st N L cwd args F F')
  (hE:∀ a ∈ args,(-9223372036854775808≤aD (cL L cwd a).2∧aD (cL L cwd a).2≤9223372036854775807)∧(rdS (cL L cwd a).2).length≤1000000000) :
  UtP pp st cwd um N F F' 54 nm inp args r (oa L cwd nm inp args r):=by
 unfold UtP
 intro q p hp hqN hqp hq hpp hO
 have hqp':¬ pp=q:=fun e=>hqp e.symm
 have hl0:¬ (args.length:Int)=0:=by
  have:=List.length_pos_iff.2 h0;omega
 generalize hr':oa L cwd nm inp args r=r'
 refine aC (n:=64) (rs:=[]) Tryz.func54 rfl rfl (by decide) rfl rfl rfl ?_;rintro x rfl hrd hng
 rw [dw]
 (try ((first|refine zn ?_|refine ze ?_|refine zk ?_);with_reducible (constructor;repeat constructor));try refine zl ?_)
 refine ao nmd [] hng (by kernel_rfl) fun hf C S K hC1 hC hS hK=>?_;simp (disch:=first|omega|assumption) only [go_sem,hl0,List.length_map,decide_true,decide_false,ne_eq,not_false_eq_true]
 refine hK ?_;clear hK hS hC hC1 K S C hf
 (repeat (first|(refine ax rfl rfl ?_)|(refine aw rfl rfl ?_)|(refine ao nmd [] hng (by kernel_rfl) fun hf C S K hC1 hC hS hK=>?_;simp (disch:=first|omega|assumption) only [go_sem];refine hK ?_;clear hK hS hC hC1 K S C hf)|((first|refine zn ?_|refine ze ?_|refine zk ?_);with_reducible (constructor;repeat constructor);try refine zl ?_)))
 refine bL [0,19,20,21] (fun k s'=>∃ (i c:Nat) (G:Oid→ah) (r1:Res),s' = ⟨[(0,.ptr q 0),(19,.list 1 (args.map .str)),(20,.int .i64 args.length),(21,.int .i64 i)],Mem.blk [(q,dz pp nm inp r1),(pp,prC st cwd um)] [(N,G)],c,[]⟩∧k=args.length - i∧i≤args.length∧tp st N L cwd (args.drop i) G F'∧oa L cwd nm inp (args.drop i) r1=r'∧r1.err.length≤1000000000+i * 3000000∧r1.out.length≤1000000000+i * 1000000000) _ ⟨0,_,F,r,rfl,rfl,Nat.zero_le _,hS,hr',by omega,by omega⟩ ?_
 clear hS hr' hre hro
 rintro k s' ⟨i,c,G,r1,rfl,rfl,hi,hS,hr',hre,hro⟩
 (repeat (first|(refine ax rfl rfl ?_)|(refine aw rfl rfl ?_)|(refine ao nmd [] hng (by kernel_rfl) fun hf C S K hC1 hC hS hK=>?_;simp (disch:=first|omega|assumption) only [go_sem];refine hK ?_;clear hK hS hC hC1 K S C hf)|((first|refine zn ?_|refine ze ?_|refine zk ?_);with_reducible (constructor;repeat constructor);try refine zl ?_)))
 refine aO rfl rfl (fun hb=>?_) (fun hb=>?_)
 ·have hlt:i < args.length:=by omega
  have hd:args.drop i=args.getD i default::args.drop (i+1):=by rw [bC hlt];exact List.drop_eq_getElem_cons hlt
  have hgm:args.getD i default ∈ args:=by rw [bC hlt];exact List.getElem_mem hlt
  have hal:=ha _ hgm
  obtain ⟨hEr,hEs⟩:=hE _ hgm
  rw [hd] at hS hr'
  generalize hg:args.getD i default=a at hS hr' hal hEr hEs
  by_cases hm:a=[45]
  ·unfold tp at hS
   unfold oa at hr'
   rw [if_pos hm] at hS hr'
   obtain ⟨st1,out1,err1⟩:=r1
   unfold dz prC
   simp only at hr' hre hro ⊢
   (try ((first|refine zn ?_|refine ze ?_|refine zk ?_);with_reducible (constructor;repeat constructor));try refine zl ?_)
   refine ao nmd [] hng (by kernel_rfl) fun hf C S K hC1 hC hS hK=>?_;simp (disch:=first|omega|assumption) only [go_sem,hg,hlt,List.length_map]
   refine hK ?_;clear hK hS hC hC1 K S C hf
   (try ((first|refine zn ?_|refine ze ?_|refine zk ?_);with_reducible (constructor;repeat constructor));try refine zl ?_)
   refine ao nmd [] hng (by kernel_rfl) fun hf C S K hC1 hC hS hK=>?_;simp (disch:=first|omega|assumption) only [go_sem,hm,eq_self,decide_true]
   refine hK ?_;clear hK hS hC hC1 K S C hf
   (repeat (first|(refine ax rfl rfl ?_)|(refine aw rfl rfl ?_)|(refine ao nmd [] hng (by kernel_rfl) fun hf C S K hC1 hC hS hK=>?_;simp (disch:=first|omega|assumption) only [go_sem];refine hK ?_;clear hK hS hC hC1 K S C hf)|((first|refine zn ?_|refine ze ?_|refine zk ?_);with_reducible (constructor;repeat constructor);try refine zl ?_)))
   refine bY nmd [] [] mixed hng (by kernel_rfl) [0,19,20,21] fun hf C S K hC hS hK=>?_;simp (disch:=first|omega|assumption) only [go_sem,Oid.ab hq,Oid.aa hq,Oid.ab hpp,Oid.aa hpp,hpN,hqN,hqp,hqp',hO]
   (first|refine hK (aH rfl) ?_|refine hK (by simp (disch:=first|omega|assumption) only [go_sem,List.reverse_cons,List.reverse_nil,ne_eq,not_false_eq_true,implies_true]) ?_);clear hK hS hC K S C hf
   (repeat (first|(refine ax rfl rfl ?_)|(refine aw rfl rfl ?_)|(refine ao nmd [] hng (by kernel_rfl) fun hf C S K hC1 hC hS hK=>?_;simp (disch:=first|omega|assumption) only [go_sem];refine hK ?_;clear hK hS hC hC1 K S C hf)|((first|refine zn ?_|refine ze ?_|refine zk ?_);with_reducible (constructor;repeat constructor);try refine zl ?_)))
   have q1:err1.length≤1000000000+(i+1) * 3000000:=Nat.le_trans hre (Nat.add_le_add_left (Nat.mul_le_mul_right _ (Nat.le_succ i)) _)
   have q2:(out1++inp).length≤1000000000+(i+1) * 1000000000:=by
    rw [List.length_append,Nat.succ_mul,← Nat.add_assoc]
    exact Nat.add_le_add hro hinp
   exact ⟨_,_,by omega,fun _ _ h=>h,i+1,_,G,⟨st1,out1++inp,err1⟩,rfl,rfl,by omega,hS,hr',q1,q2⟩
  ·unfold tp at hS
   unfold oa at hr'
   rw [if_neg hm] at hS hr'
   obtain ⟨G1,hA,hS⟩:=hS
   have hR:=fun p hp hpp hO=>rj (pp:=pp) (st:=st) hK hc um hpN (p:=p) hp hpp hO a (by omega) hA
   have hX:=fun p hp hq=>kY (pp:=pp) nm inp r1 a (aD (cL L cwd a).2) (by omega) (by omega) (by omega) hEr q p hp hq
   obtain ⟨b1,b2⟩:=iE r1 nm a _ hEr
   unfold rdV at hR
   clear hA hEr
   generalize r1.add nm a (aD (cL L cwd a).2)=r2 at hX hr' b1 b2
   generalize aD (cL L cwd a).2=E at hR hX
   generalize rdS (cL L cwd a).2=S1 at hR hEs hr'
   obtain ⟨st1,out1,err1⟩:=r1
   obtain ⟨st2,out2,err2⟩:=r2
   unfold prC at hR ⊢
   unfold dz at hX ⊢
   simp only at hr' hre hro b1 b2 ⊢
   rw [← b2] at hro
   (try ((first|refine zn ?_|refine ze ?_|refine zk ?_);with_reducible (constructor;repeat constructor));try refine zl ?_)
   refine ao nmd [] hng (by kernel_rfl) fun hf C S K hC1 hC hS hK=>?_;simp (disch:=first|omega|assumption) only [go_sem,hg,hlt,List.length_map]
   refine hK ?_;clear hK hS hC hC1 K S C hf
   (try ((first|refine zn ?_|refine ze ?_|refine zk ?_);with_reducible (constructor;repeat constructor));try refine zl ?_)
   refine ao nmd [] hng (by kernel_rfl) fun hf C S K hC1 hC hS hK=>?_;simp (disch:=first|omega|assumption) only [go_sem,hm,decide_false]
   refine hK ?_;clear hK hS hC hC1 K S C hf
   (repeat (first|(refine ax rfl rfl ?_)|(refine aw rfl rfl ?_)|(refine ao nmd [] hng (by kernel_rfl) fun hf C S K hC1 hC hS hK=>?_;simp (disch:=first|omega|assumption) only [go_sem];refine hK ?_;clear hK hS hC hC1 K S C hf)|((first|refine zn ?_|refine ze ?_|refine zk ?_);with_reducible (constructor;repeat constructor);try refine zl ?_)))
   refine ao nmd [] hng (by kernel_rfl) fun hf C S K hC1 hC hS hK=>?_;simp (disch:=first|omega|assumption) only [go_sem,Oid.ab hq,Oid.aa hq,Oid.ab hpp,Oid.aa hpp,hpN,hqN,hqp,hqp',hO]
   refine hC1 _ (hR _ (ar rfl hp) (fun h=>hpp (Oid.ae h)) (hO.sub _ _)) (by simp only [List.mem_cons,forall_eq_or_imp];exact ⟨by simp (disch:=first|omega|assumption) only [go_sem,Oid.ab hq,Oid.aa hq,Oid.ab hpp,Oid.aa hpp,hpN,hqN,hqp,hqp',hO],(by first|exact nbu _|exact nbA (by simp [hpN,hqN,hO.mem]) _)⟩) ?_
   simp (disch:=first|omega|assumption) only [go_sem,Oid.ab hq,Oid.aa hq,Oid.ab hpp,Oid.aa hpp,hpN,hqN,hqp,hqp',hO]
   refine hK ?_;clear hK hS hC hC1 K S C hf
   (try ((first|refine zn ?_|refine ze ?_|refine zk ?_);with_reducible (constructor;repeat constructor));try refine zl ?_)
   refine ao nmd [] hng (by kernel_rfl) fun hf C S K hC1 hC hS hK=>?_;simp (disch:=first|omega|assumption) only [go_sem,Oid.ab hq,Oid.aa hq,Oid.ab hpp,Oid.aa hpp,hpN,hqN,hqp,hqp',hO]
   refine hC1 _ (hX _ (ar rfl hp) (fun h=>hq (Oid.ae h))) (by simp (disch:=first|omega|assumption) only [go_sem,Oid.ab hq,Oid.aa hq,Oid.ab hpp,Oid.aa hpp,hpN,hqN,hqp,hqp',hO]) ?_
   simp (disch:=first|omega|assumption) only [go_sem,Oid.ab hq,Oid.aa hq,Oid.ab hpp,Oid.aa hpp,hpN,hqN,hqp,hqp',hO]
   refine hK ?_;clear hK hS hC hC1 K S C hf
   (repeat (first|(refine ax rfl rfl ?_)|(refine aw rfl rfl ?_)|(refine ao nmd [] hng (by kernel_rfl) fun hf C S K hC1 hC hS hK=>?_;simp (disch:=first|omega|assumption) only [go_sem,Oid.ab hq,Oid.aa hq,Oid.ab hpp,Oid.aa hpp,hpN,hqN,hqp,hqp',hO];refine hK ?_;clear hK hS hC hC1 K S C hf)|((first|refine zn ?_|refine ze ?_|refine zk ?_);with_reducible (constructor;repeat constructor);try refine zl ?_)))
   exact ⟨_,_,by omega,fun _ _ h=>h,i+1,_,G1,⟨st2,out2++S1,err2⟩,rfl,rfl,by omega,hS,hr',by show err2.length≤_;omega,by show (out2++S1).length≤_;rw [List.length_append];omega⟩
 ·have hin:i=args.length:=by omega
  subst hin
  rw [List.drop_length] at hS hr'
  unfold tp at hS
  unfold oa at hr'
  subst hS hr'
  unfold dz prC
  (repeat (first|(refine ax rfl rfl ?_)|(refine aw rfl rfl ?_)|(refine ao nmd [] hng (by kernel_rfl) fun hf C S K hC1 hC hS hK=>?_;simp (disch:=first|omega|assumption) only [go_sem];refine hK ?_;clear hK hS hC hC1 K S C hf)|((first|refine zn ?_|refine ze ?_|refine zk ?_);with_reducible (constructor;repeat constructor);try refine zl ?_)))
  exact bV (bB (.tuple []) _ rfl ⟨rfl,rfl⟩ (jl hqp (by simp (disch:=first|omega|assumption) only [go_sem,Oid.ab hq,Oid.aa hq,Oid.ab hpp,Oid.aa hpp,hpN,hqN,hqp,hqp',hO]) (by show _=some _;simp (disch:=first|omega|assumption) only [go_sem,Oid.ab hq,Oid.aa hq,Oid.ab hpp,Oid.aa hpp,hpN,hqN,hqp,hqp',hO]) (by first|exact nbu _|exact nbA (by simp [hpN,hqN,hO.mem]) _)))
end
inductive kZ (pp st:Oid) (cwd:Str) (um:Int) (N:List Oid) (fu:Nat) (nm:Str):List Str→(Oid→ah)→(Oid→ah)→Res→Res→Prop
 | nil (F:Oid→ah) (r:Res):kZ pp st cwd um N fu nm [] F F r r
 | cons (a:Str) (l:List Str) (e:Int) (F F1 F':Oid→ah) (r r':Res) (ha:a.length≤1000000) (he:-9223372036854775808≤e∧e≤9223372036854775807)
   (hd:∀ p,p.mono=false→¬ Oid.under p pp→aW p N→aj Tryz.prog fu [.ptr pp 0,.str a] (Oid.under p) ⟨(pp,prC st cwd um)::bk (N,F),.int .i64 e,sb N F1⟩)
   (t:kZ pp st cwd um N fu nm l F1 F' (r.add nm a e) r'):kZ pp st cwd um N fu nm (a::l) F F' r r'
theorem rn {pp st:Oid} {N:List Oid} {F F':Oid→ah} {cwd:Str} (um:Int) (hpN:pp ∉ N) (fu:Nat) (nm inp:Str) (r r':Res) (hnm:nm.length≤1000000) (hre:r.err.length≤1000000000) (args:List Str) (h0:¬ args=[]) (hl:args.length≤1000) (hS:kZ pp st cwd um N fu nm args F F' r r')
  (q p:Oid) (hp:p.mono=false) (hqN:q ∉ N) (hqp:¬ q=pp) (hq:¬ Oid.under p q) (hpp:¬ Oid.under p pp) (hO:aW p N) :
  aj Tryz.prog 133 [.ptr q 0,.list 1 (args.map AV.str),.fn (.func fu) [.ptr pp 0] []] (Oid.under p) ⟨(q,dz pp nm inp r)::(pp,prC st cwd um)::bk (N,F),.tuple [],(q,some (dz pp nm inp r'))::sb N F'⟩:=by
 have hqp':¬ pp=q:=fun e=>hqp e.symm
 have hl0:¬ (args.length:Int)=0:=by
  have:=List.length_pos_iff.2 h0;omega
 refine aC (n:=26) (rs:=[]) Tryz.func133 rfl rfl (by decide) rfl rfl rfl ?_;rintro x rfl hrd hng
 rw [dw]
 (try ((first|refine zn ?_|refine ze ?_|refine zk ?_);with_reducible (constructor;repeat constructor));try refine zl ?_)
 refine ao nmd [] hng (by kernel_rfl) fun hf C S K hC1 hC hS hK=>?_;simp (disch:=first|omega|assumption) only [go_sem,hl0,List.length_map,decide_true,decide_false,ne_eq,not_false_eq_true]
 refine hK ?_;clear hK hS hC hC1 K S C hf
 (repeat (first|(refine ax rfl rfl ?_)|(refine aw rfl rfl ?_)|(refine ao nmd [] hng (by kernel_rfl) fun hf C S K hC1 hC hS hK=>?_;simp (disch:=first|omega|assumption) only [go_sem];refine hK ?_;clear hK hS hC hC1 K S C hf)|((first|refine zn ?_|refine ze ?_|refine zk ?_);with_reducible (constructor;repeat constructor);try refine zl ?_)))
 refine bL [0,2,13,14,15] (fun k s'=>∃ (i c:Nat) (G:Oid→ah) (r1:Res),s' = ⟨[(0,.ptr q 0),(2,.fn (.func fu) [.ptr pp 0] []),(13,.list 1 (args.map .str)),(14,.int .i64 args.length),(15,.int .i64 i)],Mem.blk [(q,dz pp nm inp r1),(pp,prC st cwd um)] [(N,G)],c,[]⟩∧k=args.length - i∧i≤args.length∧kZ pp st cwd um N fu nm (args.drop i) G F' r1 r'∧r1.err.length≤1000000000+i * 3000000) _ ⟨0,_,F,r,rfl,rfl,Nat.zero_le _,hS,by omega⟩ ?_
 clear hS hre
 rintro k s' ⟨i,c,G,r1,rfl,rfl,hi,hS,hre⟩
 (repeat (first|(refine ax rfl rfl ?_)|(refine aw rfl rfl ?_)|(refine ao nmd [] hng (by kernel_rfl) fun hf C S K hC1 hC hS hK=>?_;simp (disch:=first|omega|assumption) only [go_sem];refine hK ?_;clear hK hS hC hC1 K S C hf)|((first|refine zn ?_|refine ze ?_|refine zk ?_);with_reducible (constructor;repeat constructor);try refine zl ?_)))
 refine aO rfl rfl (fun hb=>?_) (fun hb=>?_)
 ·have hlt:i < args.length:=by omega
  have hd:args.drop i=args.getD i default::args.drop (i+1):=by rw [bC hlt];exact List.drop_eq_getElem_cons hlt
  rw [hd] at hS
  generalize hg:args.getD i default=a at hS
  cases hS with
  | cons _ _ e _ G1 _ _ _ hal hEr hR hS =>
  have hX:=fun p hp hq=>kY (pp:=pp) nm inp r1 a e (by omega) (by omega) (by omega) hEr q p hp hq
  obtain ⟨b1,b2⟩:=iE r1 nm a _ hEr
  clear hEr b2
  generalize r1.add nm a e=r2 at hX hS b1
  have q1:r2.err.length≤1000000000+(i+1) * 3000000:=by omega
  obtain ⟨st1,out1,err1⟩:=r1
  obtain ⟨st2,out2,err2⟩:=r2
  unfold prC at hR ⊢
  unfold dz at hX ⊢
  simp only at hre b1 ⊢
  (try ((first|refine zn ?_|refine ze ?_|refine zk ?_);with_reducible (constructor;repeat constructor));try refine zl ?_)
  refine ao nmd [] hng (by kernel_rfl) fun hf C S K hC1 hC hS hK=>?_;simp (disch:=first|omega|assumption) only [go_sem,hg,hlt,List.length_map]
  refine hK ?_;clear hK hS hC hC1 K S C hf
  (try ((first|refine zn ?_|refine ze ?_|refine zk ?_);with_reducible (constructor;repeat constructor));try refine zl ?_)
  refine ao nmd [] hng (by kernel_rfl) fun hf C S K hC1 hC hS hK=>?_;simp (disch:=first|omega|assumption) only [go_sem,Oid.ab hq,Oid.aa hq,Oid.ab hpp,Oid.aa hpp,hpN,hqN,hqp,hqp',hO]
  refine hC1 _ (hR _ (ar rfl hp) (fun h=>hpp (Oid.ae h)) (hO.sub _ _)) (by simp only [List.mem_cons,forall_eq_or_imp];exact ⟨by simp (disch:=first|omega|assumption) only [go_sem,Oid.ab hq,Oid.aa hq,Oid.ab hpp,Oid.aa hpp,hpN,hqN,hqp,hqp',hO],(by first|exact nbu _|exact nbA (by simp [hpN,hqN,hO.mem]) _)⟩) ?_
  simp (disch:=first|omega|assumption) only [go_sem,Oid.ab hq,Oid.aa hq,Oid.ab hpp,Oid.aa hpp,hpN,hqN,hqp,hqp',hO]
  refine hC1 _ (hX _ (ar rfl hp) (fun h=>hq (Oid.ae h))) (by simp (disch:=first|omega|assumption) only [go_sem,Oid.ab hq,Oid.aa hq,Oid.ab hpp,Oid.aa hpp,hpN,hqN,hqp,hqp',hO]) ?_
  simp (disch:=first|omega|assumption) only [go_sem,Oid.ab hq,Oid.aa hq,Oid.ab hpp,Oid.aa hpp,hpN,hqN,hqp,hqp',hO]
  refine hK ?_;clear hK hS hC hC1 K S C hf
  (repeat (first|(refine ax rfl rfl ?_)|(refine aw rfl rfl ?_)|(refine ao nmd [] hng (by kernel_rfl) fun hf C S K hC1 hC hS hK=>?_;simp (disch:=first|omega|assumption) only [go_sem,Oid.ab hq,Oid.aa hq,Oid.ab hpp,Oid.aa hpp,hpN,hqN,hqp,hqp',hO];refine hK ?_;clear hK hS hC hC1 K S C hf)|((first|refine zn ?_|refine ze ?_|refine zk ?_);with_reducible (constructor;repeat constructor);try refine zl ?_)))
  exact ⟨_,_,by omega,fun _ _ h=>h,i+1,_,G1,⟨st2,out2,err2⟩,rfl,rfl,by omega,hS,q1⟩
 ·have hin:i=args.length:=by omega
  subst hin
  rw [List.drop_length] at hS
  cases hS
  unfold dz prC
  (repeat (first|(refine ax rfl rfl ?_)|(refine aw rfl rfl ?_)|(refine ao nmd [] hng (by kernel_rfl) fun hf C S K hC1 hC hS hK=>?_;simp (disch:=first|omega|assumption) only [go_sem];refine hK ?_;clear hK hS hC hC1 K S C hf)|((first|refine zn ?_|refine ze ?_|refine zk ?_);with_reducible (constructor;repeat constructor);try refine zl ?_)))
  exact bV (bB (.tuple []) _ rfl ⟨rfl,rfl⟩ (jl hqp (by simp (disch:=first|omega|assumption) only [go_sem,Oid.ab hq,Oid.aa hq,Oid.ab hpp,Oid.aa hpp,hpN,hqN,hqp,hqp',hO]) (by show _=some _;simp (disch:=first|omega|assumption) only [go_sem,Oid.ab hq,Oid.aa hq,Oid.ab hpp,Oid.aa hpp,hpN,hqN,hqp,hqp',hO]) (by first|exact nbu _|exact nbA (by simp [hpN,hqN,hO.mem]) _)))
theorem yo {pp st:Oid} {N:List Oid} {F F':Oid→ah} {cwd:Str} (um:Int) (hpN:pp ∉ N) (nm inp:Str) (r r':Res) (hnm:nm.length≤1000000) (hre:r.err.length≤1000000000) (args:List Str) (h0:¬ args=[]) (hl:args.length≤1000) (hS:kZ pp st cwd um N 82 nm args F F' r r') :
  UtP pp st cwd um N F F' 59 nm inp args r r':=by
 unfold UtP
 intro q p hp hqN hqp hq hpp hO
 have hqp':¬ pp=q:=fun e=>hqp e.symm
 have hE:=fun p hp h3 h4 h5=>rn um hpN 82 nm inp r r' hnm hre args h0 hl hS q p hp hqN hqp h3 h4 h5
 clear hS
 obtain ⟨st1,out1,err1⟩:=r
 obtain ⟨st2,out2,err2⟩:=r'
 unfold prC at hE ⊢
 unfold dz at hE ⊢
 refine aC (n:=12) (rs:=[]) Tryz.func59 rfl rfl (by decide) rfl rfl rfl ?_;rintro x rfl hrd hng
 rw [dw]
 (try ((first|refine zn ?_|refine ze ?_|refine zk ?_);with_reducible (constructor;repeat constructor));try refine zl ?_)
 refine ao nmd [] hng (by kernel_rfl) fun hf C S K hC1 hC hS hK=>?_;simp (disch:=first|omega|assumption) only [go_sem,Oid.ab hq,Oid.aa hq,Oid.ab hpp,Oid.aa hpp,hpN,hqN,hqp,hqp',hO]
 refine hC1 _ (hE _ (ar rfl hp) (fun h=>hq (Oid.ae h)) (fun h=>hpp (Oid.ae h)) (hO.sub _ _)) (by simp only [List.mem_cons,forall_eq_or_imp];exact ⟨by simp (disch:=first|omega|assumption) only [go_sem,Oid.ab hq,Oid.aa hq,Oid.ab hpp,Oid.aa hpp,hpN,hqN,hqp,hqp',hO],by simp (disch:=first|omega|assumption) only [go_sem,Oid.ab hq,Oid.aa hq,Oid.ab hpp,Oid.aa hpp,hpN,hqN,hqp,hqp',hO],(by first|exact nbu _|exact nbA (by simp [hpN,hqN,hO.mem]) _)⟩) ?_
 simp (disch:=first|omega|assumption) only [go_sem,Oid.ab hq,Oid.aa hq,Oid.ab hpp,Oid.aa hpp,hpN,hqN,hqp,hqp',hO]
 refine hK ?_;clear hK hS hC hC1 K S C hf
 exact bV (bB (.tuple []) _ rfl ⟨rfl,rfl⟩ (jl hqp (by simp (disch:=first|omega|assumption) only [go_sem,Oid.ab hq,Oid.aa hq,Oid.ab hpp,Oid.aa hpp,hpN,hqN,hqp,hqp',hO]) (by show _=some _;simp (disch:=first|omega|assumption) only [go_sem,Oid.ab hq,Oid.aa hq,Oid.ab hpp,Oid.aa hpp,hpN,hqN,hqp,hqp',hO]) (by first|exact nbu _|exact nbA (by simp [hpN,hqN,hO.mem]) _)))
end Go.Proofs.YtfbnaalhioogoaaGreatDoor
namespace Go.Proofs.YtfbnaalhioogoaaGreatDoor
open Go Go.Ab
set_option maxRecDepth 20000
set_option maxHeartbeats 4000000
theorem yr (b:Bool) (p:Oid):aj Tryz.prog 213 [.bool b] (Oid.under p) ⟨[],.int .i64 (if b=true then 0 else 1),[]⟩:=by
 cases b
 all_goals
  refine aC (n:=4) (rs:=[.tmp 2]) Tryz.func213 rfl rfl (by decide) rfl rfl rfl ?_;rintro x rfl hrd hng
  refine qw0 ?_
  exact aA (bp rfl)
theorem wi (s:Str) (hl:s.length≤4000000000) (h1:gx s [45]=false) (h2:dY s=true) (p:Oid) (hp:p.mono=false):aj Tryz.prog 274 [.str s] (Oid.under p) ⟨[],.tuple [.int .i64 (a6 s),.bool true],[]⟩:=by
 have hC':=fun p=>kO s [45] (by omega) (by decide) p
 have hN:=fun p hp=>lr s (by omega) p hp
 rw [h1] at hC'
 rw [h2] at hN
 simp only [Bool.false_eq_true,if_false] at hC'
 refine aC (n:=23) (rs:=[.tmp 2,.tmp 3]) Tryz.func274 rfl rfl (by decide) rfl rfl rfl ?_;rintro x rfl hrd hng
 refine qw0 ?_
 refine qr1 (hC' _) ?_
 refine qr1 (hN _) ?_
 refine qw0 ?_
 exact aA (bg qs0)
theorem I1:dY [49]=true:=by kernel_rfl
theorem I2:dY [50]=true:=by kernel_rfl
theorem I3:a6 [49]=1:=by kernel_rfl
theorem I4:a6 [50]=2:=by kernel_rfl
theorem I5:gx [49] [45]=false:=by kernel_rfl
theorem I6:gx [50] [45]=false:=by kernel_rfl
theorem BD (p:Oid) (hp:p.mono=false):aj Tryz.prog 215 [.str [49],.str [45,108,116],.str [50]] (Oid.under p) ⟨[],.int .i64 0,[]⟩:=by
 have h1:=fun p hp=>wi [49] (by decide) I5 I1 p hp
 have h2:=fun p hp=>wi [50] (by decide) I6 I2 p hp
 rw [I3] at h1
 rw [I4] at h2
 have e1:¬ ([45,108,116]:Str)=[61]:=by decide
 have e2:¬ ([45,108,116]:Str)=[33,61]:=by decide
 have e3:¬ ([45,108,116]:Str)=[45,101,113]:=by decide
 have e4:¬ ([45,108,116]:Str)=[45,110,101]:=by decide
 have hs:=fun p=>yr true p
 refine aC (n:=77) (rs:=[.tmp 6]) Tryz.func215 rfl rfl (by decide) rfl rfl rfl ?_;rintro x rfl hrd hng
 refine qw (ai e1 e2) ?_
 refine qr1 (h1 _) ?_
 refine qr1 (h2 _) ?_
 refine ao nmd [(2,36)] hng (by kernel_rfl) fun hf C S K hC1 hC hS hK=>?_;simp (disch:=first|omega|assumption) only [go_sem,Bool.not_true]
 refine hK ?_;clear hK hS hC hC1 K S C hf
 refine qw (ai e3 e4) ?_
 refine ao nmd [] hng (by kernel_rfl) fun hf C S K hC1 hC hS hK=>?_;simp (disch:=first|omega|assumption) only [go_sem]
 refine hC1 _ (by exact hs _) (fun _ h=>by cases h) ?_
 simp (disch:=first|omega|assumption) only [go_sem]
 refine hK ?_;clear hK hS hC hC1 K S C hf
 refine qw0 ?_
 exact aA (bg qs0)
theorem Ex (q:Oid) (p:Oid) (hp:p.mono=false):aj Tryz.prog 138 [.ptr q 0,.list 1 [.str [49],.str [45,108,116],.str [50]]] (Oid.under p) ⟨[],.int .i64 0,[]⟩:=by
 have h3:=fun p hp=>BD p hp
 have e1:¬ ([49]:Str)=[33]:=by decide
 refine aC (n:=58) (rs:=[.tmp 4]) Tryz.func138 rfl rfl (by decide) rfl rfl rfl ?_;rintro x rfl hrd hng
 refine qw e1 ?_
 refine qd (.d [] [] [4]) trivial (cq (h3 _) trivial) ?_
 refine qw0 ?_
 exact aA (bg qs0)
theorem BE {pp:Oid} (nm inp:Str) (r:Res) (q p:Oid) (hp:p.mono=false) (hq:¬ Oid.under p q):aj Tryz.prog 64 [.ptr q 0,.list 1 [.str [49],.str [45,108,116],.str [50]]] (Oid.under p) ⟨[(q,dz pp nm inp r)],.tuple [],[(q,some (dz pp nm inp ⟨0,r.out,r.err⟩))]⟩:=by
 have hT:=fun p hp=>Ex q p hp
 obtain ⟨st1,out1,err1⟩:=r
 unfold dz
 simp only
 refine aC (n:=19) (rs:=[]) Tryz.func64 rfl rfl (by decide) rfl rfl rfl ?_;rintro x rfl hrd hng
 (try ((first|refine zn ?_|refine ze ?_|refine zk ?_);with_reducible (constructor;repeat constructor));try refine zl ?_)
 refine ao nmd [] hng (by kernel_rfl) fun hf C S K hC1 hC hS hK=>?_;simp (disch:=first|omega|assumption) only [go_sem,Oid.ab hq,Oid.aa hq]
 refine hC1 _ (hT _ (ar rfl hp)) (fun _ h=>by cases h) ?_
 simp (disch:=first|omega|assumption) only [go_sem,Oid.ab hq,Oid.aa hq]
 refine hK ?_;clear hK hS hC hC1 K S C hf
 (repeat (first|(refine ax rfl rfl ?_)|(refine aw rfl rfl ?_)|(refine ao nmd [] hng (by kernel_rfl) fun hf C S K hC1 hC hS hK=>?_;simp (disch:=first|omega|assumption) only [go_sem,Oid.ab hq,Oid.aa hq];refine hK ?_;clear hK hS hC hC1 K S C hf)|((first|refine zn ?_|refine ze ?_|refine zk ?_);with_reducible (constructor;repeat constructor);try refine zl ?_)))
 refine bV (bX rfl ?_ ?_)
 ·simp (disch:=first|omega|assumption) only [go_sem]
  exact fun _ h=>h
 ·simp (disch:=first|omega|assumption) only [go_sem]
  exact fun h=>absurd trivial h
theorem uU {pp st:Oid} {N:List Oid} {F:Oid→ah} {cwd:Str} (um:Int) (hpN:pp ∉ N) (nm inp:Str) (r:Res):UtP pp st cwd um N F F 65 nm inp [[49],[45,108,116],[50],[93]] r ⟨0,r.out,r.err⟩:=by
 unfold UtP
 intro q p hp hqN hqp hq hpp hO
 have hqp':¬ pp=q:=fun e=>hqp e.symm
 have hT:=fun p hp hq=>BE (pp:=pp) nm inp r q p hp hq
 have e1:([93]:Str)=[93]:=rfl
 obtain ⟨st1,out1,err1⟩:=r
 unfold dz at hT ⊢
 unfold prC
 simp only at hT ⊢
 have f4:((4:Nat):Int) - 1=3:=rfl
 have f3:¬ (3:Int) < 0:=by decide
 refine aC (n:=24) (rs:=[]) Tryz.func65 rfl rfl (by decide) rfl rfl rfl ?_;rintro x rfl hrd hng
 rw [dw]
 (try ((first|refine zn ?_|refine ze ?_|refine zk ?_);with_reducible (constructor;repeat constructor));try refine zl ?_)
 refine ao nmd [] hng (by kernel_rfl) fun hf C S K hC1 hC hS hK=>?_;simp (disch:=first|omega|assumption) only [go_sem,f4]
 refine hK ?_;clear hK hS hC hC1 K S C hf
 (try ((first|refine zn ?_|refine ze ?_|refine zk ?_);with_reducible (constructor;repeat constructor));try refine zl ?_)
 refine ao nmd [(2,10)] hng (by kernel_rfl) fun hf C S K hC1 hC hS hK=>?_;simp (disch:=first|omega|assumption) only [go_sem,Oid.ab hq,Oid.aa hq,Oid.ab hpp,Oid.aa hpp,hpN,hqN,hqp,hqp',hO,f3,eq_self,decide_true,decide_false,ne_eq,not_true_eq_false,not_false_eq_true]
 refine hK ?_;clear hK hS hC hC1 K S C hf
 (repeat (first|(refine ax rfl rfl ?_)|(refine aw rfl rfl ?_)|(refine ao nmd [] hng (by kernel_rfl) fun hf C S K hC1 hC hS hK=>?_;simp (disch:=first|omega|assumption) only [go_sem];refine hK ?_;clear hK hS hC hC1 K S C hf)|((first|refine zn ?_|refine ze ?_|refine zk ?_);with_reducible (constructor;repeat constructor);try refine zl ?_)))
 refine ao nmd [] hng (by kernel_rfl) fun hf C S K hC1 hC hS hK=>?_;simp (disch:=first|omega|assumption) only [go_sem,Oid.ab hq,Oid.aa hq,Oid.ab hpp,Oid.aa hpp,hpN,hqN,hqp,hqp',hO]
 refine hC1 _ (hT _ (ar rfl hp) (fun h=>hq (Oid.ae h))) (by simp (disch:=first|omega|assumption) only [go_sem,Oid.ab hq,Oid.aa hq,Oid.ab hpp,Oid.aa hpp,hpN,hqN,hqp,hqp',hO]) ?_
 simp (disch:=first|omega|assumption) only [go_sem,Oid.ab hq,Oid.aa hq,Oid.ab hpp,Oid.aa hpp,hpN,hqN,hqp,hqp',hO]
 refine hK ?_;clear hK hS hC hC1 K S C hf
 exact bV (bB (.tuple []) _ rfl ⟨rfl,rfl⟩ (jl hqp (by simp (disch:=first|omega|assumption) only [go_sem,Oid.ab hq,Oid.aa hq,Oid.ab hpp,Oid.aa hpp,hpN,hqN,hqp,hqp',hO]) (by show _=some _;simp (disch:=first|omega|assumption) only [go_sem,Oid.ab hq,Oid.aa hq,Oid.ab hpp,Oid.aa hpp,hpN,hqN,hqp,hqp',hO]) (by first|exact nbu _|exact nbA (by simp [hpN,hqN,hO.mem]) _)))
end Go.Proofs.YtfbnaalhioogoaaGreatDoor
namespace Go.Proofs.YtfbnaalhioogoaaGreatDoor
open Go Go.Ab
set_option maxRecDepth 20000
set_option maxHeartbeats 4000000
section
variable {pp st:Oid} {N:List Oid} {F F1 F2:Oid→ah} {L:PL} (hK:KL L) {cwd:Str} (hc:cwd.length≤1000000) (um:Int) (hpN:pp ∉ N)
include hK hc hpN
end
end Go.Proofs.YtfbnaalhioogoaaGreatDoor
namespace Go.Proofs.YtfbnaalhioogoaaGreatDoor
open Go Go.Ab
set_option maxRecDepth 20000
set_option maxHeartbeats 4000000
section
variable {pp st:Oid} {N:List Oid} {F F1 F2:Oid→ah} {L:PL} (hK:KL L) {cwd:Str} (hc:cwd.length≤1000000) (um:Int) (hpN:pp ∉ N)
include hK hc hpN
end
end Go.Proofs.YtfbnaalhioogoaaGreatDoor
namespace Go.Proofs.YtfbnaalhioogoaaGreatDoor
open Go Go.Ab
set_option maxRecDepth 20000
set_option maxHeartbeats 4000000
section
variable {pp st:Oid} {N:List Oid} {F F1 F2 F3 F4:Oid→ah} {L:PL} (hK:KL L) {cwd:Str} (hc:cwd.length≤1000000) (um:Int) (hpN:pp ∉ N)
include hK hc hpN
end
end Go.Proofs.YtfbnaalhioogoaaGreatDoor
namespace Go.Proofs.YtfbnaalhioogoaaGreatDoor
open Go Go.Ab
set_option maxRecDepth 20000
set_option maxHeartbeats 4000000
section
variable {pp st:Oid} {cwd:Str} {um:Int} {N:List Oid} {F F':Oid→ah} (args:List Str) (inp:Str) (r':Res) (hpN:pp ∉ N)
include hpN
end
end Go.Proofs.YtfbnaalhioogoaaGreatDoor
namespace Go.Ab
open Go.Proofs Go.Shelf Go.Sort
theorem az.bare {x:Ctx} {g:Gh} {m:Mem} {w W:World} {p:Oid} (h:az x g m w) (hcom:∀ b o v,g.com b o=some v→W.cell? ⟨b,o,none⟩=some v)
  (hrow:∀ b r,g.row b=some r→∃ c t fz,W.heap[b]? = some (.cells c t fz)∧c.size=r) (htyp:∀ (b:Nat) (c:Array Value) (t:TypeId) (fz:Nat × Nat),w.heap[b]? = some (Obj.cells c t fz)→∃ c' fz',W.heap[b]? = some (Obj.cells c' t fz')):az { ng:=x.ng,g0:=g,w0:=W,may0:=fun _=>False,p:=p,rd:=none } g Mem.emp W :=
 ⟨Gh.le_refl g,fun _ _=>rfl,h.glob,fun _ _ _ hv=>.inl hv,fun _ _ hi=>(by cases hi),fun _ _ _ _ _ hi=>(by cases hi),hcom,h.one,hrow,rfl,rfl,⟨rfl,fun _=>Nat.le_refl _⟩,Nat.le_refl _,fun _ _ _=>rfl,fun t q b hb=>let ⟨c,fz,h1⟩:=h.typs t q b hb;htyp b c t fz h1⟩
section
variable {α:Type} [Inhabited α] (enc:α→List Value) (k:Nat)
end
end Go.Ab
namespace Go.Proofs
open Go.Shelf
end Go.Proofs
namespace Go.Proofs.YtfbnaalhioogoaaGreatDoor
open Go Go.Ab
open Go.Proofs (ltOf)
set_option maxRecDepth 20000
set_option maxHeartbeats 4000000
abbrev Tch:=(Str × Bool) × Str
instance:Inhabited Tch:=⟨(([],false),[])⟩
end Go.Proofs.YtfbnaalhioogoaaGreatDoor
namespace Go.Proofs.YtfbnaalhioogoaaGreatDoor
open Go Go.Ab
set_option maxRecDepth 20000
set_option maxHeartbeats 4000000
end Go.Proofs.YtfbnaalhioogoaaGreatDoor
namespace Go.Proofs
open Go.Shelf
end Go.Proofs
namespace Go.Proofs.YtfbnaalhioogoaaGreatDoor
open Go Go.Ab
set_option maxRecDepth 20000
set_option maxHeartbeats 4000000
end Go.Proofs.YtfbnaalhioogoaaGreatDoor
namespace Go.Proofs.YtfbnaalhioogoaaGreatDoor
open Go Go.Ab
set_option maxRecDepth 20000
set_option maxHeartbeats 40000000
section
variable (st t tr o rd wr:Oid) (hn:[wr,rd,o,tr,t,st].Nodup) (es eso esr esw:List ME) (clock co cr cw:Nat)
include hn
end
end Go.Proofs.YtfbnaalhioogoaaGreatDoor
namespace Go.Proofs.YtfbnaalhioogoaaGreatDoor
open Go Go.Ab
set_option maxRecDepth 20000
set_option maxHeartbeats 4000000
def St.halt (s:St):St:=⟨s.L,none⟩
def St.reads (s:St):List Tch:=match s.t with|none=>[]|some q=>q.R
def St.writes (s:St):List Tch:=match s.t with|none=>[]|some q=>q.W.map fun w=>((w.1,false),dp (aF s.L w.1))
theorem SOK.begin {s:St} (h:SOK s):SOK s.begin:=⟨h.sl,h.po,h.no,fun q hq=>by
 simp only [St.begin,Option.some.injEq] at hq
 subst hq
 exact ⟨h.sl,List.Pairwise.nil,List.Pairwise.nil,h.po,h.no⟩⟩
theorem SOK.halt {s:St} (h:SOK s):SOK s.halt:=⟨h.sl,h.po,h.no,fun q hq=>by cases hq⟩
theorem yt {st:Oid} {s:St} {N:List Oid} {F:Oid→ah} (h:dx st s N F):∃ (t:Oid) (tv:AV) (es:List ME) (clock:Nat),st ∈ N∧t ∈ N∧¬ t=st∧F st = .cells [.map t,tv]∧F t = .map [.ss] false es clock∧gO es s.L:=by
 obtain ⟨L,t0⟩:=s
 obtain ⟨hnd,h⟩:=h
 cases t0 with
 | none =>
  obtain ⟨t,es,clock,rfl,k1,k2,k3⟩:=h
  exact ⟨t,_,es,clock,by simp,by simp,fun e=>by simp [e] at hnd,k1,k2,k3⟩
 | some q =>
  obtain ⟨t,tr,o,rd,wr,es,eso,esr,esw,clock,co,cr,cw,rfl,k1,k2,k3,k4,k5,k6,m1,m2,m3,m4⟩:=h
  exact ⟨t,_,es,clock,by simp,by simp,fun e=>by simp [e] at hnd,k1,k2,m1⟩
end Go.Proofs.YtfbnaalhioogoaaGreatDoor
namespace Go.Proofs.YtfbnaalhioogoaaGreatDoor
open Go Go.Ab
set_option maxRecDepth 20000
set_option maxHeartbeats 4000000
structure E6 (h:Tch):Prop where
 key:h.1.1.length≤1000000
 len:h.2.length≤4000000000
 ok:(ly h.2).1.ok
 pos:0≤(ly h.2).1.k∧0≤(ly h.2).1.m
 fine:(ly h.2).2=0
 plain:h.1.2=false
def jm (s:St):List Tch→St
 | []=>s
 | h::l=>jm (s.put h.1.1 (ly h.2).1) l
end Go.Proofs.YtfbnaalhioogoaaGreatDoor
namespace Go.Proofs.YtfbnaalhioogoaaGreatDoor
open Go Go.Ab
set_option maxRecDepth 20000
def EG (b:Bits):Prop:=(1≤b.k∧b.k≤3)∧(0≤b.m∧b.m≤7)∧¬ (b.k=2∧¬ b.l=[])∧b.l.length≤3
theorem iF (m k l:UInt8):(0≤(dL m k l).k∧(dL m k l).k≤3)∧(0≤(dL m k l).m∧(dL m k l).m≤7)∧¬ ((dL m k l).k=2∧¬ (dL m k l).l=[])∧(dL m k l).l.length≤3:=by
 have h4:m.toNat % 4 < 4:=Nat.mod_lt _ (by decide)
 have h8:k.toNat % 8 < 8:=Nat.mod_lt _ (by decide)
 refine ⟨by simp only [dL];omega,by simp only [dL];omega,?_,?_⟩
 ·rintro ⟨h1,h2⟩
  apply h2
  simp only [dL] at h1 ⊢
  rw [if_neg (by omega)]
 ·simp only [dL]
  split
  ·simp only [List.length_drop,List.length_cons,List.length_nil];omega
  ·decide
theorem BF (m k l:UInt8) (h0:¬ (dL m k l).k=0):EG (dL m k l):=by
 obtain ⟨h1,h2,h3,h4⟩:=iF m k l
 exact ⟨⟨by omega,h1.2⟩,h2,h3,h4⟩
theorem yu (m k l:UInt8):(dL m k l).ok:=by
 obtain ⟨h1,h2,h3,h4⟩:=iF m k l
 exact ⟨⟨by omega,by omega⟩,⟨by omega,by omega⟩,by omega⟩
theorem p0 (i:UInt8):(vG i).length≤6:=by
 have h:i.toNat % 10 < 10:=Nat.mod_lt _ (by decide)
 unfold vG
 generalize i.toNat % 10=j at h
 have:∀ j,j < 10→(paths.getD j default).length≤6:=by decide
 exact this j h
structure SG (s:St) (n:Nat):Prop where
 ok:SOK s
 len:s.L.length≤n
 key:∀ q ∈ s.L,q.1.length≤6
 dB:∀ q ∈ s.L,EG q.2
theorem gi {n:Str} {b:Bits} {L:PL} {q:Str × Bits} (h:q ∈ eZ n b L):(q=(n,b)∧¬ b.k=0)∨q ∈ L:=by
 unfold eZ at h
 split at h
 ·exact .inr h
 ·rcases fq h with h|h
  ·split at h
   ·cases h
   ·exact .inl ⟨List.mem_singleton.1 h,‹_›⟩
  ·exact .inr h
theorem SG.put {s:St} {n:Nat} (h:SG s n) (hn:n < 1000000) (i m k l:UInt8):SG (s.put (vG i) (dL m k l)) (n+1) :=
 ⟨h.ok.put _ _ (Nat.lt_of_le_of_lt h.len hn) (Nat.le_trans (p0 i) (by decide)) (yu m k l) ⟨(iF m k l).1.1,(iF m k l).2.1.1⟩,
  Nat.le_trans (jg (vG i) (dL m k l) s.L) (Nat.succ_le_succ h.len),
  fun q hq=>by
   rcases gi hq with ⟨rfl,_⟩|hq
   ·exact p0 i
   ·exact h.key q hq,
  fun q hq=>by
   rcases gi hq with ⟨rfl,h0⟩|hq
   ·exact BF m k l h0
   ·exact h.dB q hq⟩
theorem SG.mono {s:St} {n m:Nat} (h:SG s n) (hn:n≤m):SG s m:=⟨h.ok,Nat.le_trans h.len hn,h.key,h.dB⟩
theorem SG.read {s:St} {n:Nat} (h:SG s n) (f:Str × Bool):SG (s.read f) n:=⟨h.ok.read f,h.len,h.key,h.dB⟩
theorem SG.begin {s:St} {n:Nat} (h:SG s n):SG s.begin n:=⟨h.ok.begin,h.len,h.key,h.dB⟩
theorem SG.halt {s:St} {n:Nat} (h:SG s n):SG s.halt n:=⟨h.ok.halt,h.len,h.key,h.dB⟩
structure TG (L0:PL) (s:St) (n:Nat) (q:Tr):Prop where
 t:s.t=some q
 old:q.old=L0
 rd:∀ x ∈ q.R,x.2=dN L0 x.1∧x.1.1.length≤6
 wr:∀ n,aM n q.W=none→aM n s.L=aM n L0
 wk:∀ w ∈ q.W,¬ w.1=[]∧w.1.length≤6
 rl:q.R.length≤n
 wl:q.W.length≤n
theorem jF {L:PL} (hs:aU ltB L) (n m:Str) (b:Bits):aM m (eZ n b L)=if n=[] then aM m L else if m=n then (if b.k=0 then none else some b) else aM m L:=by
 unfold eZ
 split
 ·rfl
 ·exact pG fU n m _ hs
theorem TG.begin {s:St}:TG s.L s.begin 0 ⟨s.L,[],[]⟩ :=
 ⟨rfl,rfl,fun x hx=>(by cases hx),fun _ _=>rfl,fun w hw=>(by cases hw),Nat.le_refl _,Nat.le_refl _⟩
theorem TG.mono {L0:PL} {s:St} {n m:Nat} {q:Tr} (h:TG L0 s n q) (hn:n≤m):TG L0 s m q:=⟨h.t,h.old,h.rd,h.wr,h.wk,Nat.le_trans h.rl hn,Nat.le_trans h.wl hn⟩
theorem TG.read {L0:PL} {s:St} {n:Nat} {q:Tr} (h:TG L0 s n q) (hs:SOK s) (f:Str × Bool) (hf:f.1.length≤6):TG L0 (s.read f) (n+1) (q.read f):=by
 have hT:=hs.tr q h.t
 refine ⟨by simp only [St.read,h.t,Option.map_some],h.old,fun x hx=>?_,h.wr,h.wk,Nat.le_trans (jE hT.sr) (Nat.succ_le_succ h.rl),Nat.le_succ_of_le h.wl⟩
 have hx':x ∈ fw q.old q.W f q.R:=hx
 unfold fw at hx'
 split at hx'
 ·exact h.rd x hx'
 ·split at hx'
  ·exact h.rd x hx'
  ·rcases fq hx' with hx|hx
   ·rw [List.mem_singleton.1 hx,h.old];exact ⟨rfl,hf⟩
   ·exact h.rd x hx
theorem TG.put {L0:PL} {s:St} {n:Nat} {q:Tr} (h:TG L0 s n q) (hs:SOK s) (m:Str) (hm:m.length≤6) (b:Bits):TG L0 (s.put m b) (n+1) (q.put m):=by
 have hT:=hs.tr q h.t
 refine ⟨by simp only [St.put,h.t,Option.map_some],h.old,h.rd,fun k hk=>?_,fun w hw=>?_,Nat.le_succ_of_le h.rl,Nat.le_trans (nR hT.sw) (Nat.succ_le_succ h.wl)⟩
 ·have hk':aM k (fv true m q.W)=none:=hk
  show aM k (eZ m b s.L)=_
  rw [jF hs.sl]
  unfold fv at hk'
  split at hk'
  ·rw [if_pos ‹_›];exact h.wr k hk'
  ·rw [if_pos rfl,pG fU m k _ hT.sw] at hk'
   split at hk'
   ·cases hk'
   ·rw [if_neg ‹_›,if_neg ‹_›];exact h.wr k hk'
 ·have hw':w ∈ fv true m q.W:=hw
  unfold fv at hw'
  split at hw'
  ·exact h.wk w hw'
  ·rw [if_pos rfl] at hw'
   rcases fq hw' with hw|hw
   ·rw [List.mem_singleton.1 hw];exact ⟨‹_›,hm⟩
   ·exact h.wk w hw
theorem TG.I7 {L0:PL} {s:St} {n:Nat} {q:Tr} (h:TG L0 s n q):(s.reads.all fun x=>dN L0 x.1 == x.2)=true:=by
 unfold St.reads
 rw [h.t]
 exact List.all_eq_true.2 fun x hx=>beq_iff_eq.2 (h.rd x hx).1.symm
end Go.Proofs.YtfbnaalhioogoaaGreatDoor
namespace Go.Proofs.YtfbnaalhioogoaaGreatDoor
open Go Go.Ab
set_option maxRecDepth 20000
def AgL (L L':PL) (rd:Rds):Prop:=∀ f ∈ rd,(f.2=false→aF L' f.1=aF L f.1)∧(f.2=true→aP L' f.1=aP L f.1)
theorem AgL.left {L L':PL} {a b:Rds} (h:AgL L L' (a++b)):AgL L L' a:=fun f hf=>h f (List.mem_append_left _ hf)
theorem AgL.right {L L':PL} {a b:Rds} (h:AgL L L' (a++b)):AgL L L' b:=fun f hf=>h f (List.mem_append_right _ hf)
theorem AgL.get {L L':PL} {rd:Rds} (h:AgL L L' rd) {n:Str} (hn:(n,false) ∈ rd):aF L' n=aF L n:=(h _ hn).1 rfl
theorem AgL.nam {L L':PL} {rd:Rds} (h:AgL L L' rd) {n:Str} (hn:(n,true) ∈ rd):aP L' n=aP L n:=(h _ hn).2 rfl
def Hg {α:Type} (X:PL→Rds × Rs α):Prop:=∀ L L',AgL L L' (X L).1→X L' = X L
theorem Hg.const {α:Type} (x:Rds × Rs α):Hg fun _=>x:=fun _ _ _=>rfl
theorem Hg.then {α β:Type} {X:PL→Rds × Rs α} {f:PL→α→Rds × Rs β} (hX:Hg X) (hf:∀ a,Hg fun L=>f L a):Hg fun L=>aV (X L) (f L):=fun L L' h=>by
 simp only at h ⊢
 cases hx:X L with
 | mk r a =>
  cases a with
  | err e =>
   rw [pR hx] at h
   rw [pR ((hX L L' (by rw [hx];exact h)).trans hx)];rfl
  | go a =>
   rw [s8 hx] at h
   rw [s8 ((hX L L' (by rw [hx];exact h.left)).trans hx)]
   have:=hf a L L' h.right
   simp only at this
   rw [this];rfl
theorem Hg.ite {α:Type} {c:Prop} [Decidable c] {X Y:PL→Rds × Rs α} (hX:Hg X) (hY:Hg Y):Hg fun L=>if c then X L else Y L:=by
 by_cases h:c
 ·simp only [if_pos h];exact hX
 ·simp only [if_neg h];exact hY
def eQ (L:PL) (l:Pts):PL:=l.foldl (fun L q=>eZ q.1 q.2 L) L
end Go.Proofs.YtfbnaalhioogoaaGreatDoor
namespace Go.Proofs.YtfbnaalhioogoaaGreatDoor
open Go Go.Ab
set_option maxRecDepth 20000
def BG (n:Str):Prop:=¬ n=[]∧(47:UInt8) ∉ n∧n.length≤32∧¬ n=[46]∧¬ n=[46,46]
def mkP:List Str→Str
 | []=>[]
 | n::l=>47::(n++mkP l)
theorem fV:∀ (l:List Str) (n:Str),mkP (l++[n])=mkP l++(47::n)
 | [],n=>by simp [mkP]
 | m::l,n=>by simp [mkP,fV l n]
def NPl (s:Str):Prop:=∃ l,(∀ n ∈ l,BG n)∧s=mkP l
theorem NPl.nil:NPl []:=⟨[],fun n h=>(by cases h),rfl⟩
theorem yv (a n:Str) (h:(47:UInt8) ∉ n):dK (a++(47::n)) 47 (a++(47::n)).length=a.length:=by
 have key:∀ k,k≤n.length→dK (a++(47::n)) 47 (a.length+1+k)=a.length:=by
  intro k
  induction k with
  | zero =>
   intro _
   rw [Nat.add_zero,dK,if_pos]
   simp [List.getD_eq_getElem?_getD]
  | succ k ih =>
   intro hk
   rw [show a.length+1+(k+1)=(a.length+1+k)+1 from by omega,dK,if_neg,ih (by omega)]
   intro e
   rw [List.getD_eq_getElem?_getD,List.getElem?_append_right (by omega),show a.length+1+k - a.length=k+1 from by omega,List.getElem?_cons_succ,List.getElem?_eq_getElem (by omega),Option.getD_some] at e
   exact h (e ▸ List.getElem_mem _)
 have:=key n.length (Nat.le_refl _)
 rw [List.length_append,List.length_cons,show a.length+(n.length+1)=a.length+1+n.length from by omega]
 exact this
theorem il (a n:Str) (h:(47:UInt8) ∉ n):aN (a++(47::n))=a:=by
 unfold aN
 rw [yv a n h]
 simp
theorem p5 {α:Type} (l:List α):l=[]∨∃ m x,l=m++[x]:=by
 cases l with
 | nil=>exact .inl rfl
 | cons a l=>exact .inr ⟨(a::l).dropLast,(a::l).getLast (by simp),(List.dropLast_concat_getLast (by simp)).symm⟩
theorem NPl.BH {s:Str} (h:NPl s):NPl (aN s):=by
 obtain ⟨l,hl,rfl⟩:=h
 rcases p5 l with rfl|⟨m,x,rfl⟩
 ·exact NPl.nil
 ·rw [fV,il _ _ (hl x (by simp)).2.1]
  exact ⟨m,fun n hn=>hl n (List.mem_append_left _ hn),rfl⟩
theorem NPl.next {s n:Str} (h:NPl s) (hn:BG n):NPl (s++(47::n)):=by
 obtain ⟨l,hl,rfl⟩:=h
 refine ⟨l++[n],fun x hx=>?_,(fV l n).symm⟩
 rcases List.mem_append.1 hx with hx|hx
 ·exact hl x hx
 ·rw [List.mem_singleton.1 hx];exact hn
def oR (t:List Str):Prop:=∀ x ∈ t,¬ x=[]∧(47:UInt8) ∉ x
theorem p6 (c:UInt8):∀ (s:Str) (t:Str),t ∈ a8 c s→c ∉ t
 | [],t,h=>by rw [a8,List.mem_singleton] at h;rw [h];simp
 | b::s,t,h=>by
  have ih:=p6 c s
  rw [a8] at h
  split at h
  ·rcases List.mem_cons.1 h with rfl|h
   ·simp
   ·exact ih t h
  ·rename_i hb
   cases hs:a8 c s with
   | nil=>exact absurd hs (jB c s)
   | cons l r =>
    rw [hs] at h ih
    rcases List.mem_cons.1 h with rfl|h
    ·simp only [List.mem_cons,not_or]
     exact ⟨fun e=>hb e.symm,ih l List.mem_cons_self⟩
    ·exact ih t (List.mem_cons_of_mem _ h)
theorem lF (s:Str):oR (aQ s):=fun x hx=>by
 obtain ⟨h1,h2⟩:=List.mem_filter.1 hx
 exact ⟨by simpa using h2,p6 47 s x h1⟩
theorem oR.app {a b:List Str} (h:oR a) (h':oR b):oR (a++b):=fun x hx=>(List.mem_append.1 hx).elim (h x) (h' x)
theorem tq {L:PL} {fol:Bool} {w w':Wk} {n:Str} {t:List Str} {rd:Rds} (hp:NPl w.pl) (ht:oR (n::t)) (h:bq L fol w n t=(rd,.go w')):NPl w'.pl∧oR w'.todo:=by
 have ht':oR t:=fun x hx=>ht x (List.mem_cons_of_mem _ hx)
 unfold bq at h
 split at h;· cases h
 split at h;· cases h
 rename_i h32
 split at h;· cases h;exact ⟨hp,ht'⟩
 rename_i hd1
 split at h;· cases h;exact ⟨hp.BH,ht'⟩
 rename_i hd2
 have hn:BG n:=⟨(ht n List.mem_cons_self).1,(ht n List.mem_cons_self).2,by omega,hd1,hd2⟩
 obtain ⟨-,h⟩:=Prod.mk.inj h
 unfold goF at h
 split at h
 ·unfold cX at h
  split at h;· cases h
  split at h;· cases h
  cases h
  refine ⟨?_,(lF _).app ht'⟩
  simp only
  split
  ·exact NPl.nil
  ·exact hp
 ·split at h;· cases h
  cases h
  exact ⟨hp.next hn,ht'⟩
theorem wj {L:PL} {fol:Bool}:∀ (k:Nat) (w w':Wk),NPl w.pl→oR w.todo→(bP L fol k w).2 = .go w'→NPl w'.pl
 | 0,w,w',hp,ht,h=>by
  simp only [bP] at h
  split at h
  ·cases h;exact hp
  ·cases h
 | k+1,⟨a,todo,l,d⟩,w',hp,ht,h=>by
  cases todo with
  | nil=>simp only [bP,Rs.go.injEq] at h;subst h;exact hp
  | cons n t =>
   simp only [bP] at h
   cases hs:bq L fol ⟨a,n::t,l,d⟩ n t with
   | mk rd r =>
    rw [hs] at h
    cases r with
    | err e=>cases h
    | go w1 =>
     obtain ⟨k1,k2⟩:=tq hp ht hs
     exact wj k w1 w' k1 k2 h
theorem gH {L:PL} {cwd path:Str} {fol:Bool} {a:Str × Bits} (hc:NPl cwd) (h:(findF L cwd path fol).2 = .go a):NPl a.1∧a.2=aF L a.1:=by
 unfold findF at h
 split at h;· cases h
 split at h;· cases h
 have hk:=fun w'=>wj (L:=L) (fol:=fol) (wkW (aK cwd path)) (aK cwd path) w' (by
  simp only [aK];split
  ·exact NPl.nil
  ·exact hc) (lF path)
 generalize bP L fol (wkW (aK cwd path)) (aK cwd path)=x at h hk
 obtain ⟨rd,r⟩:=x
 cases r with
 | err e=>cases h
 | go w =>
  simp only [cO] at h
  split at h
  ·cases h
  ·cases h;exact ⟨hk w rfl,rfl⟩
def cB (L:PL):Prop:=∀ q ∈ L,∃ l n,(∀ x ∈ l,BG x)∧BG n∧q.1=mkP (l++[n])∧(aF L (mkP l)).k=2
theorem cB.up {L:PL} (h:cB L) {q:Str × Bits} (hq:q ∈ L):NPl q.1∧¬ q.1=[]∧(aF L (aN q.1)).k=2:=by
 obtain ⟨l,n,h1,h2,h3,h4⟩:=h q hq
 rw [h3,fV,il _ _ h2.2.1]
 exact ⟨NPl.next ⟨l,h1,rfl⟩ h2,by simp,h4⟩
theorem jo {L:PL} (hs:aU ltB L) (n m:Str) (b:Bits):aF (eZ n b L) m=if m=[]∨¬ m=n∨n=[] then aF L m else if b.k=0 then Bits.no else b:=by
 unfold aF
 by_cases hm:m=[]
 ·rw [if_pos hm,if_pos (.inl hm),if_pos hm]
 ·rw [if_neg hm,if_neg hm,jF hs]
  by_cases hn:n=[]
  ·rw [if_pos hn,if_pos (.inr (.inr hn))]
  ·rw [if_neg hn]
   by_cases hmn:m=n
   ·rw [if_pos hmn,if_neg (show ¬ (m=[]∨¬ m=n∨n=[]) from fun h=>h.elim hm fun h=>h.elim (fun h=>h hmn) hn)]
    split<;>rfl
   ·rw [if_neg hmn,if_pos (.inr (.inl hmn))]
theorem cB.put {L:PL} (h:cB L) (hs:aU ltB L) {n:Str} {b:Bits} (hn:NPl n) (h1:¬ b.k=0→(aF L (aN n)).k=2) (h2:(aF L n).k=2→¬ b.k=2→∀ q ∈ L,¬ aN q.1=n):cB (eZ n b L):=by
 by_cases hn0:n=[]
 ·unfold eZ;rw [if_pos hn0];exact h
 intro q hq
 have hq':(q=(n,b)∧¬ b.k=0)∨(q ∈ L∧¬ q.1=n):=by
  have hs2:=gg hs n b
  have hl:=(bE (hs2.nodup fU)).2 (show (q.1,q.2) ∈ eZ n b L from hq)
  rw [jF hs,if_neg hn0] at hl
  split at hl
  ·rename_i e
   split at hl
   ·cases hl
   ·rename_i h0
    refine .inl ⟨?_,h0⟩
    rw [Option.some.inj hl,← e]
  ·rename_i e
   exact .inr ⟨(bE (hs.nodup fU)).1 hl,e⟩
 rcases hq' with ⟨rfl,h0⟩|⟨hq',hne⟩
 ·obtain ⟨l,hl,rfl⟩:=hn
  rcases p5 l with rfl|⟨m,x,rfl⟩
  ·exact absurd rfl hn0
  ·have hx:=hl x (by simp)
   have ha:=h1 h0
   rw [fV,il _ _ hx.2.1] at ha
   refine ⟨m,x,fun y hy=>hl y (List.mem_append_left _ hy),hx,rfl,?_⟩
   rw [jo hs,if_pos]
   ·exact ha
   ·refine .inr (.inl fun e=>?_)
    have:=congrArg List.length e
    rw [fV] at this
    simp only [List.length_append,List.length_cons] at this
    omega
 ·obtain ⟨l,x,k1,k2,k3,k4⟩:=h q hq'
  refine ⟨l,x,k1,k2,k3,?_⟩
  rw [jo hs]
  split
  ·exact k4
  ·rename_i hc
   simp only [not_or,Decidable.not_not] at hc
   obtain ⟨_,he,_⟩:=hc
   rw [he] at k4
   by_cases hb:b.k=2
   ·rw [if_neg (by rw [hb];decide)];exact hb
   ·refine absurd ?_ (h2 k4 hb q hq')
    rw [k3,fV,il _ _ k2.2.1,he]
theorem fg {α:Type} {L:PL} {place:Str} {a b:α} (h:(b7 L place a).2 = .go b):a=b∧¬ place=[]∧(aF L (aN place)).k=2:=by
 simp only [b7] at h
 split at h
 ·cases h
 ·rename_i h0
  rw [Decidable.not_not] at h0
  unfold bO at h0
  split at h0;· cases h0
  split at h0;· cases h0
  rename_i h1 h2
  exact ⟨Rs.go.inj h,h1,Decidable.not_not.1 h2⟩
theorem bK {α β:Type} {x:Rds × Rs α} {f:α→Rds × Rs β} {b:β} (h:(aV x f).2 = .go b):∃ a,x.2 = .go a∧(f a).2 = .go b:=by
 obtain ⟨r,a⟩:=x
 cases a with
 | err e=>cases h
 | go a=>exact ⟨a,rfl,h⟩
theorem fD {L:PL} {cwd path:Str} {fol:Bool} {a:Str × Bits} (hc:NPl cwd) (h:(bS L cwd path fol).2 = .go a):NPl a.1∧a.2=aF L a.1∧¬ a.2.k=0:=by
 obtain ⟨b,h1,h2⟩:=bK h
 simp only at h2
 split at h2
 ·cases h2
 ·cases h2
  obtain ⟨k1,k2⟩:=gH hc h1
  exact ⟨k1,k2,‹_›⟩
theorem cB.here {L:PL} (h:cB L) (hs:aU ltB L) {n:Str} (hk:¬ (aF L n).k=0):(aF L (aN n)).k=2:=by
 by_cases hn:n=[]
 ·subst hn;rfl
 ·unfold aF at hk
  rw [if_neg hn] at hk
  cases hl:aM n L with
  | none=>rw [hl] at hk;exact absurd rfl hk
  | some b=>exact (h.up ((bE (hs.nodup fU)).1 hl)).2.2
theorem uV (a n:Str) (h:(47:UInt8) ∉ n):cE a (a++(47::n))=some n:=by
 have hd:(a++(47::n)).drop (a.length+1)=n:=by
  rw [← List.drop_drop,List.drop_left];rfl
 unfold cE
 rw [hd,if_pos]
 refine ⟨?_,?_⟩
 ·simp only [gx,Bool.and_eq_true,decide_eq_true_eq,List.length_append,List.length_cons,List.length_nil]
  refine ⟨by omega,?_⟩
  rw [show a++47::n=(a++[47])++n from by simp,show a.length+(0+1)=(a++[47]).length from by simp,List.take_left]
 ·have h1:Lib.indexByte n 47 = -1:=by
   have:=nB h
   rwa [Lib.index_one] at this
  rw [h1];decide
theorem cB.bare {L:PL} (h:cB L) {n:Str} (hn:aP L n=[]):∀ q ∈ L,¬ aN q.1=n:=fun q hq e=>by
 obtain ⟨l,x,k1,k2,k3,k4⟩:=h q hq
 rw [k3,fV,il _ _ k2.2.1] at e
 have:x ∈ aP L n:=List.mem_filterMap.2 ⟨q,hq,by rw [k3,fV,e];exact uV n x k2.2.1⟩
 rw [hn] at this;cases this
theorem uW {L:PL} {cwd path data:Str} {um:Int} {more:Bool} {ps:Pts} (h:cB L) (hs:aU ltB L) (hc:NPl cwd) (hr:(b9 L cwd um path data more).2 = .go ps):cB (eQ L ps):=by
 obtain ⟨a,h1,h2⟩:=bK hr
 obtain ⟨k1,k2⟩:=gH hc h1
 have hw:∀ e:Bits,dm a.1 e more data = .go ps→∃ d,ps=[(a.1,⟨e.k,e.m,d⟩)]:=fun e he=>by
  unfold dm at he
  split at he
  ·cases he
  ·exact ⟨_,(Rs.go.inj he).symm⟩
 split at h2
 ·cases h2
 rename_i c1
 split at h2
 ·split at h2
  ·cases h2
  ·obtain ⟨_,h3,h4⟩:=bK h2
   obtain ⟨d,rfl⟩:=hw _ h4
   obtain ⟨_,h5,h6⟩:=fg h3
   exact h.put hs k1 (fun _=>h6) fun hk=>by rw [← k2] at hk;exact absurd hk c1
 ·rename_i c2
  split at h2
  ·cases h2
  ·obtain ⟨d,rfl⟩:=hw _ h2
   exact h.put hs k1 (fun hk=>h.here hs (by rw [← k2];exact c2)) fun hk=>by rw [← k2] at hk;exact absurd hk c1
theorem p7 {L:PL} {cwd path:Str} {e:Bits} {ps:Pts} (h:cB L) (hs:aU ltB L) (hc:NPl cwd) (hr:(eJ L cwd path e).2 = .go ps):cB (eQ L ps):=by
 obtain ⟨a,h1,h2⟩:=bK hr
 obtain ⟨k1,k2⟩:=gH hc h1
 split at h2
 ·cases h2
 ·rename_i c1
  obtain ⟨rfl,h5,h6⟩:=fg h2
  exact h.put hs k1 (fun _=>h6) fun hk=>by rw [← k2] at hk;rw [hk] at c1;exact absurd (by decide) c1
theorem rp {L:PL} {cwd target path:Str} {ps:Pts} (h:cB L) (hs:aU ltB L) (hc:NPl cwd) (hr:(cg L cwd target path).2 = .go ps):cB (eQ L ps):=by
 unfold cg at hr
 split at hr;· cases hr
 split at hr;· cases hr
 exact p7 h hs hc hr
theorem tt {L:PL} {cwd path:Str} {ps:Pts} (h:cB L) (hs:aU ltB L) (hc:NPl cwd) (hr:(dn L cwd path).2 = .go ps):cB (eQ L ps):=by
 obtain ⟨a,h1,h2⟩:=bK hr
 obtain ⟨k1,k2,k3⟩:=fD hc h1
 split at h2
 ·cases h2
 ·rename_i c1
  obtain ⟨rfl,h5,h6⟩:=fg h2
  exact h.put hs k1 (fun hk=>absurd rfl hk) fun hk=>by rw [← k2] at hk;exact absurd hk c1
theorem uX {L:PL} {cwd path:Str} {ps:Pts} (h:cB L) (hs:aU ltB L) (hc:NPl cwd) (hr:(eL L cwd path).2 = .go ps):cB (eQ L ps):=by
 obtain ⟨a,h1,h2⟩:=bK hr
 obtain ⟨k1,k2,k3⟩:=fD hc h1
 split at h2;· cases h2
 split at h2;· cases h2
 obtain ⟨_,h3,h4⟩:=bK h2
 simp only at h3
 split at h3
 ·cases h3
 ·rename_i c3
  obtain ⟨rfl,h5,h6⟩:=fg h4
  exact h.put hs k1 (fun hk=>absurd rfl hk) fun _ _=>h.bare (Decidable.not_not.1 c3)
theorem tu {L:PL} {cwd f t:Str} {ps:Pts} (h:cB L) (hs:aU ltB L) (hc:NPl cwd) (hr:(dQ L cwd f t).2 = .go ps):cB (eQ L ps):=by
 obtain ⟨a,h1,h2⟩:=bK hr
 obtain ⟨k1,k2,k3⟩:=fD hc h1
 split at h2;· cases h2
 rename_i c1
 obtain ⟨b,h3,h4⟩:=bK h2
 obtain ⟨j1,j2⟩:=gH hc h3
 split at h4;· cases h4
 rename_i c2
 split at h4;· cases h4
 obtain ⟨_,h5,h6⟩:=bK h4
 obtain ⟨_,r1,r2⟩:=fg h5
 obtain ⟨rfl,r3,r4⟩:=fg h6
 split
 ·exact h
 ·rename_i hab
  have hput:=h.put hs k1 (b:=Bits.no) (fun hk=>absurd rfl hk) (fun hk=>by rw [← k2] at hk;exact absurd hk c1)
  refine hput.put (gg hs _ _) j1 (fun _=>?_) fun hk=>?_
  ·rw [jo hs,if_pos]
   ·exact r4
   ·refine .inr (.inl fun e=>?_)
    rw [e,← k2] at r4
    exact c1 r4
  ·rw [jo hs,if_pos (.inr (.inl fun e=>hab e.symm)),← j2] at hk
   exact absurd hk c2
theorem uY {L:PL} {cwd path:Str} {m:Int} {ps:Pts} (h:cB L) (hs:aU ltB L) (hc:NPl cwd) (hr:(bM L cwd path m).2 = .go ps):cB (eQ L ps):=by
 obtain ⟨a,h1,h2⟩:=bK hr
 obtain ⟨k1,k2,k3⟩:=fD hc h1
 simp only at h2
 split at h2;· cases h2
 split at h2;· cases h2
 cases h2
 exact h.put hs k1 (fun _=>h.here hs (by rw [← k2];exact k3)) fun hk hb=>by rw [← k2] at hk;exact absurd hk hb
end Go.Proofs.YtfbnaalhioogoaaGreatDoor
namespace Go.Proofs.YtfbnaalhioogoaaGreatDoor
open Go Go.Ab
set_option maxRecDepth 20000
theorem yw {L L':PL} (h1:aU ltB L) (h2:aU ltB L') (h:∀ n,aM n L=aM n L'):L=L':=by
 have n1:=h1.nodup fU
 have n2:=h2.nodup fU
 refine pF fU ((List.perm_ext_iff_of_nodup ((List.pairwise_map.1 n1).imp fun h e=>h (congrArg _ e)) ((List.pairwise_map.1 n2).imp fun h e=>h (congrArg _ e))).2 fun q=>?_) h1 h2
 obtain ⟨n,b⟩:=q
 rw [← bE n1,← bE n2,h n]
theorem wm {b:Bits} (h:EG b):(dp b).length≤4000000000:=by
 obtain ⟨⟨h1,h1'⟩,⟨h2,h2'⟩,h3,h4⟩:=h
 obtain ⟨k,m,l⟩:=b
 simp only at h1 h1' h2 h2' h3 h4
 obtain ⟨k,rfl⟩:=Int.eq_ofNat_of_zero_le (by omega:0≤k)
 obtain ⟨m,rfl⟩:=Int.eq_ofNat_of_zero_le h2
 have hv:dp ⟨k,m,l⟩=cD [Lib.decDigits k,Lib.decDigits m,l]:=by
  rw [dp,if_neg (by simp only;omega),Lib.itoa_nonneg,Lib.itoa_nonneg]
 rw [hv]
 have d1:=eY 0 k (by omega)
 have d2:=eY 0 m (by omega)
 refine Nat.le_trans (qZ (k:=100) (by decide) fun s hs=>?_) (by show 3 * 200≤4000000000;decide)
 simp only [List.mem_cons,List.not_mem_nil,or_false] at hs
 rcases hs with rfl|rfl|rfl<;>omega
theorem rq {L:PL} (h:aU ltB L) (hg:∀ q ∈ L,EG q.2) {n:Str} (hn:¬ n=[]):(aM n L=none∧aF L n=Bits.no)∨∃ b,aM n L=some b∧aF L n=b∧EG b:=by
 unfold aF
 rw [if_neg hn]
 cases hb:aM n L with
 | none=>exact .inl ⟨rfl,rfl⟩
 | some b=>exact .inr ⟨b,rfl,rfl,hg _ ((bE (h.nodup fU)).1 hb)⟩
theorem wo {L:PL} (h:aU ltB L) (hg:∀ q ∈ L,EG q.2) {n:Str} (hn:¬ n=[]):ly (dp (aF L n))=(aF L n,0)∧(dp (aF L n)).length≤4000000000:=by
 rcases rq h hg hn with ⟨_,e⟩|⟨b,_,e,hb⟩
 ·rw [e];exact ⟨rfl,by decide⟩
 ·rw [e];exact ⟨qY b hb.1 hb.2.1 hb.2.2.1 (by have:=hb.2.2.2;omega),wm hb⟩
theorem wq:∀ (l:List Tch) (s:St),s.t=none→(jm s l).t=none
 | [],_,h=>h
 | q::l,s,h=>wq l _ (by simp [St.put,h])
theorem oc {L:PL} (h:aU ltB L) (hg:∀ q ∈ L,EG q.2):∀ (W:WL) (s:St),aU ltB s.L→(∀ w ∈ W,¬ w.1=[]) →
  aU ltB (jm s (W.map fun w=>((w.1,false),dp (aF L w.1)))).L∧∀ n,aM n (jm s (W.map fun w=>((w.1,false),dp (aF L w.1)))).L=if n ∈ W.map (·.1) then aM n L else aM n s.L
 | [],s,hs,_=>⟨hs,fun n=>by simp [jm]⟩
 | w::W,s,hs,hw=>by
  have hn:=hw w List.mem_cons_self
  have he:=(wo h hg hn).1
  obtain ⟨k1,k2⟩:=oc h hg W (s.put w.1 (aF L w.1)) (gg hs _ _) fun w' h'=>hw w' (List.mem_cons_of_mem _ h')
  simp only [List.map_cons,jm,he]
  refine ⟨k1,fun n=>?_⟩
  rw [k2 n]
  by_cases h1:n ∈ W.map (·.1)
  ·rw [if_pos h1,if_pos (List.mem_cons_of_mem _ h1)]
  ·rw [if_neg h1]
   show aM n (eZ w.1 (aF L w.1) s.L)=_
   rw [jF hs,if_neg hn]
   by_cases h2:n=w.1
   ·subst h2
    rw [if_pos rfl,if_pos List.mem_cons_self]
    rcases rq h hg hn with ⟨e1,e⟩|⟨b,e1,e,hb⟩
    ·rw [e,e1];rfl
    ·rw [e,e1,if_neg (by have:=hb.1.1;omega)]
   ·rw [if_neg h2,if_neg fun h3=>by
     rcases List.mem_cons.1 h3 with h3|h3
     ·exact h2 h3
     ·exact h1 h3]
theorem TG.same {L0:PL} {s:St} {n m:Nat} {q:Tr} (h:TG L0 s n q) (hs:SG s m) (h0:aU ltB L0):jm ⟨L0,none⟩ s.writes=⟨s.L,none⟩:=by
 unfold St.writes
 rw [h.t]
 obtain ⟨k1,k2⟩:=oc hs.ok.sl hs.dB q.W ⟨L0,none⟩ h0 fun w hw=>(h.wk w hw).1
 have k3:=wq (q.W.map fun w=>((w.1,false),dp (aF s.L w.1))) ⟨L0,none⟩ rfl
 simp only
 generalize jm ⟨L0,none⟩ (q.W.map fun w=>((w.1,false),dp (aF s.L w.1)))=z at k1 k2 k3
 obtain ⟨zL,zt⟩:=z
 simp only at k1 k2 k3
 subst k3
 congr 1
 refine yw k1 hs.ok.sl fun n=>?_
 rw [k2 n]
 split
 ·rfl
 ·rename_i hn
  refine (h.wr n ?_).symm
  cases hl:aM n q.W with
  | none=>rfl
  | some u=>exact absurd (List.mem_map.2 ⟨(n,u),(bE ((hs.ok.tr q h.t).sw.nodup fU)).1 hl,rfl⟩) hn
theorem TG.app {L0:PL} {s:St} {n m:Nat} {q:Tr} (h:TG L0 s n q) (hs:SG s m):∀ x ∈ s.writes,E6 x:=by
 unfold St.writes
 rw [h.t]
 intro x hx
 obtain ⟨w,hw,rfl⟩:=List.mem_map.1 hx
 obtain ⟨hn,hl⟩:=h.wk w hw
 obtain ⟨e1,e2⟩:=wo hs.ok.sl hs.dB hn
 refine ⟨Nat.le_trans hl (by decide),e2,?_,?_,?_,rfl⟩
 ·rw [e1];exact q7 hs.ok.po w.1
 ·rw [e1];exact s5 hs.ok.no w.1
 ·rw [e1]
end Go.Proofs.YtfbnaalhioogoaaGreatDoor
namespace Go.Proofs.YtfbnaalhioogoaaGreatDoor
open Go Go.Ab
set_option maxRecDepth 20000
structure EK (b:Bits):Prop where
 k:1≤b.k∧b.k≤3
 m:0≤b.m∧b.m≤7
 d:b.k=2→b.l=[]
 l:b.l.length≤100000
 h:b.k=3→b.l.length≤300
def VK (b:Bits):Prop:=b=Bits.no∨EK b
theorem VK.ok {b:Bits} (h:VK b):b.ok:=by
 rcases h with rfl|⟨h1,h2,h3,h4,h5⟩
 ·exact ⟨⟨by decide,by decide⟩,⟨by decide,by decide⟩,by decide⟩
 ·exact ⟨⟨by omega,by omega⟩,⟨by omega,by omega⟩,by omega⟩
theorem VK.pos {b:Bits} (h:VK b):0≤b.k∧0≤b.m:=by
 rcases h with rfl|⟨h1,h2,_⟩
 ·exact ⟨by decide,by decide⟩
 ·exact ⟨by omega,by omega⟩
theorem VK.mode {b:Bits} (h:VK b):0≤b.m∧b.m≤7:=by
 rcases h with rfl|⟨h1,h2,_⟩
 ·exact ⟨by decide,by decide⟩
 ·exact h2
theorem VK.ent {b:Bits} (h:VK b):ly (dp b)=(b,0):=by
 rcases h with rfl|h
 ·rfl
 ·exact qY b h.k h.m (fun hh=>hh.2 (h.d hh.1)) (by have:=h.l;omega)
theorem VK.inj {a b:Bits} (h:VK a) (h':VK b) (e:dp a=dp b):a=b:=by
 have:=h.ent
 rw [e,h'.ent] at this
 exact (Prod.mk.inj this).1.symm
structure LK (L:PL):Prop where
 so:aU ltB L
 ek:∀ q ∈ L,EK q.2
theorem LK.link {L:PL} (h:LK L):jh L:=fun q hq h3=>(h.ek q hq).h h3
theorem LK.get {L:PL} (h:LK L) (n:Str):VK (aF L n):=by
 unfold aF
 split
 ·exact .inr ⟨⟨by decide,by decide⟩,⟨by decide,by decide⟩,fun _=>rfl,by decide,fun h=>by simp at h⟩
 ·cases hl:aM n L with
  | none=>exact .inl rfl
  | some b=>exact .inr (h.ek _ ((bE (h.so.nodup fU)).1 hl))
theorem LK.put {L:PL} (h:LK L) (n:Str) {b:Bits} (hb:VK b):LK (eZ n b L) :=
 ⟨gg h.so n b,fun q hq=>by
  rcases gi hq with ⟨rfl,h0⟩|hq
  ·rcases hb with rfl|hb
   ·exact absurd rfl h0
   ·exact hb
  ·exact h.ek q hq⟩
structure OpB (c:Nat) (x:Rds × Rs Pts):Prop where
 rd:∀ f ∈ x.1,f.1.length≤c
 rl:x.1.length≤20000
 pt:∀ q ∈ bT x.2,q.1.length≤c∧VK q.2
 pl:(bT x.2).length≤2
structure RdB {α:Type} (c k:Nat) (x:Rds × Rs α) (V:α→Prop):Prop where
 rd:∀ f ∈ x.1,f.1.length≤c
 rl:x.1.length≤k
 go:∀ a,x.2 = .go a→V a
theorem RdB.then {α β:Type} {c k k':Nat} {x:Rds × Rs α} {V:α→Prop} {f:α→Rds × Rs β} {W:β→Prop} (h:RdB c k x V) (h':∀ a,V a→RdB c k' (f a) W):RdB c (k+k') (aV x f) W:=by
 obtain ⟨r,a⟩:=x
 cases a with
 | err e=>exact ⟨h.rd,Nat.le_trans h.rl (Nat.le_add_right _ _),fun a h=>by cases h⟩
 | go a =>
  have h2:=h' a (h.go a rfl)
  refine ⟨fun g hg=>?_,?_,fun b hb=>h2.go b hb⟩
  ·rcases List.mem_append.1 hg with hg|hg
   ·exact h.rd g hg
   ·exact h2.rd g hg
  ·show (r++(f a).1).length≤_
   have h3:r.length≤k:=h.rl
   have h4:=h2.rl
   rw [List.length_append];omega
theorem RdB.err {α:Type} {c k:Nat} {e:Int} {V:α→Prop}:RdB c k (([],.err e):Rds × Rs α) V:=⟨fun f hf=>(by cases hf),Nat.zero_le _,fun a h=>(by cases h)⟩
theorem RdB.val {α:Type} {c k:Nat} {r:Rs α} {V:α→Prop} (h:∀ a,r = .go a→V a):RdB c k (([],r):Rds × Rs α) V:=⟨fun f hf=>(by cases hf),Nat.zero_le _,h⟩
theorem RdB.mono {α:Type} {c k c' k':Nat} {x:Rds × Rs α} {V W:α→Prop} (h:RdB c k x V) (hc:c≤c') (hk:k≤k') (hV:∀ a,V a→W a):RdB c' k' x W :=
 ⟨fun f hf=>Nat.le_trans (h.rd f hf) hc,Nat.le_trans h.rl hk,fun a ha=>hV a (h.go a ha)⟩
def PV (c:Nat) (l:Pts):Prop:=l.length≤2∧∀ q ∈ l,q.1.length≤c∧VK q.2
theorem RdB.op {c k:Nat} {x:Rds × Rs Pts} (h:RdB c k x (PV c)) (hk:k≤20000):OpB c x:=by
 refine ⟨h.rd,Nat.le_trans h.rl hk,fun q hq=>?_,?_⟩
 ·obtain ⟨r,a⟩:=x
  cases a with
  | err e=>cases hq
  | go a=>exact (h.go a rfl).2 q hq
 ·obtain ⟨r,a⟩:=x
  cases a with
  | err e=>exact Nat.zero_le _
  | go a=>exact (h.go a rfl).1
theorem PV.one {c:Nat} {n:Str} {b:Bits} (hn:n.length≤c) (hb:VK b):PV c [(n,b)]:=⟨by simp,fun q hq=>by rw [List.mem_singleton.1 hq];exact ⟨hn,hb⟩⟩
section
variable {L:PL} (hL:LK L) (cwd:Str)
include hL
theorem jq (path:Str) (fol:Bool):RdB (cwd.length+2700) 6000 (findF L cwd path fol) (fun a=>a.1.length≤cwd.length+2700∧VK a.2):=by
 obtain ⟨h1,h2,h3⟩:=ij hL.so hL.link cwd path fol
 exact ⟨h1,h2,fun a ha=>⟨(h3 a ha).1,by rw [(h3 a ha).2];exact hL.get a.1⟩⟩
theorem gI (path:Str) (fol:Bool):RdB (cwd.length+2700) 6000 (bS L cwd path fol) (fun a=>a.1.length≤cwd.length+2700∧VK a.2∧¬ a.2.k=0) :=
 (jq hL cwd path fol).then (k':=0) fun a ha=>.val fun b hb=>by
  split at hb
  ·cases hb
  ·cases hb;exact ⟨ha.1,ha.2,‹_›⟩
omit hL in
theorem lG {α:Type} {c:Nat} {place:Str} {a:α} {V:α→Prop} (hp:place.length≤c) (hV:V a):RdB c 1 (b7 L place a) V :=
 ⟨fun f hf=>by rw [List.mem_singleton.1 hf];exact Nat.le_trans (iC place) hp,by simp [b7],fun b hb=>by
  simp only [b7] at hb
  split at hb
  ·cases hb
  ·cases hb;exact hV⟩
theorem od (hW:cB L):∀ (k:Nat) (w w':Wk),NPl w.pl→oR w.todo→¬ (aF L w.pl).k=3→(bP L true k w).2 = .go w'→¬ (aF L w'.pl).k=3
 | 0,w,w',hp,ht,h3,h=>by
  simp only [bP] at h
  split at h
  ·cases h;exact h3
  ·cases h
 | k+1,⟨a,todo,l,d⟩,w',hp,ht,h3,h=>by
  cases todo with
  | nil=>simp only [bP,Rs.go.injEq] at h;subst h;exact h3
  | cons n t =>
   simp only [bP] at h
   cases hs:bq L true ⟨a,n::t,l,d⟩ n t with
   | mk rd r =>
    rw [hs] at h
    cases r with
    | err e=>cases h
    | go w1 =>
     obtain ⟨k1,k2⟩:=tq hp ht hs
     refine od hW k w1 w' k1 k2 ?_ h
     unfold bq at hs
     split at hs;· cases hs
     rename_i hin
     split at hs;· cases hs
     split at hs;· cases hs;exact h3
     split at hs
     ·cases hs
      have h2:(aF L a).k=2:=by
       rw [Decidable.not_not] at hin
       unfold inE at hin
       split at hin;· cases hin
       split at hin;· cases hin
       rename_i h2;exact Decidable.not_not.1 h2
      have:=hW.here hL.so (n:=a) (by rw [h2];decide)
      simp only;omega
     obtain ⟨-,hs⟩:=Prod.mk.inj hs
     unfold goF at hs
     split at hs
     ·unfold cX at hs
      split at hs;· cases hs
      split at hs;· cases hs
      cases hs
      simp only
      split
      ·show ¬ (2:Int)=3
       decide
      ·exact h3
     ·rename_i hk
      split at hs;· cases hs
      cases hs
      exact fun e=>hk ⟨e,.inr (.inl rfl)⟩
theorem tw (hW:cB L) (hc:NPl cwd) (hcd:(aF L cwd).k=2) {path:Str} {a:Str × Bits} (h:(findF L cwd path true).2 = .go a):¬ a.2.k=3:=by
 have ha:=(gH hc h).2
 unfold findF at h
 split at h;· cases h
 split at h;· cases h
 have hk:=fun w'=>od hL hW (wkW (aK cwd path)) (aK cwd path) w' (by
  simp only [aK];split
  ·exact NPl.nil
  ·exact hc) (lF path) (by
  simp only [aK];split
  ·show ¬ (2:Int)=3
   decide
  ·omega)
 generalize bP L true (wkW (aK cwd path)) (aK cwd path)=x at h hk
 obtain ⟨rd,r⟩:=x
 cases r with
 | err e=>cases h
 | go w =>
  simp only [cO] at h
  split at h
  ·cases h
  ·cases h;exact hk w rfl
theorem Ey (hW:cB L) (hc:NPl cwd) (hcd:(aF L cwd).k=2) (um:Int) (hu:0≤bJ 6 um∧bJ 6 um≤7) (path data:Str) (more:Bool):OpB (cwd.length+2700) (b9 L cwd um path data more):=by
 have hw:∀ (at':Str) (e:Bits),at'.length≤cwd.length+2700→e.k=1→0≤e.m∧e.m≤7→RdB (cwd.length+2700) 0 (([],dm at' e more data):Rds × Rs Pts) (PV (cwd.length+2700)):=fun at' e ha h1 hm=>.val fun l hl=>by
  unfold dm at hl
  split at hl
  ·cases hl
  ·cases hl
   exact .one ha (.inr ⟨by simp only;omega,hm,fun h=>by simp only at h;omega,by simp only;omega,fun h=>by simp only at h;omega⟩)
 have hf:RdB (cwd.length+2700) 6000 (findF L cwd path true) (fun a=>(a.1.length≤cwd.length+2700∧VK a.2)∧¬ a.2.k=3) :=
  ⟨(jq hL cwd path true).rd,(jq hL cwd path true).rl,fun a ha=>⟨(jq hL cwd path true).go a ha,tw hL cwd hW hc hcd ha⟩⟩
 refine RdB.op (k:=6000+1) (hf.then (k':=1) fun a ⟨⟨h1,h2⟩,h3⟩=>?_) (by decide)
 split
 ·exact .err
 ·split
  ·split
   ·exact .err
   ·exact ((lG (V:=fun _=>True) h1 trivial).then (k':=0) fun _ _=>hw a.1 _ h1 rfl hu).mono (Nat.le_refl _) (by decide) fun _ h=>h
  ·split
   ·exact .err
   ·rename_i c1 c2 c3
    have:a.2.k=1:=by
     rcases h2 with h2|h2
     ·rw [h2] at c2;exact absurd rfl c2
     ·have:=h2.k;omega
    exact (hw a.1 a.2 h1 this h2.mode).mono (Nat.le_refl _) (by decide) fun _ h=>h
theorem BI (path:Str) (e:Bits) (he:VK e):OpB (cwd.length+2700) (eJ L cwd path e) :=
 RdB.op (k:=6000+1) ((jq hL cwd path false).then (k':=1) fun a ha=>by
  split
  ·exact .err
  ·exact lG ha.1 (.one ha.1 he)) (by decide)
theorem Ez (um:Int) (hu:0≤bJ 7 um∧bJ 7 um≤7) (path:Str):OpB (cwd.length+2700) (eK L cwd um path) :=
 BI hL cwd path _ (.inr ⟨(show 1≤(2:Int)∧(2:Int)≤3 by decide),hu,fun _=>rfl,(show 0≤100000 by decide),fun h=>by simp at h⟩)
theorem yx (target path:Str):OpB (cwd.length+2700) (cg L cwd target path):=by
 unfold cg
 split
 ·exact RdB.op (k:=0) .err (by decide)
 ·rename_i ht
  split
  ·exact RdB.op (k:=0) .err (by decide)
  ·have:target.length≤200:=by rw [not_or] at ht;omega
   exact BI hL cwd path _ (.inr ⟨(show 1≤(3:Int)∧(3:Int)≤3 by decide),(show 0≤(7:Int)∧(7:Int)≤7 by decide),fun h=>by simp at h,by simp only;omega,fun _=>by simp only;omega⟩)
theorem BJ (path:Str):OpB (cwd.length+2700) (dn L cwd path) :=
 RdB.op (k:=6000+1) ((gI hL cwd path false).then (k':=1) fun a ha=>by
  split
  ·exact .err
  ·exact lG ha.1 (.one ha.1 (.inl rfl))) (by decide)
theorem EA (path:Str):OpB (cwd.length+2700) (eL L cwd path) :=
 RdB.op (k:=6000+2) ((gI hL cwd path false).then (k':=2) fun a ha=>by
  split
  ·exact .err
  ·split
   ·exact .err
   ·refine RdB.then (k:=1) (k':=1) (V:=fun _=>True) ⟨fun f hf=>?_,by simp,fun _ _=>trivial⟩ fun _ _=>lG ha.1 (.one ha.1 (.inl rfl))
    rw [List.mem_singleton.1 hf];exact ha.1) (by decide)
theorem BK (f t:Str):OpB (cwd.length+2700) (dQ L cwd f t) :=
 RdB.op (k:=6000+(6000+(1+1))) ((gI hL cwd f false).then (k':=6000+(1+1)) fun a ha=>by
  split
  ·exact .err
  ·refine (jq hL cwd t false).then (k':=1+1) fun b hb=>?_
   split
   ·exact .err
   ·split
    ·exact .err
    ·refine (lG (V:=fun _=>True) ha.1 trivial).then (k':=1) fun _ _=>lG hb.1 ?_
     split
     ·exact ⟨by simp,fun q hq=>by cases hq⟩
     ·refine ⟨by simp,fun q hq=>?_⟩
      simp only [List.mem_cons,List.not_mem_nil,or_false] at hq
      rcases hq with rfl|rfl
      ·exact ⟨ha.1,.inl rfl⟩
      ·exact ⟨hb.1,ha.2.1⟩) (by decide)
theorem EC (path:Str) (m:Int):OpB (cwd.length+2700) (bM L cwd path m) :=
 RdB.op (k:=6000) ((gI hL cwd path true).then (k':=0) fun a ha=>.val fun l hl=>by
  split at hl;· cases hl
  rename_i hm
  split at hl;· cases hl
  cases hl
  rw [Decidable.not_not] at hm
  have hk:EK a.2:=ha.2.1.resolve_left fun e=>ha.2.2 (by rw [e];rfl)
  exact .one ha.1 (.inr ⟨hk.k,hm,hk.d,hk.l,hk.h⟩)) (by decide)
theorem wu (path:Str):RdB (cwd.length+2700) 6000 (cF L cwd path) (fun a=>a.length≤cwd.length+2700∧(aF L a).k=2):=by
 have h:=(gI hL cwd path true)
 refine ⟨?_,?_,?_⟩
 ·exact ((h.then (k':=0) (W:=fun _=>True) fun a ha=>.val fun _ _=>trivial)).rd
 ·exact ((h.then (k':=0) (W:=fun _=>True) fun a ha=>.val fun _ _=>trivial)).rl
 ·intro b hb
  obtain ⟨a,h1,h2⟩:=bK hb
  have ha:=h.go a h1
  simp only at h2
  split at h2;· cases h2
  rename_i hk
  split at h2;· cases h2
  cases h2
  obtain ⟨c,h3,h4⟩:=bK h1
  have h5:=(ij hL.so hL.link cwd path true).2.2 c h3
  simp only at h4
  split at h4;· cases h4
  cases h4
  refine ⟨ha.1,?_⟩
  rw [← h5.2];exact Decidable.not_not.1 hk
theorem HE (path:Str):RdB (cwd.length+2700) 6001 (iK L cwd path) (fun _=>True) :=
 (gI hL cwd path true).then (k':=1) fun a ha=>by
  split
  ·exact .err
  ·split
   ·exact .err
   ·exact ⟨fun f hf=>by rw [List.mem_singleton.1 hf];exact ha.1,by simp,fun _ _=>trivial⟩
theorem ru (path:Str):RdB (cwd.length+2700) 6000 (cL L cwd path) (fun _=>True):=(gI hL cwd path true).then (k':=0) fun _ _=>.val fun _ _=>trivial
theorem uZ (path:Str):RdB (cwd.length+2700) 6000 (dH L cwd path) (fun _=>True):=(gI hL cwd path false).then (k':=0) fun _ _=>.val fun _ _=>trivial
end
structure KS (s:St) (cwd:Str) (n:Nat):Prop where
 ok:SOK s
 ek:∀ q ∈ s.L,EK q.2
 well:cB s.L
 np:NPl cwd
 cd:(aF s.L cwd).k=2
 len:s.L.length≤4 * n
 key:∀ q ∈ s.L,q.1.length≤3000 * n
 cl:cwd.length≤3000 * n
 tr:∀ q,s.t=some q→q.R.length≤20000 * n∧q.W.length≤4 * n
theorem KS.lk {s:St} {cwd:Str} {n:Nat} (h:KS s cwd n):LK s.L:=⟨h.ok.sl,h.ek⟩
theorem mB:∀ (l:Rds) (s:St),SOK s→∀ q,(s.rds l).t=some q→∃ q0,s.t=some q0∧q.R.length≤q0.R.length+l.length∧q.W=q0.W∧q.old=q0.old
 | [],s,_,q,hq=>⟨q,hq,Nat.le_refl _,rfl,rfl⟩
 | f::l,s,hs,q,hq=>by
  obtain ⟨q1,h1,h2,h3,h4⟩:=mB l (s.read f) (hs.read f) q hq
  simp only [St.read,Option.map_eq_some_iff] at h1
  obtain ⟨q0,h5,rfl⟩:=h1
  have:=jE (old:=q0.old) (W:=q0.W) (f:=f) (hs.tr q0 h5).sr
  refine ⟨q0,h5,?_,h3,h4⟩
  have h2':q.R.length≤(fw q0.old q0.W f q0.R).length+l.length:=h2
  simp only [List.length_cons];omega
theorem BL:∀ (l:Pts) (s:St),SOK s→s.L.length+l.length≤1000000→(∀ q ∈ l,q.1.length≤1000000∧VK q.2)→SOK (s.pts l)∧(s.pts l).L.length≤s.L.length+l.length∧(s.pts l).L=eQ s.L l ∧
  ∀ q,(s.pts l).t=some q→∃ q0,s.t=some q0∧q.R=q0.R∧q.W.length≤q0.W.length+l.length∧q.old=q0.old
 | [],s,hs,_,_=>⟨hs,Nat.le_refl _,rfl,fun q hq=>⟨q,hq,rfl,Nat.le_refl _,rfl⟩⟩
 | p::l,s,hs,hl,hv=>by
  have hp:=hv p List.mem_cons_self
  simp only [List.length_cons] at hl
  have hs1:=hs.put p.1 p.2 (by omega) hp.1 hp.2.ok hp.2.pos
  have hl1:(s.put p.1 p.2).L.length≤s.L.length+1:=jg p.1 p.2 s.L
  obtain ⟨k1,k2,k3,k4⟩:=BL l (s.put p.1 p.2) hs1 (by omega) fun q hq=>hv q (List.mem_cons_of_mem _ hq)
  refine ⟨k1,?_,k3,fun q hq=>?_⟩
  ·show ((s.put p.1 p.2).pts l).L.length≤_
   simp only [List.length_cons];omega
  ·obtain ⟨q1,h1,h2,h3,h4⟩:=k4 q hq
   simp only [St.put,Option.map_eq_some_iff] at h1
   obtain ⟨q0,h5,rfl⟩:=h1
   have h6:q.W.length≤(fv true p.1 q0.W).length+l.length:=h3
   have h7:=nR (n:=p.1) (hs.tr q0 h5).sw
   refine ⟨q0,h5,h2,?_,h4⟩
   simp only [List.length_cons];omega
theorem tx:∀ (l:Pts) {L:PL},LK L→(∀ q ∈ l,VK q.2)→LK (eQ L l)
 | [],_,h,_=>h
 | p::l,_,h,hv=>tx l (h.put p.1 (hv p List.mem_cons_self)) fun q hq=>hv q (List.mem_cons_of_mem _ hq)
theorem p8 {c:Nat}:∀ (l:Pts) {L:PL},(∀ q ∈ L,q.1.length≤c)→(∀ q ∈ l,q.1.length≤c)→∀ q ∈ eQ L l,q.1.length≤c
 | [],_,h,_=>h
 | p::l,L,h,hv=>p8 l (fun q hq=>by
     rcases gi hq with ⟨rfl,_⟩|hq
     ·exact hv p List.mem_cons_self
     ·exact h q hq) fun q hq=>hv q (List.mem_cons_of_mem _ hq)
theorem KS.act {s:St} {cwd cwd':Str} {n:Nat} (h:KS s cwd n) (hn:n≤100) {c:Nat} {x:Rds × Rs Pts} (hx:OpB c x) (hc:c≤3000 * (n+1)) (hw:cB (eQ s.L (bT x.2))) (hcd:(aF (eQ s.L (bT x.2)) cwd').k=2) (hnp:NPl cwd') (hcl:cwd'.length≤3000 * (n+1)) :
  KS ((s.rds x.1).pts (bT x.2)) cwd' (n+1):=by
 have h1:=h.ok.rds x.1
 have hL:(s.rds x.1).L=s.L:=vX x.1 s
 have hlen:=h.len
 have hpl:=hx.pl
 obtain ⟨k1,k2,k3,k4⟩:=BL (bT x.2) (s.rds x.1) h1 (by rw [hL];omega) fun q hq=>⟨by have:=(hx.pt q hq).1;omega,(hx.pt q hq).2⟩
 rw [hL] at k2 k3
 refine ⟨k1,?_,by rw [k3];exact hw,hnp,by rw [k3];exact hcd,by omega,?_,hcl,fun q hq=>?_⟩
 ·rw [k3];exact (tx _ h.lk fun q hq=>(hx.pt q hq).2).ek
 ·rw [k3]
  exact p8 _ (fun q hq=>by have:=h.key q hq;omega) fun q hq=>Nat.le_trans (hx.pt q hq).1 hc
 ·obtain ⟨q1,e1,e2,e3,e4⟩:=k4 q hq
  obtain ⟨q0,f1,f2,f3,f4⟩:=mB x.1 s h.ok q1 e1
  have h9:=h.tr q0 f1
  have:=hx.rl
  rw [e2];rw [f3] at e3
  omega
end Go.Proofs.YtfbnaalhioogoaaGreatDoor
namespace Go.Proofs.YtfbnaalhioogoaaGreatDoor
open Go Go.Ab
set_option maxRecDepth 20000
end Go.Proofs.YtfbnaalhioogoaaGreatDoor
namespace Go.Proofs.YtfbnaalhioogoaaGreatDoor
open Go Go.Ab
set_option maxRecDepth 20000
set_option maxHeartbeats 4000000
end Go.Proofs.YtfbnaalhioogoaaGreatDoor
namespace Go.Proofs.YtfbnaalhioogoaaGreatDoor
open Go Go.Ab
set_option maxRecDepth 20000
set_option maxHeartbeats 4000000
end Go.Proofs.YtfbnaalhioogoaaGreatDoor
namespace Go.Proofs.YtfbnaalhioogoaaGreatDoor
open Go Go.Ab
set_option maxRecDepth 20000
set_option maxHeartbeats 4000000
section
variable (bx st t:Oid) (oo:AV) (tv:AV) (es:List ME) (clock:Nat) (q:Tch→Bool) (fu:FuncId) (l:List Tch) (hl:l.length≤4000000000) (d1:¬ st=bx) (d2:¬ t=bx) (d3:¬ t=st)
 (hq:∀ h ∈ l,∀ p:Oid,p.mono=false→¬ Oid.under p bx→¬ Oid.under p st→¬ Oid.under p t→aj Tryz.prog fu [c8 h,.ptr bx 0] (Oid.under p) ⟨[(bx,.cells [.ptr st 0]),(st,.cells [.map t,tv]),(t,.map [.ss] false es clock)],.bool (q h),[]⟩)
include hl hq d1 d2 d3
end
theorem aj.BM {P:Program} [Laid P] {f:FuncId} {xs:List AV} {sp:Oid→Prop} {L0:List (Oid × ah)} {v:AV} {B:Bk} (h:aj P f xs sp ⟨L0,v,[]⟩) (hL:∀ q,q ∈ L0→q ∈ bk B):aj P f xs sp ⟨bk B,v,[]⟩ :=
 ⟨h.enters,fun x g args w m hm hn ha hs hx=>h.calls x g args w m hm (fun q hq=>hn q (hL q hq)) ha hs hx⟩
end Go.Proofs.YtfbnaalhioogoaaGreatDoor
namespace Go.Proofs.YtfbnaalhioogoaaGreatDoor
open Go Go.Ab
set_option maxRecDepth 20000
set_option maxHeartbeats 4000000
end Go.Proofs.YtfbnaalhioogoaaGreatDoor
